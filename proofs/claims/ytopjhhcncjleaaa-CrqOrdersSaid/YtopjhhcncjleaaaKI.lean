/- DROP The statement CrqOrders: behind the steps. -/
import Derived.Test.YtopjhhcncjleaaaKG
namespace Go.Proofs.Ytopjhhcncjleaaa
open Go Go.LK
set_option linter.unusedSimpArgs false
set_option linter.unusedVariables false
section
variable {H K : LHeap} {s i : Nat} {m : MV} {v : HV} {a a' : Option Addr} {L : List (Option (Nat × COp))} {I : List Int} {e : Env} {Q : LExit → Env → LHeap → Prop}
set_option maxHeartbeats 1000000 in
theorem coD_ev (h : OW H K s m v a L I) (p : PC s i m v L I) (hn8 : v.l.length ≤ 8) (hs : Sl 8 K a' (v.l.flatMap CallD.cells))
    (e8 : LK.look e 8 = ptr (H.length + 3)) (e20 : LK.look e 20 = .slice a' v.l.length v.l.length)
    (hQ : ∀ e' H', LK.look e' 6 = .bool true → Q .ret e' H') : XW (callE T) H.length coD e K Q := by
  have hKl := h.len
  obtain ⟨w, cl⟩ := p.cl
  unfold coD
  simp -dsimp only [go_sem, Nat.reduceEqDiff, Nat.reduceAdd, Nat.reduceSub, Nat.reduceMul, Nat.reduceLeDiff, Nat.reduceLT, Nat.reduceBEq, Int.reduceLT, Int.reduceLE, Int.reduceGT, Int.reduceGE, Int.reduceEq, Int.reduceNe, Int.reduceBEq, Int.reduceBNe, Int.reduceAdd, Int.reduceSub, Int.reduceMul, Int.reduceToNat, Int.reduceNeg, ↓reduceIte, ↓reduceDIte, e20]
  refine CT_of (openC_ev (by omega) (by omega) hs) ?_
  rintro _ _ ⟨a2, t, rfl, rfl, g⟩
  have l2 : H.length ≤ (K ++ t).length := by simp; omega
  simp -dsimp only [go_sem, Nat.reduceEqDiff, Nat.reduceAdd, Nat.reduceSub, Nat.reduceMul, Nat.reduceLeDiff, Nat.reduceLT, Nat.reduceBEq, Int.reduceLT, Int.reduceLE, Int.reduceGT, Int.reduceGE, Int.reduceEq, Int.reduceNe, Int.reduceBEq, Int.reduceBNe, Int.reduceAdd, Int.reduceSub, Int.reduceMul, Int.reduceToNat, Int.reduceNeg, ↓reduceIte, ↓reduceDIte]
  refine CT_of (fifo_ev (cap := 0) (mode := 0) l2 g (Nat.le_refl _) (by decide)) ?_
  rintro _ _ ⟨t2, rfl, hm⟩
  have hf := p.found (by omega)
  cases hq : searchF (v.l.filter keepC) (stepM 0 (v.l.filter keepC) 0) with
  | none => rw [hq] at hf; cases hf
  | some r =>
    rw [hq] at hm
    simp only [SchRes] at hm
    obtain ⟨a4, oc, rfl, _⟩ := hm
    have h3 := h.app (t ++ t2)
    simp -dsimp only [go_sem, Nat.reduceEqDiff, Nat.reduceAdd, Nat.reduceSub, Nat.reduceMul, Nat.reduceLeDiff, Nat.reduceLT, Nat.reduceBEq, Int.reduceLT, Int.reduceLE, Int.reduceGT, Int.reduceGE, Int.reduceEq, Int.reduceNe, Int.reduceBEq, Int.reduceBNe, Int.reduceAdd, Int.reduceSub, Int.reduceMul, Int.reduceToNat, Int.reduceNeg, ↓reduceIte, ↓reduceDIte, e8]
    refine CT_val (trap_c h3.mem cl) ?_
    simp -dsimp only [go_sem, Nat.reduceEqDiff, Nat.reduceAdd, Nat.reduceSub, Nat.reduceMul, Nat.reduceLeDiff, Nat.reduceLT, Nat.reduceBEq, Int.reduceLT, Int.reduceLE, Int.reduceGT, Int.reduceGE, Int.reduceEq, Int.reduceNe, Int.reduceBEq, Int.reduceBNe, Int.reduceAdd, Int.reduceSub, Int.reduceMul, Int.reduceToNat, Int.reduceNeg, ↓reduceIte, ↓reduceDIte]
    refine CT_val (one_ev _ _) ?_
    simp -dsimp only [go_sem, Nat.reduceEqDiff, Nat.reduceAdd, Nat.reduceSub, Nat.reduceMul, Nat.reduceLeDiff, Nat.reduceLT, Nat.reduceBEq, Int.reduceLT, Int.reduceLE, Int.reduceGT, Int.reduceGE, Int.reduceEq, Int.reduceNe, Int.reduceBEq, Int.reduceBNe, Int.reduceAdd, Int.reduceSub, Int.reduceMul, Int.reduceToNat, Int.reduceNeg, ↓reduceIte, ↓reduceDIte]
    exact hQ _ _ rfl
set_option maxHeartbeats 2000000 in
theorem coC_ev (h : OW H K s m v a L I) (p : PC s i m v L I) (hn8 : v.l.length ≤ 8)
    (e8 : LK.look e 8 = ptr (H.length + 3)) (e10 : LK.look e 10 = ptr (H.length + 5))
    (hQ : ∀ e' H', LK.look e' 6 = .bool true → Q .ret e' H') : XW (callE T) H.length coC e K Q := by
  have hKl := h.len
  unfold coC
  simp -dsimp only [go_sem, Nat.reduceEqDiff, Nat.reduceAdd, Nat.reduceSub, Nat.reduceMul, Nat.reduceLeDiff, Nat.reduceLT, Nat.reduceBEq, Int.reduceLT, Int.reduceLE, Int.reduceGT, Int.reduceGE, Int.reduceEq, Int.reduceNe, Int.reduceBEq, Int.reduceBNe, Int.reduceAdd, Int.reduceSub, Int.reduceMul, Int.reduceToNat, Int.reduceNeg, ↓reduceIte, ↓reduceDIte, e10]
  refine CT_of (calls_ev (by omega) h.log (by omega)) ?_
  rintro _ _ ⟨a', t, rfl, rfl, g⟩
  have h1 := h.app t
  generalize K ++ t = K1 at g h1
  simp -dsimp only [go_sem, Nat.reduceEqDiff, Nat.reduceAdd, Nat.reduceSub, Nat.reduceMul, Nat.reduceLeDiff, Nat.reduceLT, Nat.reduceBEq, Int.reduceLT, Int.reduceLE, Int.reduceGT, Int.reduceGE, Int.reduceEq, Int.reduceNe, Int.reduceBEq, Int.reduceBNe, Int.reduceAdd, Int.reduceSub, Int.reduceMul, Int.reduceToNat, Int.reduceNeg, ↓reduceIte, ↓reduceDIte]
  refine LT_of (fun x : Nat => [(8, ptr (H.length + 3)), (20, .slice a' v.l.length v.l.length), (21, i64 x)]) (fun _ => K1) (fun x => x ≤ v.l.length) (fun x => v.l.length - x) 0 (by simp [restrict, LK.look, e8]) rfl (by omega) ?_
  intro x hx
  by_cases c1 : x < v.l.length
  · have c1' : (x : Int) < v.l.length := by omega
    have x0 : 0 ≤ (x : Int) := by omega
    have hw : IntKind.i64.wrap ((x : Int) + 1) = ((x + 1 : Nat) : Int) := by rw [wrap_i64] <;> omega
    simp -dsimp only [go_sem, Nat.reduceEqDiff, Nat.reduceAdd, Nat.reduceSub, Nat.reduceMul, Nat.reduceLeDiff, Nat.reduceLT, Nat.reduceBEq, Int.reduceLT, Int.reduceLE, Int.reduceGT, Int.reduceGE, Int.reduceEq, Int.reduceNe, Int.reduceBEq, Int.reduceBNe, Int.reduceAdd, Int.reduceSub, Int.reduceMul, Int.reduceToNat, Int.reduceNeg, ↓reduceIte, ↓reduceDIte, c1']
    refine LT_of (fun y : Nat => [(8, ptr (H.length + 3)), (20, .slice a' v.l.length v.l.length), (21, i64 x), (22, i64 y)]) (fun _ => K1) (fun y => y ≤ v.l.length) (fun y => v.l.length - y) 0 rfl rfl (by omega) ?_
    intro y hy
    by_cases c2 : y < v.l.length
    · have c2' : (y : Int) < v.l.length := by omega
      have y0 : 0 ≤ (y : Int) := by omega
      have hw2 : IntKind.i64.wrap ((y : Int) + 1) = ((y + 1 : Nat) : Int) := by rw [wrap_i64] <;> omega
      have kx : v.l[x]? = some (v.l[x]'c1) := List.getElem?_eq_getElem _
      generalize v.l[x]'c1 = ca at kx
      have ky : v.l[y]? = some (v.l[y]'c2) := List.getElem?_eq_getElem _
      generalize v.l[y]'c2 = cb at ky
      obtain ⟨ab, ao, rfl, hab1, hgc, hgl⟩ := g.rowsAt (f := CallD.cells) CallD.len (by omega) (by omega)
      have gx := hgc [] x ca kx
      have gy := hgc [] y cb ky
      have gx6 := hgl [] x ca 6 kx (by omega)
      have gy1 := hgl [] y cb 1 ky (by omega)
      have gy5 := hgl [] y cb 5 ky (by omega)
      have gy6 := hgl [] y cb 6 ky (by omega)
      rw [List.append_nil] at gx gy gx6 gy1 gy5 gy6
      simp only [CallD.cells, List.getElem?_cons_zero, List.getElem?_cons_succ] at gx gy gx6 gy1 gy5 gy6
      by_cases d1 : ca.code = 16
      · have d1' : (ca.code == 16) = true := by simp [d1]
        simp -dsimp only [go_sem, Nat.reduceEqDiff, Nat.reduceAdd, Nat.reduceSub, Nat.reduceMul, Nat.reduceLeDiff, Nat.reduceLT, Nat.reduceBEq, Int.reduceLT, Int.reduceLE, Int.reduceGT, Int.reduceGE, Int.reduceEq, Int.reduceNe, Int.reduceBEq, Int.reduceBNe, Int.reduceAdd, Int.reduceSub, Int.reduceMul, Int.reduceToNat, Int.reduceNeg, ↓reduceIte, ↓reduceDIte, c2', x0, y0, c1', gx6, d1', gx, gy]
        refine CT_val (ahead_ev (a := ca) (b := cb)) ?_
        cases d2 : aheadF ca cb
        · simp -dsimp only [go_sem, Nat.reduceEqDiff, Nat.reduceAdd, Nat.reduceSub, Nat.reduceMul, Nat.reduceLeDiff, Nat.reduceLT, Nat.reduceBEq, Int.reduceLT, Int.reduceLE, Int.reduceGT, Int.reduceGE, Int.reduceEq, Int.reduceNe, Int.reduceBEq, Int.reduceBNe, Int.reduceAdd, Int.reduceSub, Int.reduceMul, Int.reduceToNat, Int.reduceNeg, ↓reduceIte, ↓reduceDIte, hw2]
          exact ⟨y + 1, rfl, by omega, by omega⟩
        · by_cases d3 : cb.kind = 0
          · have d3' : (cb.kind == 0) = true := by simp [d3]
            cases d4 : cb.dn
            · rw [d4] at gy5
              simp -dsimp only [go_sem, Nat.reduceEqDiff, Nat.reduceAdd, Nat.reduceSub, Nat.reduceMul, Nat.reduceLeDiff, Nat.reduceLT, Nat.reduceBEq, Int.reduceLT, Int.reduceLE, Int.reduceGT, Int.reduceGE, Int.reduceEq, Int.reduceNe, Int.reduceBEq, Int.reduceBNe, Int.reduceAdd, Int.reduceSub, Int.reduceMul, Int.reduceToNat, Int.reduceNeg, ↓reduceIte, ↓reduceDIte, c2', x0, y0, gy1, d3', gy5, hw2]
              exact ⟨y + 1, rfl, by omega, by omega⟩
            · rw [d4] at gy5
              have d5 := p.shut kx ky d1 d2 d3 d4
              have d5' : (cb.code != 16) = false := by simp [d5]
              simp -dsimp only [go_sem, Nat.reduceEqDiff, Nat.reduceAdd, Nat.reduceSub, Nat.reduceMul, Nat.reduceLeDiff, Nat.reduceLT, Nat.reduceBEq, Int.reduceLT, Int.reduceLE, Int.reduceGT, Int.reduceGE, Int.reduceEq, Int.reduceNe, Int.reduceBEq, Int.reduceBNe, Int.reduceAdd, Int.reduceSub, Int.reduceMul, Int.reduceToNat, Int.reduceNeg, ↓reduceIte, ↓reduceDIte, c2', x0, y0, gy1, d3', gy5, gy6, d5', hw2]
              exact ⟨y + 1, rfl, by omega, by omega⟩
          · have d3' : (cb.kind == 0) = false := by simp [d3]
            simp -dsimp only [go_sem, Nat.reduceEqDiff, Nat.reduceAdd, Nat.reduceSub, Nat.reduceMul, Nat.reduceLeDiff, Nat.reduceLT, Nat.reduceBEq, Int.reduceLT, Int.reduceLE, Int.reduceGT, Int.reduceGE, Int.reduceEq, Int.reduceNe, Int.reduceBEq, Int.reduceBNe, Int.reduceAdd, Int.reduceSub, Int.reduceMul, Int.reduceToNat, Int.reduceNeg, ↓reduceIte, ↓reduceDIte, c2', x0, y0, gy1, d3', hw2]
            exact ⟨y + 1, rfl, by omega, by omega⟩
      · have d1' : (ca.code == 16) = false := by simp [d1]
        simp -dsimp only [go_sem, Nat.reduceEqDiff, Nat.reduceAdd, Nat.reduceSub, Nat.reduceMul, Nat.reduceLeDiff, Nat.reduceLT, Nat.reduceBEq, Int.reduceLT, Int.reduceLE, Int.reduceGT, Int.reduceGE, Int.reduceEq, Int.reduceNe, Int.reduceBEq, Int.reduceBNe, Int.reduceAdd, Int.reduceSub, Int.reduceMul, Int.reduceToNat, Int.reduceNeg, ↓reduceIte, ↓reduceDIte, c2', x0, y0, c1', gx6, d1', hw2]
        exact ⟨y + 1, rfl, by omega, by omega⟩
    · have c2' : ¬ (y : Int) < v.l.length := by omega
      simp -dsimp only [go_sem, Nat.reduceEqDiff, Nat.reduceAdd, Nat.reduceSub, Nat.reduceMul, Nat.reduceLeDiff, Nat.reduceLT, Nat.reduceBEq, Int.reduceLT, Int.reduceLE, Int.reduceGT, Int.reduceGE, Int.reduceEq, Int.reduceNe, Int.reduceBEq, Int.reduceBNe, Int.reduceAdd, Int.reduceSub, Int.reduceMul, Int.reduceToNat, Int.reduceNeg, ↓reduceIte, ↓reduceDIte, c2', hw]
      exact ⟨x + 1, rfl, by omega, by omega⟩
  · have c1' : ¬ (x : Int) < v.l.length := by omega
    simp -dsimp only [go_sem, Nat.reduceEqDiff, Nat.reduceAdd, Nat.reduceSub, Nat.reduceMul, Nat.reduceLeDiff, Nat.reduceLT, Nat.reduceBEq, Int.reduceLT, Int.reduceLE, Int.reduceGT, Int.reduceGE, Int.reduceEq, Int.reduceNe, Int.reduceBEq, Int.reduceBNe, Int.reduceAdd, Int.reduceSub, Int.reduceMul, Int.reduceToNat, Int.reduceNeg, ↓reduceIte, ↓reduceDIte, c1']
    exact coD_ev h1 p hn8 g rfl rfl hQ
end
end Go.Proofs.Ytopjhhcncjleaaa
/- DROP The statement CrqOrders: the walk, whole. -/
namespace Go.Proofs.Ytopjhhcncjleaaa
open Go Go.LK
set_option linter.unusedSimpArgs false
set_option linter.unusedVariables false
section
structure OS where
  i : Nat
  nx : Nat
  m : MV
  v : HV
  a : Option Addr
  L : List (Option (Nat × COp))
  I : List Int
  K : LHeap
structure OSI (H : LHeap) (s : Nat) (x : OS) : Prop where
  hi : x.i ≤ 250
  ow : OW H x.K s x.m x.v x.a x.L x.I
  pj : PC s x.i x.m x.v x.L x.I
  nl : x.v.l.length = x.nx
  n8 : x.nx ≤ 8
  hw : x.v.now ≤ 2 * (x.i : Int)
set_option maxHeartbeats 2000000 in
theorem orders_ev {lim : Nat} {H : LHeap} {n : Int} {a1 a2 : Option Addr} {l : List Ask} {P : List Int} (hl : Sl 3 H a1 (l.flatMap Ask.cells)) (hp : Sl 1 H a2 (P.map i64)) :
    callE T 7 lim [i64 n, .slice a1 l.length l.length, .slice a2 P.length P.length] H fun v H' => v = .bool true := by
  refine callE_pop (code := CO) rfl (by simp) rfl ?_
  unfold CO
  obtain ⟨s, hs, two⟩ := size_ev H.length H n
  have s2 : 1 ≤ s := by omega
  have s8 : s ≤ 8 := by omega
  have hr := right_pow hs
  have w1 : IntKind.i64.wrap (2 * (s : Int)) = 2 * s := by rw [wrap_i64] <;> omega
  have w2 : IntKind.i64.wrap (4 + 2 * (s : Int)) = 4 + 2 * s := by rw [wrap_i64] <;> omega
  simp -dsimp only [go_sem, Nat.reduceEqDiff, Nat.reduceAdd, Nat.reduceSub, Nat.reduceMul, Nat.reduceLeDiff, Nat.reduceLT, Nat.reduceBEq, Int.reduceLT, Int.reduceLE, Int.reduceGT, Int.reduceGE, Int.reduceEq, Int.reduceNe, Int.reduceBEq, Int.reduceBNe, Int.reduceAdd, Int.reduceSub, Int.reduceMul, Int.reduceToNat, Int.reduceNeg, ↓reduceIte, ↓reduceDIte]
  refine CT_val two ?_
  simp -dsimp only [go_sem, Nat.reduceEqDiff, Nat.reduceAdd, Nat.reduceSub, Nat.reduceMul, Nat.reduceLeDiff, Nat.reduceLT, Nat.reduceBEq, Int.reduceLT, Int.reduceLE, Int.reduceGT, Int.reduceGE, Int.reduceEq, Int.reduceNe, Int.reduceBEq, Int.reduceBNe, Int.reduceAdd, Int.reduceSub, Int.reduceMul, Int.reduceToNat, Int.reduceNeg, ↓reduceIte, ↓reduceDIte, w1, w2]
  refine CT_of (new_ev (by simp)) ?_
  rintro _ _ h
  rw [if_neg (by omega)] at h
  obtain ⟨rfl, rfl⟩ := h
  have en : (4 + 2 * (s : Int)).toNat = 4 + 2 * s := by omega
  rw [en]
  have ok := MV.Ok.new (n := 4 + 2 * s) (by omega) (by omega)
  have cl0 := Clean.new (n := 4 + 2 * s) (by omega) (by omega)
  generalize MV.new (4 + 2 * s) = m0 at ok cl0 ⊢
  have mm := fun (m : MV) (ok : m.Ok (4 + 2 * s)) l => mem_at (H := H) (pre := [rro ⟨0, s⟩]) (t := l) ok
  simp only [List.length_cons, List.length_nil, Nat.zero_add, List.cons_append, List.nil_append, Nat.reduceAdd] at mm
  simp -dsimp only [go_sem, Nat.reduceEqDiff, Nat.reduceAdd, Nat.reduceSub, Nat.reduceMul, Nat.reduceLeDiff, Nat.reduceLT, Nat.reduceBEq, Int.reduceLT, Int.reduceLE, Int.reduceGT, Int.reduceGE, Int.reduceEq, Int.reduceNe, Int.reduceBEq, Int.reduceBNe, Int.reduceAdd, Int.reduceSub, Int.reduceMul, Int.reduceToNat, Int.reduceNeg, ↓reduceIte, ↓reduceDIte, Nat.add_assoc]
  refine CT_of (setup_ev (r := ⟨0, s⟩) (a := 0) (s := s) (mm _ ok _) cl0 hr rfl rfl (by omega)) ?_
  rintro _ _ ⟨m1, cl1, rfl, rfl⟩
  simp -dsimp only [go_sem, Nat.reduceEqDiff, Nat.reduceAdd, Nat.reduceSub, Nat.reduceMul, Nat.reduceLeDiff, Nat.reduceLT, Nat.reduceBEq, Int.reduceLT, Int.reduceLE, Int.reduceGT, Int.reduceGE, Int.reduceEq, Int.reduceNe, Int.reduceBEq, Int.reduceBNe, Int.reduceAdd, Int.reduceSub, Int.reduceMul, Int.reduceToNat, Int.reduceNeg, ↓reduceIte, ↓reduceDIte, memPut]
  refine CT_of lognew_ev ?_
  rintro _ _ ⟨rfl, rfl⟩
  simp -dsimp only [go_sem, Nat.reduceEqDiff, Nat.reduceAdd, Nat.reduceSub, Nat.reduceMul, Nat.reduceLeDiff, Nat.reduceLT, Nat.reduceBEq, Int.reduceLT, Int.reduceLE, Int.reduceGT, Int.reduceGE, Int.reduceEq, Int.reduceNe, Int.reduceBEq, Int.reduceBNe, Int.reduceAdd, Int.reduceSub, Int.reduceMul, Int.reduceToNat, Int.reduceNeg, ↓reduceIte, ↓reduceDIte, Nat.add_assoc]
  have okm1 : m1.Ok (4 + 2 * s) := by have := cl1.ok; rwa [clay_len] at this
  refine LT_of (fun x : OS => [(1, .slice a1 l.length l.length), (2, .slice a2 P.length P.length), (7, ptr H.length), (8, ptr (H.length + 3)), (10, ptr (H.length + 5)), (11, ptr (H.length + 6)), (12, ptr (H.length + 7)), (13, i64 x.nx), (14, i64 x.i)]) (fun x => x.K) (OSI H s) (fun x => 250 - x.i)
    ⟨0, 0, m1, { l := [], op := [], now := 0 }, none, List.replicate 4 none, List.replicate 4 0, _⟩ rfl rfl ⟨by simp, ?_, PC.zero s2 s8 cl1, rfl, by simp, by simp⟩ ?_
  · refine ⟨by simp, fun j hj => List.getElem?_append_left hj, get_app0 _ _, mm m1 okm1 _, ?_, get_app _ _ 6, get_app _ _ 7, OpsAt.none 4, Fresh.nil _, fun j q x hj => ?_⟩
    · exact ⟨get_app _ _ 5, get_app _ _ 4, .inl ⟨rfl, rfl⟩, by omega, by omega, Fresh.nil _, by omega, (fun x hx => by cases hx), (fun x hx => by cases hx)⟩
    · rw [List.getElem?_replicate] at hj; split at hj <;> simp at hj
  rintro ⟨i, nx, m, v, a, L, I, K⟩ ⟨hi, ow, pj, nl, n8, hw⟩
  simp only at hi ow pj nl n8 hw ⊢
  have fin : ∀ e', LK.look e' 7 = ptr H.length → LK.look e' 8 = ptr (H.length + 3) → LK.look e' 10 = ptr (H.length + 5) → XW (callE T) H.length coC e' K (endK [LRes.tmp 6] true (List.length H) fun v H' => v = Value.bool true) := fun e' e7 e8 e10 =>
    coC_ev ow pj (by omega) e8 e10 (fun e' H' h => by simp -dsimp only [go_sem, Nat.reduceEqDiff, Nat.reduceAdd, Nat.reduceSub, Nat.reduceMul, Nat.reduceLeDiff, Nat.reduceLT, Nat.reduceBEq, Int.reduceLT, Int.reduceLE, Int.reduceGT, Int.reduceGE, Int.reduceEq, Int.reduceNe, Int.reduceBEq, Int.reduceBNe, Int.reduceAdd, Int.reduceSub, Int.reduceMul, Int.reduceToNat, Int.reduceNeg, ↓reduceIte, ↓reduceDIte, h])
  by_cases c1 : i < P.length
  · have c1' : (i : Int) < P.length := by omega
    by_cases c2 : i < 250
    · have c2' : (i : Int) < 250 := by omega
      have i0 : 0 ≤ (i : Int) := by omega
      have hw1 : IntKind.i64.wrap ((i : Int) + 1) = ((i + 1 : Nat) : Int) := by rw [wrap_i64] <;> omega
      obtain ⟨t0, ht0⟩ := ow.arg
      have hp' := hp.app t0
      rw [← ht0] at hp'
      obtain ⟨b2, o2, rfl, _, gp⟩ := hp'.all (by simp; omega)
      have gp := gp [] i _ (show (P.map i64)[i]? = some (i64 P[i]) by simp [c1])
      rw [List.append_nil] at gp
      obtain ⟨d, hd, d0, d3⟩ := andK P[i] 3 (by decide)
      have d3 : d ≤ 3 := d3
      obtain ⟨th, rfl⟩ := Int.eq_ofNat_of_zero_le d0
      have hth : th < 4 := by omega
      simp -dsimp only [go_sem, Nat.reduceEqDiff, Nat.reduceAdd, Nat.reduceSub, Nat.reduceMul, Nat.reduceLeDiff, Nat.reduceLT, Nat.reduceBEq, Int.reduceLT, Int.reduceLE, Int.reduceGT, Int.reduceGE, Int.reduceEq, Int.reduceNe, Int.reduceBEq, Int.reduceBNe, Int.reduceAdd, Int.reduceSub, Int.reduceMul, Int.reduceToNat, Int.reduceNeg, ↓reduceIte, ↓reduceDIte, c1', c2', i0, gp, hd]
      refine coA_ev hl ow pj hs (by omega) nl n8 (by omega) hth (by simp -dsimp only [go_sem, Nat.reduceEqDiff, Nat.reduceAdd, Nat.reduceSub, Nat.reduceMul, Nat.reduceLeDiff, Nat.reduceLT, Nat.reduceBEq, Int.reduceLT, Int.reduceLE, Int.reduceGT, Int.reduceGE, Int.reduceEq, Int.reduceNe, Int.reduceBEq, Int.reduceBNe, Int.reduceAdd, Int.reduceSub, Int.reduceMul, Int.reduceToNat, Int.reduceNeg, ↓reduceIte, ↓reduceDIte]) (by simp -dsimp only [go_sem, Nat.reduceEqDiff, Nat.reduceAdd, Nat.reduceSub, Nat.reduceMul, Nat.reduceLeDiff, Nat.reduceLT, Nat.reduceBEq, Int.reduceLT, Int.reduceLE, Int.reduceGT, Int.reduceGE, Int.reduceEq, Int.reduceNe, Int.reduceBEq, Int.reduceBNe, Int.reduceAdd, Int.reduceSub, Int.reduceMul, Int.reduceToNat, Int.reduceNeg, ↓reduceIte, ↓reduceDIte]) (by simp -dsimp only [go_sem, Nat.reduceEqDiff, Nat.reduceAdd, Nat.reduceSub, Nat.reduceMul, Nat.reduceLeDiff, Nat.reduceLT, Nat.reduceBEq, Int.reduceLT, Int.reduceLE, Int.reduceGT, Int.reduceGE, Int.reduceEq, Int.reduceNe, Int.reduceBEq, Int.reduceBNe, Int.reduceAdd, Int.reduceSub, Int.reduceMul, Int.reduceToNat, Int.reduceNeg, ↓reduceIte, ↓reduceDIte]) (by simp -dsimp only [go_sem, Nat.reduceEqDiff, Nat.reduceAdd, Nat.reduceSub, Nat.reduceMul, Nat.reduceLeDiff, Nat.reduceLT, Nat.reduceBEq, Int.reduceLT, Int.reduceLE, Int.reduceGT, Int.reduceGE, Int.reduceEq, Int.reduceNe, Int.reduceBEq, Int.reduceBNe, Int.reduceAdd, Int.reduceSub, Int.reduceMul, Int.reduceToNat, Int.reduceNeg, ↓reduceIte, ↓reduceDIte]) (by simp -dsimp only [go_sem, Nat.reduceEqDiff, Nat.reduceAdd, Nat.reduceSub, Nat.reduceMul, Nat.reduceLeDiff, Nat.reduceLT, Nat.reduceBEq, Int.reduceLT, Int.reduceLE, Int.reduceGT, Int.reduceGE, Int.reduceEq, Int.reduceNe, Int.reduceBEq, Int.reduceBNe, Int.reduceAdd, Int.reduceSub, Int.reduceMul, Int.reduceToNat, Int.reduceNeg, ↓reduceIte, ↓reduceDIte]) (by simp -dsimp only [go_sem, Nat.reduceEqDiff, Nat.reduceAdd, Nat.reduceSub, Nat.reduceMul, Nat.reduceLeDiff, Nat.reduceLT, Nat.reduceBEq, Int.reduceLT, Int.reduceLE, Int.reduceGT, Int.reduceGE, Int.reduceEq, Int.reduceNe, Int.reduceBEq, Int.reduceBNe, Int.reduceAdd, Int.reduceSub, Int.reduceMul, Int.reduceToNat, Int.reduceNeg, ↓reduceIte, ↓reduceDIte]) (by simp -dsimp only [go_sem, Nat.reduceEqDiff, Nat.reduceAdd, Nat.reduceSub, Nat.reduceMul, Nat.reduceLeDiff, Nat.reduceLT, Nat.reduceBEq, Int.reduceLT, Int.reduceLE, Int.reduceGT, Int.reduceGE, Int.reduceEq, Int.reduceNe, Int.reduceBEq, Int.reduceBNe, Int.reduceAdd, Int.reduceSub, Int.reduceMul, Int.reduceToNat, Int.reduceNeg, ↓reduceIte, ↓reduceDIte]) (by simp -dsimp only [go_sem, Nat.reduceEqDiff, Nat.reduceAdd, Nat.reduceSub, Nat.reduceMul, Nat.reduceLeDiff, Nat.reduceLT, Nat.reduceBEq, Int.reduceLT, Int.reduceLE, Int.reduceGT, Int.reduceGE, Int.reduceEq, Int.reduceNe, Int.reduceBEq, Int.reduceBNe, Int.reduceAdd, Int.reduceSub, Int.reduceMul, Int.reduceToNat, Int.reduceNeg, ↓reduceIte, ↓reduceDIte]) ?_
      intro y e' K' m' v' a' L' I' nx' hy he e13 ow' pj' nl' n8' hw'
      have k1 : LK.look e' 1 = .slice a1 l.length l.length := (restrict_look he (k := 1) (by decide)).trans rfl
      have k2 : LK.look e' 2 = .slice (some ⟨b2, o2, none⟩) P.length P.length := (restrict_look he (k := 2) (by decide)).trans rfl
      have k7 : LK.look e' 7 = ptr H.length := (restrict_look he (k := 7) (by decide)).trans rfl
      have k8 : LK.look e' 8 = ptr (H.length + 3) := (restrict_look he (k := 8) (by decide)).trans rfl
      have k10 : LK.look e' 10 = ptr (H.length + 5) := (restrict_look he (k := 10) (by decide)).trans rfl
      have k11 : LK.look e' 11 = ptr (H.length + 6) := (restrict_look he (k := 11) (by decide)).trans rfl
      have k12 : LK.look e' 12 = ptr (H.length + 7) := (restrict_look he (k := 12) (by decide)).trans rfl
      have k14 : LK.look e' 14 = i64 i := (restrict_look he (k := 14) (by decide)).trans rfl
      have nxt : OSI H s ⟨i + 1, nx', m', v', a', L', I', K'⟩ := ⟨by simp only; omega, ow', pj', nl', n8', by simp only; omega⟩
      rcases hy with rfl | rfl
      · simp -dsimp only [go_sem, Nat.reduceEqDiff, Nat.reduceAdd, Nat.reduceSub, Nat.reduceMul, Nat.reduceLeDiff, Nat.reduceLT, Nat.reduceBEq, Int.reduceLT, Int.reduceLE, Int.reduceGT, Int.reduceGE, Int.reduceEq, Int.reduceNe, Int.reduceBEq, Int.reduceBNe, Int.reduceAdd, Int.reduceSub, Int.reduceMul, Int.reduceToNat, Int.reduceNeg, ↓reduceIte, ↓reduceDIte, k1, k2, k7, k8, k10, k11, k12, k14, e13, hw1]
        exact ⟨⟨i + 1, nx', m', v', a', L', I', K'⟩, rfl, rfl, nxt, by simp only; omega⟩
      · simp -dsimp only [go_sem, Nat.reduceEqDiff, Nat.reduceAdd, Nat.reduceSub, Nat.reduceMul, Nat.reduceLeDiff, Nat.reduceLT, Nat.reduceBEq, Int.reduceLT, Int.reduceLE, Int.reduceGT, Int.reduceGE, Int.reduceEq, Int.reduceNe, Int.reduceBEq, Int.reduceBNe, Int.reduceAdd, Int.reduceSub, Int.reduceMul, Int.reduceToNat, Int.reduceNeg, ↓reduceIte, ↓reduceDIte, k1, k2, k7, k8, k10, k11, k12, k14, e13, hw1]
        exact ⟨⟨i + 1, nx', m', v', a', L', I', K'⟩, rfl, rfl, nxt, by simp only; omega⟩
    · have c2' : ¬ (i : Int) < 250 := by omega
      simp -dsimp only [go_sem, Nat.reduceEqDiff, Nat.reduceAdd, Nat.reduceSub, Nat.reduceMul, Nat.reduceLeDiff, Nat.reduceLT, Nat.reduceBEq, Int.reduceLT, Int.reduceLE, Int.reduceGT, Int.reduceGE, Int.reduceEq, Int.reduceNe, Int.reduceBEq, Int.reduceBNe, Int.reduceAdd, Int.reduceSub, Int.reduceMul, Int.reduceToNat, Int.reduceNeg, ↓reduceIte, ↓reduceDIte, c1', c2']
      exact fin _ rfl rfl rfl
  · have c1' : ¬ (i : Int) < P.length := by omega
    simp -dsimp only [go_sem, Nat.reduceEqDiff, Nat.reduceAdd, Nat.reduceSub, Nat.reduceMul, Nat.reduceLeDiff, Nat.reduceLT, Nat.reduceBEq, Int.reduceLT, Int.reduceLE, Int.reduceGT, Int.reduceGE, Int.reduceEq, Int.reduceNe, Int.reduceBEq, Int.reduceBNe, Int.reduceAdd, Int.reduceSub, Int.reduceMul, Int.reduceToNat, Int.reduceNeg, ↓reduceIte, ↓reduceDIte, c1']
    exact fin _ rfl rfl rfl
end
end Go.Proofs.Ytopjhhcncjleaaa
