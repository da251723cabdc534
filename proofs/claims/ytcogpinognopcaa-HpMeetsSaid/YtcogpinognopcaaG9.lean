/- The statement HpMeets. -/
import Derived.Test.YtcogpinognopcaaG8
namespace Go.Proofs.Ytcogpinognopcaa
open Go Go.LK
set_option linter.unusedSimpArgs false
set_option linter.unusedVariables false
theorem g4_slot {t s : Int} (t0 : 0 ≤ t) (t3 : t < 4) (s0 : 0 ≤ s) (s1 : s < 2) : g4.slot t s = 4 + t * 2 + s := by
  have e1 : g4.right = true := rfl
  rw [GV.slot, if_pos (by simp [GV.has, e1]; omega)]
structure BI (H K0 : LHeap) (K : LHeap) (aop : Option Addr) (L : List (Nat × HOp)) : Prop where
  ptrs : Ptrs (hrw none) (H.length + 6) K aop L
  ok : ∀ (j q : Nat) (x : HOp), L[j]? = some (q, x) → OpOk x
  pre : ∀ j, j < H.length + 6 → K[j]? = K0[j]?
  len : H.length + 6 ≤ K.length
set_option maxHeartbeats 2000000 in
theorem meets_ev {lim : Nat} {H : LHeap} {a1 a2 : Option Addr} {l : List Ask} {k : List Int} {v : BitVec 64} (hl : Sl 5 H a1 (l.flatMap Ask.cells)) (hk : Sl 1 H a2 (k.map i64)) :
    callE T 4 lim [.slice a1 l.length l.length, .slice a2 k.length k.length, w64 v] H fun v H' => v = .bool true := by
  refine callE_pop (code := Lm) rfl (by simp) rfl ?_
  unfold Lm
  simp -dsimp only [go_sem, Nat.reduceEqDiff, Nat.reduceAdd, Nat.reduceSub, Nat.reduceMul, Nat.reduceLeDiff, Nat.reduceLT, Nat.reduceBEq, Int.reduceLT, Int.reduceLE, Int.reduceGT, Int.reduceGE, Int.reduceEq, Int.reduceNe, Int.reduceBEq, Int.reduceBNe, Int.reduceAdd, Int.reduceSub, Int.reduceMul, Int.reduceToNat, Int.reduceNeg, ↓reduceIte, ↓reduceDIte]
  refine CT_of (new_ev (by simp)) ?_
  rintro _ _ h
  rw [if_neg (by decide)] at h
  obtain ⟨rfl, rfl⟩ := h
  have ok := MV.Ok.new (n := 12) (by decide) (by decide)
  have cl0 := Clean.new (n := 12) (by decide) (by decide)
  simp only [show (12 : Int).toNat = 12 from rfl]
  generalize MV.new 12 = m0 at ok cl0 ⊢
  have mm := fun (m : MV) (ok : m.Ok 12) l => mem_at (H := H) (pre := [gro g4]) (t := l) ok
  simp only [List.length_cons, List.length_nil, Nat.zero_add, List.cons_append, List.nil_append, Nat.reduceAdd] at mm
  simp -dsimp only [go_sem, Nat.reduceEqDiff, Nat.reduceAdd, Nat.reduceSub, Nat.reduceMul, Nat.reduceLeDiff, Nat.reduceLT, Nat.reduceBEq, Int.reduceLT, Int.reduceLE, Int.reduceGT, Int.reduceGE, Int.reduceEq, Int.reduceNe, Int.reduceBEq, Int.reduceBNe, Int.reduceAdd, Int.reduceSub, Int.reduceMul, Int.reduceToNat, Int.reduceNeg, ↓reduceIte, ↓reduceDIte, Nat.add_assoc]
  refine CT_of (setup_ev (g := g4) (mm _ ok _) cl0 rfl (by decide)) ?_
  rintro _ _ ⟨m1, cl1, rfl, rfl⟩
  have ok1 : m1.Ok 12 := cl1.ok
  simp -dsimp only [go_sem, Nat.reduceEqDiff, Nat.reduceAdd, Nat.reduceSub, Nat.reduceMul, Nat.reduceLeDiff, Nat.reduceLT, Nat.reduceBEq, Int.reduceLT, Int.reduceLE, Int.reduceGT, Int.reduceGE, Int.reduceEq, Int.reduceNe, Int.reduceBEq, Int.reduceBNe, Int.reduceAdd, Int.reduceSub, Int.reduceMul, Int.reduceToNat, Int.reduceNeg, ↓reduceIte, ↓reduceDIte, memPut]
  refine CT_of (store_c (mm _ ok1 _) cl1 (by decide) (by simp)) ?_
  rintro _ _ ⟨m2, cl2, rfl⟩
  have ok2 : m2.Ok 12 := cl2.ok
  have wl2 : ((List.replicate 12 0#64).set (Int.toNat 0) (v ||| 1#64)).length = 12 := by simp
  generalize (List.replicate 12 0#64).set (Int.toNat 0) (v ||| 1#64) = w2 at cl2 wl2
  simp -dsimp only [go_sem, Nat.reduceEqDiff, Nat.reduceAdd, Nat.reduceSub, Nat.reduceMul, Nat.reduceLeDiff, Nat.reduceLT, Nat.reduceBEq, Int.reduceLT, Int.reduceLE, Int.reduceGT, Int.reduceGE, Int.reduceEq, Int.reduceNe, Int.reduceBEq, Int.reduceBNe, Int.reduceAdd, Int.reduceSub, Int.reduceMul, Int.reduceToNat, Int.reduceNeg, ↓reduceIte, ↓reduceDIte, memPut]
  refine CT_of (hprotect_ev (g := g4) (by simp)) ?_
  rintro _ _ ⟨u0, rfl, rfl⟩
  rw [show g4.slot 0 1 = 5 from by decide]
  simp only [HOp.begins, show decide ((0 : Int) ≤ 5) = true from rfl, if_true]
  simp -dsimp only [go_sem, Nat.reduceEqDiff, Nat.reduceAdd, Nat.reduceSub, Nat.reduceMul, Nat.reduceLeDiff, Nat.reduceLT, Nat.reduceBEq, Int.reduceLT, Int.reduceLE, Int.reduceGT, Int.reduceGE, Int.reduceEq, Int.reduceNe, Int.reduceBEq, Int.reduceBNe, Int.reduceAdd, Int.reduceSub, Int.reduceMul, Int.reduceToNat, Int.reduceNeg, ↓reduceIte, ↓reduceDIte]
  generalize hK0 : H ++ [gro g4, wrow m2, brow m2, mrow (H.length + 1) (H.length + 2) m2, u0, hrw none ⟨g4, 0, 5, 0, 0, 0#64, [], false, 0⟩] = K0
  have f0 : K0[H.length]? = some (gro g4) := by rw [← hK0]; exact get_app0 _ _
  have f5 : K0[H.length + 5]? = some (hrw none ⟨g4, 0, 5, 0, 0, 0#64, [], false, 0⟩) := by rw [← hK0, get_app]; rfl
  have fm : MemAt K0 (H.length + 3) (H.length + 1) (H.length + 2) m2 := by rw [← hK0]; exact mm _ ok2 _
  have fb : ∀ j, j < H.length → K0[j]? = H[j]? := fun j hj => by rw [← hK0, get_left hj]
  have fl : K0.length = H.length + 6 := by rw [← hK0]; simp
  clear hK0
  refine LT_of (fun s : Nat × LHeap × Option Addr × List (Nat × HOp) => [(0, .slice a1 l.length l.length), (1, .slice a2 k.length k.length), (7, ptr H.length), (8, ptr (H.length + 3)), (10, ptr (H.length + 5)), (11, .slice s.2.2.1 s.1 s.1), (12, i64 s.1)]) (fun s => s.2.1) (fun s => s.1 ≤ 10 ∧ s.2.2.2.length = s.1 ∧ BI H K0 s.2.1 s.2.2.1 s.2.2.2) (fun s => 10 - s.1) (0, K0, none, []) rfl rfl ⟨by simp, rfl, Ptrs.nil _, fun j q x g => (by simp at g), fun _ _ => rfl, by show H.length + 6 ≤ K0.length; omega⟩ ?_
  rintro ⟨i, K, aop, L⟩ ⟨hi, hL, B⟩
  simp only at hi hL B ⊢
  have baseK : ∀ j, j < H.length → K[j]? = H[j]? := fun j hj => by rw [B.pre j (by omega)]; exact fb j hj
  have slK : ∀ {n : Nat} {a : Option Addr} {c : List Value}, Sl n H a c → Sl n K a c := by
    intro n a c h
    rcases h with z | ⟨b, o, ro, es, cc, h1, h2, h3⟩
    · exact .inl z
    · exact .inr ⟨b, o, ro, es, cc, h1, by rw [baseK b (List.getElem?_eq_some_iff.1 h2).1]; exact h2, h3⟩
  have lenK := B.len
  have finish : ∀ {e : Env} {Q : LExit → Env → LHeap → Prop}, LK.look e 1 = .slice a2 k.length k.length → LK.look e 7 = ptr H.length → LK.look e 8 = ptr (H.length + 3) → LK.look e 10 = ptr (H.length + 5) → LK.look e 11 = .slice aop i i → LK.look e 15 = ptr (K.length + 1) →
      (∀ e' H', LK.look e' 6 = .bool true → Q .ret e' H') → ∀ us, XW (callE T) H.length phM e (K ++ [us, hrw none ⟨g4, 2, 0, 0, 0, 0#64, [], false, 0⟩]) Q := by
    intro e Q e1 e7 e8 e10 e11 e15 hQ us
    have hP : (L.map (·.1)).length = i := by simp [hL]
    have lt : ∀ {j : Nat} {o : LObj}, K[j]? = some o → j < K.length := fun h => (List.getElem?_eq_some_iff.1 h).1
    refine phM_ev (lo := K.length + 2) (qs := K.length + 1) (aop := aop) (as_ := none) (P := L.map (·.1)) (xo := ⟨g4, 0, 5, 0, 0, 0#64, [], false, 0⟩) (xs := ⟨g4, 2, 0, 0, 0, 0#64, [], false, 0⟩) (m := m2) (w := w2) hk ?_ e1 e7 e8 e10 (by rw [e11, hP]) e15 (by omega) hQ
    have e0 := B.pre
    refine ⟨get_old ((e0 _ (by omega)).trans f0) _, MemAt.app ⟨(e0 _ (by omega)).trans fm.row, (e0 _ (by omega)).trans fm.ws, (e0 _ (by omega)).trans fm.bs, fm.len, fm.pos, fm.le, fm.n1, fm.n2, fm.n3⟩ _, cl2, wl2, get_old ((e0 _ (by omega)).trans f5) _, get_app K _ 1, Own.nil _ _ _, ?_, ?_, ?_, fun j hj => by rw [get_left (by omega)]; exact baseK j hj, by omega, by omega, by simp, ?_, ?_, fun q => by omega⟩
    · intro j q g
      rw [List.getElem?_map] at g
      cases hz : L[j]? with
      | none => rw [hz] at g; cases g
      | some z =>
        rw [hz] at g
        obtain ⟨q', x⟩ := z
        cases g
        have o := B.ptrs.ops.at_ j q' x (map_some_get.2 hz)
        have hq : q' < K.length := lt o.2
        exact ⟨o.1, by simp only; omega, x, get_old o.2 _, B.ok j q' x hz⟩
    · have := B.ptrs.own.app [us, hrw none ⟨g4, 2, 0, 0, 0, 0#64, [], false, 0⟩]
      rw [List.map_map]; exact this
    · intro z hz
      rcases B.ptrs.own with ⟨q1, _⟩ | ⟨b, q1, _, q3⟩
      · rw [q1] at hz; cases hz
      · rw [q1] at hz; cases hz
        have := lt q3
        simp only; omega
    · exact ⟨rfl, rfl, rfl, rfl, rfl, rfl, .inl rfl, fun _ q => (by cases q), fun q => (by cases q)⟩
    · exact ⟨rfl, rfl, rfl, rfl, by omega, rfl, fun q => (by cases q), Nat.le_refl _, fun q => (by omega)⟩
  have hgK : lcells K H.length 0 3 = some [i64 4, i64 4, i64 2] := lcells_of ((B.pre _ (by omega)).trans f0) rfl
  by_cases c1 : i < l.length
  · have c1' : (i : Int) < l.length := by omega
    by_cases c2 : i < 10
    · have c2' : (i : Int) < 10 := by omega
      have i0 : 0 ≤ (i : Int) := by omega
      have w1 : IntKind.i64.wrap ((i : Int) + 1) = ((i + 1 : Nat) : Int) := by rw [wrap_i64] <;> omega
      obtain ⟨b, o, rfl, _, hg1, hg2⟩ := (slK hl).rowsAt (m := 5) Ask.len (by omega) (by omega)
      have k1 : l[i]? = some (l[i]'c1) := List.getElem?_eq_getElem _
      generalize l[i]'c1 = c at k1
      have g1 := hg1 [] i c k1
      simp only [List.append_nil, Ask.cells] at g1
      obtain ⟨t1, ht1, t0, t3⟩ := andK c.th 1 (by decide)
      obtain ⟨s1, hs1, s0, s3⟩ := andK c.slot 1 (by decide)
      obtain ⟨x1, hx1, x0, x3⟩ := andK c.word 3 (by decide)
      have t3 : t1 ≤ 1 := t3
      have s3 : s1 ≤ 1 := s3
      have x3 : x1 ≤ 3 := x3
      have w2 : IntKind.i64.wrap (1 + t1) = 1 + t1 := by rw [wrap_i64] <;> omega
      have hslot : g4.slot (1 + t1) s1 = 4 + (1 + t1) * 2 + s1 := g4_slot (by omega) (by omega) (by omega) (by omega)
      have hmay : decide (0 ≤ 4 + (1 + t1) * 2 + s1) = true := decide_eq_true (by omega)
      have lg : H.length < K.length := by omega
      by_cases hk0 : c.kind = 0
      · have e0 : (c.kind == 0) = true := by simp [hk0]
        simp -dsimp only [go_sem, Nat.reduceEqDiff, Nat.reduceAdd, Nat.reduceSub, Nat.reduceMul, Nat.reduceLeDiff, Nat.reduceLT, Nat.reduceBEq, Int.reduceLT, Int.reduceLE, Int.reduceGT, Int.reduceGE, Int.reduceEq, Int.reduceNe, Int.reduceBEq, Int.reduceBNe, Int.reduceAdd, Int.reduceSub, Int.reduceMul, Int.reduceToNat, Int.reduceNeg, ↓reduceIte, ↓reduceDIte, c1', c2', i0, g1, ht1, w2, e0, lcells_left lg, hgK, hs1, hx1]
        refine CT_of (hprotect_ev (g := g4) (by simp; omega)) ?_
        rintro _ _ ⟨u1, rfl, rfl⟩
        rw [hslot, hmay]
        simp only [HOp.begins, if_true]
        have okx : OpOk ⟨g4, 0, 4 + (1 + t1) * 2 + s1, x1, 0, 0#64, [], false, 0⟩ := ⟨rfl, .inl rfl, by simp only; omega, by simp only; omega, x0, x3, rfl, by simp, by simp⟩
        generalize HOp.mk g4 0 (4 + (1 + t1) * 2 + s1) x1 0 0#64 [] false 0 = xn at okx ⊢
        simp -dsimp only [go_sem, Nat.reduceEqDiff, Nat.reduceAdd, Nat.reduceSub, Nat.reduceMul, Nat.reduceLeDiff, Nat.reduceLT, Nat.reduceBEq, Int.reduceLT, Int.reduceLE, Int.reduceGT, Int.reduceGE, Int.reduceEq, Int.reduceNe, Int.reduceBEq, Int.reduceBNe, Int.reduceAdd, Int.reduceSub, Int.reduceMul, Int.reduceToNat, Int.reduceNeg, ↓reduceIte, ↓reduceDIte]
        obtain ⟨aop', K', p1, p2, p3, p4⟩ := B.ptrs.push (lim := H.length) (t := [.row false 0 [.int .i64 c.kind, .int .i64 c.th, .int .i64 c.slot, .int .i64 c.word, w64 c.v], u1, hrw none xn, .row false 1 [ptr (K.length + 2)]]) (q := K.length + 2) (x := xn) (hrw_ne none) hL (by omega) (by omega) (by omega) (by omega) (get_app K _ 2)
        simp only [ptr] at p1
        simp only [Nat.add_assoc, Nat.reduceAdd]
        rw [p1]
        simp -dsimp only [go_sem, Nat.reduceEqDiff, Nat.reduceAdd, Nat.reduceSub, Nat.reduceMul, Nat.reduceLeDiff, Nat.reduceLT, Nat.reduceBEq, Int.reduceLT, Int.reduceLE, Int.reduceGT, Int.reduceGE, Int.reduceEq, Int.reduceNe, Int.reduceBEq, Int.reduceBNe, Int.reduceAdd, Int.reduceSub, Int.reduceMul, Int.reduceToNat, Int.reduceNeg, ↓reduceIte, ↓reduceDIte, w1]
        refine ⟨(i + 1, K', aop', L ++ [(K.length + 2, xn)]), rfl, rfl, ⟨by simp only; omega, by simp [hL], p2, ?_, fun j hj => by simp only; rw [p4 j hj]; exact B.pre j hj, by simp only; simp at p3; omega⟩, by simp only; omega⟩
        intro j q x g
        simp only at g
        rcases Nat.lt_or_ge j L.length with hj | hj
        · rw [List.getElem?_append_left hj] at g
          exact B.ok j q x g
        · rw [List.getElem?_append_right hj] at g
          by_cases ej : j = L.length
          · subst ej
            simp at g
            rw [← g.2]; exact okx
          · rw [List.getElem?_eq_none (by simp; omega)] at g; cases g
      · have e0 : (c.kind == 0) = false := by simp [hk0]
        simp -dsimp only [go_sem, Nat.reduceEqDiff, Nat.reduceAdd, Nat.reduceSub, Nat.reduceMul, Nat.reduceLeDiff, Nat.reduceLT, Nat.reduceBEq, Int.reduceLT, Int.reduceLE, Int.reduceGT, Int.reduceGE, Int.reduceEq, Int.reduceNe, Int.reduceBEq, Int.reduceBNe, Int.reduceAdd, Int.reduceSub, Int.reduceMul, Int.reduceToNat, Int.reduceNeg, ↓reduceIte, ↓reduceDIte, c1', c2', i0, g1, ht1, w2, e0, lcells_left lg, hgK, hs1, hx1]
        refine CT_of (hclear_ev (g := g4) (by simp; omega)) ?_
        rintro _ _ ⟨u1, rfl, rfl⟩
        rw [hslot, hmay]
        simp only [HOp.begins, if_true]
        have okx : OpOk ⟨g4, 1, 4 + (1 + t1) * 2 + s1, 0, 0, 0#64, [], false, 0⟩ := ⟨rfl, .inr rfl, by simp only; omega, by simp only; omega, by simp, by simp, rfl, by simp, by simp⟩
        generalize HOp.mk g4 1 (4 + (1 + t1) * 2 + s1) 0 0 0#64 [] false 0 = xn at okx ⊢
        simp -dsimp only [go_sem, Nat.reduceEqDiff, Nat.reduceAdd, Nat.reduceSub, Nat.reduceMul, Nat.reduceLeDiff, Nat.reduceLT, Nat.reduceBEq, Int.reduceLT, Int.reduceLE, Int.reduceGT, Int.reduceGE, Int.reduceEq, Int.reduceNe, Int.reduceBEq, Int.reduceBNe, Int.reduceAdd, Int.reduceSub, Int.reduceMul, Int.reduceToNat, Int.reduceNeg, ↓reduceIte, ↓reduceDIte]
        obtain ⟨aop', K', p1, p2, p3, p4⟩ := B.ptrs.push (lim := H.length) (t := [.row false 0 [.int .i64 c.kind, .int .i64 c.th, .int .i64 c.slot, .int .i64 c.word, w64 c.v], u1, hrw none xn, .row false 1 [ptr (K.length + 2)]]) (q := K.length + 2) (x := xn) (hrw_ne none) hL (by omega) (by omega) (by omega) (by omega) (get_app K _ 2)
        simp only [ptr] at p1
        simp only [Nat.add_assoc, Nat.reduceAdd]
        rw [p1]
        simp -dsimp only [go_sem, Nat.reduceEqDiff, Nat.reduceAdd, Nat.reduceSub, Nat.reduceMul, Nat.reduceLeDiff, Nat.reduceLT, Nat.reduceBEq, Int.reduceLT, Int.reduceLE, Int.reduceGT, Int.reduceGE, Int.reduceEq, Int.reduceNe, Int.reduceBEq, Int.reduceBNe, Int.reduceAdd, Int.reduceSub, Int.reduceMul, Int.reduceToNat, Int.reduceNeg, ↓reduceIte, ↓reduceDIte, w1]
        refine ⟨(i + 1, K', aop', L ++ [(K.length + 2, xn)]), rfl, rfl, ⟨by simp only; omega, by simp [hL], p2, ?_, fun j hj => by simp only; rw [p4 j hj]; exact B.pre j hj, by simp only; simp at p3; omega⟩, by simp only; omega⟩
        intro j q x g
        simp only at g
        rcases Nat.lt_or_ge j L.length with hj | hj
        · rw [List.getElem?_append_left hj] at g
          exact B.ok j q x g
        · rw [List.getElem?_append_right hj] at g
          by_cases ej : j = L.length
          · subst ej
            simp at g
            rw [← g.2]; exact okx
          · rw [List.getElem?_eq_none (by simp; omega)] at g; cases g
    · have c2' : ¬ (i : Int) < 10 := by omega
      simp -dsimp only [go_sem, Nat.reduceEqDiff, Nat.reduceAdd, Nat.reduceSub, Nat.reduceMul, Nat.reduceLeDiff, Nat.reduceLT, Nat.reduceBEq, Int.reduceLT, Int.reduceLE, Int.reduceGT, Int.reduceGE, Int.reduceEq, Int.reduceNe, Int.reduceBEq, Int.reduceBNe, Int.reduceAdd, Int.reduceSub, Int.reduceMul, Int.reduceToNat, Int.reduceNeg, ↓reduceIte, ↓reduceDIte, c1', c2', hgK]
      refine CT_of (hscan_ev (g := g4) (by omega)) ?_
      rintro _ _ ⟨us, rfl, rfl⟩
      simp only [HOp.begins, show g4.right = true from rfl, if_true]
      simp -dsimp only [go_sem, Nat.reduceEqDiff, Nat.reduceAdd, Nat.reduceSub, Nat.reduceMul, Nat.reduceLeDiff, Nat.reduceLT, Nat.reduceBEq, Int.reduceLT, Int.reduceLE, Int.reduceGT, Int.reduceGE, Int.reduceEq, Int.reduceNe, Int.reduceBEq, Int.reduceBNe, Int.reduceAdd, Int.reduceSub, Int.reduceMul, Int.reduceToNat, Int.reduceNeg, ↓reduceIte, ↓reduceDIte]
      refine finish (by simp -dsimp only [go_sem, Nat.reduceEqDiff, Nat.reduceAdd, Nat.reduceSub, Nat.reduceMul, Nat.reduceLeDiff, Nat.reduceLT, Nat.reduceBEq, Int.reduceLT, Int.reduceLE, Int.reduceGT, Int.reduceGE, Int.reduceEq, Int.reduceNe, Int.reduceBEq, Int.reduceBNe, Int.reduceAdd, Int.reduceSub, Int.reduceMul, Int.reduceToNat, Int.reduceNeg, ↓reduceIte, ↓reduceDIte]) (by simp -dsimp only [go_sem, Nat.reduceEqDiff, Nat.reduceAdd, Nat.reduceSub, Nat.reduceMul, Nat.reduceLeDiff, Nat.reduceLT, Nat.reduceBEq, Int.reduceLT, Int.reduceLE, Int.reduceGT, Int.reduceGE, Int.reduceEq, Int.reduceNe, Int.reduceBEq, Int.reduceBNe, Int.reduceAdd, Int.reduceSub, Int.reduceMul, Int.reduceToNat, Int.reduceNeg, ↓reduceIte, ↓reduceDIte]) (by simp -dsimp only [go_sem, Nat.reduceEqDiff, Nat.reduceAdd, Nat.reduceSub, Nat.reduceMul, Nat.reduceLeDiff, Nat.reduceLT, Nat.reduceBEq, Int.reduceLT, Int.reduceLE, Int.reduceGT, Int.reduceGE, Int.reduceEq, Int.reduceNe, Int.reduceBEq, Int.reduceBNe, Int.reduceAdd, Int.reduceSub, Int.reduceMul, Int.reduceToNat, Int.reduceNeg, ↓reduceIte, ↓reduceDIte]) (by simp -dsimp only [go_sem, Nat.reduceEqDiff, Nat.reduceAdd, Nat.reduceSub, Nat.reduceMul, Nat.reduceLeDiff, Nat.reduceLT, Nat.reduceBEq, Int.reduceLT, Int.reduceLE, Int.reduceGT, Int.reduceGE, Int.reduceEq, Int.reduceNe, Int.reduceBEq, Int.reduceBNe, Int.reduceAdd, Int.reduceSub, Int.reduceMul, Int.reduceToNat, Int.reduceNeg, ↓reduceIte, ↓reduceDIte]) (by simp -dsimp only [go_sem, Nat.reduceEqDiff, Nat.reduceAdd, Nat.reduceSub, Nat.reduceMul, Nat.reduceLeDiff, Nat.reduceLT, Nat.reduceBEq, Int.reduceLT, Int.reduceLE, Int.reduceGT, Int.reduceGE, Int.reduceEq, Int.reduceNe, Int.reduceBEq, Int.reduceBNe, Int.reduceAdd, Int.reduceSub, Int.reduceMul, Int.reduceToNat, Int.reduceNeg, ↓reduceIte, ↓reduceDIte]) (by simp -dsimp only [go_sem, Nat.reduceEqDiff, Nat.reduceAdd, Nat.reduceSub, Nat.reduceMul, Nat.reduceLeDiff, Nat.reduceLT, Nat.reduceBEq, Int.reduceLT, Int.reduceLE, Int.reduceGT, Int.reduceGE, Int.reduceEq, Int.reduceNe, Int.reduceBEq, Int.reduceBNe, Int.reduceAdd, Int.reduceSub, Int.reduceMul, Int.reduceToNat, Int.reduceNeg, ↓reduceIte, ↓reduceDIte]) ?_ us
      intro e' H' h6
      simp -dsimp only [go_sem, Nat.reduceEqDiff, Nat.reduceAdd, Nat.reduceSub, Nat.reduceMul, Nat.reduceLeDiff, Nat.reduceLT, Nat.reduceBEq, Int.reduceLT, Int.reduceLE, Int.reduceGT, Int.reduceGE, Int.reduceEq, Int.reduceNe, Int.reduceBEq, Int.reduceBNe, Int.reduceAdd, Int.reduceSub, Int.reduceMul, Int.reduceToNat, Int.reduceNeg, ↓reduceIte, ↓reduceDIte, h6]
  · have c1' : ¬ (i : Int) < l.length := by omega
    simp -dsimp only [go_sem, Nat.reduceEqDiff, Nat.reduceAdd, Nat.reduceSub, Nat.reduceMul, Nat.reduceLeDiff, Nat.reduceLT, Nat.reduceBEq, Int.reduceLT, Int.reduceLE, Int.reduceGT, Int.reduceGE, Int.reduceEq, Int.reduceNe, Int.reduceBEq, Int.reduceBNe, Int.reduceAdd, Int.reduceSub, Int.reduceMul, Int.reduceToNat, Int.reduceNeg, ↓reduceIte, ↓reduceDIte, c1', hgK]
    refine CT_of (hscan_ev (g := g4) (by omega)) ?_
    rintro _ _ ⟨us, rfl, rfl⟩
    simp only [HOp.begins, show g4.right = true from rfl, if_true]
    simp -dsimp only [go_sem, Nat.reduceEqDiff, Nat.reduceAdd, Nat.reduceSub, Nat.reduceMul, Nat.reduceLeDiff, Nat.reduceLT, Nat.reduceBEq, Int.reduceLT, Int.reduceLE, Int.reduceGT, Int.reduceGE, Int.reduceEq, Int.reduceNe, Int.reduceBEq, Int.reduceBNe, Int.reduceAdd, Int.reduceSub, Int.reduceMul, Int.reduceToNat, Int.reduceNeg, ↓reduceIte, ↓reduceDIte]
    refine finish (by simp -dsimp only [go_sem, Nat.reduceEqDiff, Nat.reduceAdd, Nat.reduceSub, Nat.reduceMul, Nat.reduceLeDiff, Nat.reduceLT, Nat.reduceBEq, Int.reduceLT, Int.reduceLE, Int.reduceGT, Int.reduceGE, Int.reduceEq, Int.reduceNe, Int.reduceBEq, Int.reduceBNe, Int.reduceAdd, Int.reduceSub, Int.reduceMul, Int.reduceToNat, Int.reduceNeg, ↓reduceIte, ↓reduceDIte]) (by simp -dsimp only [go_sem, Nat.reduceEqDiff, Nat.reduceAdd, Nat.reduceSub, Nat.reduceMul, Nat.reduceLeDiff, Nat.reduceLT, Nat.reduceBEq, Int.reduceLT, Int.reduceLE, Int.reduceGT, Int.reduceGE, Int.reduceEq, Int.reduceNe, Int.reduceBEq, Int.reduceBNe, Int.reduceAdd, Int.reduceSub, Int.reduceMul, Int.reduceToNat, Int.reduceNeg, ↓reduceIte, ↓reduceDIte]) (by simp -dsimp only [go_sem, Nat.reduceEqDiff, Nat.reduceAdd, Nat.reduceSub, Nat.reduceMul, Nat.reduceLeDiff, Nat.reduceLT, Nat.reduceBEq, Int.reduceLT, Int.reduceLE, Int.reduceGT, Int.reduceGE, Int.reduceEq, Int.reduceNe, Int.reduceBEq, Int.reduceBNe, Int.reduceAdd, Int.reduceSub, Int.reduceMul, Int.reduceToNat, Int.reduceNeg, ↓reduceIte, ↓reduceDIte]) (by simp -dsimp only [go_sem, Nat.reduceEqDiff, Nat.reduceAdd, Nat.reduceSub, Nat.reduceMul, Nat.reduceLeDiff, Nat.reduceLT, Nat.reduceBEq, Int.reduceLT, Int.reduceLE, Int.reduceGT, Int.reduceGE, Int.reduceEq, Int.reduceNe, Int.reduceBEq, Int.reduceBNe, Int.reduceAdd, Int.reduceSub, Int.reduceMul, Int.reduceToNat, Int.reduceNeg, ↓reduceIte, ↓reduceDIte]) (by simp -dsimp only [go_sem, Nat.reduceEqDiff, Nat.reduceAdd, Nat.reduceSub, Nat.reduceMul, Nat.reduceLeDiff, Nat.reduceLT, Nat.reduceBEq, Int.reduceLT, Int.reduceLE, Int.reduceGT, Int.reduceGE, Int.reduceEq, Int.reduceNe, Int.reduceBEq, Int.reduceBNe, Int.reduceAdd, Int.reduceSub, Int.reduceMul, Int.reduceToNat, Int.reduceNeg, ↓reduceIte, ↓reduceDIte]) (by simp -dsimp only [go_sem, Nat.reduceEqDiff, Nat.reduceAdd, Nat.reduceSub, Nat.reduceMul, Nat.reduceLeDiff, Nat.reduceLT, Nat.reduceBEq, Int.reduceLT, Int.reduceLE, Int.reduceGT, Int.reduceGE, Int.reduceEq, Int.reduceNe, Int.reduceBEq, Int.reduceBNe, Int.reduceAdd, Int.reduceSub, Int.reduceMul, Int.reduceToNat, Int.reduceNeg, ↓reduceIte, ↓reduceDIte]) ?_ us
    intro e' H' h6
    simp -dsimp only [go_sem, Nat.reduceEqDiff, Nat.reduceAdd, Nat.reduceSub, Nat.reduceMul, Nat.reduceLeDiff, Nat.reduceLT, Nat.reduceBEq, Int.reduceLT, Int.reduceLE, Int.reduceGT, Int.reduceGE, Int.reduceEq, Int.reduceNe, Int.reduceBEq, Int.reduceBNe, Int.reduceAdd, Int.reduceSub, Int.reduceMul, Int.reduceToNat, Int.reduceNeg, ↓reduceIte, ↓reduceDIte, h6]
end Go.Proofs.Ytcogpinognopcaa
