/- The statement VyOrders: operations that begin. -/
import Derived.Test.YtgipbamdefjenaaU3
namespace Go.Proofs.Ytgipbamdefjenaa
open Go Go.LK
set_option linter.unusedSimpArgs false
set_option linter.unusedVariables false
abbrev keepW : List Tmp := [1, 2, 7, 8, 10, 11, 12, 14]
section
variable {H K : LHeap} {s i j nx : Nat} {m : MV} {v : HV} {a a1 : Option Addr} {L : List (Option (Nat × VOp))} {I : List Int} {e : Env} {Q : LExit → Env → LHeap → Prop} {l : List Ask}
set_option maxHeartbeats 1000000 in
theorem voA_ev (hsl : Sl 3 H a1 (l.flatMap Ask.cells)) (h : OW H K s m v a L I) (p : PJ s i m v L I) (hs : s = 2 ∨ s = 4 ∨ s = 8) (hi : i < 1000) (hnx : v.l.length = nx) (hn8 : nx ≤ 8) (hw : v.now ≤ 5000) (hj : j < 4)
    (e1 : LK.look e 1 = .slice a1 l.length l.length) (e7 : LK.look e 7 = ptr H.length) (e8 : LK.look e 8 = ptr (H.length + 3)) (e10 : LK.look e 10 = ptr (H.length + 5)) (e11 : LK.look e 11 = ptr (H.length + 6)) (e12 : LK.look e 12 = ptr (H.length + 7)) (e13 : LK.look e 13 = i64 nx) (e15 : LK.look e 15 = i64 j)
    (hQ : ∀ (y : LExit) e' K' m' v' a' L' I' nx', (y = .normal ∨ y = .exit 1) → restrict keepW e' = restrict keepW e → LK.look e' 13 = i64 (nx' : Nat) → OW H K' s m' v' a' L' I' → PJ s (i + 1) m' v' L' I' → v'.l.length = nx' → nx' ≤ 8 → v'.now ≤ v.now + 2 → Q y e' K') :
    XW (callE T) H.length voA e K Q := by
  have hr := right_two hs
  have hKl := h.len
  have hll := p.ll
  have hli := p.li
  have j0 : 0 ≤ (j : Int) := by omega
  have j4' : (j : Int) < 4 := by omega
  have j5 : j + 1 ≤ 4 := by omega
  have kx : ∀ e' e'' : Env, restrict keepV e' = restrict keepV e'' → restrict keepW e'' = restrict keepW e → restrict keepW e' = restrict keepW e := by
    intro e' e'' g g'
    have q : ∀ k ∈ keepV, LK.look e' k = LK.look e'' k := fun k hk => restrict_look g hk
    rw [← g']
    simp only [restrict, List.map_cons, List.map_nil]
    rw [q 1 (by decide), q 2 (by decide), q 7 (by decide), q 8 (by decide), q 10 (by decide), q 11 (by decide), q 12 (by decide), q 14 (by decide)]
  unfold voA
  obtain ⟨o, ho⟩ : ∃ o, L[j]? = some o := ⟨_, List.getElem?_eq_getElem (by omega)⟩
  have hLj : (L.map vpv)[j]? = some (vpv o) := by rw [List.getElem?_map, ho]; rfl
  cases o with
  | some z =>
    obtain ⟨q, x⟩ := z
    simp -dsimp only [go_sem, Nat.reduceEqDiff, Nat.reduceAdd, Nat.reduceSub, Nat.reduceMul, Nat.reduceLeDiff, Nat.reduceLT, Nat.reduceBEq, Int.reduceLT, Int.reduceLE, Int.reduceGT, Int.reduceGE, Int.reduceEq, Int.reduceNe, Int.reduceBEq, Int.reduceBNe, Int.reduceAdd, Int.reduceSub, Int.reduceMul, Int.reduceToNat, Int.reduceNeg, ↓reduceIte, ↓reduceDIte, e11, e15, j0, j4', lget_at h.arr, hLj, vpv]
    refine voB_ev h p hs hi (by omega) (by omega) ho e8 e10 e11 e12 e15 ?_
    intro e' K' m' v' a' L' I' he ow' p' g1 g2
    exact hQ .normal e' K' m' v' a' L' I' nx (.inl rfl) (kx _ _ he rfl) ((restrict_look he (by decide)).trans e13) ow' p' (by omega) hn8 (by omega)
  | none =>
    by_cases hnl : l.length ≤ nx
    · have hnl' : (l.length : Int) ≤ nx := by omega
      simp -dsimp only [go_sem, Nat.reduceEqDiff, Nat.reduceAdd, Nat.reduceSub, Nat.reduceMul, Nat.reduceLeDiff, Nat.reduceLT, Nat.reduceBEq, Int.reduceLT, Int.reduceLE, Int.reduceGT, Int.reduceGE, Int.reduceEq, Int.reduceNe, Int.reduceBEq, Int.reduceBNe, Int.reduceAdd, Int.reduceSub, Int.reduceMul, Int.reduceToNat, Int.reduceNeg, ↓reduceIte, ↓reduceDIte, e11, e15, j0, j4', lget_at h.arr, hLj, vpv, e13, e1, hnl']
      exact hQ _ _ _ m v a L I nx (.inr rfl) rfl e13 h (p.up (by omega)) hnx hn8 (by omega)
    have hnl' : ¬ (l.length : Int) ≤ nx := by omega
    by_cases hn9 : 8 ≤ nx
    · have hn9' : 8 ≤ (nx : Int) := by omega
      simp -dsimp only [go_sem, Nat.reduceEqDiff, Nat.reduceAdd, Nat.reduceSub, Nat.reduceMul, Nat.reduceLeDiff, Nat.reduceLT, Nat.reduceBEq, Int.reduceLT, Int.reduceLE, Int.reduceGT, Int.reduceGE, Int.reduceEq, Int.reduceNe, Int.reduceBEq, Int.reduceBNe, Int.reduceAdd, Int.reduceSub, Int.reduceMul, Int.reduceToNat, Int.reduceNeg, ↓reduceIte, ↓reduceDIte, e11, e15, j0, j4', lget_at h.arr, hLj, vpv, e13, e1, hnl', hn9']
      exact hQ _ _ _ m v a L I nx (.inr rfl) rfl e13 h (p.up (by omega)) hnx hn8 (by omega)
    have hn9' : ¬ 8 ≤ (nx : Int) := by omega
    have hlt : nx < l.length := by omega
    have hlt' : (nx : Int) < l.length := by omega
    have n0' : 0 ≤ (nx : Int) := by omega
    have hw1 : IntKind.i64.wrap ((nx : Int) + 1) = ((nx + 1 : Nat) : Int) := by rw [wrap_i64] <;> omega
    have hrows := fun K0 (g : ∃ t, K0 = H ++ t) => show Sl 3 K0 a1 (l.flatMap Ask.cells) from by obtain ⟨t, rfl⟩ := g; exact hsl.app t
    obtain ⟨ba, oa, rfl, _⟩ := hsl.rowsAt (f := Ask.cells) Ask.len (by omega) (by omega)
    have cellsAt : ∀ K0, (∃ t, K0 = H ++ t) → lcells K0 ba (oa + nx * 3) 3 = some (Ask.cells l[nx]) ∧ lget K0 ba (oa + nx * 3 + 1) = some (i64 (l[nx].kind)) ∧ lget K0 ba (oa + nx * 3 + 2) = some (w64 (l[nx].arg)) := by
      intro K0 g
      obtain ⟨b', o', e', _, hgc, hgl⟩ := (hrows K0 g).rowsAt (f := Ask.cells) Ask.len (by omega) (by omega)
      cases e'
      have g0 := hgc [] nx _ (List.getElem?_eq_getElem hlt)
      have g1 := hgl [] nx _ 1 (List.getElem?_eq_getElem hlt) (by omega)
      have g2 := hgl [] nx _ 2 (List.getElem?_eq_getElem hlt) (by omega)
      rw [List.append_nil] at g0 g1 g2
      exact ⟨g0, g1, g2⟩
    generalize l[nx] = c at cellsAt
    have gc := (cellsAt K h.arg).1
    simp only [Ask.cells] at gc
    have hrc : lcells K H.length 0 2 = some [i64 0, i64 s] := lcells_of h.rr rfl
    obtain ⟨d, hd, d0, d1⟩ := andK c.kind 1 (by decide)
    have d1 : d ≤ 1 := d1
    have dd : d = 0 ∨ d = 1 := by omega
    simp -dsimp only [go_sem, Nat.reduceEqDiff, Nat.reduceAdd, Nat.reduceSub, Nat.reduceMul, Nat.reduceLeDiff, Nat.reduceLT, Nat.reduceBEq, Int.reduceLT, Int.reduceLE, Int.reduceGT, Int.reduceGE, Int.reduceEq, Int.reduceNe, Int.reduceBEq, Int.reduceBNe, Int.reduceAdd, Int.reduceSub, Int.reduceMul, Int.reduceToNat, Int.reduceNeg, ↓reduceIte, ↓reduceDIte, e11, e15, j0, j4', lget_at h.arr, hLj, vpv, e13, e1, e7, hnl', hn9', n0', hlt', hrc, gc]
    refine CT_of (abegin_ev (r := ⟨0, s⟩) (c := c) (by omega) hr hd) ?_
    rintro _ _ ⟨u1, u2, u3, u4, rfl, rfl⟩
    have ow1 := h.opnew (t := [u1, u2, u3, u4, vrw (c.op ⟨0, s⟩ d)]) (j := j) (q := K.length + 4) (x := c.op ⟨0, s⟩ d) (by omega) (by rw [get_app]; rfl)
    have e1' := (h.app [u1, u2, u3, u4, vrw (c.op ⟨0, s⟩ d)]).arr
    have hb1 : H.length + 6 < (K ++ [u1, u2, u3, u4, vrw (c.op ⟨0, s⟩ d)]).length := by simp; omega
    generalize K ++ [u1, u2, u3, u4, vrw (c.op ⟨0, s⟩ d)] = K1 at ow1 e1' hb1 ⊢
    have eN : (L.map vpv).set j (ptr (K.length + 4)) = (L.set j (some (K.length + 4, c.op ⟨0, s⟩ d))).map vpv := by
      rw [show ptr (K.length + 4) = vpv (some (K.length + 4, c.op ⟨0, s⟩ d)) from rfl, ← List.map_set]
    have lim6 : H.length ≤ H.length + 6 := by omega
    have hLl : (L.map vpv).length = 4 := by simp [hll]
    simp -dsimp only [go_sem, Nat.reduceEqDiff, Nat.reduceAdd, Nat.reduceSub, Nat.reduceMul, Nat.reduceLeDiff, Nat.reduceLT, Nat.reduceBEq, Int.reduceLT, Int.reduceLE, Int.reduceGT, Int.reduceGE, Int.reduceEq, Int.reduceNe, Int.reduceBEq, Int.reduceBNe, Int.reduceAdd, Int.reduceSub, Int.reduceMul, Int.reduceToNat, Int.reduceNeg, ↓reduceIte, ↓reduceDIte, e11, e15, j0, j4', j5, take_app_n, get_app_n, get_app_n0, set_app_n, set_app_n0, lget_app_n, lget_app_n0, lcells_app_n, lcells_app_n0, List.length_set, List.take_of_length_le, List.set_set, get_left, set_left, lget_left, lcells_left, get_set_eq, get_set_ne, lget_set_eq, lget_set_ne, lcells_set_ne, e1', hb1, lim6, hLl, eN]
    generalize K1.set (H.length + 6) (.row false 0 ((L.set j (some (K.length + 4, c.op ⟨0, s⟩ d))).map vpv)) = K2 at ow1 ⊢
    have gk := (cellsAt K2 ow1.arg).2.1
    have ga := (cellsAt K2 ow1.arg).2.2
    simp -dsimp only [go_sem, Nat.reduceEqDiff, Nat.reduceAdd, Nat.reduceSub, Nat.reduceMul, Nat.reduceLeDiff, Nat.reduceLT, Nat.reduceBEq, Int.reduceLT, Int.reduceLE, Int.reduceGT, Int.reduceGE, Int.reduceEq, Int.reduceNe, Int.reduceBEq, Int.reduceBNe, Int.reduceAdd, Int.reduceSub, Int.reduceMul, Int.reduceToNat, Int.reduceNeg, ↓reduceIte, ↓reduceDIte, e1, e13, n0', hlt', gk, ga, hd, e10, e12, e15]
    have hn0 := p.hi.n0
    refine CT_of (begin_ev (Nat.le_refl _) (by have := ow1.len; omega) ow1.log (by omega) (by omega)) ?_
    rintro _ K3 ⟨a3, rfl, g1, g2⟩
    obtain ⟨b1, b2, b3, p1⟩ := p.begin (q := K.length + 4) ho (by omega) c dd
    have ow2 := ow1.logs g1 g2
    rw [b1]
    have hK3 := ow2.len
    have hb7 : H.length + 7 < K3.length := by omega
    have lim7 : H.length ≤ H.length + 7 := by omega
    have hir := ow2.idr
    have hIl : (I.map i64).length = 4 := by simp [hli]
    have eI : (I.map i64).set j (i64 (v.l.length : Int)) = (I.set j (v.l.length : Int)).map i64 := by rw [← List.map_set]
    simp -dsimp only [go_sem, Nat.reduceEqDiff, Nat.reduceAdd, Nat.reduceSub, Nat.reduceMul, Nat.reduceLeDiff, Nat.reduceLT, Nat.reduceBEq, Int.reduceLT, Int.reduceLE, Int.reduceGT, Int.reduceGE, Int.reduceEq, Int.reduceNe, Int.reduceBEq, Int.reduceBNe, Int.reduceAdd, Int.reduceSub, Int.reduceMul, Int.reduceToNat, Int.reduceNeg, ↓reduceIte, ↓reduceDIte, e12, e13, e15, j0, j4', j5, take_app_n, get_app_n, get_app_n0, set_app_n, set_app_n0, lget_app_n, lget_app_n0, lcells_app_n, lcells_app_n0, List.length_set, List.take_of_length_le, List.set_set, get_left, set_left, lget_left, lcells_left, get_set_eq, get_set_ne, lget_set_eq, lget_set_ne, lcells_set_ne, hir, hb7, lim7, hIl, eI, hw1]
    have ow3 := ow2.idset (I.set j (v.l.length : Int))
    refine voB_ev ow3 p1 hs hi (by omega) (by omega) (List.getElem?_set_self (by omega)) (by simp -dsimp only [go_sem, Nat.reduceEqDiff, Nat.reduceAdd, Nat.reduceSub, Nat.reduceMul, Nat.reduceLeDiff, Nat.reduceLT, Nat.reduceBEq, Int.reduceLT, Int.reduceLE, Int.reduceGT, Int.reduceGE, Int.reduceEq, Int.reduceNe, Int.reduceBEq, Int.reduceBNe, Int.reduceAdd, Int.reduceSub, Int.reduceMul, Int.reduceToNat, Int.reduceNeg, ↓reduceIte, ↓reduceDIte, e8]) (by simp -dsimp only [go_sem, Nat.reduceEqDiff, Nat.reduceAdd, Nat.reduceSub, Nat.reduceMul, Nat.reduceLeDiff, Nat.reduceLT, Nat.reduceBEq, Int.reduceLT, Int.reduceLE, Int.reduceGT, Int.reduceGE, Int.reduceEq, Int.reduceNe, Int.reduceBEq, Int.reduceBNe, Int.reduceAdd, Int.reduceSub, Int.reduceMul, Int.reduceToNat, Int.reduceNeg, ↓reduceIte, ↓reduceDIte, e10]) (by simp -dsimp only [go_sem, Nat.reduceEqDiff, Nat.reduceAdd, Nat.reduceSub, Nat.reduceMul, Nat.reduceLeDiff, Nat.reduceLT, Nat.reduceBEq, Int.reduceLT, Int.reduceLE, Int.reduceGT, Int.reduceGE, Int.reduceEq, Int.reduceNe, Int.reduceBEq, Int.reduceBNe, Int.reduceAdd, Int.reduceSub, Int.reduceMul, Int.reduceToNat, Int.reduceNeg, ↓reduceIte, ↓reduceDIte, e11]) (by simp -dsimp only [go_sem, Nat.reduceEqDiff, Nat.reduceAdd, Nat.reduceSub, Nat.reduceMul, Nat.reduceLeDiff, Nat.reduceLT, Nat.reduceBEq, Int.reduceLT, Int.reduceLE, Int.reduceGT, Int.reduceGE, Int.reduceEq, Int.reduceNe, Int.reduceBEq, Int.reduceBNe, Int.reduceAdd, Int.reduceSub, Int.reduceMul, Int.reduceToNat, Int.reduceNeg, ↓reduceIte, ↓reduceDIte, e12]) (by simp -dsimp only [go_sem, Nat.reduceEqDiff, Nat.reduceAdd, Nat.reduceSub, Nat.reduceMul, Nat.reduceLeDiff, Nat.reduceLT, Nat.reduceBEq, Int.reduceLT, Int.reduceLE, Int.reduceGT, Int.reduceGE, Int.reduceEq, Int.reduceNe, Int.reduceBEq, Int.reduceBNe, Int.reduceAdd, Int.reduceSub, Int.reduceMul, Int.reduceToNat, Int.reduceNeg, ↓reduceIte, ↓reduceDIte, e15]) ?_
    intro e' K' m' v' a' L' I' he ow' p' g1 g2
    refine hQ .normal e' K' m' v' a' L' I' (nx + 1) (.inl rfl) (kx _ _ he rfl) ?_ ow' p' (by omega) (by omega) (by omega)
    rw [restrict_look he (k := 13) (by decide)]
    simp -dsimp only [go_sem, Nat.reduceEqDiff, Nat.reduceAdd, Nat.reduceSub, Nat.reduceMul, Nat.reduceLeDiff, Nat.reduceLT, Nat.reduceBEq, Int.reduceLT, Int.reduceLE, Int.reduceGT, Int.reduceGE, Int.reduceEq, Int.reduceNe, Int.reduceBEq, Int.reduceBNe, Int.reduceAdd, Int.reduceSub, Int.reduceMul, Int.reduceToNat, Int.reduceNeg, ↓reduceIte, ↓reduceDIte]
end
end Go.Proofs.Ytgipbamdefjenaa
/- The statement VyOrders: the walk, whole. -/
namespace Go.Proofs.Ytgipbamdefjenaa
open Go Go.LK
set_option linter.unusedSimpArgs false
set_option linter.unusedVariables false
theorem thread_ev {lim : Nat} {H : LHeap} {n d : Int} (hd : IntKind.i64.wrap ((BitVec.ofInt IntKind.i64.bits n &&& BitVec.ofInt IntKind.i64.bits 3).toNat : Int) = d) : callE T 12 lim [i64 n] H fun v H' => v = i64 d ∧ H' = H := by
  refine callE_pop rfl (by simp) rfl ?_
  simp -dsimp only [go_sem, Nat.reduceEqDiff, Nat.reduceAdd, Nat.reduceSub, Nat.reduceMul, Nat.reduceLeDiff, Nat.reduceLT, Nat.reduceBEq, Int.reduceLT, Int.reduceLE, Int.reduceGT, Int.reduceGE, Int.reduceEq, Int.reduceNe, Int.reduceBEq, Int.reduceBNe, Int.reduceAdd, Int.reduceSub, Int.reduceMul, Int.reduceToNat, Int.reduceNeg, ↓reduceIte, ↓reduceDIte, hd]
section
variable {H K : LHeap} {s i : Nat} {m : MV} {v : HV} {a : Option Addr} {L : List (Option (Nat × VOp))} {I : List Int} {e : Env} {Q : LExit → Env → LHeap → Prop}
set_option maxHeartbeats 1000000 in
theorem voC_ev (h : OW H K s m v a L I) (p : PJ s i m v L I) (hs : s = 2 ∨ s = 4 ∨ s = 8) (hn8 : v.l.length ≤ 8)
    (e7 : LK.look e 7 = ptr H.length) (e8 : LK.look e 8 = ptr (H.length + 3)) (e10 : LK.look e 10 = ptr (H.length + 5))
    (hQ : ∀ e' H', LK.look e' 6 = .bool true → Q .ret e' H') : XW (callE T) H.length voC e K Q := by
  have hKl := h.len
  have hrr := lget_at h.rr
  obtain ⟨w, cl⟩ := p.cl
  unfold voC
  simp -dsimp only [go_sem, Nat.reduceEqDiff, Nat.reduceAdd, Nat.reduceSub, Nat.reduceMul, Nat.reduceLeDiff, Nat.reduceLT, Nat.reduceBEq, Int.reduceLT, Int.reduceLE, Int.reduceGT, Int.reduceGE, Int.reduceEq, Int.reduceNe, Int.reduceBEq, Int.reduceBNe, Int.reduceAdd, Int.reduceSub, Int.reduceMul, Int.reduceToNat, Int.reduceNeg, ↓reduceIte, ↓reduceDIte, e7, e10, hrr]
  refine CT_of (calls_ev (by omega) h.log (by omega)) ?_
  rintro _ _ ⟨a', t, rfl, rfl, g⟩
  have h2 := h.app t
  have hrr2 := lget_at h2.rr
  have l2 : H.length ≤ (K ++ t).length := by simp; omega
  simp -dsimp only [go_sem, Nat.reduceEqDiff, Nat.reduceAdd, Nat.reduceSub, Nat.reduceMul, Nat.reduceLeDiff, Nat.reduceLT, Nat.reduceBEq, Int.reduceLT, Int.reduceLE, Int.reduceGT, Int.reduceGE, Int.reduceEq, Int.reduceNe, Int.reduceBEq, Int.reduceBNe, Int.reduceAdd, Int.reduceSub, Int.reduceMul, Int.reduceToNat, Int.reduceNeg, ↓reduceIte, ↓reduceDIte, hrr2]
  refine CT_of (fifo_ev (cap := (s : Int)) l2 g (Nat.le_refl _) (by omega)) ?_
  rintro _ _ ⟨t2, rfl, hm⟩
  have hf := p.found (by omega)
  cases hq : searchF v.l (stepM (s : Int) v.l 2) with
  | none => rw [hq] at hf; cases hf
  | some r =>
    rw [hq] at hm
    simp only [SchRes] at hm
    obtain ⟨a4, oc, rfl, _⟩ := hm
    have h3 := h.app (t ++ t2)
    simp -dsimp only [go_sem, Nat.reduceEqDiff, Nat.reduceAdd, Nat.reduceSub, Nat.reduceMul, Nat.reduceLeDiff, Nat.reduceLT, Nat.reduceBEq, Int.reduceLT, Int.reduceLE, Int.reduceGT, Int.reduceGE, Int.reduceEq, Int.reduceNe, Int.reduceBEq, Int.reduceBNe, Int.reduceAdd, Int.reduceSub, Int.reduceMul, Int.reduceToNat, Int.reduceNeg, ↓reduceIte, ↓reduceDIte, e8]
    refine CT_val (trap_c h3.mem cl) ?_
    simp -dsimp only [go_sem, Nat.reduceEqDiff, Nat.reduceAdd, Nat.reduceSub, Nat.reduceMul, Nat.reduceLeDiff, Nat.reduceLT, Nat.reduceBEq, Int.reduceLT, Int.reduceLE, Int.reduceGT, Int.reduceGE, Int.reduceEq, Int.reduceNe, Int.reduceBEq, Int.reduceBNe, Int.reduceAdd, Int.reduceSub, Int.reduceMul, Int.reduceToNat, Int.reduceNeg, ↓reduceIte, ↓reduceDIte]
    refine CT_val (one_ev _ _) ?_
    simp -dsimp only [go_sem, Nat.reduceEqDiff, Nat.reduceAdd, Nat.reduceSub, Nat.reduceMul, Nat.reduceLeDiff, Nat.reduceLT, Nat.reduceBEq, Int.reduceLT, Int.reduceLE, Int.reduceGT, Int.reduceGE, Int.reduceEq, Int.reduceNe, Int.reduceBEq, Int.reduceBNe, Int.reduceAdd, Int.reduceSub, Int.reduceMul, Int.reduceToNat, Int.reduceNeg, ↓reduceIte, ↓reduceDIte]
    exact hQ _ _ rfl
structure OS where
  i : Nat
  nx : Nat
  m : MV
  v : HV
  a : Option Addr
  L : List (Option (Nat × VOp))
  I : List Int
  K : LHeap
structure OSI (H : LHeap) (s : Nat) (x : OS) : Prop where
  hi : x.i ≤ 160
  ow : OW H x.K s x.m x.v x.a x.L x.I
  pj : PJ s x.i x.m x.v x.L x.I
  nl : x.v.l.length = x.nx
  n8 : x.nx ≤ 8
  hw : x.v.now ≤ 2 * (x.i : Int)
set_option maxHeartbeats 2000000 in
theorem orders_ev {lim : Nat} {n : Int} {a1 a2 : Option Addr} {l : List Ask} {P : List Int} (hl : Sl 3 H a1 (l.flatMap Ask.cells)) (hp : Sl 1 H a2 (P.map i64)) :
    callE T 7 lim [i64 n, .slice a1 l.length l.length, .slice a2 P.length P.length] H fun v H' => v = .bool true := by
  refine callE_pop (code := VO) rfl (by simp) rfl ?_
  unfold VO
  obtain ⟨s, hs, two⟩ := two_ev H.length H n
  have s2 : 2 ≤ s := by omega
  have s8 : s ≤ 8 := by omega
  have hr := right_two hs
  have w1 : IntKind.i64.wrap (2 * (s : Int)) = 2 * s := by rw [wrap_i64] <;> omega
  have w2 : IntKind.i64.wrap (2 + 2 * (s : Int)) = 2 + 2 * s := by rw [wrap_i64] <;> omega
  simp -dsimp only [go_sem, Nat.reduceEqDiff, Nat.reduceAdd, Nat.reduceSub, Nat.reduceMul, Nat.reduceLeDiff, Nat.reduceLT, Nat.reduceBEq, Int.reduceLT, Int.reduceLE, Int.reduceGT, Int.reduceGE, Int.reduceEq, Int.reduceNe, Int.reduceBEq, Int.reduceBNe, Int.reduceAdd, Int.reduceSub, Int.reduceMul, Int.reduceToNat, Int.reduceNeg, ↓reduceIte, ↓reduceDIte]
  refine CT_val two ?_
  simp -dsimp only [go_sem, Nat.reduceEqDiff, Nat.reduceAdd, Nat.reduceSub, Nat.reduceMul, Nat.reduceLeDiff, Nat.reduceLT, Nat.reduceBEq, Int.reduceLT, Int.reduceLE, Int.reduceGT, Int.reduceGE, Int.reduceEq, Int.reduceNe, Int.reduceBEq, Int.reduceBNe, Int.reduceAdd, Int.reduceSub, Int.reduceMul, Int.reduceToNat, Int.reduceNeg, ↓reduceIte, ↓reduceDIte, w1, w2]
  refine CT_of (new_ev (by simp)) ?_
  rintro _ _ h
  rw [if_neg (by omega)] at h
  obtain ⟨rfl, rfl⟩ := h
  have en : (2 + 2 * (s : Int)).toNat = 2 + 2 * s := by omega
  rw [en]
  have ok := MV.Ok.new (n := 2 + 2 * s) (by omega) (by omega)
  have cl0 := Clean.new (n := 2 + 2 * s) (by omega) (by omega)
  have few0 := MV.Few.new (2 + 2 * s)
  generalize MV.new (2 + 2 * s) = m0 at ok cl0 few0 ⊢
  have mm := fun (m : MV) (ok : m.Ok (2 + 2 * s)) l => mem_at (H := H) (pre := [rro ⟨0, s⟩]) (t := l) ok
  simp only [List.length_cons, List.length_nil, Nat.zero_add, List.cons_append, List.nil_append, Nat.reduceAdd] at mm
  simp -dsimp only [go_sem, Nat.reduceEqDiff, Nat.reduceAdd, Nat.reduceSub, Nat.reduceMul, Nat.reduceLeDiff, Nat.reduceLT, Nat.reduceBEq, Int.reduceLT, Int.reduceLE, Int.reduceGT, Int.reduceGE, Int.reduceEq, Int.reduceNe, Int.reduceBEq, Int.reduceBNe, Int.reduceAdd, Int.reduceSub, Int.reduceMul, Int.reduceToNat, Int.reduceNeg, ↓reduceIte, ↓reduceDIte, Nat.add_assoc]
  refine CT_of (setup_ev (r := ⟨0, s⟩) (a := 0) (s := s) (mm _ ok _) cl0 few0 (by omega) hr rfl rfl (by omega)) ?_
  rintro _ _ ⟨m1, cl1, few1, rfl, rfl⟩
  simp -dsimp only [go_sem, Nat.reduceEqDiff, Nat.reduceAdd, Nat.reduceSub, Nat.reduceMul, Nat.reduceLeDiff, Nat.reduceLT, Nat.reduceBEq, Int.reduceLT, Int.reduceLE, Int.reduceGT, Int.reduceGE, Int.reduceEq, Int.reduceNe, Int.reduceBEq, Int.reduceBNe, Int.reduceAdd, Int.reduceSub, Int.reduceMul, Int.reduceToNat, Int.reduceNeg, ↓reduceIte, ↓reduceDIte, memPut]
  refine CT_of lognew_ev ?_
  rintro _ _ ⟨rfl, rfl⟩
  simp -dsimp only [go_sem, Nat.reduceEqDiff, Nat.reduceAdd, Nat.reduceSub, Nat.reduceMul, Nat.reduceLeDiff, Nat.reduceLT, Nat.reduceBEq, Int.reduceLT, Int.reduceLE, Int.reduceGT, Int.reduceGE, Int.reduceEq, Int.reduceNe, Int.reduceBEq, Int.reduceBNe, Int.reduceAdd, Int.reduceSub, Int.reduceMul, Int.reduceToNat, Int.reduceNeg, ↓reduceIte, ↓reduceDIte, Nat.add_assoc]
  have okm1 : m1.Ok (2 + 2 * s) := by have := cl1.ok; rwa [vlay_len] at this
  refine LT_of (fun x : OS => [(1, .slice a1 l.length l.length), (2, .slice a2 P.length P.length), (7, ptr H.length), (8, ptr (H.length + 3)), (10, ptr (H.length + 5)), (11, ptr (H.length + 6)), (12, ptr (H.length + 7)), (13, i64 x.nx), (14, i64 x.i)]) (fun x => x.K) (OSI H s) (fun x => 160 - x.i)
    ⟨0, 0, m1, { l := [], op := [], now := 0 }, none, List.replicate 4 none, List.replicate 4 0, _⟩ rfl rfl ⟨by simp, ?_, PJ.zero s2 cl1, rfl, by simp, by simp⟩ ?_
  · refine ⟨by simp, fun j hj => List.getElem?_append_left hj, get_app0 _ _, mm m1 okm1 _, ?_, get_app _ _ 6, get_app _ _ 7, OpsAt.none 4, Fresh.nil _, fun j q x hj => ?_⟩
    · exact ⟨get_app _ _ 5, get_app _ _ 4, .inl ⟨rfl, rfl⟩, by omega, by omega, Fresh.nil _, by omega, (fun x hx => by cases hx), (fun x hx => by cases hx)⟩
    · rw [List.getElem?_replicate] at hj; split at hj <;> simp at hj
  rintro ⟨i, nx, m, v, a, L, I, K⟩ ⟨hi, ow, pj, nl, n8, hw⟩
  simp only at hi ow pj nl n8 hw ⊢
  have fin : ∀ e', LK.look e' 7 = ptr H.length → LK.look e' 8 = ptr (H.length + 3) → LK.look e' 10 = ptr (H.length + 5) → XW (callE T) H.length voC e' K (endK [LRes.tmp 6] true (List.length H) fun v H' => v = Value.bool true) := fun e' e7 e8 e10 =>
    voC_ev ow pj hs (by omega) e7 e8 e10 (fun e' H' h => by simp -dsimp only [go_sem, Nat.reduceEqDiff, Nat.reduceAdd, Nat.reduceSub, Nat.reduceMul, Nat.reduceLeDiff, Nat.reduceLT, Nat.reduceBEq, Int.reduceLT, Int.reduceLE, Int.reduceGT, Int.reduceGE, Int.reduceEq, Int.reduceNe, Int.reduceBEq, Int.reduceBNe, Int.reduceAdd, Int.reduceSub, Int.reduceMul, Int.reduceToNat, Int.reduceNeg, ↓reduceIte, ↓reduceDIte, h])
  by_cases c1 : i < P.length
  · have c1' : (i : Int) < P.length := by omega
    by_cases c2 : i < 160
    · have c2' : (i : Int) < 160 := by omega
      have i0 : 0 ≤ (i : Int) := by omega
      have hw1 : IntKind.i64.wrap ((i : Int) + 1) = ((i + 1 : Nat) : Int) := by rw [wrap_i64] <;> omega
      obtain ⟨t0, ht0⟩ := ow.arg
      have hp' := hp.app t0
      rw [← ht0] at hp'
      obtain ⟨b2, o2, rfl, _, gp⟩ := hp'.all (by simp; omega)
      have gp := gp [] i _ (show (P.map i64)[i]? = some (i64 P[i]) by simp [c1])
      rw [List.append_nil] at gp
      obtain ⟨d, hd, d0, d3⟩ := andK P[i] 3 (by decide)
      have d3 : d ≤ 3 := d3
      obtain ⟨th, rfl⟩ := Int.eq_ofNat_of_zero_le d0
      have hth : th < 4 := by omega
      simp -dsimp only [go_sem, Nat.reduceEqDiff, Nat.reduceAdd, Nat.reduceSub, Nat.reduceMul, Nat.reduceLeDiff, Nat.reduceLT, Nat.reduceBEq, Int.reduceLT, Int.reduceLE, Int.reduceGT, Int.reduceGE, Int.reduceEq, Int.reduceNe, Int.reduceBEq, Int.reduceBNe, Int.reduceAdd, Int.reduceSub, Int.reduceMul, Int.reduceToNat, Int.reduceNeg, ↓reduceIte, ↓reduceDIte, c1', c2', i0, gp]
      refine CT_val (thread_ev hd) ?_
      simp -dsimp only [go_sem, Nat.reduceEqDiff, Nat.reduceAdd, Nat.reduceSub, Nat.reduceMul, Nat.reduceLeDiff, Nat.reduceLT, Nat.reduceBEq, Int.reduceLT, Int.reduceLE, Int.reduceGT, Int.reduceGE, Int.reduceEq, Int.reduceNe, Int.reduceBEq, Int.reduceBNe, Int.reduceAdd, Int.reduceSub, Int.reduceMul, Int.reduceToNat, Int.reduceNeg, ↓reduceIte, ↓reduceDIte]
      refine voA_ev hl ow pj hs (by omega) nl n8 (by omega) hth (by simp -dsimp only [go_sem, Nat.reduceEqDiff, Nat.reduceAdd, Nat.reduceSub, Nat.reduceMul, Nat.reduceLeDiff, Nat.reduceLT, Nat.reduceBEq, Int.reduceLT, Int.reduceLE, Int.reduceGT, Int.reduceGE, Int.reduceEq, Int.reduceNe, Int.reduceBEq, Int.reduceBNe, Int.reduceAdd, Int.reduceSub, Int.reduceMul, Int.reduceToNat, Int.reduceNeg, ↓reduceIte, ↓reduceDIte]) (by simp -dsimp only [go_sem, Nat.reduceEqDiff, Nat.reduceAdd, Nat.reduceSub, Nat.reduceMul, Nat.reduceLeDiff, Nat.reduceLT, Nat.reduceBEq, Int.reduceLT, Int.reduceLE, Int.reduceGT, Int.reduceGE, Int.reduceEq, Int.reduceNe, Int.reduceBEq, Int.reduceBNe, Int.reduceAdd, Int.reduceSub, Int.reduceMul, Int.reduceToNat, Int.reduceNeg, ↓reduceIte, ↓reduceDIte]) (by simp -dsimp only [go_sem, Nat.reduceEqDiff, Nat.reduceAdd, Nat.reduceSub, Nat.reduceMul, Nat.reduceLeDiff, Nat.reduceLT, Nat.reduceBEq, Int.reduceLT, Int.reduceLE, Int.reduceGT, Int.reduceGE, Int.reduceEq, Int.reduceNe, Int.reduceBEq, Int.reduceBNe, Int.reduceAdd, Int.reduceSub, Int.reduceMul, Int.reduceToNat, Int.reduceNeg, ↓reduceIte, ↓reduceDIte]) (by simp -dsimp only [go_sem, Nat.reduceEqDiff, Nat.reduceAdd, Nat.reduceSub, Nat.reduceMul, Nat.reduceLeDiff, Nat.reduceLT, Nat.reduceBEq, Int.reduceLT, Int.reduceLE, Int.reduceGT, Int.reduceGE, Int.reduceEq, Int.reduceNe, Int.reduceBEq, Int.reduceBNe, Int.reduceAdd, Int.reduceSub, Int.reduceMul, Int.reduceToNat, Int.reduceNeg, ↓reduceIte, ↓reduceDIte]) (by simp -dsimp only [go_sem, Nat.reduceEqDiff, Nat.reduceAdd, Nat.reduceSub, Nat.reduceMul, Nat.reduceLeDiff, Nat.reduceLT, Nat.reduceBEq, Int.reduceLT, Int.reduceLE, Int.reduceGT, Int.reduceGE, Int.reduceEq, Int.reduceNe, Int.reduceBEq, Int.reduceBNe, Int.reduceAdd, Int.reduceSub, Int.reduceMul, Int.reduceToNat, Int.reduceNeg, ↓reduceIte, ↓reduceDIte]) (by simp -dsimp only [go_sem, Nat.reduceEqDiff, Nat.reduceAdd, Nat.reduceSub, Nat.reduceMul, Nat.reduceLeDiff, Nat.reduceLT, Nat.reduceBEq, Int.reduceLT, Int.reduceLE, Int.reduceGT, Int.reduceGE, Int.reduceEq, Int.reduceNe, Int.reduceBEq, Int.reduceBNe, Int.reduceAdd, Int.reduceSub, Int.reduceMul, Int.reduceToNat, Int.reduceNeg, ↓reduceIte, ↓reduceDIte]) (by simp -dsimp only [go_sem, Nat.reduceEqDiff, Nat.reduceAdd, Nat.reduceSub, Nat.reduceMul, Nat.reduceLeDiff, Nat.reduceLT, Nat.reduceBEq, Int.reduceLT, Int.reduceLE, Int.reduceGT, Int.reduceGE, Int.reduceEq, Int.reduceNe, Int.reduceBEq, Int.reduceBNe, Int.reduceAdd, Int.reduceSub, Int.reduceMul, Int.reduceToNat, Int.reduceNeg, ↓reduceIte, ↓reduceDIte]) (by simp -dsimp only [go_sem, Nat.reduceEqDiff, Nat.reduceAdd, Nat.reduceSub, Nat.reduceMul, Nat.reduceLeDiff, Nat.reduceLT, Nat.reduceBEq, Int.reduceLT, Int.reduceLE, Int.reduceGT, Int.reduceGE, Int.reduceEq, Int.reduceNe, Int.reduceBEq, Int.reduceBNe, Int.reduceAdd, Int.reduceSub, Int.reduceMul, Int.reduceToNat, Int.reduceNeg, ↓reduceIte, ↓reduceDIte]) ?_
      intro y e' K' m' v' a' L' I' nx' hy he e13 ow' pj' nl' n8' hw'
      have k1 : LK.look e' 1 = .slice a1 l.length l.length := (restrict_look he (k := 1) (by decide)).trans rfl
      have k2 : LK.look e' 2 = .slice (some ⟨b2, o2, none⟩) P.length P.length := (restrict_look he (k := 2) (by decide)).trans rfl
      have k7 : LK.look e' 7 = ptr H.length := (restrict_look he (k := 7) (by decide)).trans rfl
      have k8 : LK.look e' 8 = ptr (H.length + 3) := (restrict_look he (k := 8) (by decide)).trans rfl
      have k10 : LK.look e' 10 = ptr (H.length + 5) := (restrict_look he (k := 10) (by decide)).trans rfl
      have k11 : LK.look e' 11 = ptr (H.length + 6) := (restrict_look he (k := 11) (by decide)).trans rfl
      have k12 : LK.look e' 12 = ptr (H.length + 7) := (restrict_look he (k := 12) (by decide)).trans rfl
      have k14 : LK.look e' 14 = i64 i := (restrict_look he (k := 14) (by decide)).trans rfl
      have nxt : OSI H s ⟨i + 1, nx', m', v', a', L', I', K'⟩ := ⟨by simp only; omega, ow', pj', nl', n8', by simp only; omega⟩
      rcases hy with rfl | rfl
      · simp -dsimp only [go_sem, Nat.reduceEqDiff, Nat.reduceAdd, Nat.reduceSub, Nat.reduceMul, Nat.reduceLeDiff, Nat.reduceLT, Nat.reduceBEq, Int.reduceLT, Int.reduceLE, Int.reduceGT, Int.reduceGE, Int.reduceEq, Int.reduceNe, Int.reduceBEq, Int.reduceBNe, Int.reduceAdd, Int.reduceSub, Int.reduceMul, Int.reduceToNat, Int.reduceNeg, ↓reduceIte, ↓reduceDIte, k1, k2, k7, k8, k10, k11, k12, k14, e13, hw1]
        exact ⟨⟨i + 1, nx', m', v', a', L', I', K'⟩, rfl, rfl, nxt, by simp only; omega⟩
      · simp -dsimp only [go_sem, Nat.reduceEqDiff, Nat.reduceAdd, Nat.reduceSub, Nat.reduceMul, Nat.reduceLeDiff, Nat.reduceLT, Nat.reduceBEq, Int.reduceLT, Int.reduceLE, Int.reduceGT, Int.reduceGE, Int.reduceEq, Int.reduceNe, Int.reduceBEq, Int.reduceBNe, Int.reduceAdd, Int.reduceSub, Int.reduceMul, Int.reduceToNat, Int.reduceNeg, ↓reduceIte, ↓reduceDIte, k1, k2, k7, k8, k10, k11, k12, k14, e13, hw1]
        exact ⟨⟨i + 1, nx', m', v', a', L', I', K'⟩, rfl, rfl, nxt, by simp only; omega⟩
    · have c2' : ¬ (i : Int) < 160 := by omega
      simp -dsimp only [go_sem, Nat.reduceEqDiff, Nat.reduceAdd, Nat.reduceSub, Nat.reduceMul, Nat.reduceLeDiff, Nat.reduceLT, Nat.reduceBEq, Int.reduceLT, Int.reduceLE, Int.reduceGT, Int.reduceGE, Int.reduceEq, Int.reduceNe, Int.reduceBEq, Int.reduceBNe, Int.reduceAdd, Int.reduceSub, Int.reduceMul, Int.reduceToNat, Int.reduceNeg, ↓reduceIte, ↓reduceDIte, c1', c2']
      exact fin _ rfl rfl rfl
  · have c1' : ¬ (i : Int) < P.length := by omega
    simp -dsimp only [go_sem, Nat.reduceEqDiff, Nat.reduceAdd, Nat.reduceSub, Nat.reduceMul, Nat.reduceLeDiff, Nat.reduceLT, Nat.reduceBEq, Int.reduceLT, Int.reduceLE, Int.reduceGT, Int.reduceGE, Int.reduceEq, Int.reduceNe, Int.reduceBEq, Int.reduceBNe, Int.reduceAdd, Int.reduceSub, Int.reduceMul, Int.reduceToNat, Int.reduceNeg, ↓reduceIte, ↓reduceDIte, c1']
    exact fin _ rfl rfl rfl
end
end Go.Proofs.Ytgipbamdefjenaa
