/- DROP The statement CrqOrders: operations that begin. -/
import Derived.Test.YtopjhhcncjleaaaKE
namespace Go.Proofs.Ytopjhhcncjleaaa
open Go Go.LK
set_option linter.unusedSimpArgs false
set_option linter.unusedVariables false
abbrev keepW : List Tmp := [1, 2, 7, 8, 10, 11, 12, 14]
section
variable {H K : LHeap} {s i j nx : Nat} {m : MV} {v : HV} {a a1 : Option Addr} {L : List (Option (Nat × COp))} {I : List Int} {e : Env} {Q : LExit → Env → LHeap → Prop} {l : List Ask}
set_option maxHeartbeats 1000000 in
theorem coA_ev (hsl : Sl 3 H a1 (l.flatMap Ask.cells)) (h : OW H K s m v a L I) (p : PC s i m v L I) (hs : s = 1 ∨ s = 2 ∨ s = 4 ∨ s = 8) (hi : i < 1000) (hnx : v.l.length = nx) (hn8 : nx ≤ 8) (hw : v.now ≤ 5000) (hj : j < 4)
    (e1 : LK.look e 1 = .slice a1 l.length l.length) (e7 : LK.look e 7 = ptr H.length) (e8 : LK.look e 8 = ptr (H.length + 3)) (e10 : LK.look e 10 = ptr (H.length + 5)) (e11 : LK.look e 11 = ptr (H.length + 6)) (e12 : LK.look e 12 = ptr (H.length + 7)) (e13 : LK.look e 13 = i64 nx) (e15 : LK.look e 15 = i64 j)
    (hQ : ∀ (y : LExit) e' K' m' v' a' L' I' nx', (y = .normal ∨ y = .exit 1) → restrict keepW e' = restrict keepW e → LK.look e' 13 = i64 (nx' : Nat) → OW H K' s m' v' a' L' I' → PC s (i + 1) m' v' L' I' → v'.l.length = nx' → nx' ≤ 8 → v'.now ≤ v.now + 2 → Q y e' K') :
    XW (callE T) H.length coA e K Q := by
  have hr := right_pow hs
  have hKl := h.len
  have hll := p.ll
  have hli := p.li
  have j0 : 0 ≤ (j : Int) := by omega
  have j4' : (j : Int) < 4 := by omega
  have j5 : j + 1 ≤ 4 := by omega
  have kx : ∀ e' e'' : Env, restrict keepV e' = restrict keepV e'' → restrict keepW e'' = restrict keepW e → restrict keepW e' = restrict keepW e := by
    intro e' e'' g g'
    have q : ∀ k ∈ keepV, LK.look e' k = LK.look e'' k := fun k hk => restrict_look g hk
    rw [← g']
    simp only [restrict, List.map_cons, List.map_nil]
    rw [q 1 (by decide), q 2 (by decide), q 7 (by decide), q 8 (by decide), q 10 (by decide), q 11 (by decide), q 12 (by decide), q 14 (by decide)]
  unfold coA
  obtain ⟨o, ho⟩ : ∃ o, L[j]? = some o := ⟨_, List.getElem?_eq_getElem (by omega)⟩
  have hLj : (L.map cpv)[j]? = some (cpv o) := by rw [List.getElem?_map, ho]; rfl
  cases o with
  | some z =>
    obtain ⟨q, x⟩ := z
    simp -dsimp only [go_sem, Nat.reduceEqDiff, Nat.reduceAdd, Nat.reduceSub, Nat.reduceMul, Nat.reduceLeDiff, Nat.reduceLT, Nat.reduceBEq, Int.reduceLT, Int.reduceLE, Int.reduceGT, Int.reduceGE, Int.reduceEq, Int.reduceNe, Int.reduceBEq, Int.reduceBNe, Int.reduceAdd, Int.reduceSub, Int.reduceMul, Int.reduceToNat, Int.reduceNeg, ↓reduceIte, ↓reduceDIte, e11, e15, j0, j4', lget_at h.arr, hLj, cpv]
    refine coB_ev h p hs hi (by omega) (by omega) ho e8 e10 e11 e12 e15 ?_
    intro e' K' m' v' a' L' I' he ow' p' g1 g2
    exact hQ .normal e' K' m' v' a' L' I' nx (.inl rfl) (kx _ _ he rfl) ((restrict_look he (by decide)).trans e13) ow' p' (by omega) hn8 (by omega)
  | none =>
    by_cases hnl : l.length ≤ nx
    · have hnl' : (l.length : Int) ≤ nx := by omega
      simp -dsimp only [go_sem, Nat.reduceEqDiff, Nat.reduceAdd, Nat.reduceSub, Nat.reduceMul, Nat.reduceLeDiff, Nat.reduceLT, Nat.reduceBEq, Int.reduceLT, Int.reduceLE, Int.reduceGT, Int.reduceGE, Int.reduceEq, Int.reduceNe, Int.reduceBEq, Int.reduceBNe, Int.reduceAdd, Int.reduceSub, Int.reduceMul, Int.reduceToNat, Int.reduceNeg, ↓reduceIte, ↓reduceDIte, e11, e15, j0, j4', lget_at h.arr, hLj, cpv, e13, e1, hnl']
      exact hQ _ _ _ m v a L I nx (.inr rfl) rfl e13 h (p.up (by omega)) hnx hn8 (by omega)
    have hnl' : ¬ (l.length : Int) ≤ nx := by omega
    by_cases hn9 : 8 ≤ nx
    · have hn9' : 8 ≤ (nx : Int) := by omega
      simp -dsimp only [go_sem, Nat.reduceEqDiff, Nat.reduceAdd, Nat.reduceSub, Nat.reduceMul, Nat.reduceLeDiff, Nat.reduceLT, Nat.reduceBEq, Int.reduceLT, Int.reduceLE, Int.reduceGT, Int.reduceGE, Int.reduceEq, Int.reduceNe, Int.reduceBEq, Int.reduceBNe, Int.reduceAdd, Int.reduceSub, Int.reduceMul, Int.reduceToNat, Int.reduceNeg, ↓reduceIte, ↓reduceDIte, e11, e15, j0, j4', lget_at h.arr, hLj, cpv, e13, e1, hnl', hn9']
      exact hQ _ _ _ m v a L I nx (.inr rfl) rfl e13 h (p.up (by omega)) hnx hn8 (by omega)
    have hn9' : ¬ 8 ≤ (nx : Int) := by omega
    have hlt : nx < l.length := by omega
    have hlt' : (nx : Int) < l.length := by omega
    have n0' : 0 ≤ (nx : Int) := by omega
    have hw1 : IntKind.i64.wrap ((nx : Int) + 1) = ((nx + 1 : Nat) : Int) := by rw [wrap_i64] <;> omega
    have hrows := fun K0 (g : ∃ t, K0 = H ++ t) => show Sl 3 K0 a1 (l.flatMap Ask.cells) from by obtain ⟨t, rfl⟩ := g; exact hsl.app t
    obtain ⟨ba, oa, rfl, _⟩ := hsl.rowsAt (f := Ask.cells) Ask.len (by omega) (by omega)
    have cellsAt : ∀ K0, (∃ t, K0 = H ++ t) → lcells K0 ba (oa + nx * 3) 3 = some (Ask.cells l[nx]) ∧ lget K0 ba (oa + nx * 3 + 1) = some (i64 (l[nx].kind)) ∧ lget K0 ba (oa + nx * 3 + 2) = some (w64 (l[nx].arg)) := by
      intro K0 g
      obtain ⟨b', o', e', _, hgc, hgl⟩ := (hrows K0 g).rowsAt (f := Ask.cells) Ask.len (by omega) (by omega)
      cases e'
      have g0 := hgc [] nx _ (List.getElem?_eq_getElem hlt)
      have g1 := hgl [] nx _ 1 (List.getElem?_eq_getElem hlt) (by omega)
      have g2 := hgl [] nx _ 2 (List.getElem?_eq_getElem hlt) (by omega)
      rw [List.append_nil] at g0 g1 g2
      exact ⟨g0, g1, g2⟩
    generalize l[nx] = c at cellsAt
    have gc := (cellsAt K h.arg).1
    simp only [Ask.cells] at gc
    have hrc : lcells K H.length 0 2 = some [i64 0, i64 s] := lcells_of h.rr rfl
    obtain ⟨d, hd, d0, d1⟩ := andK c.kind 1 (by decide)
    have d1 : d ≤ 1 := d1
    have dd : d = 0 ∨ d = 1 := by omega
    have gk := (cellsAt K h.arg).2.1
    have ga := (cellsAt K h.arg).2.2
    obtain ⟨val, hval⟩ : ∃ val : BitVec 64, val = c.arg &&& 65535#64 := ⟨_, rfl⟩
    have v1 : val.toNat ≤ 65535 := by
      rw [hval, BitVec.toNat_and]
      exact Nat.and_le_right
    have v2 : val + 1#64 ≠ 0#64 := fun q => by
      have := congrArg BitVec.toNat q
      rw [BitVec.toNat_add] at this
      change (val.toNat + 1) % 18446744073709551616 = 0 at this
      omega
    have v3 : val >>> 62 = 0#64 := by
      apply BitVec.eq_of_toNat_eq
      rw [BitVec.toNat_ushiftRight, Nat.shiftRight_eq_div_pow]
      show val.toNat / 4611686018427387904 = 0
      omega
    have q0 : val * BitVec.ofInt 64 (IntKind.i64.wrap 1) = val := by
      rw [show IntKind.i64.wrap 1 = 1 by decide, show BitVec.ofInt 64 1 = 1#64 by decide, BitVec.mul_one]
    have q1 : val * BitVec.ofInt 64 (IntKind.i64.wrap 0) = 0#64 := by
      rw [show IntKind.i64.wrap 0 = 0 by decide, show BitVec.ofInt 64 0 = 0#64 by decide, BitVec.mul_zero]
    rcases dd with rfl | rfl
    · have dd : (0 : Int) = 0 ∨ (0 : Int) = 1 := .inl rfl
      simp -dsimp only [go_sem, Nat.reduceEqDiff, Nat.reduceAdd, Nat.reduceSub, Nat.reduceMul, Nat.reduceLeDiff, Nat.reduceLT, Nat.reduceBEq, Int.reduceLT, Int.reduceLE, Int.reduceGT, Int.reduceGE, Int.reduceEq, Int.reduceNe, Int.reduceBEq, Int.reduceBNe, Int.reduceAdd, Int.reduceSub, Int.reduceMul, Int.reduceToNat, Int.reduceNeg, ↓reduceIte, ↓reduceDIte, e11, e15, j0, j4', lget_at h.arr, hLj, cpv, e13, e1, e7, hnl', hn9', n0', hlt', hrc, gk, ga, hd, ← hval]
      rw [q0]
      refine CT_of (beg_ev (r := ⟨0, s⟩) (k := 0) (v := val) (by omega) hr (.inl rfl) (fun _ => v3) (fun q => absurd rfl q)) ?_
      rintro _ _ ⟨u1, u2, u3, rfl, rfl⟩
      have ow1 := h.opnew (t := [u1, u2, u3, crw (qop ⟨0, s⟩ 0 val)]) (j := j) (q := K.length + 3) (x := qop ⟨0, s⟩ 0 val) (by omega) (by rw [get_app]; rfl)
      have e1' := (h.app [u1, u2, u3, crw (qop ⟨0, s⟩ 0 val)]).arr
      have hb1 : H.length + 6 < (K ++ [u1, u2, u3, crw (qop ⟨0, s⟩ 0 val)]).length := by simp; omega
      rw [show c0 ⟨0, s⟩ 0 val = qop ⟨0, s⟩ 0 val from rfl]
      generalize K ++ [u1, u2, u3, crw (qop ⟨0, s⟩ 0 val)] = K1 at ow1 e1' hb1 ⊢
      have eN : (L.map cpv).set j (ptr (K.length + 3)) = (L.set j (some (K.length + 3, qop ⟨0, s⟩ 0 val))).map cpv := by
        rw [show ptr (K.length + 3) = cpv (some (K.length + 3, qop ⟨0, s⟩ 0 val)) from rfl, ← List.map_set]
      have lim6 : H.length ≤ H.length + 6 := by omega
      have hLl : (L.map cpv).length = 4 := by simp [hll]
      simp -dsimp only [go_sem, Nat.reduceEqDiff, Nat.reduceAdd, Nat.reduceSub, Nat.reduceMul, Nat.reduceLeDiff, Nat.reduceLT, Nat.reduceBEq, Int.reduceLT, Int.reduceLE, Int.reduceGT, Int.reduceGE, Int.reduceEq, Int.reduceNe, Int.reduceBEq, Int.reduceBNe, Int.reduceAdd, Int.reduceSub, Int.reduceMul, Int.reduceToNat, Int.reduceNeg, ↓reduceIte, ↓reduceDIte, e11, e15, j0, j4', j5, take_app_n, get_app_n, get_app_n0, set_app_n, set_app_n0, lget_app_n, lget_app_n0, lcells_app_n, lcells_app_n0, List.length_set, List.take_of_length_le, List.set_set, get_left, set_left, lget_left, lcells_left, get_set_eq, get_set_ne, lget_set_eq, lget_set_ne, lcells_set_ne, e1', hb1, lim6, hLl, eN]
      generalize K1.set (H.length + 6) (.row false 0 ((L.set j (some (K.length + 3, qop ⟨0, s⟩ 0 val))).map cpv)) = K2 at ow1 ⊢
      simp -dsimp only [go_sem, Nat.reduceEqDiff, Nat.reduceAdd, Nat.reduceSub, Nat.reduceMul, Nat.reduceLeDiff, Nat.reduceLT, Nat.reduceBEq, Int.reduceLT, Int.reduceLE, Int.reduceGT, Int.reduceGE, Int.reduceEq, Int.reduceNe, Int.reduceBEq, Int.reduceBNe, Int.reduceAdd, Int.reduceSub, Int.reduceMul, Int.reduceToNat, Int.reduceNeg, ↓reduceIte, ↓reduceDIte, e10, e12, e15]
      have hn0 := p.hi.n0
      refine CT_of (begin_ev (Nat.le_refl _) (by have := ow1.len; omega) ow1.log (by omega) (by omega)) ?_
      rintro _ K3 ⟨a3, rfl, g1, g2⟩
      obtain ⟨b1, b2, b3, p1⟩ := p.begin (q := K.length + 3) ho (by omega) v2 (d := 0) dd
      have ow2 := ow1.logs g1 g2
      rw [b1]
      have hK3 := ow2.len
      have hb7 : H.length + 7 < K3.length := by omega
      have lim7 : H.length ≤ H.length + 7 := by omega
      have hir := ow2.idr
      have hIl : (I.map i64).length = 4 := by simp [hli]
      have eI : (I.map i64).set j (i64 (v.l.length : Int)) = (I.set j (v.l.length : Int)).map i64 := by rw [← List.map_set]
      simp -dsimp only [go_sem, Nat.reduceEqDiff, Nat.reduceAdd, Nat.reduceSub, Nat.reduceMul, Nat.reduceLeDiff, Nat.reduceLT, Nat.reduceBEq, Int.reduceLT, Int.reduceLE, Int.reduceGT, Int.reduceGE, Int.reduceEq, Int.reduceNe, Int.reduceBEq, Int.reduceBNe, Int.reduceAdd, Int.reduceSub, Int.reduceMul, Int.reduceToNat, Int.reduceNeg, ↓reduceIte, ↓reduceDIte, e12, e13, e15, j0, j4', j5, take_app_n, get_app_n, get_app_n0, set_app_n, set_app_n0, lget_app_n, lget_app_n0, lcells_app_n, lcells_app_n0, List.length_set, List.take_of_length_le, List.set_set, get_left, set_left, lget_left, lcells_left, get_set_eq, get_set_ne, lget_set_eq, lget_set_ne, lcells_set_ne, hir, hb7, lim7, hIl, eI, hw1]
      have ow3 := ow2.idset (I.set j (v.l.length : Int))
      refine coB_ev ow3 p1 hs hi (by omega) (by omega) (List.getElem?_set_self (by omega)) (by simp -dsimp only [go_sem, Nat.reduceEqDiff, Nat.reduceAdd, Nat.reduceSub, Nat.reduceMul, Nat.reduceLeDiff, Nat.reduceLT, Nat.reduceBEq, Int.reduceLT, Int.reduceLE, Int.reduceGT, Int.reduceGE, Int.reduceEq, Int.reduceNe, Int.reduceBEq, Int.reduceBNe, Int.reduceAdd, Int.reduceSub, Int.reduceMul, Int.reduceToNat, Int.reduceNeg, ↓reduceIte, ↓reduceDIte, e8]) (by simp -dsimp only [go_sem, Nat.reduceEqDiff, Nat.reduceAdd, Nat.reduceSub, Nat.reduceMul, Nat.reduceLeDiff, Nat.reduceLT, Nat.reduceBEq, Int.reduceLT, Int.reduceLE, Int.reduceGT, Int.reduceGE, Int.reduceEq, Int.reduceNe, Int.reduceBEq, Int.reduceBNe, Int.reduceAdd, Int.reduceSub, Int.reduceMul, Int.reduceToNat, Int.reduceNeg, ↓reduceIte, ↓reduceDIte, e10]) (by simp -dsimp only [go_sem, Nat.reduceEqDiff, Nat.reduceAdd, Nat.reduceSub, Nat.reduceMul, Nat.reduceLeDiff, Nat.reduceLT, Nat.reduceBEq, Int.reduceLT, Int.reduceLE, Int.reduceGT, Int.reduceGE, Int.reduceEq, Int.reduceNe, Int.reduceBEq, Int.reduceBNe, Int.reduceAdd, Int.reduceSub, Int.reduceMul, Int.reduceToNat, Int.reduceNeg, ↓reduceIte, ↓reduceDIte, e11]) (by simp -dsimp only [go_sem, Nat.reduceEqDiff, Nat.reduceAdd, Nat.reduceSub, Nat.reduceMul, Nat.reduceLeDiff, Nat.reduceLT, Nat.reduceBEq, Int.reduceLT, Int.reduceLE, Int.reduceGT, Int.reduceGE, Int.reduceEq, Int.reduceNe, Int.reduceBEq, Int.reduceBNe, Int.reduceAdd, Int.reduceSub, Int.reduceMul, Int.reduceToNat, Int.reduceNeg, ↓reduceIte, ↓reduceDIte, e12]) (by simp -dsimp only [go_sem, Nat.reduceEqDiff, Nat.reduceAdd, Nat.reduceSub, Nat.reduceMul, Nat.reduceLeDiff, Nat.reduceLT, Nat.reduceBEq, Int.reduceLT, Int.reduceLE, Int.reduceGT, Int.reduceGE, Int.reduceEq, Int.reduceNe, Int.reduceBEq, Int.reduceBNe, Int.reduceAdd, Int.reduceSub, Int.reduceMul, Int.reduceToNat, Int.reduceNeg, ↓reduceIte, ↓reduceDIte, e15]) ?_
      intro e' K' m' v' a' L' I' he ow' p' g1 g2
      refine hQ .normal e' K' m' v' a' L' I' (nx + 1) (.inl rfl) (kx _ _ he rfl) ?_ ow' p' (by omega) (by omega) (by omega)
      rw [restrict_look he (k := 13) (by decide)]
      simp -dsimp only [go_sem, Nat.reduceEqDiff, Nat.reduceAdd, Nat.reduceSub, Nat.reduceMul, Nat.reduceLeDiff, Nat.reduceLT, Nat.reduceBEq, Int.reduceLT, Int.reduceLE, Int.reduceGT, Int.reduceGE, Int.reduceEq, Int.reduceNe, Int.reduceBEq, Int.reduceBNe, Int.reduceAdd, Int.reduceSub, Int.reduceMul, Int.reduceToNat, Int.reduceNeg, ↓reduceIte, ↓reduceDIte]
    · have dd : (1 : Int) = 0 ∨ (1 : Int) = 1 := .inr rfl
      simp -dsimp only [go_sem, Nat.reduceEqDiff, Nat.reduceAdd, Nat.reduceSub, Nat.reduceMul, Nat.reduceLeDiff, Nat.reduceLT, Nat.reduceBEq, Int.reduceLT, Int.reduceLE, Int.reduceGT, Int.reduceGE, Int.reduceEq, Int.reduceNe, Int.reduceBEq, Int.reduceBNe, Int.reduceAdd, Int.reduceSub, Int.reduceMul, Int.reduceToNat, Int.reduceNeg, ↓reduceIte, ↓reduceDIte, e11, e15, j0, j4', lget_at h.arr, hLj, cpv, e13, e1, e7, hnl', hn9', n0', hlt', hrc, gk, ga, hd, ← hval]
      rw [q1]
      refine CT_of (beg_ev (r := ⟨0, s⟩) (k := 1) (v := 0#64) (by omega) hr (.inr (.inl rfl)) (fun q => by cases q) (fun _ => rfl)) ?_
      rintro _ _ ⟨u1, u2, u3, rfl, rfl⟩
      have ow1 := h.opnew (t := [u1, u2, u3, crw (qop ⟨0, s⟩ 1 val)]) (j := j) (q := K.length + 3) (x := qop ⟨0, s⟩ 1 val) (by omega) (by rw [get_app]; rfl)
      have e1' := (h.app [u1, u2, u3, crw (qop ⟨0, s⟩ 1 val)]).arr
      have hb1 : H.length + 6 < (K ++ [u1, u2, u3, crw (qop ⟨0, s⟩ 1 val)]).length := by simp; omega
      rw [show c0 ⟨0, s⟩ 1 0#64 = qop ⟨0, s⟩ 1 val from rfl]
      generalize K ++ [u1, u2, u3, crw (qop ⟨0, s⟩ 1 val)] = K1 at ow1 e1' hb1 ⊢
      have eN : (L.map cpv).set j (ptr (K.length + 3)) = (L.set j (some (K.length + 3, qop ⟨0, s⟩ 1 val))).map cpv := by
        rw [show ptr (K.length + 3) = cpv (some (K.length + 3, qop ⟨0, s⟩ 1 val)) from rfl, ← List.map_set]
      have lim6 : H.length ≤ H.length + 6 := by omega
      have hLl : (L.map cpv).length = 4 := by simp [hll]
      simp -dsimp only [go_sem, Nat.reduceEqDiff, Nat.reduceAdd, Nat.reduceSub, Nat.reduceMul, Nat.reduceLeDiff, Nat.reduceLT, Nat.reduceBEq, Int.reduceLT, Int.reduceLE, Int.reduceGT, Int.reduceGE, Int.reduceEq, Int.reduceNe, Int.reduceBEq, Int.reduceBNe, Int.reduceAdd, Int.reduceSub, Int.reduceMul, Int.reduceToNat, Int.reduceNeg, ↓reduceIte, ↓reduceDIte, e11, e15, j0, j4', j5, take_app_n, get_app_n, get_app_n0, set_app_n, set_app_n0, lget_app_n, lget_app_n0, lcells_app_n, lcells_app_n0, List.length_set, List.take_of_length_le, List.set_set, get_left, set_left, lget_left, lcells_left, get_set_eq, get_set_ne, lget_set_eq, lget_set_ne, lcells_set_ne, e1', hb1, lim6, hLl, eN]
      generalize K1.set (H.length + 6) (.row false 0 ((L.set j (some (K.length + 3, qop ⟨0, s⟩ 1 val))).map cpv)) = K2 at ow1 ⊢
      simp -dsimp only [go_sem, Nat.reduceEqDiff, Nat.reduceAdd, Nat.reduceSub, Nat.reduceMul, Nat.reduceLeDiff, Nat.reduceLT, Nat.reduceBEq, Int.reduceLT, Int.reduceLE, Int.reduceGT, Int.reduceGE, Int.reduceEq, Int.reduceNe, Int.reduceBEq, Int.reduceBNe, Int.reduceAdd, Int.reduceSub, Int.reduceMul, Int.reduceToNat, Int.reduceNeg, ↓reduceIte, ↓reduceDIte, e10, e12, e15]
      have hn0 := p.hi.n0
      refine CT_of (begin_ev (Nat.le_refl _) (by have := ow1.len; omega) ow1.log (by omega) (by omega)) ?_
      rintro _ K3 ⟨a3, rfl, g1, g2⟩
      obtain ⟨b1, b2, b3, p1⟩ := p.begin (q := K.length + 3) ho (by omega) v2 (d := 1) dd
      have ow2 := ow1.logs g1 g2
      rw [b1]
      have hK3 := ow2.len
      have hb7 : H.length + 7 < K3.length := by omega
      have lim7 : H.length ≤ H.length + 7 := by omega
      have hir := ow2.idr
      have hIl : (I.map i64).length = 4 := by simp [hli]
      have eI : (I.map i64).set j (i64 (v.l.length : Int)) = (I.set j (v.l.length : Int)).map i64 := by rw [← List.map_set]
      simp -dsimp only [go_sem, Nat.reduceEqDiff, Nat.reduceAdd, Nat.reduceSub, Nat.reduceMul, Nat.reduceLeDiff, Nat.reduceLT, Nat.reduceBEq, Int.reduceLT, Int.reduceLE, Int.reduceGT, Int.reduceGE, Int.reduceEq, Int.reduceNe, Int.reduceBEq, Int.reduceBNe, Int.reduceAdd, Int.reduceSub, Int.reduceMul, Int.reduceToNat, Int.reduceNeg, ↓reduceIte, ↓reduceDIte, e12, e13, e15, j0, j4', j5, take_app_n, get_app_n, get_app_n0, set_app_n, set_app_n0, lget_app_n, lget_app_n0, lcells_app_n, lcells_app_n0, List.length_set, List.take_of_length_le, List.set_set, get_left, set_left, lget_left, lcells_left, get_set_eq, get_set_ne, lget_set_eq, lget_set_ne, lcells_set_ne, hir, hb7, lim7, hIl, eI, hw1]
      have ow3 := ow2.idset (I.set j (v.l.length : Int))
      refine coB_ev ow3 p1 hs hi (by omega) (by omega) (List.getElem?_set_self (by omega)) (by simp -dsimp only [go_sem, Nat.reduceEqDiff, Nat.reduceAdd, Nat.reduceSub, Nat.reduceMul, Nat.reduceLeDiff, Nat.reduceLT, Nat.reduceBEq, Int.reduceLT, Int.reduceLE, Int.reduceGT, Int.reduceGE, Int.reduceEq, Int.reduceNe, Int.reduceBEq, Int.reduceBNe, Int.reduceAdd, Int.reduceSub, Int.reduceMul, Int.reduceToNat, Int.reduceNeg, ↓reduceIte, ↓reduceDIte, e8]) (by simp -dsimp only [go_sem, Nat.reduceEqDiff, Nat.reduceAdd, Nat.reduceSub, Nat.reduceMul, Nat.reduceLeDiff, Nat.reduceLT, Nat.reduceBEq, Int.reduceLT, Int.reduceLE, Int.reduceGT, Int.reduceGE, Int.reduceEq, Int.reduceNe, Int.reduceBEq, Int.reduceBNe, Int.reduceAdd, Int.reduceSub, Int.reduceMul, Int.reduceToNat, Int.reduceNeg, ↓reduceIte, ↓reduceDIte, e10]) (by simp -dsimp only [go_sem, Nat.reduceEqDiff, Nat.reduceAdd, Nat.reduceSub, Nat.reduceMul, Nat.reduceLeDiff, Nat.reduceLT, Nat.reduceBEq, Int.reduceLT, Int.reduceLE, Int.reduceGT, Int.reduceGE, Int.reduceEq, Int.reduceNe, Int.reduceBEq, Int.reduceBNe, Int.reduceAdd, Int.reduceSub, Int.reduceMul, Int.reduceToNat, Int.reduceNeg, ↓reduceIte, ↓reduceDIte, e11]) (by simp -dsimp only [go_sem, Nat.reduceEqDiff, Nat.reduceAdd, Nat.reduceSub, Nat.reduceMul, Nat.reduceLeDiff, Nat.reduceLT, Nat.reduceBEq, Int.reduceLT, Int.reduceLE, Int.reduceGT, Int.reduceGE, Int.reduceEq, Int.reduceNe, Int.reduceBEq, Int.reduceBNe, Int.reduceAdd, Int.reduceSub, Int.reduceMul, Int.reduceToNat, Int.reduceNeg, ↓reduceIte, ↓reduceDIte, e12]) (by simp -dsimp only [go_sem, Nat.reduceEqDiff, Nat.reduceAdd, Nat.reduceSub, Nat.reduceMul, Nat.reduceLeDiff, Nat.reduceLT, Nat.reduceBEq, Int.reduceLT, Int.reduceLE, Int.reduceGT, Int.reduceGE, Int.reduceEq, Int.reduceNe, Int.reduceBEq, Int.reduceBNe, Int.reduceAdd, Int.reduceSub, Int.reduceMul, Int.reduceToNat, Int.reduceNeg, ↓reduceIte, ↓reduceDIte, e15]) ?_
      intro e' K' m' v' a' L' I' he ow' p' g1 g2
      refine hQ .normal e' K' m' v' a' L' I' (nx + 1) (.inl rfl) (kx _ _ he rfl) ?_ ow' p' (by omega) (by omega) (by omega)
      rw [restrict_look he (k := 13) (by decide)]
      simp -dsimp only [go_sem, Nat.reduceEqDiff, Nat.reduceAdd, Nat.reduceSub, Nat.reduceMul, Nat.reduceLeDiff, Nat.reduceLT, Nat.reduceBEq, Int.reduceLT, Int.reduceLE, Int.reduceGT, Int.reduceGE, Int.reduceEq, Int.reduceNe, Int.reduceBEq, Int.reduceBNe, Int.reduceAdd, Int.reduceSub, Int.reduceMul, Int.reduceToNat, Int.reduceNeg, ↓reduceIte, ↓reduceDIte]
end
end Go.Proofs.Ytopjhhcncjleaaa
/- DROP The statement CrqOrders: calls that were not refused. -/
namespace Go.Proofs.Ytopjhhcncjleaaa
open Go Go.LK
set_option linter.unusedSimpArgs false
set_option linter.unusedVariables false
theorem keep_app {H K : LHeap} (hl : H.length ≤ K.length) (h : ∀ j, j < H.length → K[j]? = H[j]?) : ∃ t, K = H ++ t := by
  refine ⟨K.drop H.length, List.ext_getElem? fun j => ?_⟩
  by_cases hj : j < H.length
  · rw [List.getElem?_append_left hj]; exact h j hj
  · rw [List.getElem?_append_right (by omega), List.getElem?_drop]
    congr 1; omega
theorem take_keep {l : List CallD} {i : Nat} {c : CallD} (h : l[i]? = some c) : (l.take (i + 1)).filter keepC = (l.take i).filter keepC ++ if c.code = 16 then [] else [c] := by
  rw [List.take_add_one, h, List.filter_append]
  congr 1
  by_cases e : c.code = 16
  · simp [keepC, e]
  · simp [keepC, e]
set_option maxHeartbeats 1000000 in
theorem openC_ev {lim n : Nat} {a : Option Addr} {l : List CallD} {H : LHeap} (hl : lim ≤ H.length) (hn : l.length ≤ 1000) (hs : Sl 8 H a (l.flatMap CallD.cells)) :
    callE T 38 lim [.slice a l.length n] H fun v H' => ∃ a' t, v = .slice a' (l.filter keepC).length (l.filter keepC).length ∧ H' = H ++ t ∧ Sl 8 (H ++ t) a' ((l.filter keepC).flatMap CallD.cells) := by
  refine callE_stay rfl (by simp) rfl ?_
  simp -dsimp only [go_sem, Nat.reduceEqDiff, Nat.reduceAdd, Nat.reduceSub, Nat.reduceMul, Nat.reduceLeDiff, Nat.reduceLT, Nat.reduceBEq, Int.reduceLT, Int.reduceLE, Int.reduceGT, Int.reduceGE, Int.reduceEq, Int.reduceNe, Int.reduceBEq, Int.reduceBNe, Int.reduceAdd, Int.reduceSub, Int.reduceMul, Int.reduceToNat, Int.reduceNeg, ↓reduceIte, ↓reduceDIte]
  refine LT_of (fun x : Nat × Option Addr × LHeap => [(0, .slice a l.length n), (3, .slice x.2.1 ((l.take x.1).filter keepC).length ((l.take x.1).filter keepC).length), (4, i64 x.1)]) (fun x => x.2.2)
    (fun x => x.1 ≤ l.length ∧ Own 8 x.2.2 H.length x.2.1 (((l.take x.1).filter keepC).flatMap CallD.cells) ∧ H.length ≤ x.2.2.length ∧ ∀ j, j < H.length → x.2.2[j]? = H[j]?) (fun x => l.length - x.1) (0, none, H) rfl rfl ⟨by simp, Own.nil _ _ _, Nat.le_refl _, fun _ _ => rfl⟩ ?_
  rintro ⟨i, a', K⟩ ⟨hi, own, hlK, keep⟩
  simp only at hi own hlK keep ⊢
  obtain ⟨t, ht⟩ := keep_app hlK keep
  by_cases hlt : i < l.length
  · have h1 : (i : Int) < l.length := by omega
    have h3 : 0 ≤ (i : Int) := by omega
    have hw : IntKind.i64.wrap ((i : Int) + 1) = ((i + 1 : Nat) : Int) := by rw [wrap_i64] <;> omega
    have k2 : l[i]? = some (l[i]'hlt) := List.getElem?_eq_getElem _
    generalize l[i]'hlt = c at k2
    have hsK := hs.app t
    rw [← ht] at hsK
    obtain ⟨ab, ao, rfl, hab1, hgc, hgl⟩ := hsK.rowsAt (f := CallD.cells) CallD.len (by omega) (by omega)
    have gc := hgc [] i c k2
    have g6 := hgl [] i c 6 k2 (by omega)
    rw [List.append_nil] at gc g6
    simp only [CallD.cells, List.getElem?_cons_zero, List.getElem?_cons_succ] at gc g6
    have htk := take_keep k2
    by_cases e : c.code = 16
    · have e1 : (c.code != 16) = false := by simp [e]
      simp -dsimp only [go_sem, Nat.reduceEqDiff, Nat.reduceAdd, Nat.reduceSub, Nat.reduceMul, Nat.reduceLeDiff, Nat.reduceLT, Nat.reduceBEq, Int.reduceLT, Int.reduceLE, Int.reduceGT, Int.reduceGE, Int.reduceEq, Int.reduceNe, Int.reduceBEq, Int.reduceBNe, Int.reduceAdd, Int.reduceSub, Int.reduceMul, Int.reduceToNat, Int.reduceNeg, ↓reduceIte, ↓reduceDIte, h1, h3, g6, e1, hw]
      refine ⟨(i + 1, a', K), ?_, rfl, ⟨by simp only; omega, ?_, hlK, keep⟩, by simp only; omega⟩
      · simp only; rw [htk, if_pos e, List.append_nil]
      · simp only; rw [htk, if_pos e, List.append_nil]; exact own
    · have e1 : (c.code != 16) = true := by simp [e]
      have hln : ((l.take i).filter keepC).length ≤ 1000 := Nat.le_trans (List.length_filter_le _ _) (by simp; omega)
      obtain ⟨a2, K2, p1, p2, p3, p4, p5⟩ := Own.push (lim := lim) (bytes := 64) (k := ((l.take i).filter keepC).length) (news := c.cells) (own.app [.row false 8 c.cells]) (by rw [flat_len CallD.len]) (by decide) hl (by simp; omega) (by omega) (by omega)
      simp only [CallD.cells] at p1
      simp -dsimp only [go_sem, Nat.reduceEqDiff, Nat.reduceAdd, Nat.reduceSub, Nat.reduceMul, Nat.reduceLeDiff, Nat.reduceLT, Nat.reduceBEq, Int.reduceLT, Int.reduceLE, Int.reduceGT, Int.reduceGE, Int.reduceEq, Int.reduceNe, Int.reduceBEq, Int.reduceBNe, Int.reduceAdd, Int.reduceSub, Int.reduceMul, Int.reduceToNat, Int.reduceNeg, ↓reduceIte, ↓reduceDIte, h1, h3, g6, gc, e1, hw, p1]
      refine ⟨(i + 1, a2, K2), ?_, rfl, ⟨by simp only; omega, ?_, ?_, fun j hj => ?_⟩, by simp only; omega⟩
      · simp only
        rw [htk, if_neg e, List.length_append]; rfl
      · simp only
        rw [htk, if_neg e, List.flatMap_append]
        simpa using p2
      · simp only
        simp at p3; omega
      · simp only
        rw [p4 j (by simp; omega) (own.fresh.off hj), get_left (by omega)]
        exact keep j hj
  · have h1 : ¬ (i : Int) < l.length := by omega
    obtain rfl : i = l.length := by omega
    rw [List.take_length] at own
    simp -dsimp only [go_sem, Nat.reduceEqDiff, Nat.reduceAdd, Nat.reduceSub, Nat.reduceMul, Nat.reduceLeDiff, Nat.reduceLT, Nat.reduceBEq, Int.reduceLT, Int.reduceLE, Int.reduceGT, Int.reduceGE, Int.reduceEq, Int.reduceNe, Int.reduceBEq, Int.reduceBNe, Int.reduceAdd, Int.reduceSub, Int.reduceMul, Int.reduceToNat, Int.reduceNeg, ↓reduceIte, ↓reduceDIte, h1, List.take_length]
    exact ⟨a', t, rfl, ht, by rw [← ht]; exact own.sl⟩
end Go.Proofs.Ytopjhhcncjleaaa
