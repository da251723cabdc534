/- DROP Rings that may be closed: steps of a Take, and of any operation. -/
import Derived.Test.YtopjhhcncjleaaaV2
namespace Go.Proofs.Ytopjhhcncjleaaa
open Go Go.LK
set_option linter.unusedSimpArgs false
set_option linter.unusedVariables false
section
variable {lim o b pw pb : Nat} {x : COp} {H : LHeap} {m : MV}
theorem cfix_ev (h : H[o]? = some (crw x)) (hm : MemAt H b pw pb m) (h1 : o ≠ b) (h2 : o ≠ pw) (h3 : o ≠ pb) (hr : x.r.right = true) (hk : x.kind = 1) (h9 : x.at_ ≠ 9) (q0 : x.at_ ≠ 0) (q1 : x.at_ ≠ 1) (q2 : x.at_ ≠ 2) (q3 : x.at_ ≠ 3) (q5 : x.at_ ≠ 5) :
    callE T 80 lim [ptr o, ptr b] H fun v H' => CRes H o b pw pb x m H' := by
  have l := (List.getElem?_eq_some_iff.1 h).1
  obtain ⟨xr, xk, xv, xa, xp, xd, xs, xtl, xhd, xt, xc, xrt⟩ := x
  simp only at hr hk h9 q0 q1 q2 q3 q5
  subst hk
  obtain ⟨a0, a1, a2, s0, s1⟩ := RV.right_of hr
  have w1 : IntKind.i64.wrap (xr.a + 1) = xr.a + 1 := by rw [wrap_i64] <;> omega
  have w0 : IntKind.i64.wrap (xr.a + 0) = xr.a := by rw [wrap_i64] <;> omega
  have wc : ∀ p, IntKind.i64.wrap (xr.cell p + 1) = xr.cell p + 1 := fun p => by
    have := cell_in (p := p) hr
    rw [wrap_i64] <;> omega
  have off : ∀ (y : LObj) (m' : MV) (K : LHeap), (memPut K b pw pb m').set o y = memPut (K.set o y) b pw pb m' := fun y m' K => memPut_set_off h1 h2 h3 _ _
  have at2 : ∀ (y : LObj) (m' : MV), (memPut (H.set o y) b pw pb m')[o]? = some y := fun y m' => by rw [memPut_get _ h1.symm h2.symm h3.symm, get_set_eq l]
  have lg : ∀ (c : List Value) (m' : MV) (i : Nat), lget (memPut (H.set o (.row false 0 c)) b pw pb m') o i = c[i]? := fun c m' i => by simp only [lget, at2]
  have lg1 : ∀ (m' : MV) (i : Nat), lget (memPut H b pw pb m') o i = lget H o i := fun m' i => by rw [lget, lget, memPut_get _ h1.symm h2.symm h3.symm]
  have at1 : ∀ (m' : MV), (memPut H b pw pb m')[o]? = H[o]? := fun m' => memPut_get _ h1.symm h2.symm h3.symm
  have ll : ∀ (K : LHeap) (m' : MV), (memPut K b pw pb m').length = K.length := fun K m' => memPut_len _ _ _ _ _
  have mset : ∀ y, MemAt (H.set o y) b pw pb m := fun y => hm.set_off h1 h2 h3 y
  have hcc : ∀ (K : LHeap) c, K[o]? = some (.row false 0 (.bool true :: i64 xr.a :: i64 xr.s :: c)) → lcells K o 1 2 = some [i64 xr.a, i64 xr.s] := fun K c g => by simp [lcells, g]
  have tk : ∀ (y : LObj) (m' : MV), List.take H.length (memPut (H.set o y) b pw pb m') = memPut (H.set o y) b pw pb m' := fun y m' => List.take_of_length_le (by rw [ll]; simp)
  refine callE_pop rfl (by simp) rfl ?_
  by_cases p6 : xa = 6
  · subst p6
    simp -dsimp only [go_sem, Nat.reduceEqDiff, Nat.reduceAdd, Nat.reduceSub, Nat.reduceMul, Nat.reduceLeDiff, Nat.reduceLT, Nat.reduceBEq, Int.reduceLT, Int.reduceLE, Int.reduceGT, Int.reduceGE, Int.reduceEq, Int.reduceNe, Int.reduceBEq, Int.reduceBNe, Int.reduceAdd, Int.reduceSub, Int.reduceMul, Int.reduceToNat, Int.reduceNeg, ↓reduceIte, ↓reduceDIte, lget_at h, h, lget_set_eq l, w1]
    refine CT_of (load_ev hm) ?_
    rintro _ _ ⟨rfl, rfl⟩
    simp -dsimp only [go_sem, Nat.reduceEqDiff, Nat.reduceAdd, Nat.reduceSub, Nat.reduceMul, Nat.reduceLeDiff, Nat.reduceLT, Nat.reduceBEq, Int.reduceLT, Int.reduceLE, Int.reduceGT, Int.reduceGE, Int.reduceEq, Int.reduceNe, Int.reduceBEq, Int.reduceBNe, Int.reduceAdd, Int.reduceSub, Int.reduceMul, Int.reduceToNat, Int.reduceNeg, ↓reduceIte, ↓reduceDIte, at1, h, off, List.set_set, at2, lg, tk]
    simp [CRes, COp.use, COp.next, MV.step]
  by_cases p7 : xa = 7
  · subst p7
    simp -dsimp only [go_sem, Nat.reduceEqDiff, Nat.reduceAdd, Nat.reduceSub, Nat.reduceMul, Nat.reduceLeDiff, Nat.reduceLT, Nat.reduceBEq, Int.reduceLT, Int.reduceLE, Int.reduceGT, Int.reduceGE, Int.reduceEq, Int.reduceNe, Int.reduceBEq, Int.reduceBNe, Int.reduceAdd, Int.reduceSub, Int.reduceMul, Int.reduceToNat, Int.reduceNeg, ↓reduceIte, ↓reduceDIte, lget_at h, h, lget_set_eq l, w0]
    refine CT_of (load_ev (mset _)) ?_
    rintro _ _ ⟨rfl, rfl⟩
    by_cases hc : m.load xr.a ≤ xtl &&& ~~~clo
    · simp -dsimp only [go_sem, Nat.reduceEqDiff, Nat.reduceAdd, Nat.reduceSub, Nat.reduceMul, Nat.reduceLeDiff, Nat.reduceLT, Nat.reduceBEq, Int.reduceLT, Int.reduceLE, Int.reduceGT, Int.reduceGE, Int.reduceEq, Int.reduceNe, Int.reduceBEq, Int.reduceBNe, Int.reduceAdd, Int.reduceSub, Int.reduceMul, Int.reduceToNat, Int.reduceNeg, ↓reduceIte, ↓reduceDIte, at1, h, off, List.set_set, at2, lg, tk, hc]
      refine CT_heap (cend_ev (x := ⟨xr, 1, xv, 8, xp, xd, xs, xtl, m.load xr.a, xt, xc, xrt⟩) (at2 _ _)) ?_
      intro q
      simp -dsimp only [go_sem, Nat.reduceEqDiff, Nat.reduceAdd, Nat.reduceSub, Nat.reduceMul, Nat.reduceLeDiff, Nat.reduceLT, Nat.reduceBEq, Int.reduceLT, Int.reduceLE, Int.reduceGT, Int.reduceGE, Int.reduceEq, Int.reduceNe, Int.reduceBEq, Int.reduceBNe, Int.reduceAdd, Int.reduceSub, Int.reduceMul, Int.reduceToNat, Int.reduceNeg, ↓reduceIte, ↓reduceDIte, off, List.set_set, tk]
      simp [CRes, COp.use, COp.next, MV.step, COp.fin, hc]
    · simp -dsimp only [go_sem, Nat.reduceEqDiff, Nat.reduceAdd, Nat.reduceSub, Nat.reduceMul, Nat.reduceLeDiff, Nat.reduceLT, Nat.reduceBEq, Int.reduceLT, Int.reduceLE, Int.reduceGT, Int.reduceGE, Int.reduceEq, Int.reduceNe, Int.reduceBEq, Int.reduceBNe, Int.reduceAdd, Int.reduceSub, Int.reduceMul, Int.reduceToNat, Int.reduceNeg, ↓reduceIte, ↓reduceDIte, at1, h, off, List.set_set, at2, lg, tk, hc]
      simp [CRes, COp.use, COp.next, MV.step, hc]
  by_cases p8 : xa = 8
  · subst p8
    simp -dsimp only [go_sem, Nat.reduceEqDiff, Nat.reduceAdd, Nat.reduceSub, Nat.reduceMul, Nat.reduceLeDiff, Nat.reduceLT, Nat.reduceBEq, Int.reduceLT, Int.reduceLE, Int.reduceGT, Int.reduceGE, Int.reduceEq, Int.reduceNe, Int.reduceBEq, Int.reduceBNe, Int.reduceAdd, Int.reduceSub, Int.reduceMul, Int.reduceToNat, Int.reduceNeg, ↓reduceIte, ↓reduceDIte, lget_at h, h, lget_set_eq l, w1]
    refine CT_of (swap_ev (mset _)) ?_
    rintro _ _ ⟨rfl, rfl⟩
    cases hp : m.swaps (xr.a + 1) xtl
    · simp -dsimp only [go_sem, Nat.reduceEqDiff, Nat.reduceAdd, Nat.reduceSub, Nat.reduceMul, Nat.reduceLeDiff, Nat.reduceLT, Nat.reduceBEq, Int.reduceLT, Int.reduceLE, Int.reduceGT, Int.reduceGE, Int.reduceEq, Int.reduceNe, Int.reduceBEq, Int.reduceBNe, Int.reduceAdd, Int.reduceSub, Int.reduceMul, Int.reduceToNat, Int.reduceNeg, ↓reduceIte, ↓reduceDIte, tk]
      simp [CRes, COp.use, COp.next, MV.step, hp]
    · simp -dsimp only [go_sem, Nat.reduceEqDiff, Nat.reduceAdd, Nat.reduceSub, Nat.reduceMul, Nat.reduceLeDiff, Nat.reduceLT, Nat.reduceBEq, Int.reduceLT, Int.reduceLE, Int.reduceGT, Int.reduceGE, Int.reduceEq, Int.reduceNe, Int.reduceBEq, Int.reduceBNe, Int.reduceAdd, Int.reduceSub, Int.reduceMul, Int.reduceToNat, Int.reduceNeg, ↓reduceIte, ↓reduceDIte]
      refine CT_heap (cend_ev (x := ⟨xr, 1, xv, 6, xp, xd, xs, xtl, xhd, xt, xc, xrt⟩) (at2 _ _)) ?_
      intro q
      simp -dsimp only [go_sem, Nat.reduceEqDiff, Nat.reduceAdd, Nat.reduceSub, Nat.reduceMul, Nat.reduceLeDiff, Nat.reduceLT, Nat.reduceBEq, Int.reduceLT, Int.reduceLE, Int.reduceGT, Int.reduceGE, Int.reduceEq, Int.reduceNe, Int.reduceBEq, Int.reduceBNe, Int.reduceAdd, Int.reduceSub, Int.reduceMul, Int.reduceToNat, Int.reduceNeg, ↓reduceIte, ↓reduceDIte, off, List.set_set, tk]
      simp [CRes, COp.use, COp.next, MV.step, hp, COp.fin]
  have f6 : (xa == 6) = false := by simp [p6]
  have f7 : (xa == 7) = false := by simp [p7]
  have f8 : (xa == 8) = false := by simp [p8]
  simp -dsimp only [go_sem, Nat.reduceEqDiff, Nat.reduceAdd, Nat.reduceSub, Nat.reduceMul, Nat.reduceLeDiff, Nat.reduceLT, Nat.reduceBEq, Int.reduceLT, Int.reduceLE, Int.reduceGT, Int.reduceGE, Int.reduceEq, Int.reduceNe, Int.reduceBEq, Int.reduceBNe, Int.reduceAdd, Int.reduceSub, Int.reduceMul, Int.reduceToNat, Int.reduceNeg, ↓reduceIte, ↓reduceDIte, lget_at h, f6, f7, f8]
  simp [CRes, COp.use, COp.next, MV.step, q0, q1, q2, q3, q5, p6, p7, p8]
  rw [set_same h, memPut_same hm]
theorem ctakes_ev (h : H[o]? = some (crw x)) (hm : MemAt H b pw pb m) (h1 : o ≠ b) (h2 : o ≠ pw) (h3 : o ≠ pb) (hr : x.r.right = true) (hk : x.kind = 1) (h9 : x.at_ ≠ 9) :
    callE T 50 lim [ptr o, ptr b] H fun v H' => CRes H o b pw pb x m H' := by
  have l := (List.getElem?_eq_some_iff.1 h).1
  by_cases q3 : x.at_ = 3
  · have ht := fun lim => cturn_ev (lim := lim) h hm h1 h2 h3 hr hk q3
    refine callE_pop rfl (by simp) rfl ?_
    simp -dsimp only [go_sem, Nat.reduceEqDiff, Nat.reduceAdd, Nat.reduceSub, Nat.reduceMul, Nat.reduceLeDiff, Nat.reduceLT, Nat.reduceBEq, Int.reduceLT, Int.reduceLE, Int.reduceGT, Int.reduceGE, Int.reduceEq, Int.reduceNe, Int.reduceBEq, Int.reduceBNe, Int.reduceAdd, Int.reduceSub, Int.reduceMul, Int.reduceToNat, Int.reduceNeg, ↓reduceIte, ↓reduceDIte, lget_at h, q3]
    refine CT_heap (ht _) ?_
    intro q
    simp -dsimp only [go_sem, Nat.reduceEqDiff, Nat.reduceAdd, Nat.reduceSub, Nat.reduceMul, Nat.reduceLeDiff, Nat.reduceLT, Nat.reduceBEq, Int.reduceLT, Int.reduceLE, Int.reduceGT, Int.reduceGE, Int.reduceEq, Int.reduceNe, Int.reduceBEq, Int.reduceBNe, Int.reduceAdd, Int.reduceSub, Int.reduceMul, Int.reduceToNat, Int.reduceNeg, ↓reduceIte, ↓reduceDIte]
    exact List.take_of_length_le (by simp [memPut_len])
  by_cases qq : x.at_ ≠ 0 ∧ x.at_ ≠ 1 ∧ x.at_ ≠ 2 ∧ x.at_ ≠ 5
  · obtain ⟨q0, q1, q2, q5⟩ := qq
    have ht := fun lim => cfix_ev (lim := lim) h hm h1 h2 h3 hr hk h9 q0 q1 q2 q3 q5
    refine callE_pop rfl (by simp) rfl ?_
    have f0 : (x.at_ == 0) = false := by simp [q0]
    have f1 : (x.at_ == 1) = false := by simp [q1]
    have f2 : (x.at_ == 2) = false := by simp [q2]
    have f3 : (x.at_ == 3) = false := by simp [q3]
    have f5 : (x.at_ == 5) = false := by simp [q5]
    simp -dsimp only [go_sem, Nat.reduceEqDiff, Nat.reduceAdd, Nat.reduceSub, Nat.reduceMul, Nat.reduceLeDiff, Nat.reduceLT, Nat.reduceBEq, Int.reduceLT, Int.reduceLE, Int.reduceGT, Int.reduceGE, Int.reduceEq, Int.reduceNe, Int.reduceBEq, Int.reduceBNe, Int.reduceAdd, Int.reduceSub, Int.reduceMul, Int.reduceToNat, Int.reduceNeg, ↓reduceIte, ↓reduceDIte, lget_at h, f0, f1, f2, f3, f5]
    refine CT_heap (ht _) ?_
    intro q
    simp -dsimp only [go_sem, Nat.reduceEqDiff, Nat.reduceAdd, Nat.reduceSub, Nat.reduceMul, Nat.reduceLeDiff, Nat.reduceLT, Nat.reduceBEq, Int.reduceLT, Int.reduceLE, Int.reduceGT, Int.reduceGE, Int.reduceEq, Int.reduceNe, Int.reduceBEq, Int.reduceBNe, Int.reduceAdd, Int.reduceSub, Int.reduceMul, Int.reduceToNat, Int.reduceNeg, ↓reduceIte, ↓reduceDIte]
    exact List.take_of_length_le (by simp [memPut_len])
  obtain ⟨xr, xk, xv, xa, xp, xd, xs, xtl, xhd, xt, xc, xrt⟩ := x
  simp only at hr hk h9 q3 qq
  subst hk
  obtain ⟨a0, a1, a2, s0, s1⟩ := RV.right_of hr
  have w1 : IntKind.i64.wrap (xr.a + 1) = xr.a + 1 := by rw [wrap_i64] <;> omega
  have w0 : IntKind.i64.wrap (xr.a + 0) = xr.a := by rw [wrap_i64] <;> omega
  have wc : ∀ p, IntKind.i64.wrap (xr.cell p + 1) = xr.cell p + 1 := fun p => by
    have := cell_in (p := p) hr
    rw [wrap_i64] <;> omega
  have off : ∀ (y : LObj) (m' : MV) (K : LHeap), (memPut K b pw pb m').set o y = memPut (K.set o y) b pw pb m' := fun y m' K => memPut_set_off h1 h2 h3 _ _
  have at2 : ∀ (y : LObj) (m' : MV), (memPut (H.set o y) b pw pb m')[o]? = some y := fun y m' => by rw [memPut_get _ h1.symm h2.symm h3.symm, get_set_eq l]
  have lg : ∀ (c : List Value) (m' : MV) (i : Nat), lget (memPut (H.set o (.row false 0 c)) b pw pb m') o i = c[i]? := fun c m' i => by simp only [lget, at2]
  have lg1 : ∀ (m' : MV) (i : Nat), lget (memPut H b pw pb m') o i = lget H o i := fun m' i => by rw [lget, lget, memPut_get _ h1.symm h2.symm h3.symm]
  have at1 : ∀ (m' : MV), (memPut H b pw pb m')[o]? = H[o]? := fun m' => memPut_get _ h1.symm h2.symm h3.symm
  have ll : ∀ (K : LHeap) (m' : MV), (memPut K b pw pb m').length = K.length := fun K m' => memPut_len _ _ _ _ _
  have mset : ∀ y, MemAt (H.set o y) b pw pb m := fun y => hm.set_off h1 h2 h3 y
  have hcc : ∀ (K : LHeap) c, K[o]? = some (.row false 0 (.bool true :: i64 xr.a :: i64 xr.s :: c)) → lcells K o 1 2 = some [i64 xr.a, i64 xr.s] := fun K c g => by simp [lcells, g]
  have tk : ∀ (y : LObj) (m' : MV), List.take H.length (memPut (H.set o y) b pw pb m') = memPut (H.set o y) b pw pb m' := fun y m' => List.take_of_length_le (by rw [ll]; simp)
  refine callE_pop rfl (by simp) rfl ?_
  have : xa = 0 ∨ xa = 1 ∨ xa = 2 ∨ xa = 5 := by omega
  rcases this with rfl | rfl | rfl | rfl
  · simp -dsimp only [go_sem, Nat.reduceEqDiff, Nat.reduceAdd, Nat.reduceSub, Nat.reduceMul, Nat.reduceLeDiff, Nat.reduceLT, Nat.reduceBEq, Int.reduceLT, Int.reduceLE, Int.reduceGT, Int.reduceGE, Int.reduceEq, Int.reduceNe, Int.reduceBEq, Int.reduceBNe, Int.reduceAdd, Int.reduceSub, Int.reduceMul, Int.reduceToNat, Int.reduceNeg, ↓reduceIte, ↓reduceDIte, lget_at h, h, lget_set_eq l, w0]
    refine CT_of (add_ev hm) ?_
    rintro _ _ ⟨rfl, rfl⟩
    simp -dsimp only [go_sem, Nat.reduceEqDiff, Nat.reduceAdd, Nat.reduceSub, Nat.reduceMul, Nat.reduceLeDiff, Nat.reduceLT, Nat.reduceBEq, Int.reduceLT, Int.reduceLE, Int.reduceGT, Int.reduceGE, Int.reduceEq, Int.reduceNe, Int.reduceBEq, Int.reduceBNe, Int.reduceAdd, Int.reduceSub, Int.reduceMul, Int.reduceToNat, Int.reduceNeg, ↓reduceIte, ↓reduceDIte, at1, h, off, List.set_set, at2, lg, tk]
    simp [CRes, COp.use, COp.next, MV.step]
  · simp -dsimp only [go_sem, Nat.reduceEqDiff, Nat.reduceAdd, Nat.reduceSub, Nat.reduceMul, Nat.reduceLeDiff, Nat.reduceLT, Nat.reduceBEq, Int.reduceLT, Int.reduceLE, Int.reduceGT, Int.reduceGE, Int.reduceEq, Int.reduceNe, Int.reduceBEq, Int.reduceBNe, Int.reduceAdd, Int.reduceSub, Int.reduceMul, Int.reduceToNat, Int.reduceNeg, ↓reduceIte, ↓reduceDIte, lget_at h, h, lget_set_eq l, hcc H _ h]
    refine CT_val (cell_ev hr) ?_
    simp -dsimp only [go_sem, Nat.reduceEqDiff, Nat.reduceAdd, Nat.reduceSub, Nat.reduceMul, Nat.reduceLeDiff, Nat.reduceLT, Nat.reduceBEq, Int.reduceLT, Int.reduceLE, Int.reduceGT, Int.reduceGE, Int.reduceEq, Int.reduceNe, Int.reduceBEq, Int.reduceBNe, Int.reduceAdd, Int.reduceSub, Int.reduceMul, Int.reduceToNat, Int.reduceNeg, ↓reduceIte, ↓reduceDIte, wc]
    refine CT_of (load_ev hm) ?_
    rintro _ _ ⟨rfl, rfl⟩
    simp -dsimp only [go_sem, Nat.reduceEqDiff, Nat.reduceAdd, Nat.reduceSub, Nat.reduceMul, Nat.reduceLeDiff, Nat.reduceLT, Nat.reduceBEq, Int.reduceLT, Int.reduceLE, Int.reduceGT, Int.reduceGE, Int.reduceEq, Int.reduceNe, Int.reduceBEq, Int.reduceBNe, Int.reduceAdd, Int.reduceSub, Int.reduceMul, Int.reduceToNat, Int.reduceNeg, ↓reduceIte, ↓reduceDIte, at1, h, off, List.set_set, at2, lg, tk]
    simp [CRes, COp.use, COp.next, MV.step]
  · simp -dsimp only [go_sem, Nat.reduceEqDiff, Nat.reduceAdd, Nat.reduceSub, Nat.reduceMul, Nat.reduceLeDiff, Nat.reduceLT, Nat.reduceBEq, Int.reduceLT, Int.reduceLE, Int.reduceGT, Int.reduceGE, Int.reduceEq, Int.reduceNe, Int.reduceBEq, Int.reduceBNe, Int.reduceAdd, Int.reduceSub, Int.reduceMul, Int.reduceToNat, Int.reduceNeg, ↓reduceIte, ↓reduceDIte, lget_at h, h, lget_set_eq l, hcc H _ h]
    refine CT_val (cell_ev hr) ?_
    simp -dsimp only [go_sem, Nat.reduceEqDiff, Nat.reduceAdd, Nat.reduceSub, Nat.reduceMul, Nat.reduceLeDiff, Nat.reduceLT, Nat.reduceBEq, Int.reduceLT, Int.reduceLE, Int.reduceGT, Int.reduceGE, Int.reduceEq, Int.reduceNe, Int.reduceBEq, Int.reduceBNe, Int.reduceAdd, Int.reduceSub, Int.reduceMul, Int.reduceToNat, Int.reduceNeg, ↓reduceIte, ↓reduceDIte, wc]
    refine CT_of (load_ev hm) ?_
    rintro _ _ ⟨rfl, rfl⟩
    simp -dsimp only [go_sem, Nat.reduceEqDiff, Nat.reduceAdd, Nat.reduceSub, Nat.reduceMul, Nat.reduceLeDiff, Nat.reduceLT, Nat.reduceBEq, Int.reduceLT, Int.reduceLE, Int.reduceGT, Int.reduceGE, Int.reduceEq, Int.reduceNe, Int.reduceBEq, Int.reduceBNe, Int.reduceAdd, Int.reduceSub, Int.reduceMul, Int.reduceToNat, Int.reduceNeg, ↓reduceIte, ↓reduceDIte, at1, h, off, List.set_set, at2, lg, tk]
    generalize hz : m.load (xr.cell xp) = z
    refine CT_val position_ev ?_
    by_cases hp : xp < poW z
    · simp -dsimp only [go_sem, Nat.reduceEqDiff, Nat.reduceAdd, Nat.reduceSub, Nat.reduceMul, Nat.reduceLeDiff, Nat.reduceLT, Nat.reduceBEq, Int.reduceLT, Int.reduceLE, Int.reduceGT, Int.reduceGE, Int.reduceEq, Int.reduceNe, Int.reduceBEq, Int.reduceBNe, Int.reduceAdd, Int.reduceSub, Int.reduceMul, Int.reduceToNat, Int.reduceNeg, ↓reduceIte, ↓reduceDIte, lg, hp]
      refine CT_heap (cbranch_ev (x := ⟨xr, 1, xv, 2, xp, xd, z, xtl, xhd, xt, xc, xrt⟩) (at2 _ _)) ?_
      intro q
      simp -dsimp only [go_sem, Nat.reduceEqDiff, Nat.reduceAdd, Nat.reduceSub, Nat.reduceMul, Nat.reduceLeDiff, Nat.reduceLT, Nat.reduceBEq, Int.reduceLT, Int.reduceLE, Int.reduceGT, Int.reduceGE, Int.reduceEq, Int.reduceNe, Int.reduceBEq, Int.reduceBNe, Int.reduceAdd, Int.reduceSub, Int.reduceMul, Int.reduceToNat, Int.reduceNeg, ↓reduceIte, ↓reduceDIte, off, List.set_set, tk]
      simp [CRes, COp.use, COp.next, MV.step, hz, hp]
    · simp -dsimp only [go_sem, Nat.reduceEqDiff, Nat.reduceAdd, Nat.reduceSub, Nat.reduceMul, Nat.reduceLeDiff, Nat.reduceLT, Nat.reduceBEq, Int.reduceLT, Int.reduceLE, Int.reduceGT, Int.reduceGE, Int.reduceEq, Int.reduceNe, Int.reduceBEq, Int.reduceBNe, Int.reduceAdd, Int.reduceSub, Int.reduceMul, Int.reduceToNat, Int.reduceNeg, ↓reduceIte, ↓reduceDIte, lg, hp]
      refine CT_heap (cbranch_ev (x := ⟨xr, 1, xv, 2, xp, xd, z, xtl, xhd, xt, xc, xrt⟩) (at2 _ _)) ?_
      intro q
      simp -dsimp only [go_sem, Nat.reduceEqDiff, Nat.reduceAdd, Nat.reduceSub, Nat.reduceMul, Nat.reduceLeDiff, Nat.reduceLT, Nat.reduceBEq, Int.reduceLT, Int.reduceLE, Int.reduceGT, Int.reduceGE, Int.reduceEq, Int.reduceNe, Int.reduceBEq, Int.reduceBNe, Int.reduceAdd, Int.reduceSub, Int.reduceMul, Int.reduceToNat, Int.reduceNeg, ↓reduceIte, ↓reduceDIte, off, List.set_set, tk]
      simp [CRes, COp.use, COp.next, MV.step, hz, hp]
  · simp -dsimp only [go_sem, Nat.reduceEqDiff, Nat.reduceAdd, Nat.reduceSub, Nat.reduceMul, Nat.reduceLeDiff, Nat.reduceLT, Nat.reduceBEq, Int.reduceLT, Int.reduceLE, Int.reduceGT, Int.reduceGE, Int.reduceEq, Int.reduceNe, Int.reduceBEq, Int.reduceBNe, Int.reduceAdd, Int.reduceSub, Int.reduceMul, Int.reduceToNat, Int.reduceNeg, ↓reduceIte, ↓reduceDIte, lget_at h, h, lget_set_eq l, w1]
    refine CT_of (load_ev hm) ?_
    rintro _ _ ⟨rfl, rfl⟩
    generalize hz : m.load (xr.a + 1) = z
    by_cases hp : z &&& ~~~clo ≤ xp + 1#64
    · simp -dsimp only [go_sem, Nat.reduceEqDiff, Nat.reduceAdd, Nat.reduceSub, Nat.reduceMul, Nat.reduceLeDiff, Nat.reduceLT, Nat.reduceBEq, Int.reduceLT, Int.reduceLE, Int.reduceGT, Int.reduceGE, Int.reduceEq, Int.reduceNe, Int.reduceBEq, Int.reduceBNe, Int.reduceAdd, Int.reduceSub, Int.reduceMul, Int.reduceToNat, Int.reduceNeg, ↓reduceIte, ↓reduceDIte, at1, lg1, lget_at h, off, hp]
      refine CT_heap (cbranch_ev (x := ⟨xr, 1, xv, 5, xp, xd, xs, xtl, xhd, xt, xc, xrt⟩) (by rw [at1]; exact h)) ?_
      intro q
      simp -dsimp only [go_sem, Nat.reduceEqDiff, Nat.reduceAdd, Nat.reduceSub, Nat.reduceMul, Nat.reduceLeDiff, Nat.reduceLT, Nat.reduceBEq, Int.reduceLT, Int.reduceLE, Int.reduceGT, Int.reduceGE, Int.reduceEq, Int.reduceNe, Int.reduceBEq, Int.reduceBNe, Int.reduceAdd, Int.reduceSub, Int.reduceMul, Int.reduceToNat, Int.reduceNeg, ↓reduceIte, ↓reduceDIte, off, tk]
      simp [CRes, COp.use, COp.next, MV.step, hz, hp]
    · simp -dsimp only [go_sem, Nat.reduceEqDiff, Nat.reduceAdd, Nat.reduceSub, Nat.reduceMul, Nat.reduceLeDiff, Nat.reduceLT, Nat.reduceBEq, Int.reduceLT, Int.reduceLE, Int.reduceGT, Int.reduceGE, Int.reduceEq, Int.reduceNe, Int.reduceBEq, Int.reduceBNe, Int.reduceAdd, Int.reduceSub, Int.reduceMul, Int.reduceToNat, Int.reduceNeg, ↓reduceIte, ↓reduceDIte, at1, lg1, lget_at h, off, hp]
      refine CT_heap (cbranch_ev (x := ⟨xr, 1, xv, 5, xp, xd, xs, xtl, xhd, xt, xc, xrt⟩) (by rw [at1]; exact h)) ?_
      intro q
      simp -dsimp only [go_sem, Nat.reduceEqDiff, Nat.reduceAdd, Nat.reduceSub, Nat.reduceMul, Nat.reduceLeDiff, Nat.reduceLT, Nat.reduceBEq, Int.reduceLT, Int.reduceLE, Int.reduceGT, Int.reduceGE, Int.reduceEq, Int.reduceNe, Int.reduceBEq, Int.reduceBNe, Int.reduceAdd, Int.reduceSub, Int.reduceMul, Int.reduceToNat, Int.reduceNeg, ↓reduceIte, ↓reduceDIte, off, tk]
      simp [CRes, COp.use, COp.next, MV.step, hz, hp]
theorem cstep_ev (h : H[o]? = some (crw x)) (hm : MemAt H b pw pb m) (h1 : o ≠ b) (h2 : o ≠ pw) (h3 : o ≠ pb) (hr : x.r.right = true) (ht : 0 ≤ x.tried ∧ x.tried ≤ 100000) :
    callE T 15 lim [ptr o, ptr b] H fun v H' => v = .bool ((x.step m).1.at_ == 9) ∧ H' = memPut (H.set o (crw (x.step m).1)) b pw pb (x.step m).2 := by
  have l := (List.getElem?_eq_some_iff.1 h).1
  by_cases p9 : x.at_ = 9
  · have es : x.step m = (x, m) := by simp [COp.step, p9]
    rw [es, set_same h, memPut_same hm]
    refine (cstep_done h p9).mono ?_
    rintro _ _ ⟨rfl, rfl⟩
    exact ⟨by simp [p9], rfl⟩
  have es : x.step m = (x.next (m.step x.use.k x.use.a x.use.v0 x.use.v1 x.use.v2 x.use.v3).2.1 (m.step x.use.k x.use.a x.use.v0 x.use.v1 x.use.v2 x.use.v3).2.2, (m.step x.use.k x.use.a x.use.v0 x.use.v1 x.use.v2 x.use.v3).1) := by rw [COp.step, if_neg p9]
  rw [es]
  have e9 : (x.at_ == 9) = false := by simp [p9]
  have hpos : ((m.w.length : Int) == 0) = false := by rw [beq_eq_false_iff_ne]; have := hm.pos; omega
  refine callE_pop rfl (by simp) rfl ?_
  simp -dsimp only [go_sem, Nat.reduceEqDiff, Nat.reduceAdd, Nat.reduceSub, Nat.reduceMul, Nat.reduceLeDiff, Nat.reduceLT, Nat.reduceBEq, Int.reduceLT, Int.reduceLE, Int.reduceGT, Int.reduceGE, Int.reduceEq, Int.reduceNe, Int.reduceBEq, Int.reduceBNe, Int.reduceAdd, Int.reduceSub, Int.reduceMul, Int.reduceToNat, Int.reduceNeg, ↓reduceIte, ↓reduceDIte]
  refine CT_val (cdone_ev h) ?_
  simp -dsimp only [go_sem, Nat.reduceEqDiff, Nat.reduceAdd, Nat.reduceSub, Nat.reduceMul, Nat.reduceLeDiff, Nat.reduceLT, Nat.reduceBEq, Int.reduceLT, Int.reduceLE, Int.reduceGT, Int.reduceGE, Int.reduceEq, Int.reduceNe, Int.reduceBEq, Int.reduceBNe, Int.reduceAdd, Int.reduceSub, Int.reduceMul, Int.reduceToNat, Int.reduceNeg, ↓reduceIte, ↓reduceDIte, e9]
  refine CT_val (len_ev hm) ?_
  have fin : ∀ y m', (memPut (H.set o (crw y)) b pw pb m')[o]? = some (crw y) := fun y m' => by rw [memPut_get _ h1.symm h2.symm h3.symm, get_set_eq l]
  by_cases k0 : x.kind = 0
  · simp -dsimp only [go_sem, Nat.reduceEqDiff, Nat.reduceAdd, Nat.reduceSub, Nat.reduceMul, Nat.reduceLeDiff, Nat.reduceLT, Nat.reduceBEq, Int.reduceLT, Int.reduceLE, Int.reduceGT, Int.reduceGE, Int.reduceEq, Int.reduceNe, Int.reduceBEq, Int.reduceBNe, Int.reduceAdd, Int.reduceSub, Int.reduceMul, Int.reduceToNat, Int.reduceNeg, ↓reduceIte, ↓reduceDIte, hpos, lget_at h, k0]
    refine CT_heap (cputs_ev h hm h1 h2 h3 hr k0 p9 ht) ?_
    intro q
    generalize x.next _ _ = y
    simp -dsimp only [go_sem, Nat.reduceEqDiff, Nat.reduceAdd, Nat.reduceSub, Nat.reduceMul, Nat.reduceLeDiff, Nat.reduceLT, Nat.reduceBEq, Int.reduceLT, Int.reduceLE, Int.reduceGT, Int.reduceGE, Int.reduceEq, Int.reduceNe, Int.reduceBEq, Int.reduceBNe, Int.reduceAdd, Int.reduceSub, Int.reduceMul, Int.reduceToNat, Int.reduceNeg, ↓reduceIte, ↓reduceDIte]
    refine CT_val (cdone_ev (fin _ _)) ?_
    simp -dsimp only [go_sem, Nat.reduceEqDiff, Nat.reduceAdd, Nat.reduceSub, Nat.reduceMul, Nat.reduceLeDiff, Nat.reduceLT, Nat.reduceBEq, Int.reduceLT, Int.reduceLE, Int.reduceGT, Int.reduceGE, Int.reduceEq, Int.reduceNe, Int.reduceBEq, Int.reduceBNe, Int.reduceAdd, Int.reduceSub, Int.reduceMul, Int.reduceToNat, Int.reduceNeg, ↓reduceIte, ↓reduceDIte]
    exact List.take_of_length_le (by simp [memPut_len])
  by_cases k1 : x.kind = 1
  · simp -dsimp only [go_sem, Nat.reduceEqDiff, Nat.reduceAdd, Nat.reduceSub, Nat.reduceMul, Nat.reduceLeDiff, Nat.reduceLT, Nat.reduceBEq, Int.reduceLT, Int.reduceLE, Int.reduceGT, Int.reduceGE, Int.reduceEq, Int.reduceNe, Int.reduceBEq, Int.reduceBNe, Int.reduceAdd, Int.reduceSub, Int.reduceMul, Int.reduceToNat, Int.reduceNeg, ↓reduceIte, ↓reduceDIte, hpos, lget_at h, k1]
    refine CT_heap (ctakes_ev h hm h1 h2 h3 hr k1 p9) ?_
    intro q
    generalize x.next _ _ = y
    simp -dsimp only [go_sem, Nat.reduceEqDiff, Nat.reduceAdd, Nat.reduceSub, Nat.reduceMul, Nat.reduceLeDiff, Nat.reduceLT, Nat.reduceBEq, Int.reduceLT, Int.reduceLE, Int.reduceGT, Int.reduceGE, Int.reduceEq, Int.reduceNe, Int.reduceBEq, Int.reduceBNe, Int.reduceAdd, Int.reduceSub, Int.reduceMul, Int.reduceToNat, Int.reduceNeg, ↓reduceIte, ↓reduceDIte]
    refine CT_val (cdone_ev (fin _ _)) ?_
    simp -dsimp only [go_sem, Nat.reduceEqDiff, Nat.reduceAdd, Nat.reduceSub, Nat.reduceMul, Nat.reduceLeDiff, Nat.reduceLT, Nat.reduceBEq, Int.reduceLT, Int.reduceLE, Int.reduceGT, Int.reduceGE, Int.reduceEq, Int.reduceNe, Int.reduceBEq, Int.reduceBNe, Int.reduceAdd, Int.reduceSub, Int.reduceMul, Int.reduceToNat, Int.reduceNeg, ↓reduceIte, ↓reduceDIte]
    exact List.take_of_length_le (by simp [memPut_len])
  have k0' : (x.kind == 0) = false := by simp [k0]
  have k1' : (x.kind == 1) = false := by simp [k1]
  simp -dsimp only [go_sem, Nat.reduceEqDiff, Nat.reduceAdd, Nat.reduceSub, Nat.reduceMul, Nat.reduceLeDiff, Nat.reduceLT, Nat.reduceBEq, Int.reduceLT, Int.reduceLE, Int.reduceGT, Int.reduceGE, Int.reduceEq, Int.reduceNe, Int.reduceBEq, Int.reduceBNe, Int.reduceAdd, Int.reduceSub, Int.reduceMul, Int.reduceToNat, Int.reduceNeg, ↓reduceIte, ↓reduceDIte, hpos, lget_at h, k0', k1']
  refine CT_heap (cshut_ev h hm h1 h2 h3 hr) ?_
  intro q
  simp -dsimp only [go_sem, Nat.reduceEqDiff, Nat.reduceAdd, Nat.reduceSub, Nat.reduceMul, Nat.reduceLeDiff, Nat.reduceLT, Nat.reduceBEq, Int.reduceLT, Int.reduceLE, Int.reduceGT, Int.reduceGE, Int.reduceEq, Int.reduceNe, Int.reduceBEq, Int.reduceBNe, Int.reduceAdd, Int.reduceSub, Int.reduceMul, Int.reduceToNat, Int.reduceNeg, ↓reduceIte, ↓reduceDIte]
  refine CT_val (cdone_ev (fin _ _)) ?_
  simp -dsimp only [go_sem, Nat.reduceEqDiff, Nat.reduceAdd, Nat.reduceSub, Nat.reduceMul, Nat.reduceLeDiff, Nat.reduceLT, Nat.reduceBEq, Int.reduceLT, Int.reduceLE, Int.reduceGT, Int.reduceGE, Int.reduceEq, Int.reduceNe, Int.reduceBEq, Int.reduceBNe, Int.reduceAdd, Int.reduceSub, Int.reduceMul, Int.reduceToNat, Int.reduceNeg, ↓reduceIte, ↓reduceDIte]
  simp [COp.use, COp.next, MV.step, k0, k1]
  exact List.take_of_length_le (by simp [memPut_len])
end
end Go.Proofs.Ytopjhhcncjleaaa
