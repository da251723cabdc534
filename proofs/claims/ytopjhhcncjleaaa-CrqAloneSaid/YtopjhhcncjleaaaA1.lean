/- Rings that may be closed, used by one alone: the walk of an operation. -/
import Derived.Test.YtopjhhcncjleaaaP3
namespace Go.Proofs.Ytopjhhcncjleaaa
open Go Go.LK
set_option linter.unusedSimpArgs false
set_option linter.unusedVariables false
theorem wruns_at {k k0 : Nat} {z y : COp × List (BitVec 64)} (h : wruns k0 z = y) (h9 : y.1.at_ = 9) (hk : (wruns k z).1.at_ = 9 ∨ k0 ≤ k) : wruns k z = y := by
  rcases Nat.le_total k0 k with q | q
  · have := wruns_done h h9 (k - k0)
    rwa [show k0 + (k - k0) = k by omega] at this
  · rcases hk with hk | hk
    · have := wruns_done (k := k) (z := z) rfl hk (k0 - k)
      rw [show k + (k0 - k) = k0 by omega, h] at this
      exact this.symm
    · obtain rfl : k = k0 := by omega
      exact h
section
variable {lim o b pw pb s k0 most : Nat} {x y : COp} {H : LHeap} {m : MV} {w w' : List (BitVec 64)}
set_option maxHeartbeats 1000000 in
theorem run_ev (h : H[o]? = some (crw x)) (hm : MemAt H b pw pb m) (h1 : o ≠ b) (h2 : o ≠ pw) (h3 : o ≠ pb) (c : Clean m w) (hr : x.r = ⟨0, s⟩) (hrr : (RV.mk 0 s).right = true) (hw : w.length = 4 + 2 * s) (ht : x.tried = 0)
    (hy : wruns k0 (x, w) = (y, w')) (h9 : y.at_ = 9) (hk : k0 ≤ most) (hmost : most ≤ 1000) :
    callE T 22 lim [ptr b, ptr o, i64 most] H fun v H' => ∃ m', v = .tuple #[i64 y.code, w64 y.ret, .bool true] ∧ Clean m' w' ∧ H' = memPut (H.set o (crw y)) b pw pb m' := by
  refine callE_pop rfl (by simp) rfl ?_
  have l := (List.getElem?_eq_some_iff.1 h).1
  have hb := hm.lb
  simp -dsimp only [go_sem, Nat.reduceEqDiff, Nat.reduceAdd, Nat.reduceSub, Nat.reduceMul, Nat.reduceLeDiff, Nat.reduceLT, Nat.reduceBEq, Int.reduceLT, Int.reduceLE, Int.reduceGT, Int.reduceGE, Int.reduceEq, Int.reduceNe, Int.reduceBEq, Int.reduceBNe, Int.reduceAdd, Int.reduceSub, Int.reduceMul, Int.reduceToNat, Int.reduceNeg, ↓reduceIte, ↓reduceDIte]
  refine LT_of (fun q : Nat × MV => [(0, ptr b), (1, ptr o), (2, i64 most), (9, i64 q.1)]) (fun q => memPut (H.set o (crw (wruns q.1 (x, w)).1)) b pw pb q.2) (fun q => q.1 ≤ most ∧ Clean q.2 (wruns q.1 (x, w)).2) (fun q => most - q.1) (0, m) rfl (by
    show H = memPut (H.set o (crw x)) b pw pb m
    rw [set_same h, memPut_same hm]) ⟨by simp, c⟩ ?_
  rintro ⟨k, m1⟩ ⟨hk1, c1⟩
  simp only at hk1 c1 ⊢
  obtain ⟨i1, i2, i3, i4⟩ := wruns_inv (z := (x, w)) hr hw ht k
  have hml : m1.w.length = m.w.length := by rw [c1.ws, i2, c.ws, hw]
  have mem : MemAt (memPut (H.set o (crw (wruns k (x, w)).1)) b pw pb m1) b pw pb m1 := (hm.set_off h1 h2 h3 _).put hml (by rw [c1.len, i2, c.ws, hw])
  have at2 : ∀ (y : LObj) (m' : MV), (memPut (H.set o y) b pw pb m')[o]? = some y := fun y m' => by rw [memPut_get _ h1.symm h2.symm h3.symm, get_set_eq l]
  have fin : wruns k (x, w) = (y, w') → ∃ m', Clean m' w' ∧ List.take H.length (memPut (H.set o (crw (wruns k (x, w)).1)) b pw pb m1) = memPut (H.set o (crw y)) b pw pb m' := fun q => by
    rw [q] at c1 ⊢
    exact ⟨m1, c1, List.take_of_length_le (by rw [memPut_len]; simp)⟩
  by_cases c2 : k < most
  · have c2' : (k : Int) < most := by omega
    simp -dsimp only [go_sem, Nat.reduceEqDiff, Nat.reduceAdd, Nat.reduceSub, Nat.reduceMul, Nat.reduceLeDiff, Nat.reduceLT, Nat.reduceBEq, Int.reduceLT, Int.reduceLE, Int.reduceGT, Int.reduceGE, Int.reduceEq, Int.reduceNe, Int.reduceBEq, Int.reduceBNe, Int.reduceAdd, Int.reduceSub, Int.reduceMul, Int.reduceToNat, Int.reduceNeg, ↓reduceIte, ↓reduceDIte, c2']
    refine CT_val (cdone_ev (at2 _ _)) ?_
    by_cases d : (wruns k (x, w)).1.at_ = 9
    · have d' : ((wruns k (x, w)).1.at_ == 9) = true := by simp [d]
      have e := wruns_at hy h9 (k := k) (.inl d)
      simp -dsimp only [go_sem, Nat.reduceEqDiff, Nat.reduceAdd, Nat.reduceSub, Nat.reduceMul, Nat.reduceLeDiff, Nat.reduceLT, Nat.reduceBEq, Int.reduceLT, Int.reduceLE, Int.reduceGT, Int.reduceGE, Int.reduceEq, Int.reduceNe, Int.reduceBEq, Int.reduceBNe, Int.reduceAdd, Int.reduceSub, Int.reduceMul, Int.reduceToNat, Int.reduceNeg, ↓reduceIte, ↓reduceDIte, d']
      refine CT_val (cres_ev (at2 _ _)) ?_
      rw [if_pos d]
      simp -dsimp only [go_sem, Nat.reduceEqDiff, Nat.reduceAdd, Nat.reduceSub, Nat.reduceMul, Nat.reduceLeDiff, Nat.reduceLT, Nat.reduceBEq, Int.reduceLT, Int.reduceLE, Int.reduceGT, Int.reduceGE, Int.reduceEq, Int.reduceNe, Int.reduceBEq, Int.reduceBNe, Int.reduceAdd, Int.reduceSub, Int.reduceMul, Int.reduceToNat, Int.reduceNeg, ↓reduceIte, ↓reduceDIte]
      refine CT_val (cdone_ev (at2 _ _)) ?_
      simp -dsimp only [go_sem, Nat.reduceEqDiff, Nat.reduceAdd, Nat.reduceSub, Nat.reduceMul, Nat.reduceLeDiff, Nat.reduceLT, Nat.reduceBEq, Int.reduceLT, Int.reduceLE, Int.reduceGT, Int.reduceGE, Int.reduceEq, Int.reduceNe, Int.reduceBEq, Int.reduceBNe, Int.reduceAdd, Int.reduceSub, Int.reduceMul, Int.reduceToNat, Int.reduceNeg, ↓reduceIte, ↓reduceDIte, d']
      obtain ⟨m', f1, f2⟩ := fin e
      rw [f2, e]
      exact ⟨m', rfl, f1, rfl⟩
    · have d' : ((wruns k (x, w)).1.at_ == 9) = false := by simp [d]
      have w1 : IntKind.i64.wrap ((k : Int) + 1) = ((k + 1 : Nat) : Int) := by rw [wrap_i64] <;> omega
      obtain ⟨s1, s2⟩ := step_wst (x := (wruns k (x, w)).1) (w := (wruns k (x, w)).2) c1 i1 (by rw [i1]; exact hrr) i2
      simp -dsimp only [go_sem, Nat.reduceEqDiff, Nat.reduceAdd, Nat.reduceSub, Nat.reduceMul, Nat.reduceLeDiff, Nat.reduceLT, Nat.reduceBEq, Int.reduceLT, Int.reduceLE, Int.reduceGT, Int.reduceGE, Int.reduceEq, Int.reduceNe, Int.reduceBEq, Int.reduceBNe, Int.reduceAdd, Int.reduceSub, Int.reduceMul, Int.reduceToNat, Int.reduceNeg, ↓reduceIte, ↓reduceDIte, d']
      refine CT_of (cstep_ev (at2 _ _) mem h1 h2 h3 (by rw [i1]; exact hrr) (by omega)) ?_
      rintro _ _ ⟨rfl, rfl⟩
      rw [memPut_set_off h1 h2 h3, List.set_set, memPut_put (hm.set_off h1 h2 h3 _), s1]
      simp -dsimp only [go_sem, Nat.reduceEqDiff, Nat.reduceAdd, Nat.reduceSub, Nat.reduceMul, Nat.reduceLeDiff, Nat.reduceLT, Nat.reduceBEq, Int.reduceLT, Int.reduceLE, Int.reduceGT, Int.reduceGE, Int.reduceEq, Int.reduceNe, Int.reduceBEq, Int.reduceBNe, Int.reduceAdd, Int.reduceSub, Int.reduceMul, Int.reduceToNat, Int.reduceNeg, ↓reduceIte, ↓reduceDIte, w1]
      exact ⟨(k + 1, _), rfl, rfl, ⟨by simp only; omega, s2⟩, by simp only; omega⟩
  · have c2' : ¬ (k : Int) < most := by omega
    have e := wruns_at hy h9 (k := k) (.inr (by omega))
    have d : (wruns k (x, w)).1.at_ = 9 := by rw [e]; exact h9
    have d' : ((wruns k (x, w)).1.at_ == 9) = true := by simp [d]
    simp -dsimp only [go_sem, Nat.reduceEqDiff, Nat.reduceAdd, Nat.reduceSub, Nat.reduceMul, Nat.reduceLeDiff, Nat.reduceLT, Nat.reduceBEq, Int.reduceLT, Int.reduceLE, Int.reduceGT, Int.reduceGE, Int.reduceEq, Int.reduceNe, Int.reduceBEq, Int.reduceBNe, Int.reduceAdd, Int.reduceSub, Int.reduceMul, Int.reduceToNat, Int.reduceNeg, ↓reduceIte, ↓reduceDIte, c2']
    refine CT_val (cres_ev (at2 _ _)) ?_
    rw [if_pos d]
    simp -dsimp only [go_sem, Nat.reduceEqDiff, Nat.reduceAdd, Nat.reduceSub, Nat.reduceMul, Nat.reduceLeDiff, Nat.reduceLT, Nat.reduceBEq, Int.reduceLT, Int.reduceLE, Int.reduceGT, Int.reduceGE, Int.reduceEq, Int.reduceNe, Int.reduceBEq, Int.reduceBNe, Int.reduceAdd, Int.reduceSub, Int.reduceMul, Int.reduceToNat, Int.reduceNeg, ↓reduceIte, ↓reduceDIte]
    refine CT_val (cdone_ev (at2 _ _)) ?_
    simp -dsimp only [go_sem, Nat.reduceEqDiff, Nat.reduceAdd, Nat.reduceSub, Nat.reduceMul, Nat.reduceLeDiff, Nat.reduceLT, Nat.reduceBEq, Int.reduceLT, Int.reduceLE, Int.reduceGT, Int.reduceGE, Int.reduceEq, Int.reduceNe, Int.reduceBEq, Int.reduceBNe, Int.reduceAdd, Int.reduceSub, Int.reduceMul, Int.reduceToNat, Int.reduceNeg, ↓reduceIte, ↓reduceDIte, d']
    obtain ⟨m', f1, f2⟩ := fin e
    rw [f2, e]
    exact ⟨m', rfl, f1, rfl⟩
abbrev AG (H : LHeap) (s : Nat) (m : MV) (t : LHeap) : LHeap := H ++ (rro ⟨0, s⟩ :: wrow m :: brow m :: mrow (H.length + 1) (H.length + 2) m :: t)
theorem AG_mem {n : Nat} (ok : m.Ok n) (t : LHeap) : MemAt (AG H s m t) (H.length + 3) (H.length + 1) (H.length + 2) m := mem_at (pre := [_]) ok
theorem AG_app (t u : LHeap) : AG H s m t ++ u = AG H s m (t ++ u) := by simp [AG]
theorem AG_len (t : LHeap) : (AG H s m t).length = H.length + 4 + t.length := by simp [AG]; omega
theorem AG_at (t : LHeap) (j : Nat) : (AG H s m t)[H.length + 4 + j]? = t[j]? := by
  rw [AG, List.getElem?_append_right (by omega), show H.length + 4 + j - H.length = j + 4 by omega]; rfl
theorem AG_rr (t : LHeap) : (AG H s m t)[H.length]? = some (rro ⟨0, s⟩) := get_app0 _ _
theorem AG_put (m' : MV) (t : LHeap) : memPut (AG H s m t) (H.length + 3) (H.length + 1) (H.length + 2) m' = AG H s m' t := by
  simp only [AG, memPut]
  simp -dsimp only [go_sem, Nat.reduceEqDiff, Nat.reduceAdd, Nat.reduceSub, Nat.reduceMul, Nat.reduceLeDiff, Nat.reduceLT, Nat.reduceBEq, Int.reduceLT, Int.reduceLE, Int.reduceGT, Int.reduceGE, Int.reduceEq, Int.reduceNe, Int.reduceBEq, Int.reduceBNe, Int.reduceAdd, Int.reduceSub, Int.reduceMul, Int.reduceToNat, Int.reduceNeg, ↓reduceIte, ↓reduceDIte]
theorem AG_set (t : LHeap) (u u2 x y : LObj) : (AG H s m (t ++ [u, u2, x])).set (H.length + 4 + t.length + 2) y = AG H s m (t ++ [u, u2, y]) := by
  have e : ∀ z, AG H s m (t ++ [u, u2, z]) = (AG H s m t ++ [u, u2]) ++ [z] := by intro z; simp [AG]
  have eo : H.length + 4 + t.length + 2 = (AG H s m t ++ [u, u2]).length := by rw [List.length_append, AG_len]; rfl
  rw [e, e, eo]
  simp
/-- An operation that is begun is run. -/
theorem orun_ev {t : LHeap} {u u2 : LObj} (c : Clean m w) (hr : x.r = ⟨0, s⟩) (hrr : (RV.mk 0 s).right = true) (hw : w.length = 4 + 2 * s) (ht : x.tried = 0)
    (hy : wruns k0 (x, w) = (y, w')) (h9 : y.at_ = 9) (hk : k0 ≤ most) (hmost : most ≤ 1000) :
    callE T 22 lim [ptr (H.length + 3), ptr (H.length + 4 + t.length + 2), i64 most] (AG H s m (t ++ [u, u2, crw x])) fun v H' => ∃ m', v = .tuple #[i64 y.code, w64 y.ret, .bool true] ∧ Clean m' w' ∧ H' = AG H s m' (t ++ [u, u2, crw y]) := by
  have ok := c.ok
  refine (run_ev (s := s) ?_ (AG_mem ok _) (by omega) (by omega) (by omega) c hr hrr hw ht hy h9 hk hmost).mono ?_
  · rw [show H.length + 4 + t.length + 2 = H.length + 4 + (t.length + 2) by omega, AG_at]
    simp
  · rintro _ _ ⟨m', rfl, c', rfl⟩
    exact ⟨m', rfl, c', by rw [AG_set, AG_put]⟩
end
end Go.Proofs.Ytopjhhcncjleaaa
