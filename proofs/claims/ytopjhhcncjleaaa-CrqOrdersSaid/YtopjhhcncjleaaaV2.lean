/- DROP Rings that may be closed: operations. -/
import Derived.Test.YtopjhhcncjleaaaV0
import Derived.Test.YtopjhhcncjleaaaWK
namespace Go.Proofs.Ytopjhhcncjleaaa
open Go Go.LK
set_option linter.unusedSimpArgs false
set_option linter.unusedVariables false
structure COp where
  r : RV
  kind : Int
  v : BitVec 64
  at_ : Int
  p : BitVec 64
  d : BitVec 64
  s : BitVec 64
  tail : BitVec 64
  head : BitVec 64
  tried : Int
  code : Int
  ret : BitVec 64
abbrev crw (x : COp) : LObj := .row false 0 [.bool true, i64 x.r.a, i64 x.r.s, i64 x.kind, w64 x.v, i64 x.at_, w64 x.p, w64 x.d, w64 x.s, w64 x.tail, w64 x.head, i64 x.tried, i64 x.code, w64 x.ret]
abbrev clo : BitVec 64 := 9223372036854775808#64
def COp.fin (x : COp) (code : Int) (ret : BitVec 64) : COp := { x with at_ := 9, code := code, ret := ret }
def COp.own (x : COp) : Bool := (x.d != 0#64) && (poW x.s == x.p)
abbrev c0 (r : RV) (k : Int) (v : BitVec 64) : COp := ⟨r, k, v, 0, 0#64, 0#64, 0#64, 0#64, 0#64, 0, 0, 0#64⟩
section
variable {lim o : Nat} {x : COp} {H : LHeap} {r : RV}
theorem cnone_nil : callE T 51 lim [.pointer none] H fun v H' => v = .bool true ∧ H' = H := by
  refine callE_pop rfl (by simp) rfl ?_
  simp -dsimp only [go_sem, Nat.reduceEqDiff, Nat.reduceAdd, Nat.reduceSub, Nat.reduceMul, Nat.reduceLeDiff, Nat.reduceLT, Nat.reduceBEq, Int.reduceLT, Int.reduceLE, Int.reduceGT, Int.reduceGE, Int.reduceEq, Int.reduceNe, Int.reduceBEq, Int.reduceBNe, Int.reduceAdd, Int.reduceSub, Int.reduceMul, Int.reduceToNat, Int.reduceNeg, ↓reduceIte, ↓reduceDIte]
theorem cnone_ev (h : H[o]? = some (crw x)) : callE T 51 lim [ptr o] H fun v H' => v = .bool false ∧ H' = H := by
  refine callE_pop rfl (by simp) rfl ?_
  simp -dsimp only [go_sem, Nat.reduceEqDiff, Nat.reduceAdd, Nat.reduceSub, Nat.reduceMul, Nat.reduceLeDiff, Nat.reduceLT, Nat.reduceBEq, Int.reduceLT, Int.reduceLE, Int.reduceGT, Int.reduceGE, Int.reduceEq, Int.reduceNe, Int.reduceBEq, Int.reduceBNe, Int.reduceAdd, Int.reduceSub, Int.reduceMul, Int.reduceToNat, Int.reduceNeg, ↓reduceIte, ↓reduceDIte, lget_at h]
theorem cdone_nil : callE T 27 lim [.pointer none] H fun v H' => v = .bool true ∧ H' = H := by
  refine callE_pop rfl (by simp) rfl ?_
  simp -dsimp only [go_sem, Nat.reduceEqDiff, Nat.reduceAdd, Nat.reduceSub, Nat.reduceMul, Nat.reduceLeDiff, Nat.reduceLT, Nat.reduceBEq, Int.reduceLT, Int.reduceLE, Int.reduceGT, Int.reduceGE, Int.reduceEq, Int.reduceNe, Int.reduceBEq, Int.reduceBNe, Int.reduceAdd, Int.reduceSub, Int.reduceMul, Int.reduceToNat, Int.reduceNeg, ↓reduceIte, ↓reduceDIte]
  refine CT_val cnone_nil ?_
  simp -dsimp only [go_sem, Nat.reduceEqDiff, Nat.reduceAdd, Nat.reduceSub, Nat.reduceMul, Nat.reduceLeDiff, Nat.reduceLT, Nat.reduceBEq, Int.reduceLT, Int.reduceLE, Int.reduceGT, Int.reduceGE, Int.reduceEq, Int.reduceNe, Int.reduceBEq, Int.reduceBNe, Int.reduceAdd, Int.reduceSub, Int.reduceMul, Int.reduceToNat, Int.reduceNeg, ↓reduceIte, ↓reduceDIte]
theorem cdone_ev (h : H[o]? = some (crw x)) : callE T 27 lim [ptr o] H fun v H' => v = .bool (x.at_ == 9) ∧ H' = H := by
  refine callE_pop rfl (by simp) rfl ?_
  simp -dsimp only [go_sem, Nat.reduceEqDiff, Nat.reduceAdd, Nat.reduceSub, Nat.reduceMul, Nat.reduceLeDiff, Nat.reduceLT, Nat.reduceBEq, Int.reduceLT, Int.reduceLE, Int.reduceGT, Int.reduceGE, Int.reduceEq, Int.reduceNe, Int.reduceBEq, Int.reduceBNe, Int.reduceAdd, Int.reduceSub, Int.reduceMul, Int.reduceToNat, Int.reduceNeg, ↓reduceIte, ↓reduceDIte]
  refine CT_val (cnone_ev h) ?_
  simp -dsimp only [go_sem, Nat.reduceEqDiff, Nat.reduceAdd, Nat.reduceSub, Nat.reduceMul, Nat.reduceLeDiff, Nat.reduceLT, Nat.reduceBEq, Int.reduceLT, Int.reduceLE, Int.reduceGT, Int.reduceGE, Int.reduceEq, Int.reduceNe, Int.reduceBEq, Int.reduceBNe, Int.reduceAdd, Int.reduceSub, Int.reduceMul, Int.reduceToNat, Int.reduceNeg, ↓reduceIte, ↓reduceDIte, lget_at h]
theorem cres_nil : callE T 18 lim [.pointer none] H fun v H' => v = .tuple #[i64 1, w64 0#64] ∧ H' = H := by
  refine callE_pop rfl (by simp) rfl ?_
  simp -dsimp only [go_sem, Nat.reduceEqDiff, Nat.reduceAdd, Nat.reduceSub, Nat.reduceMul, Nat.reduceLeDiff, Nat.reduceLT, Nat.reduceBEq, Int.reduceLT, Int.reduceLE, Int.reduceGT, Int.reduceGE, Int.reduceEq, Int.reduceNe, Int.reduceBEq, Int.reduceBNe, Int.reduceAdd, Int.reduceSub, Int.reduceMul, Int.reduceToNat, Int.reduceNeg, ↓reduceIte, ↓reduceDIte]
  refine CT_val cnone_nil ?_
  simp -dsimp only [go_sem, Nat.reduceEqDiff, Nat.reduceAdd, Nat.reduceSub, Nat.reduceMul, Nat.reduceLeDiff, Nat.reduceLT, Nat.reduceBEq, Int.reduceLT, Int.reduceLE, Int.reduceGT, Int.reduceGE, Int.reduceEq, Int.reduceNe, Int.reduceBEq, Int.reduceBNe, Int.reduceAdd, Int.reduceSub, Int.reduceMul, Int.reduceToNat, Int.reduceNeg, ↓reduceIte, ↓reduceDIte]
theorem cres_zero {c : List Value} (h : H[o]? = some (.row false 0 (.bool false :: c))) : callE T 18 lim [ptr o] H fun v H' => v = .tuple #[i64 1, w64 0#64] ∧ H' = H := by
  refine callE_pop rfl (by simp) rfl ?_
  simp -dsimp only [go_sem, Nat.reduceEqDiff, Nat.reduceAdd, Nat.reduceSub, Nat.reduceMul, Nat.reduceLeDiff, Nat.reduceLT, Nat.reduceBEq, Int.reduceLT, Int.reduceLE, Int.reduceGT, Int.reduceGE, Int.reduceEq, Int.reduceNe, Int.reduceBEq, Int.reduceBNe, Int.reduceAdd, Int.reduceSub, Int.reduceMul, Int.reduceToNat, Int.reduceNeg, ↓reduceIte, ↓reduceDIte]
  refine callE_pop rfl (by simp) rfl ?_
  simp -dsimp only [go_sem, Nat.reduceEqDiff, Nat.reduceAdd, Nat.reduceSub, Nat.reduceMul, Nat.reduceLeDiff, Nat.reduceLT, Nat.reduceBEq, Int.reduceLT, Int.reduceLE, Int.reduceGT, Int.reduceGE, Int.reduceEq, Int.reduceNe, Int.reduceBEq, Int.reduceBNe, Int.reduceAdd, Int.reduceSub, Int.reduceMul, Int.reduceToNat, Int.reduceNeg, ↓reduceIte, ↓reduceDIte, lget_at h]
theorem cres_ev (h : H[o]? = some (crw x)) : callE T 18 lim [ptr o] H fun v H' => v = (if x.at_ = 9 then .tuple #[i64 x.code, w64 x.ret] else .tuple #[i64 0, w64 0#64]) ∧ H' = H := by
  refine callE_pop rfl (by simp) rfl ?_
  simp -dsimp only [go_sem, Nat.reduceEqDiff, Nat.reduceAdd, Nat.reduceSub, Nat.reduceMul, Nat.reduceLeDiff, Nat.reduceLT, Nat.reduceBEq, Int.reduceLT, Int.reduceLE, Int.reduceGT, Int.reduceGE, Int.reduceEq, Int.reduceNe, Int.reduceBEq, Int.reduceBNe, Int.reduceAdd, Int.reduceSub, Int.reduceMul, Int.reduceToNat, Int.reduceNeg, ↓reduceIte, ↓reduceDIte]
  refine CT_val (cnone_ev h) ?_
  by_cases hp : x.at_ = 9
  · have hq : (x.at_ != 9) = false := by simp [hp]
    simp -dsimp only [go_sem, Nat.reduceEqDiff, Nat.reduceAdd, Nat.reduceSub, Nat.reduceMul, Nat.reduceLeDiff, Nat.reduceLT, Nat.reduceBEq, Int.reduceLT, Int.reduceLE, Int.reduceGT, Int.reduceGE, Int.reduceEq, Int.reduceNe, Int.reduceBEq, Int.reduceBNe, Int.reduceAdd, Int.reduceSub, Int.reduceMul, Int.reduceToNat, Int.reduceNeg, ↓reduceIte, ↓reduceDIte, lget_at h, hq]
    rw [if_pos hp]
  · have hq : (x.at_ != 9) = true := by simp [hp]
    simp -dsimp only [go_sem, Nat.reduceEqDiff, Nat.reduceAdd, Nat.reduceSub, Nat.reduceMul, Nat.reduceLeDiff, Nat.reduceLT, Nat.reduceBEq, Int.reduceLT, Int.reduceLE, Int.reduceGT, Int.reduceGE, Int.reduceEq, Int.reduceNe, Int.reduceBEq, Int.reduceBNe, Int.reduceAdd, Int.reduceSub, Int.reduceMul, Int.reduceToNat, Int.reduceNeg, ↓reduceIte, ↓reduceDIte, lget_at h, hq]
    rw [if_neg hp]
theorem cend_ev {code : Int} {ret : BitVec 64} (h : H[o]? = some (crw x)) : callE T 73 lim [ptr o, i64 code, w64 ret] H fun v H' => H' = H.set o (crw (x.fin code ret)) := by
  refine callE_pop rfl (by simp) rfl ?_
  have l := (List.getElem?_eq_some_iff.1 h).1
  simp -dsimp only [go_sem, Nat.reduceEqDiff, Nat.reduceAdd, Nat.reduceSub, Nat.reduceMul, Nat.reduceLeDiff, Nat.reduceLT, Nat.reduceBEq, Int.reduceLT, Int.reduceLE, Int.reduceGT, Int.reduceGE, Int.reduceEq, Int.reduceNe, Int.reduceBEq, Int.reduceBNe, Int.reduceAdd, Int.reduceSub, Int.reduceMul, Int.reduceToNat, Int.reduceNeg, ↓reduceIte, ↓reduceDIte, lget_at h, h, lget_set_eq l, get_set_eq l, List.set_set]
  rw [List.take_of_length_le (by simp)]
  simp [COp.fin]
theorem cbranch_ev {is : Bool} {y n : Int} (h : H[o]? = some (crw x)) : callE T 76 lim [ptr o, .bool is, i64 y, i64 n] H fun v H' => H' = H.set o (crw { x with at_ := if is = true then y else n }) := by
  refine callE_pop rfl (by simp) rfl ?_
  have l := (List.getElem?_eq_some_iff.1 h).1
  cases is
  · simp -dsimp only [go_sem, Nat.reduceEqDiff, Nat.reduceAdd, Nat.reduceSub, Nat.reduceMul, Nat.reduceLeDiff, Nat.reduceLT, Nat.reduceBEq, Int.reduceLT, Int.reduceLE, Int.reduceGT, Int.reduceGE, Int.reduceEq, Int.reduceNe, Int.reduceBEq, Int.reduceBNe, Int.reduceAdd, Int.reduceSub, Int.reduceMul, Int.reduceToNat, Int.reduceNeg, ↓reduceIte, ↓reduceDIte, lget_at h, h, lget_set_eq l, get_set_eq l, List.set_set]
    rw [List.take_of_length_le (by simp)]
  · simp -dsimp only [go_sem, Nat.reduceEqDiff, Nat.reduceAdd, Nat.reduceSub, Nat.reduceMul, Nat.reduceLeDiff, Nat.reduceLT, Nat.reduceBEq, Int.reduceLT, Int.reduceLE, Int.reduceGT, Int.reduceGE, Int.reduceEq, Int.reduceNe, Int.reduceBEq, Int.reduceBNe, Int.reduceAdd, Int.reduceSub, Int.reduceMul, Int.reduceToNat, Int.reduceNeg, ↓reduceIte, ↓reduceDIte, lget_at h, h, lget_set_eq l, get_set_eq l, List.set_set]
    rw [List.take_of_length_le (by simp)]
theorem cown_ev (h : H[o]? = some (crw x)) : callE T 94 lim [ptr o] H fun v H' => v = .bool x.own ∧ H' = H := by
  refine callE_pop rfl (by simp) rfl ?_
  cases hd : (x.d != 0#64)
  · simp -dsimp only [go_sem, Nat.reduceEqDiff, Nat.reduceAdd, Nat.reduceSub, Nat.reduceMul, Nat.reduceLeDiff, Nat.reduceLT, Nat.reduceBEq, Int.reduceLT, Int.reduceLE, Int.reduceGT, Int.reduceGE, Int.reduceEq, Int.reduceNe, Int.reduceBEq, Int.reduceBNe, Int.reduceAdd, Int.reduceSub, Int.reduceMul, Int.reduceToNat, Int.reduceNeg, ↓reduceIte, ↓reduceDIte, lget_at h, hd]
    simp [COp.own, hd]
  · simp -dsimp only [go_sem, Nat.reduceEqDiff, Nat.reduceAdd, Nat.reduceSub, Nat.reduceMul, Nat.reduceLeDiff, Nat.reduceLT, Nat.reduceBEq, Int.reduceLT, Int.reduceLE, Int.reduceGT, Int.reduceGE, Int.reduceEq, Int.reduceNe, Int.reduceBEq, Int.reduceBNe, Int.reduceAdd, Int.reduceSub, Int.reduceMul, Int.reduceToNat, Int.reduceNeg, ↓reduceIte, ↓reduceDIte, lget_at h, hd]
    refine CT_val position_ev ?_
    simp -dsimp only [go_sem, Nat.reduceEqDiff, Nat.reduceAdd, Nat.reduceSub, Nat.reduceMul, Nat.reduceLeDiff, Nat.reduceLT, Nat.reduceBEq, Int.reduceLT, Int.reduceLE, Int.reduceGT, Int.reduceGE, Int.reduceEq, Int.reduceNe, Int.reduceBEq, Int.reduceBNe, Int.reduceAdd, Int.reduceSub, Int.reduceMul, Int.reduceToNat, Int.reduceNeg, ↓reduceIte, ↓reduceDIte, lget_at h]
    simp [COp.own, hd]
theorem cbegin_ev (hl : lim ≤ H.length) {k : Int} {v : BitVec 64} : callE T 53 lim [r.v, i64 k, w64 v] H fun v' H' => v' = ptr (H.length + 1) ∧ ∃ u, H' = H ++ [u, crw (if r.right = true ∧ v >>> 62 = 0#64 then c0 r k v else COp.fin (c0 r k v) 2 0#64)] := by
  refine callE_stay rfl (by simp) rfl ?_
  have s1 : (min (62#64).toNat 64) = 62 := by decide
  simp -dsimp only [go_sem, Nat.reduceEqDiff, Nat.reduceAdd, Nat.reduceSub, Nat.reduceMul, Nat.reduceLeDiff, Nat.reduceLT, Nat.reduceBEq, Int.reduceLT, Int.reduceLE, Int.reduceGT, Int.reduceGE, Int.reduceEq, Int.reduceNe, Int.reduceBEq, Int.reduceBNe, Int.reduceAdd, Int.reduceSub, Int.reduceMul, Int.reduceToNat, Int.reduceNeg, ↓reduceIte, ↓reduceDIte]
  refine CT_val right_ev ?_
  cases hr : r.right
  · simp -dsimp only [go_sem, Nat.reduceEqDiff, Nat.reduceAdd, Nat.reduceSub, Nat.reduceMul, Nat.reduceLeDiff, Nat.reduceLT, Nat.reduceBEq, Int.reduceLT, Int.reduceLE, Int.reduceGT, Int.reduceGE, Int.reduceEq, Int.reduceNe, Int.reduceBEq, Int.reduceBNe, Int.reduceAdd, Int.reduceSub, Int.reduceMul, Int.reduceToNat, Int.reduceNeg, ↓reduceIte, ↓reduceDIte]
    refine CT_heap (cend_ev (x := c0 r k v) (get_app H _ 1)) ?_
    intro z
    simp -dsimp only [go_sem, Nat.reduceEqDiff, Nat.reduceAdd, Nat.reduceSub, Nat.reduceMul, Nat.reduceLeDiff, Nat.reduceLT, Nat.reduceBEq, Int.reduceLT, Int.reduceLE, Int.reduceGT, Int.reduceGE, Int.reduceEq, Int.reduceNe, Int.reduceBEq, Int.reduceBNe, Int.reduceAdd, Int.reduceSub, Int.reduceMul, Int.reduceToNat, Int.reduceNeg, ↓reduceIte, ↓reduceDIte]
    exact ⟨_, rfl⟩
  · by_cases hv : v >>> 62 = 0#64
    · have hv1 : (v >>> 62 != 0#64) = false := by simp [hv]
      simp -dsimp only [go_sem, Nat.reduceEqDiff, Nat.reduceAdd, Nat.reduceSub, Nat.reduceMul, Nat.reduceLeDiff, Nat.reduceLT, Nat.reduceBEq, Int.reduceLT, Int.reduceLE, Int.reduceGT, Int.reduceGE, Int.reduceEq, Int.reduceNe, Int.reduceBEq, Int.reduceBNe, Int.reduceAdd, Int.reduceSub, Int.reduceMul, Int.reduceToNat, Int.reduceNeg, ↓reduceIte, ↓reduceDIte, s1, hv1]
      simp only [hv, and_self, if_true]
      exact ⟨_, rfl⟩
    · have hv1 : (v >>> 62 != 0#64) = true := by simp [hv]
      simp -dsimp only [go_sem, Nat.reduceEqDiff, Nat.reduceAdd, Nat.reduceSub, Nat.reduceMul, Nat.reduceLeDiff, Nat.reduceLT, Nat.reduceBEq, Int.reduceLT, Int.reduceLE, Int.reduceGT, Int.reduceGE, Int.reduceEq, Int.reduceNe, Int.reduceBEq, Int.reduceBNe, Int.reduceAdd, Int.reduceSub, Int.reduceMul, Int.reduceToNat, Int.reduceNeg, ↓reduceIte, ↓reduceDIte, s1, hv1]
      refine CT_heap (cend_ev (x := c0 r k v) (get_app H _ 1)) ?_
      intro z
      simp -dsimp only [go_sem, Nat.reduceEqDiff, Nat.reduceAdd, Nat.reduceSub, Nat.reduceMul, Nat.reduceLeDiff, Nat.reduceLT, Nat.reduceBEq, Int.reduceLT, Int.reduceLE, Int.reduceGT, Int.reduceGE, Int.reduceEq, Int.reduceNe, Int.reduceBEq, Int.reduceBNe, Int.reduceAdd, Int.reduceSub, Int.reduceMul, Int.reduceToNat, Int.reduceNeg, ↓reduceIte, ↓reduceDIte]
      simp only [hv, and_false, if_false]
      exact ⟨_, rfl⟩
theorem cput_ev (hl : lim ≤ H.length) {v : BitVec 64} : callE T 23 lim [r.v, w64 v] H fun v' H' => ∃ u u2, v' = ptr (H.length + 2) ∧ H' = H ++ [u, u2, crw (if r.right = true ∧ v >>> 62 = 0#64 then c0 r 0 v else COp.fin (c0 r 0 v) 2 0#64)] := by
  refine callE_stay rfl (by simp) rfl ?_
  simp -dsimp only [go_sem, Nat.reduceEqDiff, Nat.reduceAdd, Nat.reduceSub, Nat.reduceMul, Nat.reduceLeDiff, Nat.reduceLT, Nat.reduceBEq, Int.reduceLT, Int.reduceLE, Int.reduceGT, Int.reduceGE, Int.reduceEq, Int.reduceNe, Int.reduceBEq, Int.reduceBNe, Int.reduceAdd, Int.reduceSub, Int.reduceMul, Int.reduceToNat, Int.reduceNeg, ↓reduceIte, ↓reduceDIte]
  refine CT_of (cbegin_ev (by simp; omega)) ?_
  rintro _ _ ⟨rfl, u, rfl⟩
  simp -dsimp only [go_sem, Nat.reduceEqDiff, Nat.reduceAdd, Nat.reduceSub, Nat.reduceMul, Nat.reduceLeDiff, Nat.reduceLT, Nat.reduceBEq, Int.reduceLT, Int.reduceLE, Int.reduceGT, Int.reduceGE, Int.reduceEq, Int.reduceNe, Int.reduceBEq, Int.reduceBNe, Int.reduceAdd, Int.reduceSub, Int.reduceMul, Int.reduceToNat, Int.reduceNeg, ↓reduceIte, ↓reduceDIte, Nat.add_assoc]
  exact ⟨_, _, rfl⟩
theorem ctake_ev (hl : lim ≤ H.length) : callE T 25 lim [r.v] H fun v' H' => ∃ u u2, v' = ptr (H.length + 2) ∧ H' = H ++ [u, u2, crw (if r.right = true then c0 r 1 0#64 else COp.fin (c0 r 1 0#64) 2 0#64)] := by
  refine callE_stay rfl (by simp) rfl ?_
  have e : (0#64 : BitVec 64) >>> 62 = 0#64 := rfl
  simp -dsimp only [go_sem, Nat.reduceEqDiff, Nat.reduceAdd, Nat.reduceSub, Nat.reduceMul, Nat.reduceLeDiff, Nat.reduceLT, Nat.reduceBEq, Int.reduceLT, Int.reduceLE, Int.reduceGT, Int.reduceGE, Int.reduceEq, Int.reduceNe, Int.reduceBEq, Int.reduceBNe, Int.reduceAdd, Int.reduceSub, Int.reduceMul, Int.reduceToNat, Int.reduceNeg, ↓reduceIte, ↓reduceDIte]
  refine CT_of (cbegin_ev (by simp; omega)) ?_
  rintro _ _ ⟨rfl, u, rfl⟩
  simp only [e, and_true]
  simp -dsimp only [go_sem, Nat.reduceEqDiff, Nat.reduceAdd, Nat.reduceSub, Nat.reduceMul, Nat.reduceLeDiff, Nat.reduceLT, Nat.reduceBEq, Int.reduceLT, Int.reduceLE, Int.reduceGT, Int.reduceGE, Int.reduceEq, Int.reduceNe, Int.reduceBEq, Int.reduceBNe, Int.reduceAdd, Int.reduceSub, Int.reduceMul, Int.reduceToNat, Int.reduceNeg, ↓reduceIte, ↓reduceDIte, Nat.add_assoc]
  exact ⟨_, _, rfl⟩
theorem cclose_ev (hl : lim ≤ H.length) : callE T 24 lim [r.v] H fun v' H' => ∃ u u2, v' = ptr (H.length + 2) ∧ H' = H ++ [u, u2, crw (if r.right = true then c0 r 2 0#64 else COp.fin (c0 r 2 0#64) 2 0#64)] := by
  refine callE_stay rfl (by simp) rfl ?_
  have e : (0#64 : BitVec 64) >>> 62 = 0#64 := rfl
  simp -dsimp only [go_sem, Nat.reduceEqDiff, Nat.reduceAdd, Nat.reduceSub, Nat.reduceMul, Nat.reduceLeDiff, Nat.reduceLT, Nat.reduceBEq, Int.reduceLT, Int.reduceLE, Int.reduceGT, Int.reduceGE, Int.reduceEq, Int.reduceNe, Int.reduceBEq, Int.reduceBNe, Int.reduceAdd, Int.reduceSub, Int.reduceMul, Int.reduceToNat, Int.reduceNeg, ↓reduceIte, ↓reduceDIte]
  refine CT_of (cbegin_ev (by simp; omega)) ?_
  rintro _ _ ⟨rfl, u, rfl⟩
  simp only [e, and_true]
  simp -dsimp only [go_sem, Nat.reduceEqDiff, Nat.reduceAdd, Nat.reduceSub, Nat.reduceMul, Nat.reduceLeDiff, Nat.reduceLT, Nat.reduceBEq, Int.reduceLT, Int.reduceLE, Int.reduceGT, Int.reduceGE, Int.reduceEq, Int.reduceNe, Int.reduceBEq, Int.reduceBNe, Int.reduceAdd, Int.reduceSub, Int.reduceMul, Int.reduceToNat, Int.reduceNeg, ↓reduceIte, ↓reduceDIte, Nat.add_assoc]
  exact ⟨_, _, rfl⟩
theorem cstep_nil {v : Value} : callE T 15 lim [.pointer none, v] H fun v H' => v = .bool true ∧ H' = H := by
  refine callE_pop rfl (by simp) rfl ?_
  simp -dsimp only [go_sem, Nat.reduceEqDiff, Nat.reduceAdd, Nat.reduceSub, Nat.reduceMul, Nat.reduceLeDiff, Nat.reduceLT, Nat.reduceBEq, Int.reduceLT, Int.reduceLE, Int.reduceGT, Int.reduceGE, Int.reduceEq, Int.reduceNe, Int.reduceBEq, Int.reduceBNe, Int.reduceAdd, Int.reduceSub, Int.reduceMul, Int.reduceToNat, Int.reduceNeg, ↓reduceIte, ↓reduceDIte]
  refine CT_val cdone_nil ?_
  simp -dsimp only [go_sem, Nat.reduceEqDiff, Nat.reduceAdd, Nat.reduceSub, Nat.reduceMul, Nat.reduceLeDiff, Nat.reduceLT, Nat.reduceBEq, Int.reduceLT, Int.reduceLE, Int.reduceGT, Int.reduceGE, Int.reduceEq, Int.reduceNe, Int.reduceBEq, Int.reduceBNe, Int.reduceAdd, Int.reduceSub, Int.reduceMul, Int.reduceToNat, Int.reduceNeg, ↓reduceIte, ↓reduceDIte]
  refine CT_val cdone_nil ?_
  simp -dsimp only [go_sem, Nat.reduceEqDiff, Nat.reduceAdd, Nat.reduceSub, Nat.reduceMul, Nat.reduceLeDiff, Nat.reduceLT, Nat.reduceBEq, Int.reduceLT, Int.reduceLE, Int.reduceGT, Int.reduceGE, Int.reduceEq, Int.reduceNe, Int.reduceBEq, Int.reduceBNe, Int.reduceAdd, Int.reduceSub, Int.reduceMul, Int.reduceToNat, Int.reduceNeg, ↓reduceIte, ↓reduceDIte]
theorem cstep_done {v : Value} (h : H[o]? = some (crw x)) (hd : x.at_ = 9) : callE T 15 lim [ptr o, v] H fun v H' => v = .bool true ∧ H' = H := by
  have e : (x.at_ == 9) = true := by simp [hd]
  refine callE_pop rfl (by simp) rfl ?_
  simp -dsimp only [go_sem, Nat.reduceEqDiff, Nat.reduceAdd, Nat.reduceSub, Nat.reduceMul, Nat.reduceLeDiff, Nat.reduceLT, Nat.reduceBEq, Int.reduceLT, Int.reduceLE, Int.reduceGT, Int.reduceGE, Int.reduceEq, Int.reduceNe, Int.reduceBEq, Int.reduceBNe, Int.reduceAdd, Int.reduceSub, Int.reduceMul, Int.reduceToNat, Int.reduceNeg, ↓reduceIte, ↓reduceDIte]
  refine CT_val (cdone_ev h) ?_
  simp -dsimp only [go_sem, Nat.reduceEqDiff, Nat.reduceAdd, Nat.reduceSub, Nat.reduceMul, Nat.reduceLeDiff, Nat.reduceLT, Nat.reduceBEq, Int.reduceLT, Int.reduceLE, Int.reduceGT, Int.reduceGE, Int.reduceEq, Int.reduceNe, Int.reduceBEq, Int.reduceBNe, Int.reduceAdd, Int.reduceSub, Int.reduceMul, Int.reduceToNat, Int.reduceNeg, ↓reduceIte, ↓reduceDIte, e]
  refine CT_val (cdone_ev h) ?_
  simp -dsimp only [go_sem, Nat.reduceEqDiff, Nat.reduceAdd, Nat.reduceSub, Nat.reduceMul, Nat.reduceLeDiff, Nat.reduceLT, Nat.reduceBEq, Int.reduceLT, Int.reduceLE, Int.reduceGT, Int.reduceGE, Int.reduceEq, Int.reduceNe, Int.reduceBEq, Int.reduceBNe, Int.reduceAdd, Int.reduceSub, Int.reduceMul, Int.reduceToNat, Int.reduceNeg, ↓reduceIte, ↓reduceDIte, e]
theorem cstep_nomem {v : Value} (h : H[o]? = some (crw x)) (hd : x.at_ ≠ 9) (hv : NoMem H v) : callE T 15 lim [ptr o, v] H fun v H' => v = .bool false ∧ H' = H := by
  have e : (x.at_ == 9) = false := by simp [hd]
  refine callE_pop rfl (by simp) rfl ?_
  simp -dsimp only [go_sem, Nat.reduceEqDiff, Nat.reduceAdd, Nat.reduceSub, Nat.reduceMul, Nat.reduceLeDiff, Nat.reduceLT, Nat.reduceBEq, Int.reduceLT, Int.reduceLE, Int.reduceGT, Int.reduceGE, Int.reduceEq, Int.reduceNe, Int.reduceBEq, Int.reduceBNe, Int.reduceAdd, Int.reduceSub, Int.reduceMul, Int.reduceToNat, Int.reduceNeg, ↓reduceIte, ↓reduceDIte]
  refine CT_val (cdone_ev h) ?_
  simp -dsimp only [go_sem, Nat.reduceEqDiff, Nat.reduceAdd, Nat.reduceSub, Nat.reduceMul, Nat.reduceLeDiff, Nat.reduceLT, Nat.reduceBEq, Int.reduceLT, Int.reduceLE, Int.reduceGT, Int.reduceGE, Int.reduceEq, Int.reduceNe, Int.reduceBEq, Int.reduceBNe, Int.reduceAdd, Int.reduceSub, Int.reduceMul, Int.reduceToNat, Int.reduceNeg, ↓reduceIte, ↓reduceDIte, e]
  refine CT_val (len_no hv) ?_
  simp -dsimp only [go_sem, Nat.reduceEqDiff, Nat.reduceAdd, Nat.reduceSub, Nat.reduceMul, Nat.reduceLeDiff, Nat.reduceLT, Nat.reduceBEq, Int.reduceLT, Int.reduceLE, Int.reduceGT, Int.reduceGE, Int.reduceEq, Int.reduceNe, Int.reduceBEq, Int.reduceBNe, Int.reduceAdd, Int.reduceSub, Int.reduceMul, Int.reduceToNat, Int.reduceNeg, ↓reduceIte, ↓reduceDIte]
  refine CT_val (cdone_ev h) ?_
  simp -dsimp only [go_sem, Nat.reduceEqDiff, Nat.reduceAdd, Nat.reduceSub, Nat.reduceMul, Nat.reduceLeDiff, Nat.reduceLT, Nat.reduceBEq, Int.reduceLT, Int.reduceLE, Int.reduceGT, Int.reduceGE, Int.reduceEq, Int.reduceNe, Int.reduceBEq, Int.reduceBNe, Int.reduceAdd, Int.reduceSub, Int.reduceMul, Int.reduceToNat, Int.reduceNeg, ↓reduceIte, ↓reduceDIte, e]
end
end Go.Proofs.Ytopjhhcncjleaaa
/- DROP Rings that may be closed: steps. -/
namespace Go.Proofs.Ytopjhhcncjleaaa
open Go Go.LK
set_option linter.unusedSimpArgs false
set_option linter.unusedVariables false
structure UseC where
  k : Int
  a : Int
  v0 : BitVec 64
  v1 : BitVec 64
  v2 : BitVec 64
  v3 : BitVec 64
def COp.now (x : COp) : BitVec 64 × BitVec 64 := if ((x.d != 0#64) && !x.own) = true then (stW (poW x.s) 0#64, x.d) else (stW (x.p + BitVec.ofInt 64 x.r.s) x.s, 0#64)
/-- The step of the memory that an operation does where it stands. -/
def COp.use (x : COp) : UseC :=
  if x.kind = 0 then
    if x.at_ = 0 then ⟨3, x.r.a + 1, 1#64, 0#64, 0#64, 0#64⟩
    else if x.at_ = 1 then ⟨0, x.r.cell x.p + 1, 0#64, 0#64, 0#64, 0#64⟩
    else if x.at_ = 2 then ⟨0, x.r.cell x.p, 0#64, 0#64, 0#64, 0#64⟩
    else if x.at_ = 3 then ⟨0, x.r.a, 0#64, 0#64, 0#64, 0#64⟩
    else if x.at_ = 4 then ⟨5, x.r.cell x.p, x.s, x.d, stW x.p 1#64, x.v + 1#64⟩
    else if x.at_ = 5 then ⟨0, x.r.a, 0#64, 0#64, 0#64, 0#64⟩
    else ⟨4, x.r.a + 1, clo, 0#64, 0#64, 0#64⟩
  else if x.kind = 1 then
    if x.at_ = 0 then ⟨3, x.r.a, 1#64, 0#64, 0#64, 0#64⟩
    else if x.at_ = 1 then ⟨0, x.r.cell x.p + 1, 0#64, 0#64, 0#64, 0#64⟩
    else if x.at_ = 2 then ⟨0, x.r.cell x.p, 0#64, 0#64, 0#64, 0#64⟩
    else if x.at_ = 3 then ⟨5, x.r.cell x.p, x.s, x.d, x.now.1, x.now.2⟩
    else if x.at_ = 5 then ⟨0, x.r.a + 1, 0#64, 0#64, 0#64, 0#64⟩
    else if x.at_ = 6 then ⟨0, x.r.a + 1, 0#64, 0#64, 0#64, 0#64⟩
    else if x.at_ = 7 then ⟨0, x.r.a, 0#64, 0#64, 0#64, 0#64⟩
    else if x.at_ = 8 then ⟨2, x.r.a + 1, x.tail, x.head ||| x.tail &&& clo, 0#64, 0#64⟩
    else ⟨9, 0, 0#64, 0#64, 0#64, 0#64⟩
  else ⟨4, x.r.a + 1, clo, 0#64, 0#64, 0#64⟩
/-- The operation behind that. -/
def COp.next (x : COp) (told : BitVec 64) (ok : Bool) : COp :=
  if x.kind = 0 then
    if x.at_ = 0 then (if (told &&& clo != 0#64) = true then COp.fin { x with p := told, at_ := 1 } 16 0#64 else { x with p := told, at_ := 1 })
    else if x.at_ = 1 then { x with d := told, at_ := 2 }
    else if x.at_ = 2 then { x with s := told, at_ := if ((x.d != 0#64) || decide (x.p < poW told)) = true then 5 else if (told &&& 1#64 != 0#64) = true then 4 else 3 }
    else if x.at_ = 3 then { x with at_ := if told ≤ x.p then 4 else 5 }
    else if x.at_ = 4 then (if ok = true then COp.fin { x with at_ := 5 } 0 0#64 else { x with at_ := 5 })
    else if x.at_ = 5 then { x with tried := x.tried + 1, at_ := if (told ≤ x.p ∧ BitVec.ofInt 64 x.r.s ≤ x.p - told) ∨ 10 ≤ x.tried + 1 then 6 else 0 }
    else x.fin 16 0#64
  else if x.kind = 1 then
    if x.at_ = 0 then { x with p := told, at_ := 1 }
    else if x.at_ = 1 then { x with d := told, at_ := 2 }
    else if x.at_ = 2 then { x with s := told, at_ := if x.p < poW told then 5 else 3 }
    else if x.at_ = 3 then (if ok = true then (if x.own = true then COp.fin { x with at_ := 5 } 0 (x.d - 1#64) else { x with at_ := 5 }) else { x with at_ := 1 })
    else if x.at_ = 5 then { x with at_ := if told &&& ~~~clo ≤ x.p + 1#64 then 6 else 0 }
    else if x.at_ = 6 then { x with tail := told, at_ := 7 }
    else if x.at_ = 7 then (if told ≤ x.tail &&& ~~~clo then COp.fin { x with head := told, at_ := 8 } 13 0#64 else { x with head := told, at_ := 8 })
    else if x.at_ = 8 then (if ok = true then COp.fin { x with at_ := 6 } 13 0#64 else { x with at_ := 6 })
    else x
  else x.fin 0 0#64
def COp.step (x : COp) (m : MV) : COp × MV :=
  if x.at_ = 9 then (x, m) else (x.next (m.step x.use.k x.use.a x.use.v0 x.use.v1 x.use.v2 x.use.v3).2.1 (m.step x.use.k x.use.a x.use.v0 x.use.v1 x.use.v2 x.use.v3).2.2, (m.step x.use.k x.use.a x.use.v0 x.use.v1 x.use.v2 x.use.v3).1)
/-- What a step comes to. -/
abbrev CRes (H : LHeap) (o b pw pb : Nat) (x : COp) (m : MV) (H' : LHeap) : Prop :=
  H' = memPut (H.set o (crw (x.next (m.step x.use.k x.use.a x.use.v0 x.use.v1 x.use.v2 x.use.v3).2.1 (m.step x.use.k x.use.a x.use.v0 x.use.v1 x.use.v2 x.use.v3).2.2))) b pw pb (m.step x.use.k x.use.a x.use.v0 x.use.v1 x.use.v2 x.use.v3).1
section
variable {lim o b pw pb : Nat} {x : COp} {H : LHeap} {m : MV}
theorem cshut_ev (h : H[o]? = some (crw x)) (hm : MemAt H b pw pb m) (h1 : o ≠ b) (h2 : o ≠ pw) (h3 : o ≠ pb) (hr : x.r.right = true) :
    callE T 48 lim [ptr o, ptr b] H fun v H' => H' = memPut (H.set o (crw (x.fin (if x.kind = 0 then 16 else 0) 0#64))) b pw pb (m.use 4 (x.r.a + 1) (· ||| clo)) := by
  refine callE_pop rfl (by simp) rfl ?_
  have l := (List.getElem?_eq_some_iff.1 h).1
  obtain ⟨a0, a1, a2, s0, s1⟩ := RV.right_of hr
  have w1 : IntKind.i64.wrap (x.r.a + 1) = x.r.a + 1 := by rw [wrap_i64] <;> omega
  simp -dsimp only [go_sem, Nat.reduceEqDiff, Nat.reduceAdd, Nat.reduceSub, Nat.reduceMul, Nat.reduceLeDiff, Nat.reduceLT, Nat.reduceBEq, Int.reduceLT, Int.reduceLE, Int.reduceGT, Int.reduceGE, Int.reduceEq, Int.reduceNe, Int.reduceBEq, Int.reduceBNe, Int.reduceAdd, Int.reduceSub, Int.reduceMul, Int.reduceToNat, Int.reduceNeg, ↓reduceIte, ↓reduceDIte, lget_at h, w1]
  refine CT_of (or_ev hm) ?_
  rintro _ _ ⟨rfl, rfl⟩
  have hr2 : (memPut H b pw pb (m.use 4 (x.r.a + 1) (· ||| clo)))[o]? = some (crw x) := by rw [memPut_get _ h1.symm h2.symm h3.symm]; exact h
  by_cases hk : x.kind = 0
  · have hk' : (x.kind == 0) = true := by simp [hk]
    simp -dsimp only [go_sem, Nat.reduceEqDiff, Nat.reduceAdd, Nat.reduceSub, Nat.reduceMul, Nat.reduceLeDiff, Nat.reduceLT, Nat.reduceBEq, Int.reduceLT, Int.reduceLE, Int.reduceGT, Int.reduceGE, Int.reduceEq, Int.reduceNe, Int.reduceBEq, Int.reduceBNe, Int.reduceAdd, Int.reduceSub, Int.reduceMul, Int.reduceToNat, Int.reduceNeg, ↓reduceIte, ↓reduceDIte, lget_at hr2, hk']
    refine CT_heap (cend_ev hr2) ?_
    intro v
    rw [memPut_set_off h1 h2 h3, if_pos hk]
    simp -dsimp only [go_sem, Nat.reduceEqDiff, Nat.reduceAdd, Nat.reduceSub, Nat.reduceMul, Nat.reduceLeDiff, Nat.reduceLT, Nat.reduceBEq, Int.reduceLT, Int.reduceLE, Int.reduceGT, Int.reduceGE, Int.reduceEq, Int.reduceNe, Int.reduceBEq, Int.reduceBNe, Int.reduceAdd, Int.reduceSub, Int.reduceMul, Int.reduceToNat, Int.reduceNeg, ↓reduceIte, ↓reduceDIte]
    exact List.take_of_length_le (by simp [memPut_len])
  · have hk' : (x.kind == 0) = false := by simp [hk]
    simp -dsimp only [go_sem, Nat.reduceEqDiff, Nat.reduceAdd, Nat.reduceSub, Nat.reduceMul, Nat.reduceLeDiff, Nat.reduceLT, Nat.reduceBEq, Int.reduceLT, Int.reduceLE, Int.reduceGT, Int.reduceGE, Int.reduceEq, Int.reduceNe, Int.reduceBEq, Int.reduceBNe, Int.reduceAdd, Int.reduceSub, Int.reduceMul, Int.reduceToNat, Int.reduceNeg, ↓reduceIte, ↓reduceDIte, lget_at hr2, hk']
    refine CT_heap (cend_ev hr2) ?_
    intro v
    rw [memPut_set_off h1 h2 h3, if_neg hk]
    simp -dsimp only [go_sem, Nat.reduceEqDiff, Nat.reduceAdd, Nat.reduceSub, Nat.reduceMul, Nat.reduceLeDiff, Nat.reduceLT, Nat.reduceBEq, Int.reduceLT, Int.reduceLE, Int.reduceGT, Int.reduceGE, Int.reduceEq, Int.reduceNe, Int.reduceBEq, Int.reduceBNe, Int.reduceAdd, Int.reduceSub, Int.reduceMul, Int.reduceToNat, Int.reduceNeg, ↓reduceIte, ↓reduceDIte]
    exact List.take_of_length_le (by simp [memPut_len])
theorem cputs_ev (h : H[o]? = some (crw x)) (hm : MemAt H b pw pb m) (h1 : o ≠ b) (h2 : o ≠ pw) (h3 : o ≠ pb) (hr : x.r.right = true) (hk : x.kind = 0) (h9 : x.at_ ≠ 9) (ht : 0 ≤ x.tried ∧ x.tried ≤ 100000) :
    callE T 49 lim [ptr o, ptr b] H fun v H' => CRes H o b pw pb x m H' := by
  have l := (List.getElem?_eq_some_iff.1 h).1
  have hmk := hm
  obtain ⟨xr, xk, xv, xa, xp, xd, xs, xtl, xhd, xt, xc, xrt⟩ := x
  simp only at hr hk h9 ht
  subst hk
  obtain ⟨a0, a1, a2, s0, s1⟩ := RV.right_of hr
  have w1 : IntKind.i64.wrap (xr.a + 1) = xr.a + 1 := by rw [wrap_i64] <;> omega
  have w0 : IntKind.i64.wrap (xr.a + 0) = xr.a := by rw [wrap_i64] <;> omega
  have wc : ∀ p, IntKind.i64.wrap (xr.cell p + 1) = xr.cell p + 1 := fun p => by
    have := cell_in (p := p) hr
    rw [wrap_i64] <;> omega
  have off : ∀ (y : LObj) (m' : MV) (K : LHeap), (memPut K b pw pb m').set o y = memPut (K.set o y) b pw pb m' := fun y m' K => memPut_set_off h1 h2 h3 _ _
  have at2 : ∀ (y : LObj) (m' : MV), (memPut (H.set o y) b pw pb m')[o]? = some y := fun y m' => by rw [memPut_get _ h1.symm h2.symm h3.symm, get_set_eq l]
  have lg : ∀ (c : List Value) (m' : MV) (i : Nat), lget (memPut (H.set o (.row false 0 c)) b pw pb m') o i = c[i]? := fun c m' i => by simp only [lget, at2]
  have lg1 : ∀ (m' : MV) (i : Nat), lget (memPut H b pw pb m') o i = lget H o i := fun m' i => by rw [lget, lget, memPut_get _ h1.symm h2.symm h3.symm]
  have at1 : ∀ (m' : MV), (memPut H b pw pb m')[o]? = H[o]? := fun m' => memPut_get _ h1.symm h2.symm h3.symm
  have ll : ∀ (K : LHeap) (m' : MV), (memPut K b pw pb m').length = K.length := fun K m' => memPut_len _ _ _ _ _
  have mset : ∀ y, MemAt (H.set o y) b pw pb m := fun y => hm.set_off h1 h2 h3 y
  have hcc : ∀ (K : LHeap) c, K[o]? = some (.row false 0 (.bool true :: i64 xr.a :: i64 xr.s :: c)) → lcells K o 1 2 = some [i64 xr.a, i64 xr.s] := fun K c g => by simp [lcells, g]
  have tk : ∀ (y : LObj) (m' : MV), List.take H.length (memPut (H.set o y) b pw pb m') = memPut (H.set o y) b pw pb m' := fun y m' => List.take_of_length_le (by rw [ll]; simp)
  have wt : IntKind.i64.wrap (xt + 1) = xt + 1 := by rw [wrap_i64] <;> omega
  by_cases p0 : xa = 0
  · subst p0
    refine callE_pop rfl (by simp) rfl ?_
    simp -dsimp only [go_sem, Nat.reduceEqDiff, Nat.reduceAdd, Nat.reduceSub, Nat.reduceMul, Nat.reduceLeDiff, Nat.reduceLT, Nat.reduceBEq, Int.reduceLT, Int.reduceLE, Int.reduceGT, Int.reduceGE, Int.reduceEq, Int.reduceNe, Int.reduceBEq, Int.reduceBNe, Int.reduceAdd, Int.reduceSub, Int.reduceMul, Int.reduceToNat, Int.reduceNeg, ↓reduceIte, ↓reduceDIte, lget_at h, h, lget_set_eq l, w1]
    refine CT_of (add_ev (mset _)) ?_
    rintro _ _ ⟨rfl, rfl⟩
    by_cases hc : m.load (xr.a + 1) &&& clo = 0#64
    · have hc' : (m.load (xr.a + 1) &&& clo != 0#64) = false := by simp [hc]
      simp -dsimp only [go_sem, Nat.reduceEqDiff, Nat.reduceAdd, Nat.reduceSub, Nat.reduceMul, Nat.reduceLeDiff, Nat.reduceLT, Nat.reduceBEq, Int.reduceLT, Int.reduceLE, Int.reduceGT, Int.reduceGE, Int.reduceEq, Int.reduceNe, Int.reduceBEq, Int.reduceBNe, Int.reduceAdd, Int.reduceSub, Int.reduceMul, Int.reduceToNat, Int.reduceNeg, ↓reduceIte, ↓reduceDIte, off, List.set_set, at2, lg, hc', tk]
      simp [CRes, COp.use, COp.next, MV.step, hc']
    · have hc' : (m.load (xr.a + 1) &&& clo != 0#64) = true := by simp [hc]
      simp -dsimp only [go_sem, Nat.reduceEqDiff, Nat.reduceAdd, Nat.reduceSub, Nat.reduceMul, Nat.reduceLeDiff, Nat.reduceLT, Nat.reduceBEq, Int.reduceLT, Int.reduceLE, Int.reduceGT, Int.reduceGE, Int.reduceEq, Int.reduceNe, Int.reduceBEq, Int.reduceBNe, Int.reduceAdd, Int.reduceSub, Int.reduceMul, Int.reduceToNat, Int.reduceNeg, ↓reduceIte, ↓reduceDIte, off, List.set_set, at2, lg, hc']
      refine CT_heap (cend_ev (x := ⟨xr, 0, xv, 1, m.load (xr.a + 1), xd, xs, xtl, xhd, xt, xc, xrt⟩) (at2 _ _)) ?_
      intro z
      simp -dsimp only [go_sem, Nat.reduceEqDiff, Nat.reduceAdd, Nat.reduceSub, Nat.reduceMul, Nat.reduceLeDiff, Nat.reduceLT, Nat.reduceBEq, Int.reduceLT, Int.reduceLE, Int.reduceGT, Int.reduceGE, Int.reduceEq, Int.reduceNe, Int.reduceBEq, Int.reduceBNe, Int.reduceAdd, Int.reduceSub, Int.reduceMul, Int.reduceToNat, Int.reduceNeg, ↓reduceIte, ↓reduceDIte, off, List.set_set, tk]
      simp [CRes, COp.use, COp.next, MV.step, hc', COp.fin]
  by_cases p1 : xa = 1
  · subst p1
    refine callE_pop rfl (by simp) rfl ?_
    simp -dsimp only [go_sem, Nat.reduceEqDiff, Nat.reduceAdd, Nat.reduceSub, Nat.reduceMul, Nat.reduceLeDiff, Nat.reduceLT, Nat.reduceBEq, Int.reduceLT, Int.reduceLE, Int.reduceGT, Int.reduceGE, Int.reduceEq, Int.reduceNe, Int.reduceBEq, Int.reduceBNe, Int.reduceAdd, Int.reduceSub, Int.reduceMul, Int.reduceToNat, Int.reduceNeg, ↓reduceIte, ↓reduceDIte, lget_at h, h, lget_set_eq l, hcc H _ h]
    refine CT_val (cell_ev hr) ?_
    simp -dsimp only [go_sem, Nat.reduceEqDiff, Nat.reduceAdd, Nat.reduceSub, Nat.reduceMul, Nat.reduceLeDiff, Nat.reduceLT, Nat.reduceBEq, Int.reduceLT, Int.reduceLE, Int.reduceGT, Int.reduceGE, Int.reduceEq, Int.reduceNe, Int.reduceBEq, Int.reduceBNe, Int.reduceAdd, Int.reduceSub, Int.reduceMul, Int.reduceToNat, Int.reduceNeg, ↓reduceIte, ↓reduceDIte, wc]
    refine CT_of (load_ev hm) ?_
    rintro _ _ ⟨rfl, rfl⟩
    simp -dsimp only [go_sem, Nat.reduceEqDiff, Nat.reduceAdd, Nat.reduceSub, Nat.reduceMul, Nat.reduceLeDiff, Nat.reduceLT, Nat.reduceBEq, Int.reduceLT, Int.reduceLE, Int.reduceGT, Int.reduceGE, Int.reduceEq, Int.reduceNe, Int.reduceBEq, Int.reduceBNe, Int.reduceAdd, Int.reduceSub, Int.reduceMul, Int.reduceToNat, Int.reduceNeg, ↓reduceIte, ↓reduceDIte, at1, h, off, List.set_set, at2, lg, tk]
    simp [CRes, COp.use, COp.next, MV.step]
  by_cases p2 : xa = 2
  · subst p2
    refine callE_pop rfl (by simp) rfl ?_
    simp -dsimp only [go_sem, Nat.reduceEqDiff, Nat.reduceAdd, Nat.reduceSub, Nat.reduceMul, Nat.reduceLeDiff, Nat.reduceLT, Nat.reduceBEq, Int.reduceLT, Int.reduceLE, Int.reduceGT, Int.reduceGE, Int.reduceEq, Int.reduceNe, Int.reduceBEq, Int.reduceBNe, Int.reduceAdd, Int.reduceSub, Int.reduceMul, Int.reduceToNat, Int.reduceNeg, ↓reduceIte, ↓reduceDIte, lget_at h, h, lget_set_eq l, hcc H _ h]
    refine CT_val (cell_ev hr) ?_
    simp -dsimp only [go_sem, Nat.reduceEqDiff, Nat.reduceAdd, Nat.reduceSub, Nat.reduceMul, Nat.reduceLeDiff, Nat.reduceLT, Nat.reduceBEq, Int.reduceLT, Int.reduceLE, Int.reduceGT, Int.reduceGE, Int.reduceEq, Int.reduceNe, Int.reduceBEq, Int.reduceBNe, Int.reduceAdd, Int.reduceSub, Int.reduceMul, Int.reduceToNat, Int.reduceNeg, ↓reduceIte, ↓reduceDIte, wc]
    refine CT_of (load_ev hm) ?_
    rintro _ _ ⟨rfl, rfl⟩
    simp -dsimp only [go_sem, Nat.reduceEqDiff, Nat.reduceAdd, Nat.reduceSub, Nat.reduceMul, Nat.reduceLeDiff, Nat.reduceLT, Nat.reduceBEq, Int.reduceLT, Int.reduceLE, Int.reduceGT, Int.reduceGE, Int.reduceEq, Int.reduceNe, Int.reduceBEq, Int.reduceBNe, Int.reduceAdd, Int.reduceSub, Int.reduceMul, Int.reduceToNat, Int.reduceNeg, ↓reduceIte, ↓reduceDIte, at1, h, off, List.set_set, at2, lg, tk]
    generalize hz : m.load (xr.cell xp) = z
    refine CT_heap (cbranch_ev (x := ⟨xr, 0, xv, 2, xp, xd, z, xtl, xhd, xt, xc, xrt⟩) (at2 _ _)) ?_
    intro q
    cases hb : (z &&& 1#64 != 0#64)
    · by_cases hd : xd = 0#64
      · have hd' : (xd != 0#64) = false := by simp [hd]
        simp -dsimp only [go_sem, Nat.reduceEqDiff, Nat.reduceAdd, Nat.reduceSub, Nat.reduceMul, Nat.reduceLeDiff, Nat.reduceLT, Nat.reduceBEq, Int.reduceLT, Int.reduceLE, Int.reduceGT, Int.reduceGE, Int.reduceEq, Int.reduceNe, Int.reduceBEq, Int.reduceBNe, Int.reduceAdd, Int.reduceSub, Int.reduceMul, Int.reduceToNat, Int.reduceNeg, ↓reduceIte, ↓reduceDIte, off, List.set_set, lg, hd']
        refine CT_val position_ev ?_
        by_cases hp : xp < poW z
        · simp -dsimp only [go_sem, Nat.reduceEqDiff, Nat.reduceAdd, Nat.reduceSub, Nat.reduceMul, Nat.reduceLeDiff, Nat.reduceLT, Nat.reduceBEq, Int.reduceLT, Int.reduceLE, Int.reduceGT, Int.reduceGE, Int.reduceEq, Int.reduceNe, Int.reduceBEq, Int.reduceBNe, Int.reduceAdd, Int.reduceSub, Int.reduceMul, Int.reduceToNat, Int.reduceNeg, ↓reduceIte, ↓reduceDIte, off, List.set_set, lg, hp, at2, tk]
          simp [CRes, COp.use, COp.next, MV.step, hz, hd', hp]
        · simp -dsimp only [go_sem, Nat.reduceEqDiff, Nat.reduceAdd, Nat.reduceSub, Nat.reduceMul, Nat.reduceLeDiff, Nat.reduceLT, Nat.reduceBEq, Int.reduceLT, Int.reduceLE, Int.reduceGT, Int.reduceGE, Int.reduceEq, Int.reduceNe, Int.reduceBEq, Int.reduceBNe, Int.reduceAdd, Int.reduceSub, Int.reduceMul, Int.reduceToNat, Int.reduceNeg, ↓reduceIte, ↓reduceDIte, off, List.set_set, lg, hp, at2, tk]
          simp [CRes, COp.use, COp.next, MV.step, hz, hd', hp, hb]
      · have hd' : (xd != 0#64) = true := by simp [hd]
        simp -dsimp only [go_sem, Nat.reduceEqDiff, Nat.reduceAdd, Nat.reduceSub, Nat.reduceMul, Nat.reduceLeDiff, Nat.reduceLT, Nat.reduceBEq, Int.reduceLT, Int.reduceLE, Int.reduceGT, Int.reduceGE, Int.reduceEq, Int.reduceNe, Int.reduceBEq, Int.reduceBNe, Int.reduceAdd, Int.reduceSub, Int.reduceMul, Int.reduceToNat, Int.reduceNeg, ↓reduceIte, ↓reduceDIte, off, List.set_set, lg, hd', at2, tk]
        simp [CRes, COp.use, COp.next, MV.step, hz, hd', hb]
    · by_cases hd : xd = 0#64
      · have hd' : (xd != 0#64) = false := by simp [hd]
        simp -dsimp only [go_sem, Nat.reduceEqDiff, Nat.reduceAdd, Nat.reduceSub, Nat.reduceMul, Nat.reduceLeDiff, Nat.reduceLT, Nat.reduceBEq, Int.reduceLT, Int.reduceLE, Int.reduceGT, Int.reduceGE, Int.reduceEq, Int.reduceNe, Int.reduceBEq, Int.reduceBNe, Int.reduceAdd, Int.reduceSub, Int.reduceMul, Int.reduceToNat, Int.reduceNeg, ↓reduceIte, ↓reduceDIte, off, List.set_set, lg, hd']
        refine CT_val position_ev ?_
        by_cases hp : xp < poW z
        · simp -dsimp only [go_sem, Nat.reduceEqDiff, Nat.reduceAdd, Nat.reduceSub, Nat.reduceMul, Nat.reduceLeDiff, Nat.reduceLT, Nat.reduceBEq, Int.reduceLT, Int.reduceLE, Int.reduceGT, Int.reduceGE, Int.reduceEq, Int.reduceNe, Int.reduceBEq, Int.reduceBNe, Int.reduceAdd, Int.reduceSub, Int.reduceMul, Int.reduceToNat, Int.reduceNeg, ↓reduceIte, ↓reduceDIte, off, List.set_set, lg, hp, at2, tk]
          simp [CRes, COp.use, COp.next, MV.step, hz, hd', hp]
        · simp -dsimp only [go_sem, Nat.reduceEqDiff, Nat.reduceAdd, Nat.reduceSub, Nat.reduceMul, Nat.reduceLeDiff, Nat.reduceLT, Nat.reduceBEq, Int.reduceLT, Int.reduceLE, Int.reduceGT, Int.reduceGE, Int.reduceEq, Int.reduceNe, Int.reduceBEq, Int.reduceBNe, Int.reduceAdd, Int.reduceSub, Int.reduceMul, Int.reduceToNat, Int.reduceNeg, ↓reduceIte, ↓reduceDIte, off, List.set_set, lg, hp, at2, tk]
          simp [CRes, COp.use, COp.next, MV.step, hz, hd', hp, hb]
      · have hd' : (xd != 0#64) = true := by simp [hd]
        simp -dsimp only [go_sem, Nat.reduceEqDiff, Nat.reduceAdd, Nat.reduceSub, Nat.reduceMul, Nat.reduceLeDiff, Nat.reduceLT, Nat.reduceBEq, Int.reduceLT, Int.reduceLE, Int.reduceGT, Int.reduceGE, Int.reduceEq, Int.reduceNe, Int.reduceBEq, Int.reduceBNe, Int.reduceAdd, Int.reduceSub, Int.reduceMul, Int.reduceToNat, Int.reduceNeg, ↓reduceIte, ↓reduceDIte, off, List.set_set, lg, hd', at2, tk]
        simp [CRes, COp.use, COp.next, MV.step, hz, hd', hb]
  by_cases p3 : xa = 3
  · subst p3
    refine callE_pop rfl (by simp) rfl ?_
    simp -dsimp only [go_sem, Nat.reduceEqDiff, Nat.reduceAdd, Nat.reduceSub, Nat.reduceMul, Nat.reduceLeDiff, Nat.reduceLT, Nat.reduceBEq, Int.reduceLT, Int.reduceLE, Int.reduceGT, Int.reduceGE, Int.reduceEq, Int.reduceNe, Int.reduceBEq, Int.reduceBNe, Int.reduceAdd, Int.reduceSub, Int.reduceMul, Int.reduceToNat, Int.reduceNeg, ↓reduceIte, ↓reduceDIte, lget_at h, h, lget_set_eq l, w0]
    refine CT_of (load_ev hm) ?_
    rintro _ _ ⟨rfl, rfl⟩
    generalize hz : m.load xr.a = z
    by_cases hp : z ≤ xp
    · simp -dsimp only [go_sem, Nat.reduceEqDiff, Nat.reduceAdd, Nat.reduceSub, Nat.reduceMul, Nat.reduceLeDiff, Nat.reduceLT, Nat.reduceBEq, Int.reduceLT, Int.reduceLE, Int.reduceGT, Int.reduceGE, Int.reduceEq, Int.reduceNe, Int.reduceBEq, Int.reduceBNe, Int.reduceAdd, Int.reduceSub, Int.reduceMul, Int.reduceToNat, Int.reduceNeg, ↓reduceIte, ↓reduceDIte, at1, lg1, lget_at h, off, hp]
      refine CT_heap (cbranch_ev (x := ⟨xr, 0, xv, 3, xp, xd, xs, xtl, xhd, xt, xc, xrt⟩) (by rw [at1]; exact h)) ?_
      intro q
      simp -dsimp only [go_sem, Nat.reduceEqDiff, Nat.reduceAdd, Nat.reduceSub, Nat.reduceMul, Nat.reduceLeDiff, Nat.reduceLT, Nat.reduceBEq, Int.reduceLT, Int.reduceLE, Int.reduceGT, Int.reduceGE, Int.reduceEq, Int.reduceNe, Int.reduceBEq, Int.reduceBNe, Int.reduceAdd, Int.reduceSub, Int.reduceMul, Int.reduceToNat, Int.reduceNeg, ↓reduceIte, ↓reduceDIte, off, tk]
      simp [CRes, COp.use, COp.next, MV.step, hz, hp]
    · simp -dsimp only [go_sem, Nat.reduceEqDiff, Nat.reduceAdd, Nat.reduceSub, Nat.reduceMul, Nat.reduceLeDiff, Nat.reduceLT, Nat.reduceBEq, Int.reduceLT, Int.reduceLE, Int.reduceGT, Int.reduceGE, Int.reduceEq, Int.reduceNe, Int.reduceBEq, Int.reduceBNe, Int.reduceAdd, Int.reduceSub, Int.reduceMul, Int.reduceToNat, Int.reduceNeg, ↓reduceIte, ↓reduceDIte, at1, lg1, lget_at h, off, hp]
      refine CT_heap (cbranch_ev (x := ⟨xr, 0, xv, 3, xp, xd, xs, xtl, xhd, xt, xc, xrt⟩) (by rw [at1]; exact h)) ?_
      intro q
      simp -dsimp only [go_sem, Nat.reduceEqDiff, Nat.reduceAdd, Nat.reduceSub, Nat.reduceMul, Nat.reduceLeDiff, Nat.reduceLT, Nat.reduceBEq, Int.reduceLT, Int.reduceLE, Int.reduceGT, Int.reduceGE, Int.reduceEq, Int.reduceNe, Int.reduceBEq, Int.reduceBNe, Int.reduceAdd, Int.reduceSub, Int.reduceMul, Int.reduceToNat, Int.reduceNeg, ↓reduceIte, ↓reduceDIte, off, tk]
      simp [CRes, COp.use, COp.next, MV.step, hz, hp]
  by_cases p4 : xa = 4
  · subst p4
    refine callE_pop rfl (by simp) rfl ?_
    simp -dsimp only [go_sem, Nat.reduceEqDiff, Nat.reduceAdd, Nat.reduceSub, Nat.reduceMul, Nat.reduceLeDiff, Nat.reduceLT, Nat.reduceBEq, Int.reduceLT, Int.reduceLE, Int.reduceGT, Int.reduceGE, Int.reduceEq, Int.reduceNe, Int.reduceBEq, Int.reduceBNe, Int.reduceAdd, Int.reduceSub, Int.reduceMul, Int.reduceToNat, Int.reduceNeg, ↓reduceIte, ↓reduceDIte, lget_at h, h, lget_set_eq l, hcc _ _ (get_set_eq l _)]
    refine CT_val (cell_ev hr) ?_
    simp -dsimp only [go_sem, Nat.reduceEqDiff, Nat.reduceAdd, Nat.reduceSub, Nat.reduceMul, Nat.reduceLeDiff, Nat.reduceLT, Nat.reduceBEq, Int.reduceLT, Int.reduceLE, Int.reduceGT, Int.reduceGE, Int.reduceEq, Int.reduceNe, Int.reduceBEq, Int.reduceBNe, Int.reduceAdd, Int.reduceSub, Int.reduceMul, Int.reduceToNat, Int.reduceNeg, ↓reduceIte, ↓reduceDIte, lget_set_eq l]
    refine CT_val state_ev ?_
    simp -dsimp only [go_sem, Nat.reduceEqDiff, Nat.reduceAdd, Nat.reduceSub, Nat.reduceMul, Nat.reduceLeDiff, Nat.reduceLT, Nat.reduceBEq, Int.reduceLT, Int.reduceLE, Int.reduceGT, Int.reduceGE, Int.reduceEq, Int.reduceNe, Int.reduceBEq, Int.reduceBNe, Int.reduceAdd, Int.reduceSub, Int.reduceMul, Int.reduceToNat, Int.reduceNeg, ↓reduceIte, ↓reduceDIte, lget_set_eq l]
    refine CT_of (pair_ev (mset _)) ?_
    rintro _ _ ⟨rfl, rfl⟩
    cases hp : m.pairs (xr.cell xp) xs xd
    · simp -dsimp only [go_sem, Nat.reduceEqDiff, Nat.reduceAdd, Nat.reduceSub, Nat.reduceMul, Nat.reduceLeDiff, Nat.reduceLT, Nat.reduceBEq, Int.reduceLT, Int.reduceLE, Int.reduceGT, Int.reduceGE, Int.reduceEq, Int.reduceNe, Int.reduceBEq, Int.reduceBNe, Int.reduceAdd, Int.reduceSub, Int.reduceMul, Int.reduceToNat, Int.reduceNeg, ↓reduceIte, ↓reduceDIte, tk]
      simp [CRes, COp.use, COp.next, MV.step, hp]
    · simp -dsimp only [go_sem, Nat.reduceEqDiff, Nat.reduceAdd, Nat.reduceSub, Nat.reduceMul, Nat.reduceLeDiff, Nat.reduceLT, Nat.reduceBEq, Int.reduceLT, Int.reduceLE, Int.reduceGT, Int.reduceGE, Int.reduceEq, Int.reduceNe, Int.reduceBEq, Int.reduceBNe, Int.reduceAdd, Int.reduceSub, Int.reduceMul, Int.reduceToNat, Int.reduceNeg, ↓reduceIte, ↓reduceDIte]
      refine CT_heap (cend_ev (x := ⟨xr, 0, xv, 5, xp, xd, xs, xtl, xhd, xt, xc, xrt⟩) (at2 _ _)) ?_
      intro q
      simp -dsimp only [go_sem, Nat.reduceEqDiff, Nat.reduceAdd, Nat.reduceSub, Nat.reduceMul, Nat.reduceLeDiff, Nat.reduceLT, Nat.reduceBEq, Int.reduceLT, Int.reduceLE, Int.reduceGT, Int.reduceGE, Int.reduceEq, Int.reduceNe, Int.reduceBEq, Int.reduceBNe, Int.reduceAdd, Int.reduceSub, Int.reduceMul, Int.reduceToNat, Int.reduceNeg, ↓reduceIte, ↓reduceDIte, off, List.set_set, tk]
      simp [CRes, COp.use, COp.next, MV.step, hp, COp.fin]
  by_cases p5 : xa = 5
  · subst p5
    refine callE_pop rfl (by simp) rfl ?_
    simp -dsimp only [go_sem, Nat.reduceEqDiff, Nat.reduceAdd, Nat.reduceSub, Nat.reduceMul, Nat.reduceLeDiff, Nat.reduceLT, Nat.reduceBEq, Int.reduceLT, Int.reduceLE, Int.reduceGT, Int.reduceGE, Int.reduceEq, Int.reduceNe, Int.reduceBEq, Int.reduceBNe, Int.reduceAdd, Int.reduceSub, Int.reduceMul, Int.reduceToNat, Int.reduceNeg, ↓reduceIte, ↓reduceDIte, lget_at h, h, lget_set_eq l, w0]
    refine CT_of (load_ev hm) ?_
    rintro _ _ ⟨rfl, rfl⟩
    generalize hz : m.load xr.a = z
    by_cases q1 : z ≤ xp
    · by_cases q2 : BitVec.ofInt 64 xr.s ≤ xp - z
      · simp -dsimp only [go_sem, Nat.reduceEqDiff, Nat.reduceAdd, Nat.reduceSub, Nat.reduceMul, Nat.reduceLeDiff, Nat.reduceLT, Nat.reduceBEq, Int.reduceLT, Int.reduceLE, Int.reduceGT, Int.reduceGE, Int.reduceEq, Int.reduceNe, Int.reduceBEq, Int.reduceBNe, Int.reduceAdd, Int.reduceSub, Int.reduceMul, Int.reduceToNat, Int.reduceNeg, ↓reduceIte, ↓reduceDIte, at1, lg1, lget_at h, h, off, wt, List.set_set, lg, q1, q2]
        refine CT_heap (cbranch_ev (x := ⟨xr, 0, xv, 5, xp, xd, xs, xtl, xhd, xt + 1, xc, xrt⟩) (at2 _ _)) ?_
        intro q
        simp -dsimp only [go_sem, Nat.reduceEqDiff, Nat.reduceAdd, Nat.reduceSub, Nat.reduceMul, Nat.reduceLeDiff, Nat.reduceLT, Nat.reduceBEq, Int.reduceLT, Int.reduceLE, Int.reduceGT, Int.reduceGE, Int.reduceEq, Int.reduceNe, Int.reduceBEq, Int.reduceBNe, Int.reduceAdd, Int.reduceSub, Int.reduceMul, Int.reduceToNat, Int.reduceNeg, ↓reduceIte, ↓reduceDIte, off, List.set_set, tk]
        simp [CRes, COp.use, COp.next, MV.step, hz, q1,q2]
      · by_cases q3 : 10 ≤ xt + 1
        · simp -dsimp only [go_sem, Nat.reduceEqDiff, Nat.reduceAdd, Nat.reduceSub, Nat.reduceMul, Nat.reduceLeDiff, Nat.reduceLT, Nat.reduceBEq, Int.reduceLT, Int.reduceLE, Int.reduceGT, Int.reduceGE, Int.reduceEq, Int.reduceNe, Int.reduceBEq, Int.reduceBNe, Int.reduceAdd, Int.reduceSub, Int.reduceMul, Int.reduceToNat, Int.reduceNeg, ↓reduceIte, ↓reduceDIte, at1, lg1, lget_at h, h, off, wt, List.set_set, lg, q1, q2, q3]
          refine CT_heap (cbranch_ev (x := ⟨xr, 0, xv, 5, xp, xd, xs, xtl, xhd, xt + 1, xc, xrt⟩) (at2 _ _)) ?_
          intro q
          simp -dsimp only [go_sem, Nat.reduceEqDiff, Nat.reduceAdd, Nat.reduceSub, Nat.reduceMul, Nat.reduceLeDiff, Nat.reduceLT, Nat.reduceBEq, Int.reduceLT, Int.reduceLE, Int.reduceGT, Int.reduceGE, Int.reduceEq, Int.reduceNe, Int.reduceBEq, Int.reduceBNe, Int.reduceAdd, Int.reduceSub, Int.reduceMul, Int.reduceToNat, Int.reduceNeg, ↓reduceIte, ↓reduceDIte, off, List.set_set, tk]
          simp [CRes, COp.use, COp.next, MV.step, hz, q1,q2,q3]
        · simp -dsimp only [go_sem, Nat.reduceEqDiff, Nat.reduceAdd, Nat.reduceSub, Nat.reduceMul, Nat.reduceLeDiff, Nat.reduceLT, Nat.reduceBEq, Int.reduceLT, Int.reduceLE, Int.reduceGT, Int.reduceGE, Int.reduceEq, Int.reduceNe, Int.reduceBEq, Int.reduceBNe, Int.reduceAdd, Int.reduceSub, Int.reduceMul, Int.reduceToNat, Int.reduceNeg, ↓reduceIte, ↓reduceDIte, at1, lg1, lget_at h, h, off, wt, List.set_set, lg, q1, q2, q3]
          refine CT_heap (cbranch_ev (x := ⟨xr, 0, xv, 5, xp, xd, xs, xtl, xhd, xt + 1, xc, xrt⟩) (at2 _ _)) ?_
          intro q
          simp -dsimp only [go_sem, Nat.reduceEqDiff, Nat.reduceAdd, Nat.reduceSub, Nat.reduceMul, Nat.reduceLeDiff, Nat.reduceLT, Nat.reduceBEq, Int.reduceLT, Int.reduceLE, Int.reduceGT, Int.reduceGE, Int.reduceEq, Int.reduceNe, Int.reduceBEq, Int.reduceBNe, Int.reduceAdd, Int.reduceSub, Int.reduceMul, Int.reduceToNat, Int.reduceNeg, ↓reduceIte, ↓reduceDIte, off, List.set_set, tk]
          simp [CRes, COp.use, COp.next, MV.step, hz, q1,q2,q3]
    · by_cases q3 : 10 ≤ xt + 1
      · simp -dsimp only [go_sem, Nat.reduceEqDiff, Nat.reduceAdd, Nat.reduceSub, Nat.reduceMul, Nat.reduceLeDiff, Nat.reduceLT, Nat.reduceBEq, Int.reduceLT, Int.reduceLE, Int.reduceGT, Int.reduceGE, Int.reduceEq, Int.reduceNe, Int.reduceBEq, Int.reduceBNe, Int.reduceAdd, Int.reduceSub, Int.reduceMul, Int.reduceToNat, Int.reduceNeg, ↓reduceIte, ↓reduceDIte, at1, lg1, lget_at h, h, off, wt, List.set_set, lg, q1, q3]
        refine CT_heap (cbranch_ev (x := ⟨xr, 0, xv, 5, xp, xd, xs, xtl, xhd, xt + 1, xc, xrt⟩) (at2 _ _)) ?_
        intro q
        simp -dsimp only [go_sem, Nat.reduceEqDiff, Nat.reduceAdd, Nat.reduceSub, Nat.reduceMul, Nat.reduceLeDiff, Nat.reduceLT, Nat.reduceBEq, Int.reduceLT, Int.reduceLE, Int.reduceGT, Int.reduceGE, Int.reduceEq, Int.reduceNe, Int.reduceBEq, Int.reduceBNe, Int.reduceAdd, Int.reduceSub, Int.reduceMul, Int.reduceToNat, Int.reduceNeg, ↓reduceIte, ↓reduceDIte, off, List.set_set, tk]
        simp [CRes, COp.use, COp.next, MV.step, hz, q1,q3]
      · simp -dsimp only [go_sem, Nat.reduceEqDiff, Nat.reduceAdd, Nat.reduceSub, Nat.reduceMul, Nat.reduceLeDiff, Nat.reduceLT, Nat.reduceBEq, Int.reduceLT, Int.reduceLE, Int.reduceGT, Int.reduceGE, Int.reduceEq, Int.reduceNe, Int.reduceBEq, Int.reduceBNe, Int.reduceAdd, Int.reduceSub, Int.reduceMul, Int.reduceToNat, Int.reduceNeg, ↓reduceIte, ↓reduceDIte, at1, lg1, lget_at h, h, off, wt, List.set_set, lg, q1, q3]
        refine CT_heap (cbranch_ev (x := ⟨xr, 0, xv, 5, xp, xd, xs, xtl, xhd, xt + 1, xc, xrt⟩) (at2 _ _)) ?_
        intro q
        simp -dsimp only [go_sem, Nat.reduceEqDiff, Nat.reduceAdd, Nat.reduceSub, Nat.reduceMul, Nat.reduceLeDiff, Nat.reduceLT, Nat.reduceBEq, Int.reduceLT, Int.reduceLE, Int.reduceGT, Int.reduceGE, Int.reduceEq, Int.reduceNe, Int.reduceBEq, Int.reduceBNe, Int.reduceAdd, Int.reduceSub, Int.reduceMul, Int.reduceToNat, Int.reduceNeg, ↓reduceIte, ↓reduceDIte, off, List.set_set, tk]
        simp [CRes, COp.use, COp.next, MV.step, hz, q1,q3]
  · refine callE_pop rfl (by simp) rfl ?_
    have f0 : (xa == 0) = false := by simp [p0]
    have f1 : (xa == 1) = false := by simp [p1]
    have f2 : (xa == 2) = false := by simp [p2]
    have f3 : (xa == 3) = false := by simp [p3]
    have f4 : (xa == 4) = false := by simp [p4]
    have f5 : (xa == 5) = false := by simp [p5]
    simp -dsimp only [go_sem, Nat.reduceEqDiff, Nat.reduceAdd, Nat.reduceSub, Nat.reduceMul, Nat.reduceLeDiff, Nat.reduceLT, Nat.reduceBEq, Int.reduceLT, Int.reduceLE, Int.reduceGT, Int.reduceGE, Int.reduceEq, Int.reduceNe, Int.reduceBEq, Int.reduceBNe, Int.reduceAdd, Int.reduceSub, Int.reduceMul, Int.reduceToNat, Int.reduceNeg, ↓reduceIte, ↓reduceDIte, lget_at h, f0, f1, f2, f3, f4, f5]
    refine CT_heap (cshut_ev h hm h1 h2 h3 hr) ?_
    intro q
    simp -dsimp only [go_sem, Nat.reduceEqDiff, Nat.reduceAdd, Nat.reduceSub, Nat.reduceMul, Nat.reduceLeDiff, Nat.reduceLT, Nat.reduceBEq, Int.reduceLT, Int.reduceLE, Int.reduceGT, Int.reduceGE, Int.reduceEq, Int.reduceNe, Int.reduceBEq, Int.reduceBNe, Int.reduceAdd, Int.reduceSub, Int.reduceMul, Int.reduceToNat, Int.reduceNeg, ↓reduceIte, ↓reduceDIte, tk]
    simp [CRes, COp.use, COp.next, MV.step, p0, p1, p2, p3, p4, p5]
theorem cturn_ev (h : H[o]? = some (crw x)) (hm : MemAt H b pw pb m) (h1 : o ≠ b) (h2 : o ≠ pw) (h3 : o ≠ pb) (hr : x.r.right = true) (hk : x.kind = 1) (h9 : x.at_ = 3) :
    callE T 79 lim [ptr o, ptr b] H fun v H' => CRes H o b pw pb x m H' := by
  have l := (List.getElem?_eq_some_iff.1 h).1
  obtain ⟨xr, xk, xv, xa, xp, xd, xs, xtl, xhd, xt, xc, xrt⟩ := x
  simp only at hr hk h9
  subst hk h9
  obtain ⟨a0, a1, a2, s0, s1⟩ := RV.right_of hr
  have w1 : IntKind.i64.wrap (xr.a + 1) = xr.a + 1 := by rw [wrap_i64] <;> omega
  have w0 : IntKind.i64.wrap (xr.a + 0) = xr.a := by rw [wrap_i64] <;> omega
  have wc : ∀ p, IntKind.i64.wrap (xr.cell p + 1) = xr.cell p + 1 := fun p => by
    have := cell_in (p := p) hr
    rw [wrap_i64] <;> omega
  have off : ∀ (y : LObj) (m' : MV) (K : LHeap), (memPut K b pw pb m').set o y = memPut (K.set o y) b pw pb m' := fun y m' K => memPut_set_off h1 h2 h3 _ _
  have at2 : ∀ (y : LObj) (m' : MV), (memPut (H.set o y) b pw pb m')[o]? = some y := fun y m' => by rw [memPut_get _ h1.symm h2.symm h3.symm, get_set_eq l]
  have lg : ∀ (c : List Value) (m' : MV) (i : Nat), lget (memPut (H.set o (.row false 0 c)) b pw pb m') o i = c[i]? := fun c m' i => by simp only [lget, at2]
  have lg1 : ∀ (m' : MV) (i : Nat), lget (memPut H b pw pb m') o i = lget H o i := fun m' i => by rw [lget, lget, memPut_get _ h1.symm h2.symm h3.symm]
  have at1 : ∀ (m' : MV), (memPut H b pw pb m')[o]? = H[o]? := fun m' => memPut_get _ h1.symm h2.symm h3.symm
  have ll : ∀ (K : LHeap) (m' : MV), (memPut K b pw pb m').length = K.length := fun K m' => memPut_len _ _ _ _ _
  have mset : ∀ y, MemAt (H.set o y) b pw pb m := fun y => hm.set_off h1 h2 h3 y
  have hcc : ∀ (K : LHeap) c, K[o]? = some (.row false 0 (.bool true :: i64 xr.a :: i64 xr.s :: c)) → lcells K o 1 2 = some [i64 xr.a, i64 xr.s] := fun K c g => by simp [lcells, g]
  have tk : ∀ (y : LObj) (m' : MV), List.take H.length (memPut (H.set o y) b pw pb m') = memPut (H.set o y) b pw pb m' := fun y m' => List.take_of_length_le (by rw [ll]; simp)
  have tk2 : ∀ (y : LObj) (m' : MV) (t : LHeap), List.take H.length (memPut (H.set o y) b pw pb m' ++ t) = memPut (H.set o y) b pw pb m' := fun y m' t => by
    rw [List.take_append_of_le_length (by rw [ll]; simp), tk]
  have ml := fun (y : LObj) (m' : MV) (t : LHeap) => memPut_app (mset y) m' t
  have lz : ∀ (y : LObj) (m' : MV), o < (memPut (H.set o y) b pw pb m').length := fun y m' => by rw [ll]; simpa using l
  have lz2 : ∀ (y : LObj) (m' : MV), (memPut (H.set o y) b pw pb m').length = H.length := fun y m' => by rw [ll]; simp
  have lz3 : ∀ (y : LObj), (H.set o y).length = H.length := fun y => by simp
  have ls : ∀ y : LObj, o < (H.set o y).length := fun y => by simpa using l
  refine callE_pop rfl (by simp) rfl ?_
  simp -dsimp only [go_sem, Nat.reduceEqDiff, Nat.reduceAdd, Nat.reduceSub, Nat.reduceMul, Nat.reduceLeDiff, Nat.reduceLT, Nat.reduceBEq, Int.reduceLT, Int.reduceLE, Int.reduceGT, Int.reduceGE, Int.reduceEq, Int.reduceNe, Int.reduceBEq, Int.reduceBNe, Int.reduceAdd, Int.reduceSub, Int.reduceMul, Int.reduceToNat, Int.reduceNeg, ↓reduceIte, ↓reduceDIte, lget_at h, h]
  refine CT_val state_ev ?_
  have hown : ∀ t, callE T 94 H.length [ptr o] (H ++ t) fun v H' => v = .bool (COp.own ⟨xr, 1, xv, 3, xp, xd, xs, xtl, xhd, xt, xc, xrt⟩) ∧ H' = H ++ t := fun t => cown_ev (get_old h t)
  by_cases hd : xd = 0#64
  · have hd' : (xd != 0#64) = false := by simp [hd]
    have hn : COp.now ⟨xr, 1, xv, 3, xp, xd, xs, xtl, xhd, xt, xc, xrt⟩ = (stW (xp + BitVec.ofInt 64 xr.s) xs, 0#64) := by simp [COp.now, hd']
    have ho : COp.own ⟨xr, 1, xv, 3, xp, xd, xs, xtl, xhd, xt, xc, xrt⟩ = false := by simp [COp.own, hd']
    simp -dsimp only [go_sem, Nat.reduceEqDiff, Nat.reduceAdd, Nat.reduceSub, Nat.reduceMul, Nat.reduceLeDiff, Nat.reduceLT, Nat.reduceBEq, Int.reduceLT, Int.reduceLE, Int.reduceGT, Int.reduceGE, Int.reduceEq, Int.reduceNe, Int.reduceBEq, Int.reduceBNe, Int.reduceAdd, Int.reduceSub, Int.reduceMul, Int.reduceToNat, Int.reduceNeg, ↓reduceIte, ↓reduceDIte, lget_left l, lget_at h, hd']
    simp -dsimp only [go_sem, Nat.reduceEqDiff, Nat.reduceAdd, Nat.reduceSub, Nat.reduceMul, Nat.reduceLeDiff, Nat.reduceLT, Nat.reduceBEq, Int.reduceLT, Int.reduceLE, Int.reduceGT, Int.reduceGE, Int.reduceEq, Int.reduceNe, Int.reduceBEq, Int.reduceBNe, Int.reduceAdd, Int.reduceSub, Int.reduceMul, Int.reduceToNat, Int.reduceNeg, ↓reduceIte, ↓reduceDIte, get_left l, lget_left l, lget_at h, h, set_left l, lget_left (ls _), lget_set_eq l, lcells_left (ls _), hcc _ _ (get_set_eq l _), lcells_app_n0 (lz3 _)]
    refine CT_val (cell_ev hr) ?_
    simp -dsimp only [go_sem, Nat.reduceEqDiff, Nat.reduceAdd, Nat.reduceSub, Nat.reduceMul, Nat.reduceLeDiff, Nat.reduceLT, Nat.reduceBEq, Int.reduceLT, Int.reduceLE, Int.reduceGT, Int.reduceGE, Int.reduceEq, Int.reduceNe, Int.reduceBEq, Int.reduceBNe, Int.reduceAdd, Int.reduceSub, Int.reduceMul, Int.reduceToNat, Int.reduceNeg, ↓reduceIte, ↓reduceDIte, get_left l, lget_left l, lget_at h, h, set_left l, lget_left (ls _), lget_set_eq l, lcells_left (ls _), hcc _ _ (get_set_eq l _), lcells_app_n0 (lz3 _)]
    refine CT_of (pair_ev ((mset _).app _)) ?_
    rintro _ _ ⟨rfl, rfl⟩
    rw [ml]
    cases hp : m.pairs (xr.cell xp) xs xd
    · simp -dsimp only [go_sem, Nat.reduceEqDiff, Nat.reduceAdd, Nat.reduceSub, Nat.reduceMul, Nat.reduceLeDiff, Nat.reduceLT, Nat.reduceBEq, Int.reduceLT, Int.reduceLE, Int.reduceGT, Int.reduceGE, Int.reduceEq, Int.reduceNe, Int.reduceBEq, Int.reduceBNe, Int.reduceAdd, Int.reduceSub, Int.reduceMul, Int.reduceToNat, Int.reduceNeg, ↓reduceIte, ↓reduceDIte, tk2]
      simp [CRes, COp.use, COp.next, MV.step, hp, hn]
    · simp -dsimp only [go_sem, Nat.reduceEqDiff, Nat.reduceAdd, Nat.reduceSub, Nat.reduceMul, Nat.reduceLeDiff, Nat.reduceLT, Nat.reduceBEq, Int.reduceLT, Int.reduceLE, Int.reduceGT, Int.reduceGE, Int.reduceEq, Int.reduceNe, Int.reduceBEq, Int.reduceBNe, Int.reduceAdd, Int.reduceSub, Int.reduceMul, Int.reduceToNat, Int.reduceNeg, ↓reduceIte, ↓reduceDIte, get_left (lz _ _), lget_left (lz _ _), lget_at (at2 _ _), at2, set_left (lz _ _), off, List.set_set, lg]
      refine CT_val (cown_ev (x := ⟨xr, 1, xv, 5, xp, xd, xs, xtl, xhd, xt, xc, xrt⟩) (get_old (at2 _ _) _)) ?_
      rw [show COp.own ⟨xr, 1, xv, 5, xp, xd, xs, xtl, xhd, xt, xc, xrt⟩ = COp.own ⟨xr, 1, xv, 3, xp, xd, xs, xtl, xhd, xt, xc, xrt⟩ from rfl]
      simp -dsimp only [go_sem, Nat.reduceEqDiff, Nat.reduceAdd, Nat.reduceSub, Nat.reduceMul, Nat.reduceLeDiff, Nat.reduceLT, Nat.reduceBEq, Int.reduceLT, Int.reduceLE, Int.reduceGT, Int.reduceGE, Int.reduceEq, Int.reduceNe, Int.reduceBEq, Int.reduceBNe, Int.reduceAdd, Int.reduceSub, Int.reduceMul, Int.reduceToNat, Int.reduceNeg, ↓reduceIte, ↓reduceDIte, ho]
      first
        | (rw [tk2]; simp [CRes, COp.use, COp.next, MV.step, hp, hn, ho]; done)
        | (simp -dsimp only [go_sem, Nat.reduceEqDiff, Nat.reduceAdd, Nat.reduceSub, Nat.reduceMul, Nat.reduceLeDiff, Nat.reduceLT, Nat.reduceBEq, Int.reduceLT, Int.reduceLE, Int.reduceGT, Int.reduceGE, Int.reduceEq, Int.reduceNe, Int.reduceBEq, Int.reduceBNe, Int.reduceAdd, Int.reduceSub, Int.reduceMul, Int.reduceToNat, Int.reduceNeg, ↓reduceIte, ↓reduceDIte, lget_left (lz _ _), lg]
           refine CT_heap (cend_ev (x := ⟨xr, 1, xv, 5, xp, xd, xs, xtl, xhd, xt, xc, xrt⟩) (get_old (at2 _ _) _)) ?_
           intro q
           simp -dsimp only [go_sem, Nat.reduceEqDiff, Nat.reduceAdd, Nat.reduceSub, Nat.reduceMul, Nat.reduceLeDiff, Nat.reduceLT, Nat.reduceBEq, Int.reduceLT, Int.reduceLE, Int.reduceGT, Int.reduceGE, Int.reduceEq, Int.reduceNe, Int.reduceBEq, Int.reduceBNe, Int.reduceAdd, Int.reduceSub, Int.reduceMul, Int.reduceToNat, Int.reduceNeg, ↓reduceIte, ↓reduceDIte, set_left (lz _ _), off, List.set_set, tk2]
           simp [CRes, COp.use, COp.next, MV.step, hp, hn, ho, COp.fin])
  · have hd' : (xd != 0#64) = true := by simp [hd]
    simp -dsimp only [go_sem, Nat.reduceEqDiff, Nat.reduceAdd, Nat.reduceSub, Nat.reduceMul, Nat.reduceLeDiff, Nat.reduceLT, Nat.reduceBEq, Int.reduceLT, Int.reduceLE, Int.reduceGT, Int.reduceGE, Int.reduceEq, Int.reduceNe, Int.reduceBEq, Int.reduceBNe, Int.reduceAdd, Int.reduceSub, Int.reduceMul, Int.reduceToNat, Int.reduceNeg, ↓reduceIte, ↓reduceDIte, lget_left l, lget_at h, hd']
    refine CT_val (hown _) ?_
    cases ho : COp.own ⟨xr, 1, xv, 3, xp, xd, xs, xtl, xhd, xt, xc, xrt⟩
    · have hn : COp.now ⟨xr, 1, xv, 3, xp, xd, xs, xtl, xhd, xt, xc, xrt⟩ = (stW (poW xs) 0#64, xd) := by simp [COp.now, hd', ho]
      simp -dsimp only [go_sem, Nat.reduceEqDiff, Nat.reduceAdd, Nat.reduceSub, Nat.reduceMul, Nat.reduceLeDiff, Nat.reduceLT, Nat.reduceBEq, Int.reduceLT, Int.reduceLE, Int.reduceGT, Int.reduceGE, Int.reduceEq, Int.reduceNe, Int.reduceBEq, Int.reduceBNe, Int.reduceAdd, Int.reduceSub, Int.reduceMul, Int.reduceToNat, Int.reduceNeg, ↓reduceIte, ↓reduceDIte, lget_left l, lget_at h]
      refine CT_val position_ev ?_
      simp -dsimp only [go_sem, Nat.reduceEqDiff, Nat.reduceAdd, Nat.reduceSub, Nat.reduceMul, Nat.reduceLeDiff, Nat.reduceLT, Nat.reduceBEq, Int.reduceLT, Int.reduceLE, Int.reduceGT, Int.reduceGE, Int.reduceEq, Int.reduceNe, Int.reduceBEq, Int.reduceBNe, Int.reduceAdd, Int.reduceSub, Int.reduceMul, Int.reduceToNat, Int.reduceNeg, ↓reduceIte, ↓reduceDIte, lget_left l, lget_at h]
      refine CT_val state_ev ?_
      simp -dsimp only [go_sem, Nat.reduceEqDiff, Nat.reduceAdd, Nat.reduceSub, Nat.reduceMul, Nat.reduceLeDiff, Nat.reduceLT, Nat.reduceBEq, Int.reduceLT, Int.reduceLE, Int.reduceGT, Int.reduceGE, Int.reduceEq, Int.reduceNe, Int.reduceBEq, Int.reduceBNe, Int.reduceAdd, Int.reduceSub, Int.reduceMul, Int.reduceToNat, Int.reduceNeg, ↓reduceIte, ↓reduceDIte, lget_left l, lget_at h]
      simp -dsimp only [go_sem, Nat.reduceEqDiff, Nat.reduceAdd, Nat.reduceSub, Nat.reduceMul, Nat.reduceLeDiff, Nat.reduceLT, Nat.reduceBEq, Int.reduceLT, Int.reduceLE, Int.reduceGT, Int.reduceGE, Int.reduceEq, Int.reduceNe, Int.reduceBEq, Int.reduceBNe, Int.reduceAdd, Int.reduceSub, Int.reduceMul, Int.reduceToNat, Int.reduceNeg, ↓reduceIte, ↓reduceDIte, get_left l, lget_left l, lget_at h, h, set_left l, lget_left (ls _), lget_set_eq l, lcells_left (ls _), hcc _ _ (get_set_eq l _), lcells_app_n0 (lz3 _)]
      refine CT_val (cell_ev hr) ?_
      simp -dsimp only [go_sem, Nat.reduceEqDiff, Nat.reduceAdd, Nat.reduceSub, Nat.reduceMul, Nat.reduceLeDiff, Nat.reduceLT, Nat.reduceBEq, Int.reduceLT, Int.reduceLE, Int.reduceGT, Int.reduceGE, Int.reduceEq, Int.reduceNe, Int.reduceBEq, Int.reduceBNe, Int.reduceAdd, Int.reduceSub, Int.reduceMul, Int.reduceToNat, Int.reduceNeg, ↓reduceIte, ↓reduceDIte, get_left l, lget_left l, lget_at h, h, set_left l, lget_left (ls _), lget_set_eq l, lcells_left (ls _), hcc _ _ (get_set_eq l _), lcells_app_n0 (lz3 _)]
      refine CT_of (pair_ev ((mset _).app _)) ?_
      rintro _ _ ⟨rfl, rfl⟩
      rw [ml]
      cases hp : m.pairs (xr.cell xp) xs xd
      · simp -dsimp only [go_sem, Nat.reduceEqDiff, Nat.reduceAdd, Nat.reduceSub, Nat.reduceMul, Nat.reduceLeDiff, Nat.reduceLT, Nat.reduceBEq, Int.reduceLT, Int.reduceLE, Int.reduceGT, Int.reduceGE, Int.reduceEq, Int.reduceNe, Int.reduceBEq, Int.reduceBNe, Int.reduceAdd, Int.reduceSub, Int.reduceMul, Int.reduceToNat, Int.reduceNeg, ↓reduceIte, ↓reduceDIte, tk2]
        simp [CRes, COp.use, COp.next, MV.step, hp, hn]
      · simp -dsimp only [go_sem, Nat.reduceEqDiff, Nat.reduceAdd, Nat.reduceSub, Nat.reduceMul, Nat.reduceLeDiff, Nat.reduceLT, Nat.reduceBEq, Int.reduceLT, Int.reduceLE, Int.reduceGT, Int.reduceGE, Int.reduceEq, Int.reduceNe, Int.reduceBEq, Int.reduceBNe, Int.reduceAdd, Int.reduceSub, Int.reduceMul, Int.reduceToNat, Int.reduceNeg, ↓reduceIte, ↓reduceDIte, get_left (lz _ _), lget_left (lz _ _), lget_at (at2 _ _), at2, set_left (lz _ _), off, List.set_set, lg]
        refine CT_val (cown_ev (x := ⟨xr, 1, xv, 5, xp, xd, xs, xtl, xhd, xt, xc, xrt⟩) (get_old (at2 _ _) _)) ?_
        rw [show COp.own ⟨xr, 1, xv, 5, xp, xd, xs, xtl, xhd, xt, xc, xrt⟩ = COp.own ⟨xr, 1, xv, 3, xp, xd, xs, xtl, xhd, xt, xc, xrt⟩ from rfl]
        simp -dsimp only [go_sem, Nat.reduceEqDiff, Nat.reduceAdd, Nat.reduceSub, Nat.reduceMul, Nat.reduceLeDiff, Nat.reduceLT, Nat.reduceBEq, Int.reduceLT, Int.reduceLE, Int.reduceGT, Int.reduceGE, Int.reduceEq, Int.reduceNe, Int.reduceBEq, Int.reduceBNe, Int.reduceAdd, Int.reduceSub, Int.reduceMul, Int.reduceToNat, Int.reduceNeg, ↓reduceIte, ↓reduceDIte, ho]
        first
          | (rw [tk2]; simp [CRes, COp.use, COp.next, MV.step, hp, hn, ho]; done)
          | (simp -dsimp only [go_sem, Nat.reduceEqDiff, Nat.reduceAdd, Nat.reduceSub, Nat.reduceMul, Nat.reduceLeDiff, Nat.reduceLT, Nat.reduceBEq, Int.reduceLT, Int.reduceLE, Int.reduceGT, Int.reduceGE, Int.reduceEq, Int.reduceNe, Int.reduceBEq, Int.reduceBNe, Int.reduceAdd, Int.reduceSub, Int.reduceMul, Int.reduceToNat, Int.reduceNeg, ↓reduceIte, ↓reduceDIte, lget_left (lz _ _), lg]
             refine CT_heap (cend_ev (x := ⟨xr, 1, xv, 5, xp, xd, xs, xtl, xhd, xt, xc, xrt⟩) (get_old (at2 _ _) _)) ?_
             intro q
             simp -dsimp only [go_sem, Nat.reduceEqDiff, Nat.reduceAdd, Nat.reduceSub, Nat.reduceMul, Nat.reduceLeDiff, Nat.reduceLT, Nat.reduceBEq, Int.reduceLT, Int.reduceLE, Int.reduceGT, Int.reduceGE, Int.reduceEq, Int.reduceNe, Int.reduceBEq, Int.reduceBNe, Int.reduceAdd, Int.reduceSub, Int.reduceMul, Int.reduceToNat, Int.reduceNeg, ↓reduceIte, ↓reduceDIte, set_left (lz _ _), off, List.set_set, tk2]
             simp [CRes, COp.use, COp.next, MV.step, hp, hn, ho, COp.fin])
    · have hn : COp.now ⟨xr, 1, xv, 3, xp, xd, xs, xtl, xhd, xt, xc, xrt⟩ = (stW (xp + BitVec.ofInt 64 xr.s) xs, 0#64) := by simp [COp.now, hd', ho]
      simp -dsimp only [go_sem, Nat.reduceEqDiff, Nat.reduceAdd, Nat.reduceSub, Nat.reduceMul, Nat.reduceLeDiff, Nat.reduceLT, Nat.reduceBEq, Int.reduceLT, Int.reduceLE, Int.reduceGT, Int.reduceGE, Int.reduceEq, Int.reduceNe, Int.reduceBEq, Int.reduceBNe, Int.reduceAdd, Int.reduceSub, Int.reduceMul, Int.reduceToNat, Int.reduceNeg, ↓reduceIte, ↓reduceDIte, get_left l, lget_left l, lget_at h, h, set_left l, lget_left (ls _), lget_set_eq l, lcells_left (ls _), hcc _ _ (get_set_eq l _), lcells_app_n0 (lz3 _)]
      refine CT_val (cell_ev hr) ?_
      simp -dsimp only [go_sem, Nat.reduceEqDiff, Nat.reduceAdd, Nat.reduceSub, Nat.reduceMul, Nat.reduceLeDiff, Nat.reduceLT, Nat.reduceBEq, Int.reduceLT, Int.reduceLE, Int.reduceGT, Int.reduceGE, Int.reduceEq, Int.reduceNe, Int.reduceBEq, Int.reduceBNe, Int.reduceAdd, Int.reduceSub, Int.reduceMul, Int.reduceToNat, Int.reduceNeg, ↓reduceIte, ↓reduceDIte, get_left l, lget_left l, lget_at h, h, set_left l, lget_left (ls _), lget_set_eq l, lcells_left (ls _), hcc _ _ (get_set_eq l _), lcells_app_n0 (lz3 _)]
      refine CT_of (pair_ev ((mset _).app _)) ?_
      rintro _ _ ⟨rfl, rfl⟩
      rw [ml]
      cases hp : m.pairs (xr.cell xp) xs xd
      · simp -dsimp only [go_sem, Nat.reduceEqDiff, Nat.reduceAdd, Nat.reduceSub, Nat.reduceMul, Nat.reduceLeDiff, Nat.reduceLT, Nat.reduceBEq, Int.reduceLT, Int.reduceLE, Int.reduceGT, Int.reduceGE, Int.reduceEq, Int.reduceNe, Int.reduceBEq, Int.reduceBNe, Int.reduceAdd, Int.reduceSub, Int.reduceMul, Int.reduceToNat, Int.reduceNeg, ↓reduceIte, ↓reduceDIte, tk2]
        simp [CRes, COp.use, COp.next, MV.step, hp, hn]
      · simp -dsimp only [go_sem, Nat.reduceEqDiff, Nat.reduceAdd, Nat.reduceSub, Nat.reduceMul, Nat.reduceLeDiff, Nat.reduceLT, Nat.reduceBEq, Int.reduceLT, Int.reduceLE, Int.reduceGT, Int.reduceGE, Int.reduceEq, Int.reduceNe, Int.reduceBEq, Int.reduceBNe, Int.reduceAdd, Int.reduceSub, Int.reduceMul, Int.reduceToNat, Int.reduceNeg, ↓reduceIte, ↓reduceDIte, get_left (lz _ _), lget_left (lz _ _), lget_at (at2 _ _), at2, set_left (lz _ _), off, List.set_set, lg]
        refine CT_val (cown_ev (x := ⟨xr, 1, xv, 5, xp, xd, xs, xtl, xhd, xt, xc, xrt⟩) (get_old (at2 _ _) _)) ?_
        rw [show COp.own ⟨xr, 1, xv, 5, xp, xd, xs, xtl, xhd, xt, xc, xrt⟩ = COp.own ⟨xr, 1, xv, 3, xp, xd, xs, xtl, xhd, xt, xc, xrt⟩ from rfl]
        simp -dsimp only [go_sem, Nat.reduceEqDiff, Nat.reduceAdd, Nat.reduceSub, Nat.reduceMul, Nat.reduceLeDiff, Nat.reduceLT, Nat.reduceBEq, Int.reduceLT, Int.reduceLE, Int.reduceGT, Int.reduceGE, Int.reduceEq, Int.reduceNe, Int.reduceBEq, Int.reduceBNe, Int.reduceAdd, Int.reduceSub, Int.reduceMul, Int.reduceToNat, Int.reduceNeg, ↓reduceIte, ↓reduceDIte, ho]
        first
          | (rw [tk2]; simp [CRes, COp.use, COp.next, MV.step, hp, hn, ho]; done)
          | (simp -dsimp only [go_sem, Nat.reduceEqDiff, Nat.reduceAdd, Nat.reduceSub, Nat.reduceMul, Nat.reduceLeDiff, Nat.reduceLT, Nat.reduceBEq, Int.reduceLT, Int.reduceLE, Int.reduceGT, Int.reduceGE, Int.reduceEq, Int.reduceNe, Int.reduceBEq, Int.reduceBNe, Int.reduceAdd, Int.reduceSub, Int.reduceMul, Int.reduceToNat, Int.reduceNeg, ↓reduceIte, ↓reduceDIte, lget_left (lz _ _), lg]
             refine CT_heap (cend_ev (x := ⟨xr, 1, xv, 5, xp, xd, xs, xtl, xhd, xt, xc, xrt⟩) (get_old (at2 _ _) _)) ?_
             intro q
             simp -dsimp only [go_sem, Nat.reduceEqDiff, Nat.reduceAdd, Nat.reduceSub, Nat.reduceMul, Nat.reduceLeDiff, Nat.reduceLT, Nat.reduceBEq, Int.reduceLT, Int.reduceLE, Int.reduceGT, Int.reduceGE, Int.reduceEq, Int.reduceNe, Int.reduceBEq, Int.reduceBNe, Int.reduceAdd, Int.reduceSub, Int.reduceMul, Int.reduceToNat, Int.reduceNeg, ↓reduceIte, ↓reduceDIte, set_left (lz _ _), off, List.set_set, tk2]
             simp [CRes, COp.use, COp.next, MV.step, hp, hn, ho, COp.fin])
end
end Go.Proofs.Ytopjhhcncjleaaa
