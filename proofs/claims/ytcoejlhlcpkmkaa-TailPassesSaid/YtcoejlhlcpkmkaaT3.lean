/- Heads with other groups. -/
import Derived.Test.YtcoejlhlcpkmkaaT2
namespace Go.Proofs.Ytcoejlhlcpkmkaa
open Go Go.LK
set_option linter.unusedSimpArgs false
set_option linter.unusedVariables false
def bitW (k : Int) : BitVec 64 := 1#64 <<< k.toNat
theorem bitW_get (k : Int) (j : Nat) (hk : k < 64) : (bitW k).getLsbD j = (decide (j < 64) && decide (j = k.toNat)) := by
  unfold bitW
  rw [BitVec.getLsbD_shiftLeft, BitVec.getLsbD_one]
  by_cases h : j < 64 <;> by_cases h2 : j = k.toNat <;> simp [h, h2] <;> omega
def upT (t : BitVec 64) : BitVec 64 := (t + 1#64) &&& 65535#64
theorem upT_mod (t : BitVec 64) : (t + 1#64) % 65536#64 = upT t := by
  apply BitVec.eq_of_toNat_eq
  unfold upT
  rw [BitVec.toNat_umod, BitVec.toNat_and]
  exact (Nat.and_two_pow_sub_one_eq_mod _ 16).symm
/-- A number with a bit more. -/
theorem add_bit {i b : BitVec 64} (h : i &&& b = 0#64) : i + b = i ||| b := BitVec.add_eq_or_of_and_eq_zero _ _ h
theorem no_and {i : BitVec 64} {k : Int} (hk : k < 64) (h : i.getLsbD k.toNat = false) : i &&& bitW k = 0#64 := by
  apply BitVec.eq_of_getLsbD_eq
  intro j hj
  rw [BitVec.getLsbD_and, bitW_get _ _ hk]
  by_cases e : j = k.toNat
  · subst e; simp [h]
  · simp [e]
theorem or_has {i : BitVec 64} {k : Int} (hk : k < 64) (h : i.getLsbD k.toNat = true) : i ||| bitW k = i := by
  apply BitVec.eq_of_getLsbD_eq
  intro j hj
  rw [BitVec.getLsbD_or, bitW_get _ _ hk]
  by_cases e : j = k.toNat
  · subst e; simp [h]
  · simp [e]
theorem andNot_no {i : BitVec 64} {k : Int} (hk : k < 64) (h : i.getLsbD k.toNat = false) : i &&& ~~~bitW k = i := by
  apply BitVec.eq_of_getLsbD_eq
  intro j hj
  rw [BitVec.getLsbD_and, BitVec.getLsbD_not, bitW_get _ _ hk]
  by_cases e : j = k.toNat
  · subst e; simp [h]
  · simp [e, hj]
theorem sub_bit {i : BitVec 64} {k : Int} (hk : k < 64) (h : i.getLsbD k.toNat = true) : i - bitW k = i &&& ~~~bitW k := by
  have e1 : (i &&& ~~~bitW k) &&& bitW k = 0#64 := by
    apply BitVec.eq_of_getLsbD_eq
    intro j hj
    simp [BitVec.getLsbD_and, BitVec.getLsbD_not, hj]
  have e2 : (i &&& ~~~bitW k) ||| bitW k = i := by
    apply BitVec.eq_of_getLsbD_eq
    intro j hj
    rw [BitVec.getLsbD_or, BitVec.getLsbD_and, BitVec.getLsbD_not, bitW_get _ _ hk]
    by_cases e : j = k.toNat
    · subst e; simp [h]; omega
    · simp [e, hj]
  have := add_bit e1
  rw [e2] at this
  rw [← BitVec.sub_eq_iff_eq_add.2 this.symm]
structure HD where
  n : BitVec 64
  t : BitVec 64
  i : BitVec 64
abbrev HD.v (h : HD) : Value := head h.n h.t h.i
def HD.wth (h : HD) (k : Int) : HD := if isK k = true then ⟨h.n, upT h.t, h.i ||| bitW k⟩ else h
def HD.wout (h : HD) (k : Int) : HD := if isK k = true then ⟨h.n, upT h.t, h.i &&& ~~~bitW k⟩ else h
def HD.on (h : HD) : HD := ⟨(h.n + 1#64) &&& 1099511627775#64, h.t, h.i⟩
section
variable {lim : Nat} {H : LHeap} {h : HD} {w : BitVec 64} {k : Int}
theorem turned_ev : callE T 35 lim [h.v, w64 w] H fun v H' => v = head h.n (upT h.t) w ∧ H' = H := by
  refine callE_pop rfl (by simp) rfl ?_
  simp -dsimp only [go_sem, Nat.reduceEqDiff, Nat.reduceAdd, Nat.reduceSub, Nat.reduceMul, Nat.reduceLeDiff, Nat.reduceLT, Nat.reduceBEq, Int.reduceLT, Int.reduceLE, Int.reduceGT, Int.reduceGE, Int.reduceEq, Int.reduceNe, Int.reduceBEq, Int.reduceBNe, Int.reduceAdd, Int.reduceSub, Int.reduceMul, Int.reduceToNat, Int.reduceNeg, ↓reduceIte, ↓reduceDIte]
  rfl
theorem is01 (hk : isK k = true) : 0 ≤ k ∧ k < 8 := by simpa [isK] using hk
theorem with_ev : callE T 16 lim [h.v, i64 k] H fun v H' => v = (h.wth k).v ∧ H' = H := by
  refine callE_pop rfl (by simp) rfl ?_
  simp -dsimp only [go_sem, Nat.reduceEqDiff, Nat.reduceAdd, Nat.reduceSub, Nat.reduceMul, Nat.reduceLeDiff, Nat.reduceLT, Nat.reduceBEq, Int.reduceLT, Int.reduceLE, Int.reduceGT, Int.reduceGE, Int.reduceEq, Int.reduceNe, Int.reduceBEq, Int.reduceBNe, Int.reduceAdd, Int.reduceSub, Int.reduceMul, Int.reduceToNat, Int.reduceNeg, ↓reduceIte, ↓reduceDIte]
  refine CT_val is_ev ?_
  cases hk : isK k
  · simp -dsimp only [go_sem, Nat.reduceEqDiff, Nat.reduceAdd, Nat.reduceSub, Nat.reduceMul, Nat.reduceLeDiff, Nat.reduceLT, Nat.reduceBEq, Int.reduceLT, Int.reduceLE, Int.reduceGT, Int.reduceGE, Int.reduceEq, Int.reduceNe, Int.reduceBEq, Int.reduceBNe, Int.reduceAdd, Int.reduceSub, Int.reduceMul, Int.reduceToNat, Int.reduceNeg, ↓reduceIte, ↓reduceDIte]
    simp [HD.wth, hk]
  · have h01 := is01 hk
    have hs := fun x => lbin_shl x (k := .i64) (n := k) (by omega)
    have hm : min k.toNat 64 = k.toNat := by omega
    simp only [hm] at hs
    simp -dsimp only [go_sem, Nat.reduceEqDiff, Nat.reduceAdd, Nat.reduceSub, Nat.reduceMul, Nat.reduceLeDiff, Nat.reduceLT, Nat.reduceBEq, Int.reduceLT, Int.reduceLE, Int.reduceGT, Int.reduceGE, Int.reduceEq, Int.reduceNe, Int.reduceBEq, Int.reduceBNe, Int.reduceAdd, Int.reduceSub, Int.reduceMul, Int.reduceToNat, Int.reduceNeg, ↓reduceIte, ↓reduceDIte, hs]
    refine CT_val (turned_ev (h := h)) ?_
    simp -dsimp only [go_sem, Nat.reduceEqDiff, Nat.reduceAdd, Nat.reduceSub, Nat.reduceMul, Nat.reduceLeDiff, Nat.reduceLT, Nat.reduceBEq, Int.reduceLT, Int.reduceLE, Int.reduceGT, Int.reduceGE, Int.reduceEq, Int.reduceNe, Int.reduceBEq, Int.reduceBNe, Int.reduceAdd, Int.reduceSub, Int.reduceMul, Int.reduceToNat, Int.reduceNeg, ↓reduceIte, ↓reduceDIte]
    simp [HD.wth, hk, bitW]
theorem without_ev : callE T 18 lim [h.v, i64 k] H fun v H' => v = (h.wout k).v ∧ H' = H := by
  refine callE_pop rfl (by simp) rfl ?_
  simp -dsimp only [go_sem, Nat.reduceEqDiff, Nat.reduceAdd, Nat.reduceSub, Nat.reduceMul, Nat.reduceLeDiff, Nat.reduceLT, Nat.reduceBEq, Int.reduceLT, Int.reduceLE, Int.reduceGT, Int.reduceGE, Int.reduceEq, Int.reduceNe, Int.reduceBEq, Int.reduceBNe, Int.reduceAdd, Int.reduceSub, Int.reduceMul, Int.reduceToNat, Int.reduceNeg, ↓reduceIte, ↓reduceDIte]
  refine CT_val is_ev ?_
  cases hk : isK k
  · simp -dsimp only [go_sem, Nat.reduceEqDiff, Nat.reduceAdd, Nat.reduceSub, Nat.reduceMul, Nat.reduceLeDiff, Nat.reduceLT, Nat.reduceBEq, Int.reduceLT, Int.reduceLE, Int.reduceGT, Int.reduceGE, Int.reduceEq, Int.reduceNe, Int.reduceBEq, Int.reduceBNe, Int.reduceAdd, Int.reduceSub, Int.reduceMul, Int.reduceToNat, Int.reduceNeg, ↓reduceIte, ↓reduceDIte]
    simp [HD.wout, hk]
  · have h01 := is01 hk
    have hs := fun x => lbin_shl x (k := .i64) (n := k) (by omega)
    have hm : min k.toNat 64 = k.toNat := by omega
    simp only [hm] at hs
    simp -dsimp only [go_sem, Nat.reduceEqDiff, Nat.reduceAdd, Nat.reduceSub, Nat.reduceMul, Nat.reduceLeDiff, Nat.reduceLT, Nat.reduceBEq, Int.reduceLT, Int.reduceLE, Int.reduceGT, Int.reduceGE, Int.reduceEq, Int.reduceNe, Int.reduceBEq, Int.reduceBNe, Int.reduceAdd, Int.reduceSub, Int.reduceMul, Int.reduceToNat, Int.reduceNeg, ↓reduceIte, ↓reduceDIte, hs]
    refine CT_val (turned_ev (h := h)) ?_
    simp -dsimp only [go_sem, Nat.reduceEqDiff, Nat.reduceAdd, Nat.reduceSub, Nat.reduceMul, Nat.reduceLeDiff, Nat.reduceLT, Nat.reduceBEq, Int.reduceLT, Int.reduceLE, Int.reduceGT, Int.reduceGE, Int.reduceEq, Int.reduceNe, Int.reduceBEq, Int.reduceBNe, Int.reduceAdd, Int.reduceSub, Int.reduceMul, Int.reduceToNat, Int.reduceNeg, ↓reduceIte, ↓reduceDIte]
    simp [HD.wout, hk, bitW]
theorem on_ev : callE T 19 lim [h.v] H fun v H' => v = h.on.v ∧ H' = H := by
  refine callE_pop rfl (by simp) rfl ?_
  simp -dsimp only [go_sem, Nat.reduceEqDiff, Nat.reduceAdd, Nat.reduceSub, Nat.reduceMul, Nat.reduceLeDiff, Nat.reduceLT, Nat.reduceBEq, Int.reduceLT, Int.reduceLE, Int.reduceGT, Int.reduceGE, Int.reduceEq, Int.reduceNe, Int.reduceBEq, Int.reduceBNe, Int.reduceAdd, Int.reduceSub, Int.reduceMul, Int.reduceToNat, Int.reduceNeg, ↓reduceIte, ↓reduceDIte]
  rfl
theorem refturned_ev {b : Bool} : callE T 17 lim [h.v, i64 k, .bool b] H fun v H' => v = (if b = true then h.wth k else h.wout k).v ∧ H' = H := by
  refine callE_pop rfl (by simp) rfl ?_
  have r2 := fun x => lbin_rem x 65536#64 (by decide)
  by_cases h0 : k < 0
  · have e : isK k = false := by simp [isK]; omega
    simp -dsimp only [go_sem, Nat.reduceEqDiff, Nat.reduceAdd, Nat.reduceSub, Nat.reduceMul, Nat.reduceLeDiff, Nat.reduceLT, Nat.reduceBEq, Int.reduceLT, Int.reduceLE, Int.reduceGT, Int.reduceGE, Int.reduceEq, Int.reduceNe, Int.reduceBEq, Int.reduceBNe, Int.reduceAdd, Int.reduceSub, Int.reduceMul, Int.reduceToNat, Int.reduceNeg, ↓reduceIte, ↓reduceDIte, h0]
    cases b <;> simp [HD.wth, HD.wout, e]
  by_cases h7 : 7 < k
  · have e : isK k = false := by simp [isK]; omega
    simp -dsimp only [go_sem, Nat.reduceEqDiff, Nat.reduceAdd, Nat.reduceSub, Nat.reduceMul, Nat.reduceLeDiff, Nat.reduceLT, Nat.reduceBEq, Int.reduceLT, Int.reduceLE, Int.reduceGT, Int.reduceGE, Int.reduceEq, Int.reduceNe, Int.reduceBEq, Int.reduceBNe, Int.reduceAdd, Int.reduceSub, Int.reduceMul, Int.reduceToNat, Int.reduceNeg, ↓reduceIte, ↓reduceDIte, h0, h7]
    cases b <;> simp [HD.wth, HD.wout, e]
  have e : isK k = true := by simp [isK]; omega
  have hz : (BitVec.ofInt 64 k).toNat = k.toNat := by rw [BitVec.toNat_ofInt]; omega
  have hm : min k.toNat 64 = k.toNat := by omega
  have hs : 1#64 <<< (min (BitVec.ofInt 64 k).toNat 64) = bitW k := by rw [hz, hm]; rfl
  cases b
  · simp -dsimp only [go_sem, Nat.reduceEqDiff, Nat.reduceAdd, Nat.reduceSub, Nat.reduceMul, Nat.reduceLeDiff, Nat.reduceLT, Nat.reduceBEq, Int.reduceLT, Int.reduceLE, Int.reduceGT, Int.reduceGE, Int.reduceEq, Int.reduceNe, Int.reduceBEq, Int.reduceBNe, Int.reduceAdd, Int.reduceSub, Int.reduceMul, Int.reduceToNat, Int.reduceNeg, ↓reduceIte, ↓reduceDIte, h0, h7, hs]
    refine CT_val (refhas_ev (n := h.n) (t := h.t) (i := h.i)) ?_
    cases hh : hasF h.i k
    · have hg : h.i.getLsbD k.toNat = false := by simpa [hasF, e] using hh
      simp -dsimp only [go_sem, Nat.reduceEqDiff, Nat.reduceAdd, Nat.reduceSub, Nat.reduceMul, Nat.reduceLeDiff, Nat.reduceLT, Nat.reduceBEq, Int.reduceLT, Int.reduceLE, Int.reduceGT, Int.reduceGE, Int.reduceEq, Int.reduceNe, Int.reduceBEq, Int.reduceBNe, Int.reduceAdd, Int.reduceSub, Int.reduceMul, Int.reduceToNat, Int.reduceNeg, ↓reduceIte, ↓reduceDIte, r2, upT_mod]
      simp [HD.wout, e, andNot_no (show k < 64 by omega) hg]
    · have hg : h.i.getLsbD k.toNat = true := by simpa [hasF, e] using hh
      simp -dsimp only [go_sem, Nat.reduceEqDiff, Nat.reduceAdd, Nat.reduceSub, Nat.reduceMul, Nat.reduceLeDiff, Nat.reduceLT, Nat.reduceBEq, Int.reduceLT, Int.reduceLE, Int.reduceGT, Int.reduceGE, Int.reduceEq, Int.reduceNe, Int.reduceBEq, Int.reduceBNe, Int.reduceAdd, Int.reduceSub, Int.reduceMul, Int.reduceToNat, Int.reduceNeg, ↓reduceIte, ↓reduceDIte, r2, upT_mod]
      simp [HD.wout, e, sub_bit (show k < 64 by omega) hg]
  · simp -dsimp only [go_sem, Nat.reduceEqDiff, Nat.reduceAdd, Nat.reduceSub, Nat.reduceMul, Nat.reduceLeDiff, Nat.reduceLT, Nat.reduceBEq, Int.reduceLT, Int.reduceLE, Int.reduceGT, Int.reduceGE, Int.reduceEq, Int.reduceNe, Int.reduceBEq, Int.reduceBNe, Int.reduceAdd, Int.reduceSub, Int.reduceMul, Int.reduceToNat, Int.reduceNeg, ↓reduceIte, ↓reduceDIte, h0, h7, hs]
    refine CT_val (refhas_ev (n := h.n) (t := h.t) (i := h.i)) ?_
    cases hh : hasF h.i k
    · have hg : h.i.getLsbD k.toNat = false := by simpa [hasF, e] using hh
      simp -dsimp only [go_sem, Nat.reduceEqDiff, Nat.reduceAdd, Nat.reduceSub, Nat.reduceMul, Nat.reduceLeDiff, Nat.reduceLT, Nat.reduceBEq, Int.reduceLT, Int.reduceLE, Int.reduceGT, Int.reduceGE, Int.reduceEq, Int.reduceNe, Int.reduceBEq, Int.reduceBNe, Int.reduceAdd, Int.reduceSub, Int.reduceMul, Int.reduceToNat, Int.reduceNeg, ↓reduceIte, ↓reduceDIte, r2, upT_mod]
      simp [HD.wth, e, add_bit (no_and (show k < 64 by omega) hg)]
    · have hg : h.i.getLsbD k.toNat = true := by simpa [hasF, e] using hh
      simp -dsimp only [go_sem, Nat.reduceEqDiff, Nat.reduceAdd, Nat.reduceSub, Nat.reduceMul, Nat.reduceLeDiff, Nat.reduceLT, Nat.reduceBEq, Int.reduceLT, Int.reduceLE, Int.reduceGT, Int.reduceGE, Int.reduceEq, Int.reduceNe, Int.reduceBEq, Int.reduceBNe, Int.reduceAdd, Int.reduceSub, Int.reduceMul, Int.reduceToNat, Int.reduceNeg, ↓reduceIte, ↓reduceDIte, r2, upT_mod]
      simp [HD.wth, e, or_has (show k < 64 by omega) hg]
end
