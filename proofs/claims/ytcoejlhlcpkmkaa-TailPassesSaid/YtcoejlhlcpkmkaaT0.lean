/- A head's word: plain. -/
import Derived.Test.YtcoejlhlcpkmkaaM3
import Derived.Test.YtcoejlhlcpkmkaaC0
namespace Go.Proofs.Ytcoejlhlcpkmkaa
open Go Go.LK
set_option linter.unusedSimpArgs false
set_option linter.unusedVariables false
/-- A head's word. -/
def packW (n t i : BitVec 64) : BitVec 64 := (i % 256#64 * 65536#64 + t % 65536#64) * 1099511627776#64 + n % 1099511627776#64
def maxW (bits : Nat) : BitVec 64 := (BitVec.allOnes 64) >>> (64 - bits)
/-- A field set. -/
def setW (at_ bits : Nat) (w v : BitVec 64) : BitVec 64 := w &&& ~~~(maxW bits <<< at_) ||| v <<< at_ &&& (maxW bits <<< at_)
def getW (at_ bits : Nat) (w : BitVec 64) : BitVec 64 := w >>> at_ &&& maxW bits
theorem maxW_get (bits j : Nat) (h : bits ≤ 64) : (maxW bits).getLsbD j = decide (j < bits) := by
  rw [maxW, BitVec.getLsbD_ushiftRight, BitVec.getLsbD_allOnes]
  simp; omega
theorem setW_get (at_ bits : Nat) (w v : BitVec 64) (j : Nat) (h : at_ + bits ≤ 64) (hj : j < 64) :
    (setW at_ bits w v).getLsbD j = if at_ ≤ j ∧ j < at_ + bits then v.getLsbD (j - at_) else w.getLsbD j := by
  unfold setW
  simp only [BitVec.getLsbD_or, BitVec.getLsbD_and, BitVec.getLsbD_not, BitVec.getLsbD_shiftLeft, maxW_get _ _ (show bits ≤ 64 by omega), hj, decide_true, Bool.true_and]
  by_cases h1 : at_ ≤ j
  · by_cases h2 : j < at_ + bits
    · rw [if_pos ⟨h1, h2⟩]
      simp [show ¬ j < at_ by omega, show j - at_ < bits by omega]
    · rw [if_neg (by omega)]
      simp [show ¬ j < at_ by omega, show ¬ j - at_ < bits by omega]
  · rw [if_neg (by omega)]
    simp [show j < at_ by omega]
theorem umod_nat (x : BitVec 64) (k : Nat) (hk : k < 18446744073709551616) : x % BitVec.ofNat 64 k = BitVec.ofNat 64 (x.toNat % k) := by
  apply BitVec.eq_of_toNat_eq
  have h1 := x.isLt
  have h2 := Nat.mod_le x.toNat k
  rw [BitVec.toNat_umod, BitVec.toNat_ofNat, BitVec.toNat_ofNat, Nat.mod_eq_of_lt (a := k) hk, Nat.mod_eq_of_lt (a := x.toNat % k) (Nat.lt_of_le_of_lt h2 h1)]
theorem packW_eq (n t i : BitVec 64) : packW n t i = BitVec.ofNat 64 ((i.toNat % 256 * 65536 + t.toNat % 65536) * 1099511627776 + n.toNat % 1099511627776) := by
  unfold packW
  rw [umod_nat i 256 (by decide), umod_nat t 65536 (by decide), umod_nat n 1099511627776 (by decide), ← BitVec.ofNat_mul, ← BitVec.ofNat_add, ← BitVec.ofNat_mul, ← BitVec.ofNat_add]
theorem packW_get (n t i : BitVec 64) (j : Nat) (hj : j < 64) : (packW n t i).getLsbD j = if j < 40 then n.getLsbD j else if j < 56 then t.getLsbD (j - 40) else i.getLsbD (j - 56) := by
  rw [packW_eq, BitVec.getLsbD_ofNat]
  have e : (i.toNat % 256 * 65536 + t.toNat % 65536) * 1099511627776 + n.toNat % 1099511627776 = 2 ^ 40 * (2 ^ 16 * (i.toNat % 2 ^ 8) + t.toNat % 2 ^ 16) + n.toNat % 2 ^ 40 := by omega
  rw [e, Nat.testBit_two_pow_mul_add _ (Nat.mod_lt _ (by decide)), Nat.testBit_two_pow_mul_add _ (Nat.mod_lt _ (by decide))]
  simp only [Nat.testBit_mod_two_pow, hj, decide_true, Bool.true_and]
  by_cases h1 : j < 40
  · simp [h1, BitVec.testBit_toNat]
  · by_cases h2 : j < 56
    · simp [h1, h2, show j - 40 < 16 by omega, BitVec.testBit_toNat]
    · simp [h1, h2, show ¬ j - 40 < 16 by omega, show j - 40 - 16 = j - 56 by omega, show j - 56 < 8 by omega, BitVec.testBit_toNat]
/-- The program's way is the document's. -/
theorem pack_set (n t i : BitVec 64) : setW 56 8 (setW 40 16 (setW 0 40 0#64 n) t) i = packW n t i := by
  apply BitVec.eq_of_getLsbD_eq
  intro j hj
  rw [setW_get _ _ _ _ _ (by decide) hj, setW_get _ _ _ _ _ (by decide) hj, setW_get _ _ _ _ _ (by decide) hj, packW_get _ _ _ _ hj]
  by_cases h1 : j < 40
  · rw [if_neg (by omega), if_neg (by omega), if_pos (by omega), if_pos h1]; rfl
  · by_cases h2 : j < 56
    · rw [if_neg (by omega), if_pos (by omega), if_neg h1, if_pos h2]
    · rw [if_pos (by omega), if_neg h1, if_neg h2]
theorem getW_get (at_ bits : Nat) (w : BitVec 64) (j : Nat) (h : bits ≤ 64) : (getW at_ bits w).getLsbD j = (w.getLsbD (at_ + j) && decide (j < bits)) := by
  unfold getW
  rw [BitVec.getLsbD_and, BitVec.getLsbD_ushiftRight, maxW_get _ _ h]
theorem maxW_nat (bits : Nat) (h : bits ≤ 64) : (maxW bits).toNat = 2 ^ bits - 1 := by
  apply Nat.eq_of_testBit_eq
  intro j
  rw [BitVec.testBit_toNat, maxW_get _ _ h, Nat.testBit_two_pow_sub_one]
theorem getW_nat (at_ bits : Nat) (w : BitVec 64) (h : bits ≤ 64) : (getW at_ bits w).toNat = w.toNat / 2 ^ at_ % 2 ^ bits := by
  unfold getW
  rw [BitVec.toNat_and, BitVec.toNat_ushiftRight, maxW_nat _ h, Nat.and_two_pow_sub_one_eq_mod, Nat.shiftRight_eq_div_pow]
