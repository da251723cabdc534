/- A ring of numbers, in words: plain. -/
import Derived.Test.YtgipbamdefjenaaO4
import Derived.Test.YtgipbamdefjenaaM3
namespace Go.Proofs.Ytgipbamdefjenaa
open Go Go.LK
set_option linter.unusedSimpArgs false
set_option linter.unusedVariables false
/-- The words tell the ring. -/
structure WR (R : RS) (w : List (BitVec 64)) : Prop where
  len : w.length = 2 + 2 * R.s
  w0 : w.getD 0 0 = BitVec.ofNat 64 R.T
  w1 : w.getD 1 0 = BitVec.ofNat 64 R.O
  sq : ∀ j, j < R.s → w.getD (2 + 2 * j) 0 = BitVec.ofNat 64 (R.sq j)
  dat : ∀ j, j < R.s → w.getD (3 + 2 * j) 0 = R.dat j
theorem getD_set_eq {w : List (BitVec 64)} {i : Nat} {x : BitVec 64} (h : i < w.length) : (w.set i x).getD i 0 = x := by
  rw [List.getD_eq_getElem?_getD, List.getElem?_set_self h]; rfl
theorem getD_set_ne {w : List (BitVec 64)} {i j : Nat} {x : BitVec 64} (h : i ≠ j) : (w.set i x).getD j 0 = w.getD j 0 := by
  rw [List.getD_eq_getElem?_getD, List.getD_eq_getElem?_getD, List.getElem?_set_ne h]
section
variable {R : RS} {w : List (BitVec 64)}
theorem WR.setT (h : WR R w) (T : Nat) (vals : Nat → BitVec 64) : WR { R with T := T, vals := vals } (w.set 0 (BitVec.ofNat 64 T)) :=
  ⟨by rw [List.length_set]; exact h.len, getD_set_eq (by rw [h.len]; omega), by rw [getD_set_ne (by omega)]; exact h.w1, fun j hj => by rw [getD_set_ne (by omega)]; exact h.sq j hj, fun j hj => by rw [getD_set_ne (by omega)]; exact h.dat j hj⟩
theorem WR.setO (h : WR R w) (O : Nat) : WR { R with O := O } (w.set 1 (BitVec.ofNat 64 O)) :=
  ⟨by rw [List.length_set]; exact h.len, by rw [getD_set_ne (by omega)]; exact h.w0, getD_set_eq (by rw [h.len]; omega), fun j hj => by rw [getD_set_ne (by omega)]; exact h.sq j hj, fun j hj => by rw [getD_set_ne (by omega)]; exact h.dat j hj⟩
theorem WR.setSq (h : WR R w) {j : Nat} (hj : j < R.s) (n : Nat) : WR { R with sq := upd R.sq j n } (w.set (2 + 2 * j) (BitVec.ofNat 64 n)) := by
  refine ⟨by rw [List.length_set]; exact h.len, by rw [getD_set_ne (by omega)]; exact h.w0, by rw [getD_set_ne (by omega)]; exact h.w1, fun k hk => ?_, fun k hk => ?_⟩
  · show _ = BitVec.ofNat 64 (upd R.sq j n k)
    by_cases e : k = j
    · subst e; rw [getD_set_eq (by rw [h.len]; change k < R.s at hk; omega), upd_same]
    · rw [getD_set_ne (by omega), upd_ne e]; exact h.sq k hk
  · rw [getD_set_ne (by omega)]; exact h.dat k hk
theorem WR.setDat (h : WR R w) {j : Nat} (hj : j < R.s) (x : BitVec 64) : WR { R with dat := upd R.dat j x } (w.set (3 + 2 * j) x) := by
  refine ⟨by rw [List.length_set]; exact h.len, by rw [getD_set_ne (by omega)]; exact h.w0, by rw [getD_set_ne (by omega)]; exact h.w1, fun k hk => ?_, fun k hk => ?_⟩
  · rw [getD_set_ne (by omega)]; exact h.sq k hk
  · show _ = upd R.dat j x k
    by_cases e : k = j
    · subst e; rw [getD_set_eq (by rw [h.len]; change k < R.s at hk; omega), upd_same]
    · rw [getD_set_ne (by omega), upd_ne e]; exact h.dat k hk
end
end Go.Proofs.Ytgipbamdefjenaa
/- Small numbers as words. -/
namespace Go.Proofs.Ytgipbamdefjenaa
open Go Go.LK
set_option linter.unusedSimpArgs false
set_option linter.unusedVariables false
theorem small_sub {a b : Nat} (ha : a < 1000000) (hb : b < 1000000) : (BitVec.ofNat 64 a - BitVec.ofNat 64 b).toInt = (a : Int) - (b : Int) := by
  have h1 : (BitVec.ofNat 64 a).toInt = (a : Int) := by
    rw [BitVec.toInt_eq_toNat_of_lt] <;> simp only [BitVec.toNat_ofNat] <;> rw [Nat.mod_eq_of_lt (by omega)] <;> omega
  have h2 : (BitVec.ofNat 64 b).toInt = (b : Int) := by
    rw [BitVec.toInt_eq_toNat_of_lt] <;> simp only [BitVec.toNat_ofNat] <;> rw [Nat.mod_eq_of_lt (by omega)] <;> omega
  rw [BitVec.toInt_sub, h1, h2]
  rw [Int.bmod_eq_of_le (by omega) (by omega)]
theorem small_inj {a b : Nat} (ha : a < 1000000) (hb : b < 1000000) (h : BitVec.ofNat 64 a = BitVec.ofNat 64 b) : a = b := by
  have := congrArg BitVec.toNat h
  simp only [BitVec.toNat_ofNat] at this
  rw [Nat.mod_eq_of_lt (by omega), Nat.mod_eq_of_lt (by omega)] at this
  exact this
theorem small_succ (a : Nat) : BitVec.ofNat 64 a + 1#64 = BitVec.ofNat 64 (a + 1) := by
  apply BitVec.eq_of_toNat_eq
  simp [BitVec.toNat_add]
theorem small_add (a b : Nat) : BitVec.ofNat 64 a + BitVec.ofInt 64 (b : Int) = BitVec.ofNat 64 (a + b) := by
  apply BitVec.eq_of_toNat_eq
  simp [BitVec.toNat_add]
end Go.Proofs.Ytgipbamdefjenaa
