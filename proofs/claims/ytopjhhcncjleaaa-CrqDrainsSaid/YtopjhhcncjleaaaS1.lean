/- The document's operations of a ring that may be closed: they do what the program's do. -/
import Derived.Test.YtopjhhcncjleaaaV3
import Derived.Test.YtopjhhcncjleaaaW2
namespace Go.Proofs.Ytopjhhcncjleaaa
open Go Go.LK
set_option linter.unusedSimpArgs false
set_option linter.unusedVariables false
theorem st_lit (q s : BitVec 64) : stW q s = 2#64 * q + s % 2#64 := by
  apply BitVec.eq_of_toNat_eq
  have h1 := q.isLt
  have h2 := s.isLt
  have e1 : (2 * q.toNat) % 18446744073709551616 = 2 * (q.toNat % 9223372036854775808) := by omega
  have e2 := Nat.two_pow_add_eq_or_of_lt (i := 1) (b := s.toNat % 2) (by omega) (q.toNat % 9223372036854775808)
  simp only [stW, BitVec.toNat_or, BitVec.toNat_shiftLeft, BitVec.toNat_and, Nat.shiftLeft_eq, BitVec.toNat_add, BitVec.toNat_mul, BitVec.toNat_umod]
  show (q.toNat * 2 ^ 1) % 18446744073709551616 ||| (s.toNat &&& 1) = ((2 * q.toNat) % 18446744073709551616 + s.toNat % 2) % 18446744073709551616
  rw [Nat.and_one_is_mod, show q.toNat * 2 ^ 1 = 2 * q.toNat by omega, e1]
  have e3 : 2 ^ 1 * (q.toNat % 9223372036854775808) = 2 * (q.toNat % 9223372036854775808) := by omega
  rw [e3] at e2
  rw [← e2]
  omega
theorem po_lit (s : BitVec 64) : poW s = s / 2#64 := by
  apply BitVec.eq_of_toNat_eq
  rw [poW, BitVec.toNat_ushiftRight, BitVec.toNat_udiv, Nat.shiftRight_eq_div_pow]
  rfl
theorem st_one (p : BitVec 64) : 2#64 * p + 1#64 = stW p 1#64 := by
  rw [st_lit]; rfl
theorem st_un (s : BitVec 64) : s - s % 2#64 = stW (s / 2#64) 0#64 := by
  rw [st_lit]
  apply BitVec.eq_of_toNat_eq
  have h2 := s.isLt
  simp only [BitVec.toNat_sub, BitVec.toNat_add, BitVec.toNat_mul, BitVec.toNat_umod, BitVec.toNat_udiv]
  show (18446744073709551616 - s.toNat % 2 + s.toNat) % 18446744073709551616 = ((2 * (s.toNat / 2)) % 18446744073709551616 + 0 % 2) % 18446744073709551616
  omega
theorem odd_lit (s : BitVec 64) : (s % 2#64 == 1#64) = (s &&& 1#64 != 0#64) := by
  have e : s &&& 1#64 = s % 2#64 := by
    apply BitVec.eq_of_toNat_eq
    rw [BitVec.toNat_and, BitVec.toNat_umod]
    exact Nat.and_one_is_mod _
  rw [e]
  have h : s % 2#64 = 0#64 ∨ s % 2#64 = 1#64 := by
    have : s.toNat % 2 = 0 ∨ s.toNat % 2 = 1 := by omega
    rcases this with h | h
    · exact .inl (BitVec.eq_of_toNat_eq (by rw [BitVec.toNat_umod]; exact h))
    · exact .inr (BitVec.eq_of_toNat_eq (by rw [BitVec.toNat_umod]; exact h))
  rcases h with h | h <;> rw [h] <;> rfl
theorem clo_mod (t : BitVec 64) : t % clo = t &&& ~~~clo := by
  apply BitVec.eq_of_toNat_eq
  rw [BitVec.toNat_and, BitVec.toNat_umod]
  show t.toNat % 9223372036854775808 = t.toNat &&& 9223372036854775807
  have := Nat.and_two_pow_sub_one_eq_mod t.toNat 63
  exact this.symm
theorem and_top (n : Nat) (h : n < 18446744073709551616) : n &&& 9223372036854775808 = if 9223372036854775808 ≤ n then 9223372036854775808 else 0 := by
  have e2 := Nat.two_pow_add_eq_or_of_lt (i := 63) (b := n % 9223372036854775808) (by omega) (n / 9223372036854775808)
  have e3 : (n % 9223372036854775808) &&& 9223372036854775808 = 0 := by
    have := Nat.and_two_pow_sub_one_eq_mod n 63
    have e4 : n % 9223372036854775808 = n &&& 9223372036854775807 := this.symm
    rw [e4, Nat.and_assoc]
    have : (9223372036854775807 : Nat) &&& 9223372036854775808 = 0 := by decide
    rw [this, Nat.and_zero]
  have e5 : n &&& 9223372036854775808 = (2 ^ 63 * (n / 9223372036854775808)) &&& 9223372036854775808 := by
    have e6 : n &&& 9223372036854775808 = (2 ^ 63 * (n / 9223372036854775808) ||| n % 9223372036854775808) &&& 9223372036854775808 := by
      rw [← e2]
      congr 1
      omega
    rw [e6, Nat.and_or_distrib_right, e3, Nat.or_zero]
  rw [e5]
  have hd : n / 9223372036854775808 = 0 ∨ n / 9223372036854775808 = 1 := by omega
  rcases hd with hd | hd
  · rw [hd, if_neg (by omega)]; rfl
  · rw [hd, if_pos (by omega)]; rfl
theorem clo_ge (t : BitVec 64) : (t &&& clo != 0#64) = decide (clo ≤ t) := by
  have h := t.isLt
  have e : (t &&& clo).toNat = if 9223372036854775808 ≤ t.toNat then 9223372036854775808 else 0 := by
    rw [BitVec.toNat_and]
    exact and_top _ h
  by_cases hc : 9223372036854775808 ≤ t.toNat
  · rw [if_pos hc] at e
    have : t &&& clo = clo := BitVec.eq_of_toNat_eq e
    rw [this, decide_eq_true (show clo ≤ t from hc)]; rfl
  · rw [if_neg hc] at e
    have : t &&& clo = 0#64 := BitVec.eq_of_toNat_eq e
    rw [this, decide_eq_false (show ¬ clo ≤ t from hc)]; rfl
end Go.Proofs.Ytopjhhcncjleaaa
