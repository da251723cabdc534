/- A ring alone: plain. -/
import Derived.Test.YtgipbamdefjenaaV4
namespace Go.Proofs.Ytgipbamdefjenaa
open Go Go.LK
set_option linter.unusedSimpArgs false
set_option linter.unusedVariables false
/-- A ring that nobody uses just now holds numbers. -/
structure Seq (s : Nat) (w : List (BitVec 64)) (t : Nat) (l : List (BitVec 64)) : Prop where
  s2 : 2 ≤ s
  s1 : s ≤ 1024
  len : w.length = 2 + 2 * s
  le : l.length ≤ s
  few : t + l.length ≤ 100000
  w0 : w.getD 0 0 = BitVec.ofNat 64 (t + l.length)
  w1 : w.getD 1 0 = BitVec.ofNat 64 t
  cell : ∀ q, t ≤ q → q < t + s → w.getD (2 + 2 * (q % s)) 0 = BitVec.ofNat 64 (if q < t + l.length then q + 1 else q)
  data : ∀ i, i < l.length → w.getD (2 + 2 * ((t + i) % s) + 1) 0 = l.getD i 0
theorem load_cl {m : MV} {w : List (BitVec 64)} (c : Clean m w) {a : Int} (h0 : 0 ≤ a) (h1 : a < w.length) : m.load a = w.getD a.toNat 0 := by
  rw [MV.load, c.bad h0 h1, c.at]; rfl
theorem set_getD {w : List (BitVec 64)} {i j : Nat} {v : BitVec 64} (h : i ≠ j) : (w.set i v).getD j 0 = w.getD j 0 := by
  simp only [List.getD]; rw [List.getElem?_set_ne h]
theorem set_getD_self {w : List (BitVec 64)} {i : Nat} {v : BitVec 64} (h : i < w.length) : (w.set i v).getD i 0 = v := by
  simp only [List.getD]; rw [List.getElem?_set_self h]; rfl
theorem mod_ne {s p q t : Nat} (hs : 0 < s) (h1 : t ≤ p) (h2 : p < t + s) (h3 : t ≤ q) (h4 : q < t + s) (h : p ≠ q) : p % s ≠ q % s := by
  intro e
  have d1 := Nat.div_add_mod p s
  have d2 := Nat.div_add_mod q s
  rw [e] at d1
  have : s * (p / s) - s * (q / s) = p - q := by omega
  rcases Nat.lt_or_ge p q with g | g
  · have : s * (q / s) = s * (p / s) + (q - p) := by omega
    have h5 : p / s < q / s := by
      refine Nat.lt_of_mul_lt_mul_left (a := s) ?_
      omega
    have h6 : s * (p / s + 1) ≤ s * (q / s) := Nat.mul_le_mul_left _ h5
    rw [Nat.mul_add, Nat.mul_one] at h6
    omega
  · have g : q < p := by omega
    have : s * (p / s) = s * (q / s) + (p - q) := by omega
    have h5 : q / s < p / s := by
      refine Nat.lt_of_mul_lt_mul_left (a := s) ?_
      omega
    have h6 : s * (q / s + 1) ≤ s * (p / s) := Nat.mul_le_mul_left _ h5
    rw [Nat.mul_add, Nat.mul_one] at h6
    omega
theorem nat64 {n : Nat} (h : n < 18446744073709551616) : (BitVec.ofNat 64 n).toNat = n := by
  rw [BitVec.toNat_ofNat, Nat.mod_eq_of_lt h]
theorem cell_of {s n : Nat} (h : n < 18446744073709551616) : RV.cell ⟨0, s⟩ (BitVec.ofNat 64 n) = ((2 + 2 * (n % s) : Nat) : Int) := by
  rw [RV.cell, nat64 h]
  simp only [Int.toNat_natCast]
  omega
theorem Seq.put {s t : Nat} {w l : List (BitVec 64)} (h : Seq s w t l) (hl : l.length < s) (hf : t + l.length < 100000) (v : BitVec 64) :
    Seq s (((w.set 0 (BitVec.ofNat 64 (t + l.length + 1))).set (2 + 2 * ((t + l.length) % s) + 1) v).set (2 + 2 * ((t + l.length) % s)) (BitVec.ofNat 64 (t + l.length + 1))) t (l ++ [v]) := by
  have s2 := h.s2
  have hm : (t + l.length) % s < s := Nat.mod_lt _ (by omega)
  have hlen := h.len
  refine ⟨h.s2, h.s1, by simp [hlen], by simp; omega, by simp; omega, ?_, ?_, ?_, ?_⟩
  · rw [set_getD (by omega), set_getD (by omega), set_getD_self (by omega), List.length_append, List.length_singleton, Nat.add_assoc]
  · rw [set_getD (by omega), set_getD (by omega), set_getD (by omega)]; exact h.w1
  · intro q q1 q2
    rw [List.length_append, List.length_singleton]
    by_cases e : q = t + l.length
    · subst e
      rw [set_getD_self (by simp; omega), if_pos (by omega)]
    · have hne := mod_ne (by omega) q1 q2 (show t ≤ t + l.length by omega) (by omega) e
      rw [set_getD (by omega), set_getD (by omega), set_getD (by omega), h.cell q q1 q2]
      congr 1
      by_cases g : q < t + l.length
      · rw [if_pos g, if_pos (by omega)]
      · rw [if_neg g, if_neg (by omega)]
  · intro i hi
    rw [List.length_append, List.length_singleton] at hi
    by_cases e : i = l.length
    · subst e
      rw [set_getD (by omega), set_getD_self (by simp; omega)]
      simp [List.getD]
    · have hne := mod_ne (s := s) (p := t + i) (q := t + l.length) (t := t) (by omega) (by omega) (by omega) (by omega) (by omega) (by omega)
      rw [set_getD (by omega), set_getD (by omega), set_getD (by omega), h.data i (by omega)]
      simp only [List.getD]
      rw [List.getElem?_append_left (by omega)]
theorem Seq.take {s t : Nat} {w l : List (BitVec 64)} {v : BitVec 64} (h : Seq s w t (v :: l)) :
    Seq s ((w.set 1 (BitVec.ofNat 64 (t + 1))).set (2 + 2 * (t % s)) (BitVec.ofNat 64 (t + s))) (t + 1) l := by
  have s2 := h.s2
  have hm : t % s < s := Nat.mod_lt _ (by omega)
  have hlen := h.len
  have hle := h.le
  have hf := h.few
  simp only [List.length_cons] at hle hf
  refine ⟨h.s2, h.s1, by simp [hlen], by omega, by omega, ?_, ?_, ?_, ?_⟩
  · rw [set_getD (by omega), set_getD (by omega), h.w0, List.length_cons]
    congr 1; omega
  · rw [set_getD (by omega), set_getD_self (by omega)]
  · intro q q1 q2
    by_cases e : q = t + s
    · subst e
      rw [Nat.add_mod_right, set_getD_self (by simp; omega), if_neg (by omega)]
    · have hne := mod_ne (s := s) (p := q) (q := t) (t := t) (by omega) (by omega) (by omega) (by omega) (by omega) (by omega)
      rw [set_getD (by omega), set_getD (by omega), h.cell q (by omega) (by omega), List.length_cons]
      congr 1
      by_cases g : q < t + 1 + l.length
      · rw [if_pos g, if_pos (by omega)]
      · rw [if_neg g, if_neg (by omega)]
  · intro i hi
    rw [set_getD (by omega), set_getD (by omega)]
    have := h.data (i + 1) (by simp; omega)
    rw [show t + 1 + i = t + (i + 1) by omega, this]
    simp [List.getD]
end Go.Proofs.Ytgipbamdefjenaa
