/- A ring alone: five steps. -/
import Derived.Test.YtgipbamdefjenaaV5
namespace Go.Proofs.Ytgipbamdefjenaa
open Go Go.LK
set_option linter.unusedSimpArgs false
set_option linter.unusedVariables false
def runs : Nat → VOp × MV → VOp × MV
  | 0, z => z
  | k + 1, z => runs k (z.1.step z.2)
theorem toInt_small {n : Nat} (h : n < 1000000) : (BitVec.ofNat 64 n).toInt = n := by
  rw [BitVec.toInt_eq_toNat_of_lt]
  · rw [nat64 (by omega)]
  · rw [nat64 (by omega)]; omega
theorem diff_neg {a b : Nat} (h : a < b) (hb : b < 1000000) : (BitVec.ofNat 64 a - BitVec.ofNat 64 b).toInt < 0 ∧ (BitVec.ofNat 64 a - BitVec.ofNat 64 b).toInt ≠ 0 := by
  have e : (BitVec.ofNat 64 a - BitVec.ofNat 64 b).toNat = 18446744073709551616 - b + a := by
    rw [BitVec.toNat_sub, nat64 (by omega), nat64 (by omega)]
    show (18446744073709551616 - b + a) % 18446744073709551616 = _
    omega
  rw [BitVec.toInt_eq_toNat_cond, e, if_neg (by omega)]
  show ((18446744073709551616 - b + a : Nat) : Int) - ((18446744073709551616 : Nat) : Int) < 0 ∧ ((18446744073709551616 - b + a : Nat) : Int) - ((18446744073709551616 : Nat) : Int) ≠ 0
  omega
theorem one64 (n : Nat) : BitVec.ofNat 64 n + 1#64 = BitVec.ofNat 64 (n + 1) := by
  rw [BitVec.ofNat_add]
theorem diff_self (x : BitVec 64) : (x - x).toInt = 0 := by simp
theorem put_full {s t : Nat} {w l : List (BitVec 64)} {m : MV} {v : BitVec 64} (h : Seq s w t l) (c : Clean m w) (hl : l.length = s) (hf : t + l.length < 100000) :
    ∃ m', runs 5 (⟨⟨0, s⟩, false, v, 0, 0#64, 0⟩, m) = (⟨⟨0, s⟩, false, 0#64, 5, BitVec.ofNat 64 (t + l.length), 15⟩, m') ∧ Clean m' w := by
  have s2 := h.s2
  have hlen := h.len
  have l0 : m.load 0 = BitVec.ofNat 64 (t + l.length) := by rw [load_cl c (by omega) (by omega)]; exact h.w0
  have e1 : VOp.step ⟨⟨0, s⟩, false, v, 0, 0#64, 0⟩ m = (⟨⟨0, s⟩, false, v, 1, BitVec.ofNat 64 (t + l.length), 0⟩, m.use 0 0 id) := by
    rw [← l0]; rfl
  have c1 := c.use_id (a := 0) (by omega) (by omega) 0
  have hcell := h.cell t (Nat.le_refl _) (by omega)
  rw [if_pos (by omega)] at hcell
  have hm : (t + l.length) % s = t % s := by rw [hl, Nat.add_mod_right]
  have hmlt : t % s < s := Nat.mod_lt _ (by omega)
  have l1 : (m.use 0 0 id).load (RV.cell ⟨0, s⟩ (BitVec.ofNat 64 (t + l.length))) = BitVec.ofNat 64 (t + 1) := by
    rw [cell_of (by omega), hm, load_cl c1 (by omega) (by omega), Int.toNat_natCast]; exact hcell
  obtain ⟨d1, d2⟩ := diff_neg (a := t + 1) (b := t + l.length) (by omega) (by omega)
  have e2 : VOp.step ⟨⟨0, s⟩, false, v, 1, BitVec.ofNat 64 (t + l.length), 0⟩ (m.use 0 0 id) = (⟨⟨0, s⟩, false, 0#64, 5, BitVec.ofNat 64 (t + l.length), 15⟩, (m.use 0 0 id).use 0 (RV.cell ⟨0, s⟩ (BitVec.ofNat 64 (t + l.length))) id) := by
    simp only [VOp.step, l1, Bool.false_eq_true, if_false]
    generalize (BitVec.ofNat 64 (t + 1) - BitVec.ofNat 64 (t + l.length)).toInt = z at d1 d2 ⊢
    rw [if_neg d2, if_pos d1]
    rfl
  have c2 : Clean ((m.use 0 0 id).use 0 (RV.cell ⟨0, s⟩ (BitVec.ofNat 64 (t + l.length))) id) w := by
    refine c1.use_id ?_ ?_ 0
    · rw [cell_of (by omega)]; omega
    · rw [cell_of (by omega), hm]; omega
  refine ⟨_, ?_, c2⟩
  show runs 3 ((VOp.step ⟨⟨0, s⟩, false, v, 0, 0#64, 0⟩ m).1.step (VOp.step ⟨⟨0, s⟩, false, v, 0, 0#64, 0⟩ m).2) = _
  rw [e1]
  show runs 3 (VOp.step ⟨⟨0, s⟩, false, v, 1, BitVec.ofNat 64 (t + l.length), 0⟩ (m.use 0 0 id)) = _
  rw [e2]
  rfl
theorem put_ok {s t : Nat} {w l : List (BitVec 64)} {m : MV} {v : BitVec 64} (h : Seq s w t l) (c : Clean m w) (hl : l.length < s) (hf : t + l.length < 100000) :
    ∃ m' w', runs 5 (⟨⟨0, s⟩, false, v, 0, 0#64, 0⟩, m) = (⟨⟨0, s⟩, false, 0#64, 5, BitVec.ofNat 64 (t + l.length), 0⟩, m') ∧ Clean m' w' ∧ Seq s w' t (l ++ [v]) := by
  have s2 := h.s2
  have hlen := h.len
  have hm : (t + l.length) % s < s := Nat.mod_lt _ (by omega)
  have l0 : m.load 0 = BitVec.ofNat 64 (t + l.length) := by rw [load_cl c (by omega) (by omega)]; exact h.w0
  have hc := cell_of (s := s) (n := t + l.length) (by omega)
  have e1 : VOp.step ⟨⟨0, s⟩, false, v, 0, 0#64, 0⟩ m = (⟨⟨0, s⟩, false, v, 1, BitVec.ofNat 64 (t + l.length), 0⟩, m.use 0 0 id) := by
    rw [← l0]; rfl
  have c1 := c.use_id (a := 0) (by omega) (by omega) 0
  generalize m.use 0 0 id = m1 at e1 c1
  have hcell := h.cell (t + l.length) (by omega) (by omega)
  rw [if_neg (by omega)] at hcell
  have l1 : m1.load (RV.cell ⟨0, s⟩ (BitVec.ofNat 64 (t + l.length))) = BitVec.ofNat 64 (t + l.length) := by
    rw [hc, load_cl c1 (by omega) (by omega), Int.toNat_natCast]; exact hcell
  have e2 : VOp.step ⟨⟨0, s⟩, false, v, 1, BitVec.ofNat 64 (t + l.length), 0⟩ m1 = (⟨⟨0, s⟩, false, v, 2, BitVec.ofNat 64 (t + l.length), 0⟩, m1.use 0 (RV.cell ⟨0, s⟩ (BitVec.ofNat 64 (t + l.length))) id) := by
    simp only [VOp.step, l1, Bool.false_eq_true, if_false]
    rw [if_pos (diff_self _)]
    rfl
  have c2 : Clean (m1.use 0 (RV.cell ⟨0, s⟩ (BitVec.ofNat 64 (t + l.length))) id) w := c1.use_id (by rw [hc]; omega) (by rw [hc]; omega) 0
  generalize m1.use 0 (RV.cell ⟨0, s⟩ (BitVec.ofNat 64 (t + l.length))) id = m2 at e2 c2
  have hsw : m2.swaps 0 (BitVec.ofNat 64 (t + l.length)) = true := by
    rw [MV.swaps, c2.bad (by omega) (by omega), c2.at]
    simp only [Int.toNat_zero, h.w0]; simp
  have e3 : VOp.step ⟨⟨0, s⟩, false, v, 2, BitVec.ofNat 64 (t + l.length), 0⟩ m2 = (⟨⟨0, s⟩, false, v, 3, BitVec.ofNat 64 (t + l.length), 0⟩, m2.use 2 0 (fun x => if x = BitVec.ofNat 64 (t + l.length) then BitVec.ofNat 64 (t + l.length) + 1#64 else x)) := by
    have : VOp.head ⟨⟨0, s⟩, false, v, 2, BitVec.ofNat 64 (t + l.length), 0⟩ = 0 := rfl
    simp only [VOp.step, this, hsw]; rfl
  have c3 := c2.use (a := 0) (by omega) (by omega) 2 (fun x => if x = BitVec.ofNat 64 (t + l.length) then BitVec.ofNat 64 (t + l.length) + 1#64 else x)
  simp only [Int.toNat_zero, h.w0, if_true, one64] at c3
  rw [one64] at e3
  generalize m2.use 2 0 (fun x => if x = BitVec.ofNat 64 (t + l.length) then BitVec.ofNat 64 (t + l.length + 1) else x) = m3 at e3 c3
  have e4 : VOp.step ⟨⟨0, s⟩, false, v, 3, BitVec.ofNat 64 (t + l.length), 0⟩ m3 = (⟨⟨0, s⟩, false, v, 4, BitVec.ofNat 64 (t + l.length), 0⟩, m3.use 1 (RV.cell ⟨0, s⟩ (BitVec.ofNat 64 (t + l.length)) + 1) (fun _ => v)) := rfl
  have c4 := c3.use (a := RV.cell ⟨0, s⟩ (BitVec.ofNat 64 (t + l.length)) + 1) (by rw [hc]; omega) (by rw [hc, List.length_set, hlen]; omega) 1 (fun _ => v)
  rw [show (RV.cell ⟨0, s⟩ (BitVec.ofNat 64 (t + l.length)) + 1).toNat = 2 + 2 * ((t + l.length) % s) + 1 by rw [hc]; omega] at c4
  generalize m3.use 1 (RV.cell ⟨0, s⟩ (BitVec.ofNat 64 (t + l.length)) + 1) (fun _ => v) = m4 at e4 c4
  have e5 : VOp.step ⟨⟨0, s⟩, false, v, 4, BitVec.ofNat 64 (t + l.length), 0⟩ m4 = (⟨⟨0, s⟩, false, 0#64, 5, BitVec.ofNat 64 (t + l.length), 0⟩, m4.use 1 (RV.cell ⟨0, s⟩ (BitVec.ofNat 64 (t + l.length))) (fun _ => BitVec.ofNat 64 (t + l.length) + 1#64)) := rfl
  have c5 := c4.use (a := RV.cell ⟨0, s⟩ (BitVec.ofNat 64 (t + l.length))) (by rw [hc]; omega) (by rw [hc, List.length_set, List.length_set, hlen]; omega) 1 (fun _ => BitVec.ofNat 64 (t + l.length) + 1#64)
  rw [show (RV.cell ⟨0, s⟩ (BitVec.ofNat 64 (t + l.length))).toNat = 2 + 2 * ((t + l.length) % s) by rw [hc]; omega, one64] at c5
  refine ⟨_, _, ?_, c5, h.put hl hf v⟩
  show runs 4 (VOp.step ⟨⟨0, s⟩, false, v, 0, 0#64, 0⟩ m) = _
  rw [e1]
  show runs 3 (VOp.step ⟨⟨0, s⟩, false, v, 1, BitVec.ofNat 64 (t + l.length), 0⟩ m1) = _
  rw [e2]
  show runs 2 (VOp.step ⟨⟨0, s⟩, false, v, 2, BitVec.ofNat 64 (t + l.length), 0⟩ m2) = _
  rw [e3]
  show runs 1 (VOp.step ⟨⟨0, s⟩, false, v, 3, BitVec.ofNat 64 (t + l.length), 0⟩ m3) = _
  rw [e4]
  show VOp.step ⟨⟨0, s⟩, false, v, 4, BitVec.ofNat 64 (t + l.length), 0⟩ m4 = _
  rw [e5, one64]
end Go.Proofs.Ytgipbamdefjenaa
