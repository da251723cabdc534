/- A ring alone: five steps of a Take. -/
import Derived.Test.YtgipbamdefjenaaV6
namespace Go.Proofs.Ytgipbamdefjenaa
open Go Go.LK
set_option linter.unusedSimpArgs false
set_option linter.unusedVariables false
theorem take_none {s t : Nat} {w : List (BitVec 64)} {m : MV} (h : Seq s w t []) (c : Clean m w) (hf : t < 100000) :
    ∃ m', runs 5 (⟨⟨0, s⟩, true, 0#64, 0, 0#64, 0⟩, m) = (⟨⟨0, s⟩, true, 0#64, 5, BitVec.ofNat 64 t, 13⟩, m') ∧ Clean m' w := by
  have s2 := h.s2
  have hlen := h.len
  have l0 : m.load (0 + 1) = BitVec.ofNat 64 t := by rw [load_cl c (by omega) (by omega)]; exact h.w1
  have e1 : VOp.step ⟨⟨0, s⟩, true, 0#64, 0, 0#64, 0⟩ m = (⟨⟨0, s⟩, true, 0#64, 1, BitVec.ofNat 64 t, 0⟩, m.use 0 (0 + 1) id) := by
    rw [← l0]; rfl
  have c1 := c.use_id (a := 0 + 1) (by omega) (by omega) 0
  generalize m.use 0 (0 + 1) id = m1 at e1 c1
  have hcell := h.cell t (Nat.le_refl _) (by omega)
  rw [if_neg (by simp)] at hcell
  have hmlt : t % s < s := Nat.mod_lt _ (by omega)
  have hc := cell_of (s := s) (n := t) (by omega)
  have l1 : m1.load (RV.cell ⟨0, s⟩ (BitVec.ofNat 64 t)) = BitVec.ofNat 64 t := by
    rw [hc, load_cl c1 (by omega) (by omega), Int.toNat_natCast]; exact hcell
  obtain ⟨d1, d2⟩ := diff_neg (a := t) (b := t + 1) (by omega) (by omega)
  have e2 : VOp.step ⟨⟨0, s⟩, true, 0#64, 1, BitVec.ofNat 64 t, 0⟩ m1 = (⟨⟨0, s⟩, true, 0#64, 5, BitVec.ofNat 64 t, 13⟩, m1.use 0 (RV.cell ⟨0, s⟩ (BitVec.ofNat 64 t)) id) := by
    simp only [VOp.step, l1, if_true, one64]
    generalize (BitVec.ofNat 64 t - BitVec.ofNat 64 (t + 1)).toInt = z at d1 d2 ⊢
    rw [if_neg d2, if_pos d1]
    rfl
  have c2 : Clean (m1.use 0 (RV.cell ⟨0, s⟩ (BitVec.ofNat 64 t)) id) w := c1.use_id (by rw [hc]; omega) (by rw [hc]; omega) 0
  refine ⟨_, ?_, c2⟩
  show runs 4 (VOp.step ⟨⟨0, s⟩, true, 0#64, 0, 0#64, 0⟩ m) = _
  rw [e1]
  show runs 3 (VOp.step ⟨⟨0, s⟩, true, 0#64, 1, BitVec.ofNat 64 t, 0⟩ m1) = _
  rw [e2]
  rfl
theorem take_ok {s t : Nat} {w l : List (BitVec 64)} {m : MV} {v : BitVec 64} (h : Seq s w t (v :: l)) (c : Clean m w) (hf : t < 100000) :
    ∃ m' w', runs 5 (⟨⟨0, s⟩, true, 0#64, 0, 0#64, 0⟩, m) = (⟨⟨0, s⟩, true, v, 5, BitVec.ofNat 64 t, 0⟩, m') ∧ Clean m' w' ∧ Seq s w' (t + 1) l := by
  have s2 := h.s2
  have s1 := h.s1
  have hlen := h.len
  have hm : t % s < s := Nat.mod_lt _ (by omega)
  have l0 : m.load (0 + 1) = BitVec.ofNat 64 t := by rw [load_cl c (by omega) (by omega)]; exact h.w1
  have hc := cell_of (s := s) (n := t) (by omega)
  have e1 : VOp.step ⟨⟨0, s⟩, true, 0#64, 0, 0#64, 0⟩ m = (⟨⟨0, s⟩, true, 0#64, 1, BitVec.ofNat 64 t, 0⟩, m.use 0 (0 + 1) id) := by
    rw [← l0]; rfl
  have c1 := c.use_id (a := 0 + 1) (by omega) (by omega) 0
  generalize m.use 0 (0 + 1) id = m1 at e1 c1
  have hcell := h.cell t (by omega) (by omega)
  rw [if_pos (by simp)] at hcell
  have l1 : m1.load (RV.cell ⟨0, s⟩ (BitVec.ofNat 64 t)) = BitVec.ofNat 64 (t + 1) := by
    rw [hc, load_cl c1 (by omega) (by omega), Int.toNat_natCast]; exact hcell
  have e2 : VOp.step ⟨⟨0, s⟩, true, 0#64, 1, BitVec.ofNat 64 t, 0⟩ m1 = (⟨⟨0, s⟩, true, 0#64, 2, BitVec.ofNat 64 t, 0⟩, m1.use 0 (RV.cell ⟨0, s⟩ (BitVec.ofNat 64 t)) id) := by
    simp only [VOp.step, l1, if_true, one64]
    rw [if_pos (diff_self _)]
    rfl
  have c2 : Clean (m1.use 0 (RV.cell ⟨0, s⟩ (BitVec.ofNat 64 t)) id) w := c1.use_id (by rw [hc]; omega) (by rw [hc]; omega) 0
  generalize m1.use 0 (RV.cell ⟨0, s⟩ (BitVec.ofNat 64 t)) id = m2 at e2 c2
  have hw1 : w.getD (Int.toNat (0 + 1)) 0 = BitVec.ofNat 64 t := h.w1
  have hsw : m2.swaps (0 + 1) (BitVec.ofNat 64 t) = true := by
    rw [MV.swaps, c2.bad (by omega) (by omega), c2.at, hw1]; simp
  have e3 : VOp.step ⟨⟨0, s⟩, true, 0#64, 2, BitVec.ofNat 64 t, 0⟩ m2 = (⟨⟨0, s⟩, true, 0#64, 3, BitVec.ofNat 64 t, 0⟩, m2.use 2 (0 + 1) (fun x => if x = BitVec.ofNat 64 t then BitVec.ofNat 64 t + 1#64 else x)) := by
    have : VOp.head ⟨⟨0, s⟩, true, 0#64, 2, BitVec.ofNat 64 t, 0⟩ = 0 + 1 := rfl
    simp only [VOp.step, this, hsw]; rfl
  have c3 := c2.use (a := 0 + 1) (by omega) (by omega) 2 (fun x => if x = BitVec.ofNat 64 t then BitVec.ofNat 64 t + 1#64 else x)
  rw [hw1] at c3
  simp only [if_true, one64] at c3
  rw [one64] at e3
  have c3 : Clean (m2.use 2 (0 + 1) (fun x => if x = BitVec.ofNat 64 t then BitVec.ofNat 64 (t + 1) else x)) (w.set 1 (BitVec.ofNat 64 (t + 1))) := c3
  generalize m2.use 2 (0 + 1) (fun x => if x = BitVec.ofNat 64 t then BitVec.ofNat 64 (t + 1) else x) = m3 at e3 c3
  have hd := h.data 0 (by simp)
  have l3 : m3.load (RV.cell ⟨0, s⟩ (BitVec.ofNat 64 t) + 1) = v := by
    rw [hc, load_cl c3 (by omega) (by rw [List.length_set, hlen]; omega), show (((2 + 2 * (t % s) : Nat) : Int) + 1).toNat = 2 + 2 * (t % s) + 1 by omega, set_getD (by omega)]
    exact hd
  have e4 : VOp.step ⟨⟨0, s⟩, true, 0#64, 3, BitVec.ofNat 64 t, 0⟩ m3 = (⟨⟨0, s⟩, true, v, 4, BitVec.ofNat 64 t, 0⟩, m3.use 0 (RV.cell ⟨0, s⟩ (BitVec.ofNat 64 t) + 1) id) := by
    have : VOp.step ⟨⟨0, s⟩, true, 0#64, 3, BitVec.ofNat 64 t, 0⟩ m3 = (⟨⟨0, s⟩, true, m3.load (RV.cell ⟨0, s⟩ (BitVec.ofNat 64 t) + 1), 4, BitVec.ofNat 64 t, 0⟩, m3.use 0 (RV.cell ⟨0, s⟩ (BitVec.ofNat 64 t) + 1) id) := rfl
    rw [this, l3]
  have c4 := c3.use_id (a := RV.cell ⟨0, s⟩ (BitVec.ofNat 64 t) + 1) (by rw [hc]; omega) (by rw [hc, List.length_set, hlen]; omega) 0
  generalize m3.use 0 (RV.cell ⟨0, s⟩ (BitVec.ofNat 64 t) + 1) id = m4 at e4 c4
  have es : BitVec.ofNat 64 t + BitVec.ofInt 64 (s : Int) = BitVec.ofNat 64 (t + s) := by rw [BitVec.ofInt_natCast, BitVec.ofNat_add]
  have e5 : VOp.step ⟨⟨0, s⟩, true, v, 4, BitVec.ofNat 64 t, 0⟩ m4 = (⟨⟨0, s⟩, true, v, 5, BitVec.ofNat 64 t, 0⟩, m4.use 1 (RV.cell ⟨0, s⟩ (BitVec.ofNat 64 t)) (fun _ => BitVec.ofNat 64 t + BitVec.ofInt 64 (s : Int))) := rfl
  have c5 := c4.use (a := RV.cell ⟨0, s⟩ (BitVec.ofNat 64 t)) (by rw [hc]; omega) (by rw [hc, List.length_set, hlen]; omega) 1 (fun _ => BitVec.ofNat 64 t + BitVec.ofInt 64 (s : Int))
  rw [show (RV.cell ⟨0, s⟩ (BitVec.ofNat 64 t)).toNat = 2 + 2 * (t % s) by rw [hc]; omega, es] at c5
  refine ⟨_, _, ?_, c5, h.take⟩
  show runs 4 (VOp.step ⟨⟨0, s⟩, true, 0#64, 0, 0#64, 0⟩ m) = _
  rw [e1]
  show runs 3 (VOp.step ⟨⟨0, s⟩, true, 0#64, 1, BitVec.ofNat 64 t, 0⟩ m1) = _
  rw [e2]
  show runs 2 (VOp.step ⟨⟨0, s⟩, true, 0#64, 2, BitVec.ofNat 64 t, 0⟩ m2) = _
  rw [e3]
  show runs 1 (VOp.step ⟨⟨0, s⟩, true, 0#64, 3, BitVec.ofNat 64 t, 0⟩ m3) = _
  rw [e4]
  show VOp.step ⟨⟨0, s⟩, true, v, 4, BitVec.ofNat 64 t, 0⟩ m4 = _
  rw [e5, es]
end Go.Proofs.Ytgipbamdefjenaa
