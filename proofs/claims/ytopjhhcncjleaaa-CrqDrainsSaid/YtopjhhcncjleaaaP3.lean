/- Rings that may be closed, used by one alone: whole operations. -/
import Derived.Test.YtopjhhcncjleaaaP2
namespace Go.Proofs.Ytopjhhcncjleaaa
open Go Go.LK
set_option linter.unusedSimpArgs false
set_option linter.unusedVariables false
section
variable {s h T : Nat} {l w : List (BitVec 64)} {cl : Bool} {v d st tl hd rt : BitVec 64} {tr c : Int} {q : Nat} {k : Int}
theorem cellN (hq : q < 1000000) : (RV.cell ⟨0, s⟩ (BitVec.ofNat 64 q)).toNat = 4 + 2 * (q % s) ∧ (RV.cell ⟨0, s⟩ (BitVec.ofNat 64 q) + 1).toNat = 5 + 2 * (q % s) := by
  rw [cell_of (by omega)]
  omega
/-- The number of a position's cell is read. -/
theorem e_data (hk : k = 0 ∨ k = 1) (hq : q < 1000000) : wst (⟨⟨0, s⟩, k, v, 1, BitVec.ofNat 64 q, d, st, tl, hd, tr, c, rt⟩, w) = (⟨⟨0, s⟩, k, v, 2, BitVec.ofNat 64 q, w.getD (5 + 2 * (q % s)) 0, st, tl, hd, tr, c, rt⟩, w) := by
  obtain ⟨c1, c2⟩ := cellN (s := s) hq
  rcases hk with rfl | rfl
  · simp [wst, COp.use, wuse, COp.next, c2]
  · simp [wst, COp.use, wuse, COp.next, c2]
/-- Then its state; for a Put. -/
theorem e_state0 (hq : q < 1000000) {q' : Nat} (hq' : q' < 1000000) (hs : w.getD (4 + 2 * (q % s)) 0 = BitVec.ofNat 64 (2 * q' + 1)) :
    wst (⟨⟨0, s⟩, 0, v, 2, BitVec.ofNat 64 q, d, st, tl, hd, tr, c, rt⟩, w) = (⟨⟨0, s⟩, 0, v, if d ≠ 0#64 ∨ q < q' then 5 else 4, BitVec.ofNat 64 q, d, BitVec.ofNat 64 (2 * q' + 1), tl, hd, tr, c, rt⟩, w) := by
  obtain ⟨c1, c2⟩ := cellN (s := s) hq
  have o := odd_of hq'
  have p := po_of hq'
  have lt := lt_of64 (a := q) (b := q') (by omega) (by omega)
  simp only [wst, COp.use, wuse, COp.next, c1, hs, Int.reduceEq, if_true, if_false, o, p]
  by_cases hd : d = 0#64
  · have hd1 : (d != 0#64) = false := by simp [hd]
    by_cases hl : q < q'
    · have := lt.2 hl
      simp [hd1, hl, this]
    · have := mt lt.1 hl
      simp [hd1, hd, hl, this]
  · have hd1 : (d != 0#64) = true := by simp [hd]
    simp [hd1, hd]
/-- For a Take. -/
theorem e_state1 (hq : q < 1000000) {q' : Nat} (hq' : q' < 1000000) (hs : w.getD (4 + 2 * (q % s)) 0 = BitVec.ofNat 64 (2 * q' + 1)) :
    wst (⟨⟨0, s⟩, 1, v, 2, BitVec.ofNat 64 q, d, st, tl, hd, tr, c, rt⟩, w) = (⟨⟨0, s⟩, 1, v, if q < q' then 5 else 3, BitVec.ofNat 64 q, d, BitVec.ofNat 64 (2 * q' + 1), tl, hd, tr, c, rt⟩, w) := by
  obtain ⟨c1, c2⟩ := cellN (s := s) hq
  have p := po_of hq'
  have lt := lt_of64 (a := q) (b := q') (by omega) (by omega)
  simp only [wst, COp.use, wuse, COp.next, c1, hs, Int.reduceEq, if_true, if_false, p]
  by_cases hl : q < q'
  · have := lt.2 hl
    simp [hl, this]
  · have := mt lt.1 hl
    simp [hl, this]
theorem e_claim0 (g : w.getD 1 0 = tw T false) (hT : T < 1000000) {p : BitVec 64} : wst (⟨⟨0, s⟩, 0, v, 0, p, d, st, tl, hd, tr, c, rt⟩, w) = (⟨⟨0, s⟩, 0, v, 1, BitVec.ofNat 64 T, d, st, tl, hd, tr, c, rt⟩, w.set 1 (tw (T + 1) false)) := by
  have hc := tw_clo (cl := false) hT
  simp only [wst, COp.use, wuse, COp.next, Int.reduceEq, if_true, if_false]
  rw [show ((0 : Int) + 1).toNat = 1 from rfl, g, hc, tw_succ]
  simp [tw]
theorem e_claim0c (g : w.getD 1 0 = tw T true) (hT : T < 1000000) {p : BitVec 64} : wst (⟨⟨0, s⟩, 0, v, 0, p, d, st, tl, hd, tr, c, rt⟩, w) = (⟨⟨0, s⟩, 0, v, 9, tw T true, d, st, tl, hd, tr, 16, 0#64⟩, w.set 1 (tw (T + 1) true)) := by
  have hc := tw_clo (cl := true) hT
  simp only [wst, COp.use, wuse, COp.next, Int.reduceEq, if_true, if_false]
  rw [show ((0 : Int) + 1).toNat = 1 from rfl, g, hc, tw_succ]
  simp [COp.fin]
theorem e_claim1 (g : w.getD 0 0 = BitVec.ofNat 64 h) {p : BitVec 64} : wst (⟨⟨0, s⟩, 1, v, 0, p, d, st, tl, hd, tr, c, rt⟩, w) = (⟨⟨0, s⟩, 1, v, 1, BitVec.ofNat 64 h, d, st, tl, hd, tr, c, rt⟩, w.set 0 (BitVec.ofNat 64 (h + 1))) := by
  simp only [wst, COp.use, wuse, COp.next, Int.reduceEq, if_true, if_false]
  rw [show (0 : Int).toNat = 0 from rfl, g, one64]
theorem put_ok (g : CSeq s h T l false w) (hl : l.length < s) (hf : T + 1 < 100000) (hv : v + 1#64 ≠ 0#64) : ∃ y w', wruns 4 (c0 ⟨0, s⟩ 0 v, w) = (y, w') ∧ y.at_ = 9 ∧ y.code = 0 ∧ y.ret = 0#64 ∧ CSeq s h (T + 1) (l ++ [v]) false w' := by
  have s1 := g.s1
  have hop := g.op rfl
  have hlen := g.len
  have hm : T % s < s := Nat.mod_lt _ (by omega)
  have g2 := g.dt T (by omega) (by omega)
  rw [if_neg (by omega)] at g2
  have g3 := g.st T (by omega) (by omega)
  obtain ⟨c1, c2⟩ := cellN (s := s) (q := T) (by omega)
  have e1 := e_claim0 (s := s) (v := v) (d := 0#64) (st := 0#64) (tl := 0#64) (hd := 0#64) (tr := 0) (c := 0) (rt := 0#64) (p := 0#64) g.w1 (by omega)
  have e2 := e_data (s := s) (k := 0) (v := v) (d := 0#64) (st := 0#64) (tl := 0#64) (hd := 0#64) (tr := 0) (c := 0) (rt := 0#64) (q := T) (w := w.set 1 (tw (T + 1) false)) (.inl rfl) (by omega)
  rw [set_getD (by omega), g2] at e2
  have e3 := e_state0 (s := s) (v := v) (d := 0#64) (st := 0#64) (tl := 0#64) (hd := 0#64) (tr := 0) (c := 0) (rt := 0#64) (q := T) (q' := T) (w := w.set 1 (tw (T + 1) false)) (by omega) (by omega) (by rw [set_getD (by omega)]; exact g3)
  rw [if_neg (by simp)] at e3
  have e4 : wst (⟨⟨0, s⟩, 0, v, 4, BitVec.ofNat 64 T, 0#64, BitVec.ofNat 64 (2 * T + 1), 0#64, 0#64, 0, 0, 0#64⟩, w.set 1 (tw (T + 1) false)) = (⟨⟨0, s⟩, 0, v, 9, BitVec.ofNat 64 T, 0#64, BitVec.ofNat 64 (2 * T + 1), 0#64, 0#64, 0, 0, 0#64⟩, ((w.set 1 (tw (T + 1) false)).set (4 + 2 * (T % s)) (BitVec.ofNat 64 (2 * T + 1))).set (5 + 2 * (T % s)) (v + 1#64)) := by
    have r1 : (w.set 1 (tw (T + 1) false)).getD (4 + 2 * (T % s)) 0 = BitVec.ofNat 64 (2 * T + 1) := by rw [set_getD (by omega)]; exact g3
    have r2 : (w.set 1 (tw (T + 1) false)).getD (5 + 2 * (T % s)) 0 = 0#64 := by rw [set_getD (by omega)]; exact g2
    simp only [wst, COp.use, wuse, COp.next, Int.reduceEq, if_true, if_false, c1, c2, r1, r2, and_self, beq_self_eq_true, Bool.and_self, st_of (show T < 1000000 by omega), COp.fin]
  have er : wruns 4 (c0 ⟨0, s⟩ 0 v, w) = _ := (congrArg wst ((congrArg wst ((congrArg wst e1).trans e2)).trans e3)).trans e4
  exact ⟨_, _, er, rfl, rfl, rfl, g.put hl hf hv⟩
theorem put_full (g : CSeq s h T l false w) (hl : l.length = s) (hf : T + 1 < 100000) : ∃ y w', wruns 5 (c0 ⟨0, s⟩ 0 v, w) = (y, w') ∧ y.at_ = 9 ∧ y.code = 16 ∧ y.ret = 0#64 ∧ CSeq s h (T + 1) l true w' := by
  have s1 := g.s1
  have s8 := g.s8
  have hop := g.op rfl
  have hlen := g.len
  have hTs : T = h + s := by omega
  have hms : T % s = h % s := by rw [hTs, Nat.add_mod_right]
  have hm : h % s < s := Nat.mod_lt _ (by omega)
  have g2 := g.dt h (by omega) (by omega)
  rw [if_pos (by omega), Nat.sub_self] at g2
  have g3 := g.st h (by omega) (by omega)
  have hnz : l.getD 0 0 + 1#64 ≠ 0#64 := by
    refine g.nz _ ?_
    cases l with
    | nil => simp at hl; omega
    | cons a l => simp [List.getD]
  obtain ⟨c1, c2⟩ := cellN (s := s) (q := T) (by omega)
  have e1 := e_claim0 (s := s) (v := v) (d := 0#64) (st := 0#64) (tl := 0#64) (hd := 0#64) (tr := 0) (c := 0) (rt := 0#64) (p := 0#64) g.w1 (by omega)
  have e2 := e_data (s := s) (k := 0) (v := v) (d := 0#64) (st := 0#64) (tl := 0#64) (hd := 0#64) (tr := 0) (c := 0) (rt := 0#64) (q := T) (w := w.set 1 (tw (T + 1) false)) (.inl rfl) (by omega)
  rw [set_getD (by omega), hms, g2] at e2
  have e3 := e_state0 (s := s) (v := v) (d := l.getD 0 0 + 1#64) (st := 0#64) (tl := 0#64) (hd := 0#64) (tr := 0) (c := 0) (rt := 0#64) (q := T) (q' := h) (w := w.set 1 (tw (T + 1) false)) (by omega) (by omega) (by rw [set_getD (by omega), hms]; exact g3)
  rw [if_pos (.inl hnz)] at e3
  have e4 : wst (⟨⟨0, s⟩, 0, v, 5, BitVec.ofNat 64 T, l.getD 0 0 + 1#64, BitVec.ofNat 64 (2 * h + 1), 0#64, 0#64, 0, 0, 0#64⟩, w.set 1 (tw (T + 1) false)) = (⟨⟨0, s⟩, 0, v, 6, BitVec.ofNat 64 T, l.getD 0 0 + 1#64, BitVec.ofNat 64 (2 * h + 1), 0#64, 0#64, 1, 0, 0#64⟩, w.set 1 (tw (T + 1) false)) := by
    have r1 : (w.set 1 (tw (T + 1) false)).getD 0 0 = BitVec.ofNat 64 h := by rw [set_getD (by omega)]; exact g.w0
    have b1 : BitVec.ofNat 64 h ≤ BitVec.ofNat 64 T := (le_of64 (by omega) (by omega)).2 (by omega)
    have b2 : BitVec.ofInt 64 (s : Int) ≤ BitVec.ofNat 64 T - BitVec.ofNat 64 h := by
      rw [sub64 (by omega) (by omega), BitVec.ofInt_natCast]
      exact (le_of64 (by omega) (by omega)).2 (by omega)
    simp only [wst, COp.use, wuse, COp.next, Int.reduceEq, if_true, if_false]
    rw [show (0 : Int).toNat = 0 from rfl, r1, if_pos (.inl ⟨b1, b2⟩)]
    rfl
  have e5 : wst (⟨⟨0, s⟩, 0, v, 6, BitVec.ofNat 64 T, l.getD 0 0 + 1#64, BitVec.ofNat 64 (2 * h + 1), 0#64, 0#64, 1, 0, 0#64⟩, w.set 1 (tw (T + 1) false)) = (⟨⟨0, s⟩, 0, v, 9, BitVec.ofNat 64 T, l.getD 0 0 + 1#64, BitVec.ofNat 64 (2 * h + 1), 0#64, 0#64, 1, 16, 0#64⟩, w.set 1 (tw (T + 1) true)) := by
    simp only [wst, COp.use, wuse, COp.next, Int.reduceEq, if_true, if_false, COp.fin]
    rw [show ((0 : Int) + 1).toNat = 1 from rfl, set_getD_self (by omega), tw_or (by omega), List.set_set]
  have er : wruns 5 (c0 ⟨0, s⟩ 0 v, w) = _ := (congrArg wst ((congrArg wst ((congrArg wst ((congrArg wst e1).trans e2)).trans e3)).trans e4)).trans e5
  exact ⟨_, _, er, rfl, rfl, rfl, g.tail (by omega) (fun q => by cases q) (by omega)⟩
theorem put_shut (g : CSeq s h T l true w) (hf : T + 1 < 100000) : ∃ y w', wruns 1 (c0 ⟨0, s⟩ 0 v, w) = (y, w') ∧ y.at_ = 9 ∧ y.code = 16 ∧ y.ret = 0#64 ∧ CSeq s h (T + 1) l true w' := by
  have hT := g.hT
  have e1 := e_claim0c (s := s) (v := v) (d := 0#64) (st := 0#64) (tl := 0#64) (hd := 0#64) (tr := 0) (c := 0) (rt := 0#64) (p := 0#64) g.w1 (by omega)
  have er : wruns 1 (c0 ⟨0, s⟩ 0 v, w) = _ := e1
  exact ⟨_, _, er, rfl, rfl, rfl, g.tail (by omega) (fun q => by cases q) (by omega)⟩
theorem close_ok (g : CSeq s h T l cl w) : ∃ y w', wruns 1 (c0 ⟨0, s⟩ 2 v, w) = (y, w') ∧ y.at_ = 9 ∧ y.code = 0 ∧ y.ret = 0#64 ∧ CSeq s h T l true w' := by
  have hT := g.hT
  have hf := g.few
  have e1 : wst (c0 ⟨0, s⟩ 2 v, w) = (⟨⟨0, s⟩, 2, v, 9, 0#64, 0#64, 0#64, 0#64, 0#64, 0, 0, 0#64⟩, w.set 1 (tw T true)) := by
    simp only [wst, COp.use, wuse, COp.next, Int.reduceEq, if_true, if_false, COp.fin]
    rw [show ((0 : Int) + 1).toNat = 1 from rfl, g.w1, tw_or (by omega)]
  have er : wruns 1 (c0 ⟨0, s⟩ 2 v, w) = _ := e1
  exact ⟨_, _, er, rfl, rfl, rfl, g.tail (by omega) (fun q => by cases q) (by omega)⟩
/-- The words behind the turn of the head's cell. -/
abbrev tcell (s h : Nat) (w : List (BitVec 64)) : List (BitVec 64) := ((w.set 0 (BitVec.ofNat 64 (h + 1))).set (4 + 2 * (h % s)) (BitVec.ofNat 64 (2 * (h + s) + 1))).set (5 + 2 * (h % s)) 0#64
theorem take_turn (g : CSeq s h T l cl w) {p : BitVec 64} {D : BitVec 64} (hD : D = if 0 < l.length then l.getD 0 0 + 1#64 else 0#64) :
    wruns 4 (⟨⟨0, s⟩, 1, v, 0, p, d, st, tl, hd, tr, c, rt⟩, w) = (if D ≠ 0#64 then ⟨⟨0, s⟩, 1, v, 9, BitVec.ofNat 64 h, D, BitVec.ofNat 64 (2 * h + 1), tl, hd, tr, 0, D - 1#64⟩ else ⟨⟨0, s⟩, 1, v, 5, BitVec.ofNat 64 h, D, BitVec.ofNat 64 (2 * h + 1), tl, hd, tr, c, rt⟩, tcell s h w) := by
  have s1 := g.s1
  have s8 := g.s8
  have hlen := g.len
  have hT := g.hT
  have hf := g.few
  have hm : h % s < s := Nat.mod_lt _ (by omega)
  have g2 := g.dt h (by omega) (by omega)
  have g2' : w.getD (5 + 2 * (h % s)) 0 = D := by
    rw [g2, hD, Nat.sub_self]
    by_cases q : 0 < l.length
    · rw [if_pos q, if_pos (by omega)]
    · rw [if_neg q, if_neg (by omega)]
  have g3 := g.st h (by omega) (by omega)
  obtain ⟨c1, c2⟩ := cellN (s := s) (q := h) (by omega)
  have e1 := e_claim1 (s := s) (v := v) (d := d) (st := st) (tl := tl) (hd := hd) (tr := tr) (c := c) (rt := rt) (p := p) g.w0
  have e2 := e_data (s := s) (k := 1) (v := v) (d := d) (st := st) (tl := tl) (hd := hd) (tr := tr) (c := c) (rt := rt) (q := h) (w := w.set 0 (BitVec.ofNat 64 (h + 1))) (.inr rfl) (by omega)
  rw [set_getD (by omega), g2'] at e2
  have e3 := e_state1 (s := s) (v := v) (d := D) (st := st) (tl := tl) (hd := hd) (tr := tr) (c := c) (rt := rt) (q := h) (q' := h) (w := w.set 0 (BitVec.ofNat 64 (h + 1))) (by omega) (by omega) (by rw [set_getD (by omega)]; exact g3)
  rw [if_neg (by omega)] at e3
  have e4 : wst (⟨⟨0, s⟩, 1, v, 3, BitVec.ofNat 64 h, D, BitVec.ofNat 64 (2 * h + 1), tl, hd, tr, c, rt⟩, w.set 0 (BitVec.ofNat 64 (h + 1))) = (if D ≠ 0#64 then ⟨⟨0, s⟩, 1, v, 9, BitVec.ofNat 64 h, D, BitVec.ofNat 64 (2 * h + 1), tl, hd, tr, 0, D - 1#64⟩ else ⟨⟨0, s⟩, 1, v, 5, BitVec.ofNat 64 h, D, BitVec.ofNat 64 (2 * h + 1), tl, hd, tr, c, rt⟩, tcell s h w) := by
    have r1 : (w.set 0 (BitVec.ofNat 64 (h + 1))).getD (4 + 2 * (h % s)) 0 = BitVec.ofNat 64 (2 * h + 1) := by rw [set_getD (by omega)]; exact g3
    have r2 : (w.set 0 (BitVec.ofNat 64 (h + 1))).getD (5 + 2 * (h % s)) 0 = D := by rw [set_getD (by omega)]; exact g2'
    have po := po_of (q := h) (by omega)
    have sum : BitVec.ofNat 64 h + BitVec.ofInt 64 (s : Int) = BitVec.ofNat 64 (h + s) := by rw [BitVec.ofInt_natCast, BitVec.ofNat_add]
    have ss := st_st (q := h + s) (p := h) (by omega) (by omega)
    by_cases hz : D = 0#64
    · have hz1 : (D != 0#64) = false := by simp [hz]
      simp only [wst, COp.use, wuse, COp.next, COp.now, COp.own, Int.reduceEq, if_true, if_false, c1, c2, r1, r2, and_self, beq_self_eq_true, Bool.and_self, hz1, Bool.false_and, Bool.false_eq_true, sum, ss]
      rw [if_neg (by simp [hz])]
    · have hz1 : (D != 0#64) = true := by simp [hz]
      simp only [wst, COp.use, wuse, COp.next, COp.now, COp.own, Int.reduceEq, if_true, if_false, c1, c2, r1, r2, and_self, beq_self_eq_true, Bool.and_self, hz1, Bool.true_and, po, Bool.not_true, Bool.false_eq_true, sum, ss, COp.fin]
      rw [if_pos hz]
  exact (congrArg wst ((congrArg wst ((congrArg wst e1).trans e2)).trans e3)).trans e4
theorem take_ok {a : BitVec 64} {l' : List (BitVec 64)} (g : CSeq s h T (a :: l') cl w) : ∃ y w', wruns 4 (c0 ⟨0, s⟩ 1 v, w) = (y, w') ∧ y.at_ = 9 ∧ y.code = 0 ∧ y.ret = a ∧ CSeq s (h + 1) T l' cl w' := by
  have hT := g.hT
  have hf := g.few
  have hlen := g.len
  have s1 := g.s1
  have hm : h % s < s := Nat.mod_lt _ (by omega)
  simp only [List.length_cons] at hT
  have hnz := g.nz a (by simp)
  have e := take_turn (v := v) (d := 0#64) (st := 0#64) (tl := 0#64) (hd := 0#64) (tr := 0) (c := 0) (rt := 0#64) g (p := 0#64) (D := a + 1#64) (by simp [List.getD])
  rw [if_pos hnz] at e
  have g' := g.take (l' := l') (T' := T) rfl (by omega) (fun q => by have := g.op q; simp only [List.length_cons] at this; omega) hf
  rw [set_getD_id (by simp; omega) (by rw [set_getD (by omega), set_getD (by omega), set_getD (by omega)]; exact g.w1)] at g'
  refine ⟨_, _, e, rfl, rfl, ?_, g'⟩
  show a + 1#64 - 1#64 = a
  rw [BitVec.add_sub_cancel]
theorem take_asks (g : w.getD 1 0 = tw T cl) (hT : T < 100000) (hh : h < 100000) : wst (⟨⟨0, s⟩, 1, v, 5, BitVec.ofNat 64 h, d, st, tl, hd, tr, c, rt⟩, w) = (⟨⟨0, s⟩, 1, v, if T ≤ h + 1 then 6 else 0, BitVec.ofNat 64 h, d, st, tl, hd, tr, c, rt⟩, w) := by
  simp only [wst, COp.use, wuse, COp.next, Int.reduceEq, if_true, if_false]
  rw [show ((0 : Int) + 1).toNat = 1 from rfl, g, tw_low (by omega), one64]
  have le := le_of64 (a := T) (b := h + 1) (by omega) (by omega)
  by_cases q : T ≤ h + 1
  · rw [if_pos q, if_pos (le.2 q)]
  · rw [if_neg q, if_neg (mt le.1 q)]
theorem take_none_last (g : CSeq s h T [] cl w) (hlt : T ≤ h + 1) (hh : h < 90000) {p : BitVec 64} : ∃ k y w' h', k ≤ 5 * (T - h) + 8 ∧ wruns k (⟨⟨0, s⟩, 1, v, 0, p, d, st, tl, hd, tr, c, rt⟩, w) = (y, w') ∧ y.at_ = 9 ∧ y.code = 13 ∧ y.ret = 0#64 ∧ h' ≤ max T (h + 1) ∧ h + 1 ≤ h' ∧ CSeq s h' h' [] cl w' := by
  have hT := g.hT
  have hf := g.few
  have hlen := g.len
  have s1 := g.s1
  simp only [List.length_nil, Nat.add_zero] at hT
  have hm : h % s < s := Nat.mod_lt _ (by omega)
  have e := take_turn (v := v) (d := d) (st := st) (tl := tl) (hd := hd) (tr := tr) (c := c) (rt := rt) g (p := p) (D := 0#64) (by simp)
  rw [if_neg (by simp)] at e
  have tail1 : (tcell s h w).getD 1 0 = tw T cl := by rw [set_getD (by omega), set_getD (by omega), set_getD (by omega)]; exact g.w1
  have head1 : (tcell s h w).getD 0 0 = BitVec.ofNat 64 (h + 1) := by rw [set_getD (by omega), set_getD (by omega), set_getD_self (by omega)]
  have e5 := take_asks (s := s) (v := v) (d := 0#64) (st := BitVec.ofNat 64 (2 * h + 1)) (tl := tl) (hd := hd) (tr := tr) (c := c) (rt := rt) (h := h) tail1 hf (by omega)
  rw [if_pos hlt] at e5
  have e6 : wst (⟨⟨0, s⟩, 1, v, 6, BitVec.ofNat 64 h, 0#64, BitVec.ofNat 64 (2 * h + 1), tl, hd, tr, c, rt⟩, tcell s h w) = (⟨⟨0, s⟩, 1, v, 7, BitVec.ofNat 64 h, 0#64, BitVec.ofNat 64 (2 * h + 1), tw T cl, hd, tr, c, rt⟩, tcell s h w) := by
    simp only [wst, COp.use, wuse, COp.next, Int.reduceEq, if_true, if_false]
    rw [show ((0 : Int) + 1).toNat = 1 from rfl, tail1]
  have le := le_of64 (a := h + 1) (b := T) (by omega) (by omega)
  have g' := g.take (l' := []) (T' := h + 1) rfl (by simp) (fun _ => by simp) (by omega)
  by_cases q : h + 1 ≤ T
  · obtain rfl : T = h + 1 := by omega
    have e7 : wst (⟨⟨0, s⟩, 1, v, 7, BitVec.ofNat 64 h, 0#64, BitVec.ofNat 64 (2 * h + 1), tw (h + 1) cl, hd, tr, c, rt⟩, tcell s h w) = (⟨⟨0, s⟩, 1, v, 9, BitVec.ofNat 64 h, 0#64, BitVec.ofNat 64 (2 * h + 1), tw (h + 1) cl, BitVec.ofNat 64 (h + 1), tr, 13, 0#64⟩, tcell s h w) := by
      simp only [wst, COp.use, wuse, COp.next, Int.reduceEq, if_true, if_false, COp.fin]
      rw [show (0 : Int).toNat = 0 from rfl, head1, tw_low (by omega), if_pos (le.2 q)]
    rw [set_getD_id (by simp; omega) tail1] at g'
    have er : wruns 7 (⟨⟨0, s⟩, 1, v, 0, p, d, st, tl, hd, tr, c, rt⟩, w) = _ := (congrArg wst ((congrArg wst ((congrArg wst e).trans e5)).trans e6)).trans e7
    exact ⟨7, _, _, h + 1, by omega, er, rfl, rfl, rfl, by omega, by omega, g'⟩
  · have e7 : wst (⟨⟨0, s⟩, 1, v, 7, BitVec.ofNat 64 h, 0#64, BitVec.ofNat 64 (2 * h + 1), tw T cl, hd, tr, c, rt⟩, tcell s h w) = (⟨⟨0, s⟩, 1, v, 8, BitVec.ofNat 64 h, 0#64, BitVec.ofNat 64 (2 * h + 1), tw T cl, BitVec.ofNat 64 (h + 1), tr, c, rt⟩, tcell s h w) := by
      simp only [wst, COp.use, wuse, COp.next, Int.reduceEq, if_true, if_false, COp.fin]
      rw [show (0 : Int).toNat = 0 from rfl, head1, tw_low (by omega), if_neg (mt le.1 q)]
    have e8 : wst (⟨⟨0, s⟩, 1, v, 8, BitVec.ofNat 64 h, 0#64, BitVec.ofNat 64 (2 * h + 1), tw T cl, BitVec.ofNat 64 (h + 1), tr, c, rt⟩, tcell s h w) = (⟨⟨0, s⟩, 1, v, 9, BitVec.ofNat 64 h, 0#64, BitVec.ofNat 64 (2 * h + 1), tw T cl, BitVec.ofNat 64 (h + 1), tr, 13, 0#64⟩, (tcell s h w).set 1 (tw (h + 1) cl)) := by
      simp only [wst, COp.use, wuse, COp.next, Int.reduceEq, if_true, if_false, COp.fin]
      rw [show ((0 : Int) + 1).toNat = 1 from rfl, tail1, head_or (by omega) (by omega)]
      simp
    have er : wruns 8 (⟨⟨0, s⟩, 1, v, 0, p, d, st, tl, hd, tr, c, rt⟩, w) = _ := (congrArg wst ((congrArg wst ((congrArg wst ((congrArg wst e).trans e5)).trans e6)).trans e7)).trans e8
    exact ⟨8, _, _, h + 1, by omega, er, rfl, rfl, rfl, by omega, by omega, g'⟩
/-- A Take of a ring in which there is no number: until the head is not below the tail. -/
theorem take_none : ∀ (f : Nat) {h T : Nat} {cl : Bool} {w : List (BitVec 64)} {v p d st tl hd rt : BitVec 64} {tr c : Int}, CSeq s h T [] cl w → T - h ≤ f → h < 90000 → T < 90000 →
    ∃ k y w' h', k ≤ 5 * (T - h) + 8 ∧ wruns k (⟨⟨0, s⟩, 1, v, 0, p, d, st, tl, hd, tr, c, rt⟩, w) = (y, w') ∧ y.at_ = 9 ∧ y.code = 13 ∧ y.ret = 0#64 ∧ h' ≤ max T (h + 1) ∧ h + 1 ≤ h' ∧ CSeq s h' h' [] cl w' := by
  intro f
  induction f with
  | zero => exact fun g hf hh _ => take_none_last g (by omega) hh
  | succ f ih =>
    intro h T cl w v p d st tl hd rt tr c g hf hh hTT
    by_cases hlt : T ≤ h + 1
    · exact take_none_last g hlt hh
    · have hT := g.hT
      have hff := g.few
      have hlen := g.len
      have s1 := g.s1
      simp only [List.length_nil, Nat.add_zero] at hT
      have hm : h % s < s := Nat.mod_lt _ (by omega)
      obtain rfl : cl = true := by
        cases cl
        · have := g.op rfl
          simp only [List.length_nil, Nat.add_zero] at this
          omega
        · rfl
      have e := take_turn (v := v) (d := d) (st := st) (tl := tl) (hd := hd) (tr := tr) (c := c) (rt := rt) g (p := p) (D := 0#64) (by simp)
      rw [if_neg (by simp)] at e
      have tail1 : (tcell s h w).getD 1 0 = tw T true := by rw [set_getD (by omega), set_getD (by omega), set_getD (by omega)]; exact g.w1
      have e5 := take_asks (s := s) (v := v) (d := 0#64) (st := BitVec.ofNat 64 (2 * h + 1)) (tl := tl) (hd := hd) (tr := tr) (c := c) (rt := rt) (h := h) tail1 hff (by omega)
      rw [if_neg hlt] at e5
      have g' := g.take (l' := []) (T' := T) rfl (by simp; omega) (fun q => by cases q) hff
      rw [set_getD_id (by simp; omega) tail1] at g'
      have er : wruns 5 (⟨⟨0, s⟩, 1, v, 0, p, d, st, tl, hd, tr, c, rt⟩, w) = _ := (congrArg wst e).trans e5
      obtain ⟨k, y, w', h', k1, k2, k3, k4, k5, k6, k7, k8⟩ := ih (v := v) (p := BitVec.ofNat 64 h) (d := 0#64) (st := BitVec.ofNat 64 (2 * h + 1)) (tl := tl) (hd := hd) (tr := tr) (c := c) (rt := rt) g' (by omega) (by omega) hTT
      refine ⟨5 + k, y, w', h', by omega, ?_, k3, k4, k5, by omega, by omega, k8⟩
      rw [wruns_add, er]
      exact k2
end
end Go.Proofs.Ytopjhhcncjleaaa
