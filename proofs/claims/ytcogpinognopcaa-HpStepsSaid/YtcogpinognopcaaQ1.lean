/- The document's operations of a guard. -/
import Derived.Test.YtcogpinognopcaaG2
import Derived.Test.YtcogpinognopcaaR1
import Derived.Test.YtcogpinognopcaaC4
import Derived.Test.YtcogpinognopcaaG5
namespace Go.Proofs.Ytcogpinognopcaa
open Go Go.LK
set_option linter.unusedSimpArgs false
set_option linter.unusedVariables false
structure ROp where
  kind : Int
  at_ : Int
  words : Int
  slot : Int
  word : Int
  pc : Int
  p : BitVec 64
  met : List (BitVec 64)
  done : Bool
abbrev ROp.cells (a : Option Addr) (y : ROp) : List Value := [i64 y.kind, i64 y.at_, i64 y.words, i64 y.slot, i64 y.word, i64 y.pc, w64 y.p, .slice a y.met.length y.met.length, .bool y.done]
abbrev ROp.v (a : Option Addr) (y : ROp) : Value := .agg (y.cells a).toArray
def ROp.step (y : ROp) (m : MV) : ROp × MV :=
  if y.done = true then (y, m)
  else if y.kind = 0 then
    if y.pc = 1 then ({ y with pc := 2 }, m.use 1 y.slot (fun _ => y.p))
    else if y.pc = 2 ∧ m.load y.word = y.p then ({ y with done := true }, m.use 0 y.word id)
    else ({ y with p := m.load y.word, pc := 1 }, m.use 0 y.word id)
  else if y.kind = 1 then ({ y with done := true }, m.use 1 y.slot (fun _ => 0#64))
  else
    let v := m.load (y.at_ + y.pc)
    ({ y with met := (if v = 0#64 then y.met else y.met ++ [v]), p := (if v = 0#64 then y.p else y.p + 1#64), pc := y.pc + 1, done := decide (y.pc + 1 = y.words) }, m.use 0 (y.at_ + y.pc) id)
/-- What stands behind the document's step. -/
def RRes (H H' : LHeap) (am aw ab : Option Addr) (n : Nat) (y' : ROp) (m' : MV) (v : Value) : Prop :=
  ∃ am' aw' t, v = .tuple #[y'.v am', refV aw' ab n m'] ∧ H' = H ++ t ∧ Sl 1 (H ++ t) am' (y'.met.map w64) ∧ Sl 1 (H ++ t) aw' (m'.w.map w64) ∧ (aw' = aw ∨ Own 1 (H ++ t) H.length aw' (m'.w.map w64)) ∧ (am' = am ∨ Fresh H.length am') ∧ (am' = am ∨ ∀ x, aw' = some x → Off x.block am')
section
variable {lim : Nat} {am aw ab : Option Addr} {n : Nat} {m : MV} {y : ROp} {H : LHeap}
set_option maxHeartbeats 2000000 in
theorem rstep_ev (hl : lim ≤ H.length) (h : RefAt H aw ab n m) (hm : Sl 1 H am (y.met.map w64)) (hk : 0 ≤ y.kind ∧ y.kind ≤ 2) (hp : 0 ≤ y.pc ∧ y.pc ≤ 100000) (ha : y.at_ = 4) (hn : y.met.length < 100000) :
    callE T 15 lim [y.v am, refV aw ab n m] H fun v H' => RRes H H' am aw ab n (y.step m).1 (y.step m).2 v := by
  refine callE_stay rfl (by simp) rfl ?_
  obtain ⟨kd, at_, wd, sl, wo, pc, p, met, dn⟩ := y
  simp only at hm hk hp ha hn
  subst ha
  cases dn
  · have wpc : IntKind.i64.wrap (4 + pc) = 4 + pc := by rw [wrap_i64] <;> omega
    have wpc1 : IntKind.i64.wrap (pc + 1) = pc + 1 := by rw [wrap_i64] <;> omega
    by_cases k0 : kd = 0
    · subst k0
      by_cases p1 : pc = 1
      · subst p1
        have es : ROp.step ⟨0, 4, wd, sl, wo, 1, p, met, false⟩ m = (⟨0, 4, wd, sl, wo, 2, p, met, false⟩, m.use 1 sl (fun _ => p)) := rfl
        rw [es]
        simp -dsimp only [go_sem, Nat.reduceEqDiff, Nat.reduceAdd, Nat.reduceSub, Nat.reduceMul, Nat.reduceLeDiff, Nat.reduceLT, Nat.reduceBEq, Int.reduceLT, Int.reduceLE, Int.reduceGT, Int.reduceGE, Int.reduceEq, Int.reduceNe, Int.reduceBEq, Int.reduceBNe, Int.reduceAdd, Int.reduceSub, Int.reduceMul, Int.reduceToNat, Int.reduceNeg, ↓reduceIte, ↓reduceDIte, hl]
        refine CT_of (refstep1_ev (by simp; omega) (h.app _)) ?_
        rintro _ _ ⟨aw1, t1, rfl, rfl, g1, q1⟩
        simp only at g1 q1
        simp -dsimp only [go_sem, Nat.reduceEqDiff, Nat.reduceAdd, Nat.reduceSub, Nat.reduceMul, Nat.reduceLeDiff, Nat.reduceLT, Nat.reduceBEq, Int.reduceLT, Int.reduceLE, Int.reduceGT, Int.reduceGE, Int.reduceEq, Int.reduceNe, Int.reduceBEq, Int.reduceBNe, Int.reduceAdd, Int.reduceSub, Int.reduceMul, Int.reduceToNat, Int.reduceNeg, ↓reduceIte, ↓reduceDIte, hl]
        exact ⟨am, aw1, _, rfl, rfl, hm.app _, g1.into (by omega) (by simp [unbox_app, unbox_cons, unboxO_box]), q1.imp id (fun q => Own.into q (by decide) (by simp) (by simp [unbox_app, unbox_cons, unboxO_box])), .inl rfl, .inl rfl⟩
      · by_cases p2 : pc = 2 ∧ m.load wo = p
        · obtain ⟨rfl, p2⟩ := p2
          have es : ROp.step ⟨0, 4, wd, sl, wo, 2, p, met, false⟩ m = (⟨0, 4, wd, sl, wo, 2, p, met, true⟩, m.use 0 wo id) := by simp [ROp.step, p2]
          rw [es]
          simp -dsimp only [go_sem, Nat.reduceEqDiff, Nat.reduceAdd, Nat.reduceSub, Nat.reduceMul, Nat.reduceLeDiff, Nat.reduceLT, Nat.reduceBEq, Int.reduceLT, Int.reduceLE, Int.reduceGT, Int.reduceGE, Int.reduceEq, Int.reduceNe, Int.reduceBEq, Int.reduceBNe, Int.reduceAdd, Int.reduceSub, Int.reduceMul, Int.reduceToNat, Int.reduceNeg, ↓reduceIte, ↓reduceDIte, hl]
          refine CT_of (refstep0_ev (by simp; omega) (h.app _)) ?_
          rintro _ _ ⟨aw1, t1, rfl, rfl, g1, q1⟩
          simp only at g1 q1
          have e2 : (m.load wo == p) = true := by simp [p2]
          simp -dsimp only [go_sem, Nat.reduceEqDiff, Nat.reduceAdd, Nat.reduceSub, Nat.reduceMul, Nat.reduceLeDiff, Nat.reduceLT, Nat.reduceBEq, Int.reduceLT, Int.reduceLE, Int.reduceGT, Int.reduceGE, Int.reduceEq, Int.reduceNe, Int.reduceBEq, Int.reduceBNe, Int.reduceAdd, Int.reduceSub, Int.reduceMul, Int.reduceToNat, Int.reduceNeg, ↓reduceIte, ↓reduceDIte, hl, e2]
          exact ⟨am, aw1, _, rfl, rfl, hm.app _, g1.into (by omega) (by simp [unbox_app, unbox_cons, unboxO_box]), q1.imp id (fun q => Own.into q (by decide) (by simp) (by simp [unbox_app, unbox_cons, unboxO_box])), .inl rfl, .inl rfl⟩
        · have es : ROp.step ⟨0, 4, wd, sl, wo, pc, p, met, false⟩ m = (⟨0, 4, wd, sl, wo, 1, m.load wo, met, false⟩, m.use 0 wo id) := by simp [ROp.step, p1, p2]
          rw [es]
          have e1 : (pc == 1) = false := by simpa using p1
          have e1' : (pc != 1) = true := by simp [p1]
          simp -dsimp only [go_sem, Nat.reduceEqDiff, Nat.reduceAdd, Nat.reduceSub, Nat.reduceMul, Nat.reduceLeDiff, Nat.reduceLT, Nat.reduceBEq, Int.reduceLT, Int.reduceLE, Int.reduceGT, Int.reduceGE, Int.reduceEq, Int.reduceNe, Int.reduceBEq, Int.reduceBNe, Int.reduceAdd, Int.reduceSub, Int.reduceMul, Int.reduceToNat, Int.reduceNeg, ↓reduceIte, ↓reduceDIte, hl, e1]
          refine CT_of (refstep0_ev (by simp; omega) (h.app _)) ?_
          rintro _ _ ⟨aw1, t1, rfl, rfl, g1, q1⟩
          simp only at g1 q1
          by_cases p22 : pc = 2
          · subst p22
            have e2 : (m.load wo == p) = false := by simpa using p2
            simp -dsimp only [go_sem, Nat.reduceEqDiff, Nat.reduceAdd, Nat.reduceSub, Nat.reduceMul, Nat.reduceLeDiff, Nat.reduceLT, Nat.reduceBEq, Int.reduceLT, Int.reduceLE, Int.reduceGT, Int.reduceGE, Int.reduceEq, Int.reduceNe, Int.reduceBEq, Int.reduceBNe, Int.reduceAdd, Int.reduceSub, Int.reduceMul, Int.reduceToNat, Int.reduceNeg, ↓reduceIte, ↓reduceDIte, hl, e2, e1']
            exact ⟨am, aw1, _, rfl, rfl, hm.app _, g1.into (by omega) (by simp [unbox_app, unbox_cons, unboxO_box]), q1.imp id (fun q => Own.into q (by decide) (by simp) (by simp [unbox_app, unbox_cons, unboxO_box])), .inl rfl, .inl rfl⟩
          · have e2 : (pc == 2) = false := by simpa using p22
            simp -dsimp only [go_sem, Nat.reduceEqDiff, Nat.reduceAdd, Nat.reduceSub, Nat.reduceMul, Nat.reduceLeDiff, Nat.reduceLT, Nat.reduceBEq, Int.reduceLT, Int.reduceLE, Int.reduceGT, Int.reduceGE, Int.reduceEq, Int.reduceNe, Int.reduceBEq, Int.reduceBNe, Int.reduceAdd, Int.reduceSub, Int.reduceMul, Int.reduceToNat, Int.reduceNeg, ↓reduceIte, ↓reduceDIte, hl, e2, e1']
            exact ⟨am, aw1, _, rfl, rfl, hm.app _, g1.into (by omega) (by simp [unbox_app, unbox_cons, unboxO_box]), q1.imp id (fun q => Own.into q (by decide) (by simp) (by simp [unbox_app, unbox_cons, unboxO_box])), .inl rfl, .inl rfl⟩
    · by_cases k1 : kd = 1
      · subst k1
        have es : ROp.step ⟨1, 4, wd, sl, wo, pc, p, met, false⟩ m = (⟨1, 4, wd, sl, wo, pc, p, met, true⟩, m.use 1 sl (fun _ => 0#64)) := rfl
        rw [es]
        simp -dsimp only [go_sem, Nat.reduceEqDiff, Nat.reduceAdd, Nat.reduceSub, Nat.reduceMul, Nat.reduceLeDiff, Nat.reduceLT, Nat.reduceBEq, Int.reduceLT, Int.reduceLE, Int.reduceGT, Int.reduceGE, Int.reduceEq, Int.reduceNe, Int.reduceBEq, Int.reduceBNe, Int.reduceAdd, Int.reduceSub, Int.reduceMul, Int.reduceToNat, Int.reduceNeg, ↓reduceIte, ↓reduceDIte, hl]
        refine CT_of (refstep1_ev (by simp; omega) (h.app _)) ?_
        rintro _ _ ⟨aw1, t1, rfl, rfl, g1, q1⟩
        simp only at g1 q1
        simp -dsimp only [go_sem, Nat.reduceEqDiff, Nat.reduceAdd, Nat.reduceSub, Nat.reduceMul, Nat.reduceLeDiff, Nat.reduceLT, Nat.reduceBEq, Int.reduceLT, Int.reduceLE, Int.reduceGT, Int.reduceGE, Int.reduceEq, Int.reduceNe, Int.reduceBEq, Int.reduceBNe, Int.reduceAdd, Int.reduceSub, Int.reduceMul, Int.reduceToNat, Int.reduceNeg, ↓reduceIte, ↓reduceDIte, hl]
        exact ⟨am, aw1, _, rfl, rfl, hm.app _, g1.into (by omega) (by simp [unbox_app, unbox_cons, unboxO_box]), q1.imp id (fun q => Own.into q (by decide) (by simp) (by simp [unbox_app, unbox_cons, unboxO_box])), .inl rfl, .inl rfl⟩
      · obtain rfl : kd = 2 := by omega
        have es : ROp.step ⟨2, 4, wd, sl, wo, pc, p, met, false⟩ m = (⟨2, 4, wd, sl, wo, pc + 1, if m.load (4 + pc) = 0#64 then p else p + 1#64, if m.load (4 + pc) = 0#64 then met else met ++ [m.load (4 + pc)], decide (pc + 1 = wd)⟩, m.use 0 (4 + pc) id) := rfl
        rw [es]
        have ed : (pc + 1 == wd) = decide (pc + 1 = wd) := by rw [Bool.eq_iff_iff]; simp
        simp -dsimp only [go_sem, Nat.reduceEqDiff, Nat.reduceAdd, Nat.reduceSub, Nat.reduceMul, Nat.reduceLeDiff, Nat.reduceLT, Nat.reduceBEq, Int.reduceLT, Int.reduceLE, Int.reduceGT, Int.reduceGE, Int.reduceEq, Int.reduceNe, Int.reduceBEq, Int.reduceBNe, Int.reduceAdd, Int.reduceSub, Int.reduceMul, Int.reduceToNat, Int.reduceNeg, ↓reduceIte, ↓reduceDIte, hl, wpc]
        refine CT_of (refstep0_ev (by simp; omega) (h.app _)) ?_
        rintro _ _ ⟨aw1, t1, rfl, rfl, g1, q1⟩
        simp only at g1 q1
        by_cases hz : m.load (4 + pc) = 0#64
        · have hz1 : (m.load (4 + pc) != 0#64) = false := by simp [hz]
          rw [if_pos hz, if_pos hz]
          simp -dsimp only [go_sem, Nat.reduceEqDiff, Nat.reduceAdd, Nat.reduceSub, Nat.reduceMul, Nat.reduceLeDiff, Nat.reduceLT, Nat.reduceBEq, Int.reduceLT, Int.reduceLE, Int.reduceGT, Int.reduceGE, Int.reduceEq, Int.reduceNe, Int.reduceBEq, Int.reduceBNe, Int.reduceAdd, Int.reduceSub, Int.reduceMul, Int.reduceToNat, Int.reduceNeg, ↓reduceIte, ↓reduceDIte, hl, hz1, wpc1, ed]
          exact ⟨am, aw1, _, rfl, rfl, hm.app _, g1.into (by omega) (by simp [unbox_app, unbox_cons, unboxO_box]), q1.imp id (fun q => Own.into q (by decide) (by simp) (by simp [unbox_app, unbox_cons, unboxO_box])), .inl rfl, .inl rfl⟩
        · have hz1 : (m.load (4 + pc) != 0#64) = true := by simp [hz]
          rw [if_neg hz, if_neg hz]
          have hsrc := fun t => (hm.app t).src (m := 1) (n := met.length) (cap := met.length) (by decide) (by simp)
          have h6 : met.length * 8 ≤ 140737488355328 := by omega
          have h7 : met.length ≤ 140737488355328 := by omega
          have h8 : (met.length + 1) * 8 ≤ 140737488355328 := by omega
          have h9 : met.length + 1 ≤ 140737488355328 := by omega
          have hno : ¬ (met.length + 1 ≤ met.length) := by omega
          have htk : List.take met.length (List.map w64 met) = met.map w64 := List.take_of_length_le (by simp)
          simp -dsimp only [go_sem, Nat.reduceEqDiff, Nat.reduceAdd, Nat.reduceSub, Nat.reduceMul, Nat.reduceLeDiff, Nat.reduceLT, Nat.reduceBEq, Int.reduceLT, Int.reduceLE, Int.reduceGT, Int.reduceGE, Int.reduceEq, Int.reduceNe, Int.reduceBEq, Int.reduceBNe, Int.reduceAdd, Int.reduceSub, Int.reduceMul, Int.reduceToNat, Int.reduceNeg, ↓reduceIte, ↓reduceDIte, hl, hz1, wpc1, ed, hsrc, h6, h7, h8, h9, hno, htk]
          refine ⟨some ⟨H.length + (t1.length + 4 + 1 + 1 + 1 + 1 + 1), 0, none⟩, aw1, _, by simp, rfl, ?_, g1.into (by omega) (by simp [unbox_app, unbox_cons, unboxO_box]), q1.imp id (fun q => Own.into q (by decide) (by simp) (by simp [unbox_app, unbox_cons, unboxO_box])), .inr (Fresh.mk (by omega)), .inr ?_⟩
          · refine Sl.row (ro := false) ?_
            rw [get_app]
            simp
          · intro z hz y hy e
            cases hy
            rcases g1 with ⟨rfl, _⟩ | ⟨b', o', ro', es', cc', rfl, h2', _⟩
            · cases hz
            · cases hz
              have := (List.getElem?_eq_some_iff.1 h2').1
              simp at this e
              omega
  · have es : ROp.step ⟨kd, 4, wd, sl, wo, pc, p, met, true⟩ m = (⟨kd, 4, wd, sl, wo, pc, p, met, true⟩, m) := rfl
    rw [es]
    simp -dsimp only [go_sem, Nat.reduceEqDiff, Nat.reduceAdd, Nat.reduceSub, Nat.reduceMul, Nat.reduceLeDiff, Nat.reduceLT, Nat.reduceBEq, Int.reduceLT, Int.reduceLE, Int.reduceGT, Int.reduceGE, Int.reduceEq, Int.reduceNe, Int.reduceBEq, Int.reduceBNe, Int.reduceAdd, Int.reduceSub, Int.reduceMul, Int.reduceToNat, Int.reduceNeg, ↓reduceIte, ↓reduceDIte, hl]
    exact ⟨am, aw, _, rfl, rfl, hm.app _, h.ws.app _, .inl rfl, .inl rfl, .inl rfl⟩
end
end Go.Proofs.Ytcogpinognopcaa
/- The statement HpSteps: plain. -/
namespace Go.Proofs.Ytcogpinognopcaa
open Go Go.LK
set_option linter.unusedSimpArgs false
set_option linter.unusedVariables false
/-- An operation of the program's, and the document's. -/
structure Rel (g : GV) (x : HOp) (y : ROp) : Prop where
  gg : x.g = g
  ya : y.at_ = 4
  yw : y.words = g.words
  kind : x.kind = y.kind
  k2 : 0 ≤ y.kind ∧ y.kind ≤ 2
  slot : y.kind ≠ 2 → x.slot = y.slot
  s0 : 4 ≤ y.slot
  s1 : y.slot < 12
  word : y.kind = 0 → x.word = y.word
  w0 : 0 ≤ y.word
  w1 : y.word < 4
  done : x.done = y.done
  code : x.code = 0
  met : x.met = y.met
  pc : y.done = false → x.at_ = y.pc
  pc0 : 0 ≤ y.pc
  pc1 : y.pc ≤ 8
  pc2 : y.done = false → y.kind = 2 → y.pc < g.words
  xa : 0 ≤ x.at_ ∧ x.at_ ≤ 8
  p : y.kind ≠ 1 → x.p = y.p
  mp : y.kind = 2 → y.p = BitVec.ofNat 64 y.met.length
  ml : y.met.length ≤ 8 ∧ (y.kind = 2 → y.met.length ≤ y.pc)
theorem rel_step {g : GV} {x : HOp} {y : ROp} {m mr : MV} {w : List (BitVec 64)} (h : Rel g x y) (ga : g.a = 4) (gw : 1 ≤ g.words ∧ g.words ≤ 8) (c : Clean m w) (cr : Clean mr w) (hw : w.length = 12) :
    Rel g (x.step m).1 (y.step mr).1 ∧ ∃ w', Clean (x.step m).2 w' ∧ Clean (y.step mr).2 w' ∧ w'.length = 12 := by
  obtain ⟨kd, at_, wd, sl, wo, pc, p, met, dn⟩ := y
  obtain ⟨xg, xk, xs, xw, xa, xp, xm, xd, xc⟩ := x
  obtain ⟨h1, h2, h3, h4, h5, h6, h7, h8, h9, h10, h11, h12, h13, h14, h15, h16, h17, h18, h19, h20, h21, h22⟩ := h
  simp only at h1 h2 h3 h4 h5 h6 h7 h8 h9 h10 h11 h12 h13 h14 h15 h16 h17 h18 h19 h20 h21 h22
  subst h1 h2 h4 h12 h13 h14
  have hl : ∀ a : Int, 0 ≤ a → a < 12 → ∃ z, m.load a = z ∧ mr.load a = z := fun a h0 h1 => ⟨_, load_cl c h0 (by omega), load_cl cr h0 (by omega)⟩
  cases xd
  · obtain rfl := h15 rfl
    by_cases k0 : xk = 0
    · subst k0
      have hp := h20 (by decide)
      subst hp
      have h6' := h6 (by decide)
      have h9' := h9 rfl
      subst h6' h9'
      by_cases p1 : xa = 1
      · subst p1
        have e1 : HOp.step ⟨xg, 0, xs, xw, 1, xp, xm, false, 0⟩ m = (⟨xg, 0, xs, xw, 2, xp, xm, false, 0⟩, m.use 1 xs (fun _ => xp)) := rfl
        have e2 : ROp.step ⟨0, 4, wd, xs, xw, 1, xp, xm, false⟩ mr = (⟨0, 4, wd, xs, xw, 2, xp, xm, false⟩, mr.use 1 xs (fun _ => xp)) := rfl
        rw [e1, e2]
        refine ⟨⟨rfl, rfl, h3, rfl, h5, fun _ => rfl, h7, h8, fun _ => rfl, h10, h11, rfl, rfl, rfl, fun _ => rfl, (by simp), (by simp), fun _ q => (by cases q), (by simp), fun _ => rfl, fun q => (by cases q), ⟨h22.1, fun q => (by cases q)⟩⟩, ?_⟩
        exact ⟨_, c.use (a := xs) (by omega) (by omega) 1 (fun _ => xp), cr.use (a := xs) (by omega) (by omega) 1 (fun _ => xp), by simp [hw]⟩
      · obtain ⟨z, l1, l2⟩ := hl xw h10 (by omega)
        by_cases p2 : xa = 2 ∧ z = xp
        · obtain ⟨rfl, p2⟩ := p2
          have e1 : HOp.step ⟨xg, 0, xs, xw, 2, xp, xm, false, 0⟩ m = (⟨xg, 0, xs, xw, 1, xp, xm, true, 0⟩, m.use 0 xw id) := by simp [HOp.step, l1, p2]
          have e2 : ROp.step ⟨0, 4, wd, xs, xw, 2, xp, xm, false⟩ mr = (⟨0, 4, wd, xs, xw, 2, xp, xm, true⟩, mr.use 0 xw id) := by simp [ROp.step, l2, p2]
          rw [e1, e2]
          refine ⟨⟨rfl, rfl, h3, rfl, h5, fun _ => rfl, h7, h8, fun _ => rfl, h10, h11, rfl, rfl, rfl, fun q => (by cases q), (by simp), (by simp), fun q => (by cases q), (by simp), fun _ => rfl, fun q => (by cases q), ⟨h22.1, fun q => (by cases q)⟩⟩, ?_⟩
          exact ⟨_, c.use_id (by omega) (by omega) 0, cr.use_id (by omega) (by omega) 0, hw⟩
        · have e1 : HOp.step ⟨xg, 0, xs, xw, xa, xp, xm, false, 0⟩ m = (⟨xg, 0, xs, xw, 1, z, xm, false, 0⟩, m.use 0 xw id) := by
            have hd : (decide (xa = 2) && (z == xp)) = false := by
              rw [Bool.and_eq_false_iff, decide_eq_false_iff_not, beq_eq_false_iff_ne]
              by_cases q : xa = 2
              · exact .inr fun r => p2 ⟨q, r⟩
              · exact .inl q
            simp [HOp.step, l1, p1, hd]
          have e2 : ROp.step ⟨0, 4, wd, xs, xw, xa, xp, xm, false⟩ mr = (⟨0, 4, wd, xs, xw, 1, z, xm, false⟩, mr.use 0 xw id) := by simp [ROp.step, l2, p1, p2]
          rw [e1, e2]
          refine ⟨⟨rfl, rfl, h3, rfl, h5, fun _ => rfl, h7, h8, fun _ => rfl, h10, h11, rfl, rfl, rfl, fun _ => rfl, (by simp), (by simp), fun _ q => (by cases q), (by simp), fun _ => rfl, fun q => (by cases q), ⟨h22.1, fun q => (by cases q)⟩⟩, ?_⟩
          exact ⟨_, c.use_id (by omega) (by omega) 0, cr.use_id (by omega) (by omega) 0, hw⟩
    · by_cases k1 : xk = 1
      · subst k1
        have h6' := h6 (by decide)
        subst h6'
        refine ⟨⟨rfl, rfl, h3, rfl, h5, fun _ => rfl, h7, h8, fun q => (by cases q), h10, h11, rfl, rfl, rfl, fun q => (by cases q), h16, h17, fun q => (by cases q), h19, fun q => absurd rfl q, fun q => (by cases q), ⟨h22.1, fun q => (by cases q)⟩⟩, ?_⟩
        exact ⟨_, c.use (a := xs) (by omega) (by omega) 1 (fun _ => 0#64), cr.use (a := xs) (by omega) (by omega) 1 (fun _ => 0#64), by simp [hw]⟩
      · obtain rfl : xk = 2 := by omega
        have hp := h20 (by decide)
        subst hp
        have hpc := h18 rfl rfl
        obtain ⟨z, l1, l2⟩ := hl (4 + xa) (by omega) (by omega)
        have hmp := h21 rfl
        have hml := h22.2 rfl
        have e1 : HOp.step ⟨xg, 2, xs, xw, xa, xp, xm, false, 0⟩ m = (⟨xg, 2, xs, xw, xa + 1, BitVec.ofNat 64 (if z = 0#64 then xm else xm ++ [z]).length, if z = 0#64 then xm else xm ++ [z], decide (xa + 1 = xg.words), 0⟩, m.use 0 (4 + xa) id) := by
          simp only [HOp.step, ga, l1]; rfl
        have e2 : ROp.step ⟨2, 4, wd, sl, wo, xa, xp, xm, false⟩ mr = (⟨2, 4, wd, sl, wo, xa + 1, if z = 0#64 then xp else xp + 1#64, if z = 0#64 then xm else xm ++ [z], decide (xa + 1 = wd)⟩, mr.use 0 (4 + xa) id) := by
          simp only [ROp.step, l2]; rfl
        rw [e1, e2]
        have hpn : ∀ z : BitVec 64, BitVec.ofNat 64 (if z = 0#64 then xm else xm ++ [z]).length = if z = 0#64 then xp else xp + 1#64 := by
          intro z
          split
          · exact hmp.symm
          · rw [List.length_append, List.length_singleton, hmp, BitVec.ofNat_add]
        have hle : ∀ z : BitVec 64, (if z = 0#64 then xm else xm ++ [z]).length ≤ xm.length + 1 := by
          intro z; split <;> simp
        have hle2 := hle z
        refine ⟨⟨rfl, rfl, h3, rfl, h5, fun q => absurd rfl q, h7, h8, fun q => (by cases q), h10, h11, by simp only [h3], rfl, rfl, fun _ => rfl, by simp only; omega, by simp only; omega, fun q _ => ?_, by simp only; omega, fun _ => ?_, fun _ => ?_, ⟨by simp only; omega, fun _ => by simp only; omega⟩⟩, ?_⟩
        · simp only [decide_eq_false_iff_not] at q ⊢
          omega
        · exact hpn _
        · exact (hpn _).symm
        · exact ⟨_, c.use_id (by omega) (by omega) 0, cr.use_id (by omega) (by omega) 0, hw⟩
  · exact ⟨⟨rfl, rfl, h3, rfl, h5, h6, h7, h8, h9, h10, h11, rfl, rfl, rfl, h15, h16, h17, h18, h19, h20, h21, h22⟩, w, c, cr, hw⟩
end Go.Proofs.Ytcogpinognopcaa
