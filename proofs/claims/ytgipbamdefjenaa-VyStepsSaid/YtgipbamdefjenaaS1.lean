/- The document's operations of a ring: they do what the program's do. -/
import Derived.Test.YtgipbamdefjenaaV9
import Derived.Test.YtgipbamdefjenaaW2
namespace Go.Proofs.Ytgipbamdefjenaa
open Go Go.LK
set_option linter.unusedSimpArgs false
set_option linter.unusedVariables false
abbrev VOp.dc (x : VOp) : List Value := [i64 x.r.a, i64 x.r.s, .bool x.takes, w64 x.v, i64 x.at_, w64 x.p, i64 x.code]
abbrev VOp.dv (x : VOp) : Value := .agg x.dc.toArray
structure UseV where
  k : Int
  a : Int
  u : BitVec 64
  v : BitVec 64
def VOp.use (x : VOp) : UseV :=
  if x.at_ = 0 then ⟨0, x.head, 0#64, 0#64⟩
  else if x.at_ = 1 then ⟨0, x.r.cell x.p, 0#64, 0#64⟩
  else if x.at_ = 2 then ⟨2, x.head, x.p, x.p + 1#64⟩
  else if x.at_ = 3 then (if x.takes = true then ⟨0, x.r.cell x.p + 1, 0#64, 0#64⟩ else ⟨1, x.r.cell x.p + 1, x.v, 0#64⟩)
  else ⟨1, x.r.cell x.p, if x.takes = true then x.p + BitVec.ofInt 64 x.r.s else x.p + 1#64, 0#64⟩
section
variable {lim : Nat} {aw ab : Option Addr} {n : Nat} {m : MV} {x : VOp} {H : LHeap}
theorem duse_ev (hr : x.r.right = true) (h0 : 0 ≤ x.at_) (h5 : x.at_ < 5) : callE T 47 lim [x.dv] H fun v H' => v = .agg #[i64 x.use.k, i64 x.use.a, w64 x.use.u, w64 x.use.v, w64 0#64, w64 0#64] ∧ H' = H := by
  refine callE_pop rfl (by simp) rfl ?_
  obtain ⟨⟨ra, rs⟩, tk, xv, xa, xp, xc⟩ := x
  obtain ⟨a0, a1, s0, s1⟩ := RV.right_of hr
  simp only at a0 a1 s0 s1 h0 h5
  obtain ⟨k, rfl⟩ := Int.eq_ofNat_of_zero_le (show 0 ≤ rs by omega)
  have hs : (BitVec.ofNat 64 k).toNat = k := by rw [BitVec.toNat_ofNat, Nat.mod_eq_of_lt]; omega
  have hne : BitVec.ofNat 64 k ≠ 0#64 := fun q => by
    have := congrArg BitVec.toNat q
    rw [hs] at this
    simp at this; omega
  have hne2 : (BitVec.ofNat 64 k == 0#64) = false := by simpa using hne
  have hrem := lbin_rem xp (BitVec.ofNat 64 k) hne
  have hlt : xp.toNat % k < 1024 := Nat.lt_of_lt_of_le (Nat.mod_lt _ (by omega)) (by omega)
  have hti : (xp % BitVec.ofNat 64 k).toInt = ((xp.toNat % k : Nat) : Int) := by
    rw [BitVec.toInt_eq_toNat_of_lt]
    · rw [BitVec.toNat_umod, hs]
    · rw [BitVec.toNat_umod, hs]; omega
  have w1 : IntKind.i64.wrap (ra + 2) = ra + 2 := by rw [wrap_i64] <;> omega
  have w2 : IntKind.i64.wrap (2 * ((xp.toNat % k : Nat) : Int)) = 2 * ((xp.toNat % k : Nat) : Int) := by rw [wrap_i64] <;> omega
  have hcell : RV.cell ⟨ra, k⟩ xp = ra + 2 + 2 * ((xp.toNat % k : Nat) : Int) := rfl
  have w3 : IntKind.i64.wrap (ra + 2 + 2 * ((xp.toNat % k : Nat) : Int)) = RV.cell ⟨ra, k⟩ xp := by rw [hcell, wrap_i64] <;> omega
  have w4 : IntKind.i64.wrap (RV.cell ⟨ra, k⟩ xp + 1) = RV.cell ⟨ra, k⟩ xp + 1 := by rw [hcell, wrap_i64] <;> omega
  have w5 : IntKind.i64.wrap (ra + 0) = ra := by rw [wrap_i64] <;> omega
  have w6 : IntKind.i64.wrap (ra + 1) = ra + 1 := by rw [wrap_i64] <;> omega
  have hx : xa = 0 ∨ xa = 1 ∨ xa = 2 ∨ xa = 3 ∨ xa = 4 := by omega
  rcases hx with rfl | rfl | rfl | rfl | rfl <;> cases tk <;> simp -dsimp only [go_sem, Nat.reduceEqDiff, Nat.reduceAdd, Nat.reduceSub, Nat.reduceMul, Nat.reduceLeDiff, Nat.reduceLT, Nat.reduceBEq, Int.reduceLT, Int.reduceLE, Int.reduceGT, Int.reduceGE, Int.reduceEq, Int.reduceNe, Int.reduceBEq, Int.reduceBNe, Int.reduceAdd, Int.reduceSub, Int.reduceMul, Int.reduceToNat, Int.reduceNeg, ↓reduceIte, ↓reduceDIte, BitVec.ofInt_natCast, hne2, hrem, hti, w1, w2, w3, w4, w5, w6, VOp.use, VOp.head]
def VOp.next (x : VOp) (told : BitVec 64) (ok : Bool) : VOp :=
  if x.at_ = 0 then { x with p := told, at_ := 1 }
  else if x.at_ = 1 then
    let d := told - (if x.takes = true then x.p + 1#64 else x.p)
    (if d.toInt = 0 then { x with at_ := 2 } else if d.toInt < 0 then x.fin (if x.takes = true then 13 else 15) else { x with at_ := 0 })
  else if x.at_ = 2 then (if ok = true then { x with at_ := 3 } else { x with at_ := 0 })
  else if x.at_ = 3 then (if x.takes = true then { x with v := told, at_ := 4 } else { x with at_ := 4 })
  else x.fin 0
theorem bv_ge (d : BitVec 64) : (9223372036854775808#64 ≤ d) ↔ d.toInt < 0 := by
  rw [BitVec.le_def]
  rw [BitVec.toInt_eq_toNat_cond]
  have := d.isLt
  have e : (9223372036854775808#64).toNat = 9223372036854775808 := rfl
  rw [e]
  split <;> omega
theorem bv_zero (d : BitVec 64) : d = 0#64 ↔ d.toInt = 0 := by
  constructor
  · rintro rfl; rfl
  · intro h
    apply BitVec.eq_of_toInt_eq
    rw [h]; rfl
theorem dnext_ev {told : BitVec 64} {ok : Bool} (h0 : 0 ≤ x.at_) (h5 : x.at_ < 5) (hc : x.code = 0) : callE T 48 lim [x.dv, w64 told, .bool ok] H fun v H' => v = (x.next told ok).dv ∧ H' = H := by
  refine callE_pop rfl (by simp) rfl ?_
  obtain ⟨⟨ra, rs⟩, tk, xv, xa, xp, xc⟩ := x
  simp only at h0 h5 hc
  subst hc
  have hx : xa = 0 ∨ xa = 1 ∨ xa = 2 ∨ xa = 3 ∨ xa = 4 := by omega
  rcases hx with rfl | rfl | rfl | rfl | rfl
  · simp -dsimp only [go_sem, Nat.reduceEqDiff, Nat.reduceAdd, Nat.reduceSub, Nat.reduceMul, Nat.reduceLeDiff, Nat.reduceLT, Nat.reduceBEq, Int.reduceLT, Int.reduceLE, Int.reduceGT, Int.reduceGE, Int.reduceEq, Int.reduceNe, Int.reduceBEq, Int.reduceBNe, Int.reduceAdd, Int.reduceSub, Int.reduceMul, Int.reduceToNat, Int.reduceNeg, ↓reduceIte, ↓reduceDIte, VOp.next]
  · cases tk
    · by_cases d0 : (told - xp) = 0#64
      · have e1 : ((told - xp) == 0#64) = true := by simp [d0]
        have e2 := (bv_zero _).1 d0
        simp -dsimp only [go_sem, Nat.reduceEqDiff, Nat.reduceAdd, Nat.reduceSub, Nat.reduceMul, Nat.reduceLeDiff, Nat.reduceLT, Nat.reduceBEq, Int.reduceLT, Int.reduceLE, Int.reduceGT, Int.reduceGE, Int.reduceEq, Int.reduceNe, Int.reduceBEq, Int.reduceBNe, Int.reduceAdd, Int.reduceSub, Int.reduceMul, Int.reduceToNat, Int.reduceNeg, ↓reduceIte, ↓reduceDIte, e1, e2, VOp.next]
      · have e1 : ((told - xp) == 0#64) = false := by simp [d0]
        have e2 := mt (bv_zero _).2 d0
        by_cases d1 : (told - xp).toInt < 0
        · have e3 := (bv_ge _).2 d1
          simp -dsimp only [go_sem, Nat.reduceEqDiff, Nat.reduceAdd, Nat.reduceSub, Nat.reduceMul, Nat.reduceLeDiff, Nat.reduceLT, Nat.reduceBEq, Int.reduceLT, Int.reduceLE, Int.reduceGT, Int.reduceGE, Int.reduceEq, Int.reduceNe, Int.reduceBEq, Int.reduceBNe, Int.reduceAdd, Int.reduceSub, Int.reduceMul, Int.reduceToNat, Int.reduceNeg, ↓reduceIte, ↓reduceDIte, e1, e2, e3, d1, VOp.next, VOp.fin]
        · have e3 := mt (bv_ge _).1 d1
          simp -dsimp only [go_sem, Nat.reduceEqDiff, Nat.reduceAdd, Nat.reduceSub, Nat.reduceMul, Nat.reduceLeDiff, Nat.reduceLT, Nat.reduceBEq, Int.reduceLT, Int.reduceLE, Int.reduceGT, Int.reduceGE, Int.reduceEq, Int.reduceNe, Int.reduceBEq, Int.reduceBNe, Int.reduceAdd, Int.reduceSub, Int.reduceMul, Int.reduceToNat, Int.reduceNeg, ↓reduceIte, ↓reduceDIte, e1, e2, e3, d1, VOp.next, VOp.fin]
    · by_cases d0 : (told - (xp + 1#64)) = 0#64
      · have e1 : ((told - (xp + 1#64)) == 0#64) = true := by simp [d0]
        have e2 := (bv_zero _).1 d0
        simp -dsimp only [go_sem, Nat.reduceEqDiff, Nat.reduceAdd, Nat.reduceSub, Nat.reduceMul, Nat.reduceLeDiff, Nat.reduceLT, Nat.reduceBEq, Int.reduceLT, Int.reduceLE, Int.reduceGT, Int.reduceGE, Int.reduceEq, Int.reduceNe, Int.reduceBEq, Int.reduceBNe, Int.reduceAdd, Int.reduceSub, Int.reduceMul, Int.reduceToNat, Int.reduceNeg, ↓reduceIte, ↓reduceDIte, e1, e2, VOp.next]
      · have e1 : ((told - (xp + 1#64)) == 0#64) = false := by simp [d0]
        have e2 := mt (bv_zero _).2 d0
        by_cases d1 : (told - (xp + 1#64)).toInt < 0
        · have e3 := (bv_ge _).2 d1
          simp -dsimp only [go_sem, Nat.reduceEqDiff, Nat.reduceAdd, Nat.reduceSub, Nat.reduceMul, Nat.reduceLeDiff, Nat.reduceLT, Nat.reduceBEq, Int.reduceLT, Int.reduceLE, Int.reduceGT, Int.reduceGE, Int.reduceEq, Int.reduceNe, Int.reduceBEq, Int.reduceBNe, Int.reduceAdd, Int.reduceSub, Int.reduceMul, Int.reduceToNat, Int.reduceNeg, ↓reduceIte, ↓reduceDIte, e1, e2, e3, d1, VOp.next, VOp.fin]
        · have e3 := mt (bv_ge _).1 d1
          simp -dsimp only [go_sem, Nat.reduceEqDiff, Nat.reduceAdd, Nat.reduceSub, Nat.reduceMul, Nat.reduceLeDiff, Nat.reduceLT, Nat.reduceBEq, Int.reduceLT, Int.reduceLE, Int.reduceGT, Int.reduceGE, Int.reduceEq, Int.reduceNe, Int.reduceBEq, Int.reduceBNe, Int.reduceAdd, Int.reduceSub, Int.reduceMul, Int.reduceToNat, Int.reduceNeg, ↓reduceIte, ↓reduceDIte, e1, e2, e3, d1, VOp.next, VOp.fin]
  · cases ok <;> simp -dsimp only [go_sem, Nat.reduceEqDiff, Nat.reduceAdd, Nat.reduceSub, Nat.reduceMul, Nat.reduceLeDiff, Nat.reduceLT, Nat.reduceBEq, Int.reduceLT, Int.reduceLE, Int.reduceGT, Int.reduceGE, Int.reduceEq, Int.reduceNe, Int.reduceBEq, Int.reduceBNe, Int.reduceAdd, Int.reduceSub, Int.reduceMul, Int.reduceToNat, Int.reduceNeg, ↓reduceIte, ↓reduceDIte, VOp.next]
  · cases tk <;> simp -dsimp only [go_sem, Nat.reduceEqDiff, Nat.reduceAdd, Nat.reduceSub, Nat.reduceMul, Nat.reduceLeDiff, Nat.reduceLT, Nat.reduceBEq, Int.reduceLT, Int.reduceLE, Int.reduceGT, Int.reduceGE, Int.reduceEq, Int.reduceNe, Int.reduceBEq, Int.reduceBNe, Int.reduceAdd, Int.reduceSub, Int.reduceMul, Int.reduceToNat, Int.reduceNeg, ↓reduceIte, ↓reduceDIte, VOp.next]
  · cases tk <;> simp -dsimp only [go_sem, Nat.reduceEqDiff, Nat.reduceAdd, Nat.reduceSub, Nat.reduceMul, Nat.reduceLeDiff, Nat.reduceLT, Nat.reduceBEq, Int.reduceLT, Int.reduceLE, Int.reduceGT, Int.reduceGE, Int.reduceEq, Int.reduceNe, Int.reduceBEq, Int.reduceBNe, Int.reduceAdd, Int.reduceSub, Int.reduceMul, Int.reduceToNat, Int.reduceNeg, ↓reduceIte, ↓reduceDIte, VOp.next, VOp.fin]
theorem step_use {x : VOp} (m : MV) (h0 : 0 ≤ x.at_) (h5 : x.at_ < 5) : x.step m = (x.next (m.step x.use.k x.use.a x.use.u x.use.v 0#64 0#64).2.1 (m.step x.use.k x.use.a x.use.u x.use.v 0#64 0#64).2.2, (m.step x.use.k x.use.a x.use.u x.use.v 0#64 0#64).1) := by
  obtain ⟨r, tk, xv, xa, xp, xc⟩ := x
  simp only at h0 h5
  have hx : xa = 0 ∨ xa = 1 ∨ xa = 2 ∨ xa = 3 ∨ xa = 4 := by omega
  rcases hx with rfl | rfl | rfl | rfl | rfl <;> cases tk <;> simp [VOp.step, VOp.use, VOp.next, MV.step]
theorem dstep_ev (hl : lim ≤ H.length) (h : RefAt H aw ab n m) (hr : x.r.right = true) (h0 : 0 ≤ x.at_) (h5 : x.at_ ≤ 5) (hc : x.at_ < 5 → x.code = 0) :
    callE T 25 lim [x.dv, refV aw ab n m] H fun v H' => ∃ aw' t, v = .tuple #[(x.step m).1.dv, refV aw' ab n (x.step m).2] ∧ H' = H ++ t ∧ Sl 1 (H ++ t) aw' ((x.step m).2.w.map w64) ∧ (aw' = aw ∨ Own 1 (H ++ t) H.length aw' ((x.step m).2.w.map w64)) := by
  refine callE_stay rfl (by simp) rfl ?_
  by_cases p5 : x.at_ = 5
  · have es : x.step m = (x, m) := by simp [VOp.step, p5]
    have e5 : (5 : Int) ≤ x.at_ := by omega
    rw [es]
    simp -dsimp only [go_sem, Nat.reduceEqDiff, Nat.reduceAdd, Nat.reduceSub, Nat.reduceMul, Nat.reduceLeDiff, Nat.reduceLT, Nat.reduceBEq, Int.reduceLT, Int.reduceLE, Int.reduceGT, Int.reduceGE, Int.reduceEq, Int.reduceNe, Int.reduceBEq, Int.reduceBNe, Int.reduceAdd, Int.reduceSub, Int.reduceMul, Int.reduceToNat, Int.reduceNeg, ↓reduceIte, ↓reduceDIte, hl, e5]
    exact ⟨aw, _, rfl, rfl, h.ws.app _, .inl rfl⟩
  · have e5 : ¬ (5 : Int) ≤ x.at_ := by omega
    have h5' : x.at_ < 5 := by omega
    rw [step_use m h0 h5']
    simp -dsimp only [go_sem, Nat.reduceEqDiff, Nat.reduceAdd, Nat.reduceSub, Nat.reduceMul, Nat.reduceLeDiff, Nat.reduceLT, Nat.reduceBEq, Int.reduceLT, Int.reduceLE, Int.reduceGT, Int.reduceGE, Int.reduceEq, Int.reduceNe, Int.reduceBEq, Int.reduceBNe, Int.reduceAdd, Int.reduceSub, Int.reduceMul, Int.reduceToNat, Int.reduceNeg, ↓reduceIte, ↓reduceDIte, hl, e5]
    refine CT_val (duse_ev hr h0 h5') ?_
    simp -dsimp only [go_sem, Nat.reduceEqDiff, Nat.reduceAdd, Nat.reduceSub, Nat.reduceMul, Nat.reduceLeDiff, Nat.reduceLT, Nat.reduceBEq, Int.reduceLT, Int.reduceLE, Int.reduceGT, Int.reduceGE, Int.reduceEq, Int.reduceNe, Int.reduceBEq, Int.reduceBNe, Int.reduceAdd, Int.reduceSub, Int.reduceMul, Int.reduceToNat, Int.reduceNeg, ↓reduceIte, ↓reduceDIte]
    refine CT_of (refstep_ev (by simp; omega) (h.app _)) ?_
    rintro _ _ ⟨aw1, t1, rfl, rfl, g1, q1⟩
    have hl3 : lim ≤ H.length + 3 := by omega
    have hl4 : lim ≤ H.length + 4 := by omega
    simp -dsimp only [go_sem, Nat.reduceEqDiff, Nat.reduceAdd, Nat.reduceSub, Nat.reduceMul, Nat.reduceLeDiff, Nat.reduceLT, Nat.reduceBEq, Int.reduceLT, Int.reduceLE, Int.reduceGT, Int.reduceGE, Int.reduceEq, Int.reduceNe, Int.reduceBEq, Int.reduceBNe, Int.reduceAdd, Int.reduceSub, Int.reduceMul, Int.reduceToNat, Int.reduceNeg, ↓reduceIte, ↓reduceDIte, hl, hl3, hl4]
    refine CT_val (dnext_ev h0 h5' (hc h5')) ?_
    simp -dsimp only [go_sem, Nat.reduceEqDiff, Nat.reduceAdd, Nat.reduceSub, Nat.reduceMul, Nat.reduceLeDiff, Nat.reduceLT, Nat.reduceBEq, Int.reduceLT, Int.reduceLE, Int.reduceGT, Int.reduceGE, Int.reduceEq, Int.reduceNe, Int.reduceBEq, Int.reduceBNe, Int.reduceAdd, Int.reduceSub, Int.reduceMul, Int.reduceToNat, Int.reduceNeg, ↓reduceIte, ↓reduceDIte, hl3, hl4]
    exact ⟨aw1, _, rfl, rfl, g1.into (by omega) (by simp [unbox_app, unbox_cons, unboxO_box]), q1.imp id (fun q => Own.into q (by decide) (by simp) (by simp [unbox_app, unbox_cons, unboxO_box]))⟩
theorem use_in {s : Nat} (hs : s = 2 ∨ s = 4 ∨ s = 8) (hr : x.r = ⟨1, s⟩) : 0 ≤ x.use.a ∧ x.use.a < 40 ∧ x.use.k ≠ 5 := by
  obtain ⟨r, tk, xv, xa, xp, xc⟩ := x
  simp only at hr
  subst hr
  have hlt : xp.toNat % s < s := Nat.mod_lt _ (by omega)
  have hc : RV.cell ⟨1, s⟩ xp = 3 + 2 * ((xp.toNat % s : Nat) : Int) := by simp [RV.cell]
  simp only [VOp.use, VOp.head, hc]
  repeat' split
  all_goals (simp only; omega)
theorem next_r (told : BitVec 64) (ok : Bool) : (x.next told ok).r = x.r := by
  unfold VOp.next VOp.fin
  dsimp only
  repeat' (first | rfl | split)
theorem next_at (told : BitVec 64) (ok : Bool) : 0 ≤ (x.next told ok).at_ ∧ (x.next told ok).at_ ≤ 5 := by
  unfold VOp.next VOp.fin
  dsimp only
  repeat' split
  all_goals (dsimp only; omega)
theorem next_code (hc : x.code = 0) (told : BitVec 64) (ok : Bool) : (x.next told ok).at_ < 5 → (x.next told ok).code = 0 := by
  unfold VOp.next VOp.fin
  dsimp only
  repeat' split
  all_goals (dsimp only; omega)
/-- What holds of each operation. -/
structure VOk (s : Nat) (x : VOp) : Prop where
  r : x.r = ⟨1, s⟩
  a0 : 0 ≤ x.at_
  a5 : x.at_ ≤ 5
  c : x.at_ < 5 → x.code = 0
theorem vturn {s : Nat} (hs : s = 2 ∨ s = 4 ∨ s = 8) (h : VOk s x) {mr : MV} {w : List (BitVec 64)} (c : Clean m w) (cr : Clean mr w) (hw : w.length = 40) :
    (x.step m).1 = (x.step mr).1 ∧ VOk s (x.step m).1 ∧ ∃ w', Clean (x.step m).2 w' ∧ Clean (x.step mr).2 w' ∧ w'.length = 40 := by
  by_cases p5 : x.at_ = 5
  · have es : ∀ m, x.step m = (x, m) := fun m => by simp [VOp.step, p5]
    rw [es, es]
    exact ⟨rfl, h, w, c, cr, hw⟩
  · have h5 : x.at_ < 5 := by have := h.a5; omega
    rw [step_use m h.a0 h5, step_use mr h.a0 h5]
    obtain ⟨u0, u1, u2⟩ := use_in hs h.r
    obtain ⟨e, w', c1, c2, hw'⟩ := step_cln c cr (kind := x.use.k) (v0 := x.use.u) (v1 := x.use.v) (v2 := 0#64) (v3 := 0#64) u0 (by omega) (fun q => absurd q u2)
    refine ⟨by rw [e], ⟨by rw [next_r]; exact h.r, (next_at _ _).1, (next_at _ _).2, next_code (h.c h5) _ _⟩, w', c1, c2, by rw [hw', hw]⟩
end
end Go.Proofs.Ytgipbamdefjenaa
