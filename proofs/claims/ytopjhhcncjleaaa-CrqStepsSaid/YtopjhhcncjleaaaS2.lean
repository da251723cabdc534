/- The document's operations of a ring that may be closed: steps. -/
import Derived.Test.YtopjhhcncjleaaaS1
namespace Go.Proofs.Ytopjhhcncjleaaa
open Go Go.LK
set_option linter.unusedSimpArgs false
set_option linter.unusedVariables false
structure DOp where
  a : Int
  s : Int
  kind : Int
  v : BitVec 64
  pc : Int
  p : BitVec 64
  d : BitVec 64
  st : BitVec 64
  t : BitVec 64
  tried : Int
  code : Int
  ret : BitVec 64
abbrev DOp.dc (y : DOp) : List Value := [i64 y.a, i64 y.s, i64 y.kind, w64 y.v, i64 y.pc, w64 y.p, w64 y.d, w64 y.st, w64 y.t, i64 y.tried, i64 y.code, w64 y.ret]
abbrev DOp.dv (y : DOp) : Value := .agg y.dc.toArray
/-- The program's operation, and the document's. -/
structure Rel (x : COp) (y : DOp) : Prop where
  a : y.a = x.r.a
  s : y.s = x.r.s
  kind : y.kind = x.kind
  k : x.kind = 0 ∨ x.kind = 1 ∨ x.kind = 2
  v : y.v = x.v
  pc : y.pc = x.at_
  at_ : x.at_ = 9 ∨ (x.kind = 0 ∧ 0 ≤ x.at_ ∧ x.at_ ≤ 6) ∨ (x.kind = 1 ∧ 0 ≤ x.at_ ∧ x.at_ ≤ 8 ∧ x.at_ ≠ 4) ∨ (x.kind = 2 ∧ x.at_ = 0)
  p : x.at_ ≠ 9 → y.p = x.p ∧ y.st = x.s
  tr : y.tried = x.tried ∧ 0 ≤ x.tried ∧ x.tried ≤ 10 ∧ (x.at_ < 6 → x.tried ≤ 9)
  d : x.at_ < 6 → y.d = x.d
  t : x.at_ = 7 ∨ x.at_ = 8 → y.t = x.tail
  h : x.at_ = 8 → y.d = x.head
  dn : x.at_ = 9 → y.code = x.code ∧ y.ret = x.ret
section
variable {lim : Nat} {aw ab : Option Addr} {n : Nat} {m : MV} {x : COp} {y : DOp} {H : LHeap}
theorem dend_ev {code : Int} {ret : BitVec 64} : callE T 47 lim [y.dv, i64 code, w64 ret] H fun v H' => v = DOp.dv { y with pc := 9, code := code, ret := ret } ∧ H' = H := by
  refine callE_pop rfl (by simp) rfl ?_
  simp -dsimp only [go_sem, Nat.reduceEqDiff, Nat.reduceAdd, Nat.reduceSub, Nat.reduceMul, Nat.reduceLeDiff, Nat.reduceLT, Nat.reduceBEq, Int.reduceLT, Int.reduceLE, Int.reduceGT, Int.reduceGE, Int.reduceEq, Int.reduceNe, Int.reduceBEq, Int.reduceBNe, Int.reduceAdd, Int.reduceSub, Int.reduceMul, Int.reduceToNat, Int.reduceNeg, ↓reduceIte, ↓reduceDIte]
theorem dto_ev {pc : Int} : callE T 71 lim [y.dv, i64 pc] H fun v H' => v = DOp.dv { y with pc := pc } ∧ H' = H := by
  refine callE_pop rfl (by simp) rfl ?_
  simp -dsimp only [go_sem, Nat.reduceEqDiff, Nat.reduceAdd, Nat.reduceSub, Nat.reduceMul, Nat.reduceLeDiff, Nat.reduceLT, Nat.reduceBEq, Int.reduceLT, Int.reduceLE, Int.reduceGT, Int.reduceGE, Int.reduceEq, Int.reduceNe, Int.reduceBEq, Int.reduceBNe, Int.reduceAdd, Int.reduceSub, Int.reduceMul, Int.reduceToNat, Int.reduceNeg, ↓reduceIte, ↓reduceDIte]
theorem duse_ev (h : Rel x y) (hr : x.r.right = true) (h9 : x.at_ ≠ 9) : callE T 44 lim [y.dv] H fun v H' => v = .agg #[i64 x.use.k, i64 x.use.a, w64 x.use.v0, w64 x.use.v1, w64 x.use.v2, w64 x.use.v3] ∧ H' = H := by
  refine callE_pop rfl (by simp) rfl ?_
  obtain ⟨q1, q2, q3, q4, q5, q6, q7, q8, q9, q10, q11, q12, q13⟩ := h
  obtain ⟨xr, xk, xv, xa, xp, xd, xs, xtl, xhd, xt, xc, xrt⟩ := x
  obtain ⟨ya, ys, yk, yv, ypc, yp, yd, yst, yt, ytr, yc, yrt⟩ := y
  simp only at q1 q2 q3 q4 q5 q6 q7 q8 q9 q10 q11 q12 q13 h9 hr
  obtain ⟨rfl, rfl⟩ := q8 h9
  obtain ⟨rfl, t0, t1, t2⟩ := q9
  subst q1 q2 q3 q5 q6
  obtain ⟨a0, a1, a2, s0, s1⟩ := RV.right_of hr
  obtain ⟨k, hk⟩ := Int.eq_ofNat_of_zero_le (show 0 ≤ xr.s by omega)
  have hs : (BitVec.ofNat 64 k).toNat = k := by rw [BitVec.toNat_ofNat, Nat.mod_eq_of_lt]; omega
  have hne : BitVec.ofNat 64 k ≠ 0#64 := fun q => by
    have := congrArg BitVec.toNat q
    rw [hs] at this
    simp at this; omega
  have hrem := lbin_rem yp (BitVec.ofNat 64 k) hne
  have hlt : yp.toNat % k < 1024 := Nat.lt_of_lt_of_le (Nat.mod_lt _ (by omega)) (by omega)
  have hti : (yp % BitVec.ofNat 64 k).toInt = ((yp.toNat % k : Nat) : Int) := by
    rw [BitVec.toInt_eq_toNat_of_lt]
    · rw [BitVec.toNat_umod, hs]
    · rw [BitVec.toNat_umod, hs]; omega
  have w1 : IntKind.i64.wrap (xr.a + 4) = xr.a + 4 := by rw [wrap_i64] <;> omega
  have w11 : IntKind.i64.wrap (xr.a + 1) = xr.a + 1 := by rw [wrap_i64] <;> omega
  have w2 : IntKind.i64.wrap (2 * ((yp.toNat % k : Nat) : Int)) = 2 * ((yp.toNat % k : Nat) : Int) := by rw [wrap_i64] <;> omega
  have hcell : xr.cell yp = xr.a + 4 + 2 * ((yp.toNat % k : Nat) : Int) := by rw [RV.cell, hk]; rfl
  have w3 : IntKind.i64.wrap (xr.a + 4 + 2 * ((yp.toNat % k : Nat) : Int)) = xr.cell yp := by rw [hcell, wrap_i64] <;> omega
  have w4 : IntKind.i64.wrap (xr.cell yp + 1) = xr.cell yp + 1 := by rw [hcell, wrap_i64] <;> omega
  have r2 : ∀ z, lbin .rem (w64 z) (w64 2#64) = some (w64 (z % 2#64)) := fun z => lbin_rem _ _ (by decide)
  have d2 : ∀ z, lbin .quo (w64 z) (w64 2#64) = some (w64 (z / 2#64)) := fun z => lbin_quo _ _ (by decide)
  have hks : BitVec.ofInt 64 xr.s = BitVec.ofNat 64 k := by rw [hk, BitVec.ofInt_natCast]
  rcases q4 with rfl | rfl | rfl
  · have hx : ypc = 0 ∨ ypc = 1 ∨ ypc = 2 ∨ ypc = 3 ∨ ypc = 4 ∨ ypc = 5 ∨ ypc = 6 := by omega
    rcases hx with rfl | rfl | rfl | rfl | rfl | rfl | rfl
    · simp -dsimp only [go_sem, Nat.reduceEqDiff, Nat.reduceAdd, Nat.reduceSub, Nat.reduceMul, Nat.reduceLeDiff, Nat.reduceLT, Nat.reduceBEq, Int.reduceLT, Int.reduceLE, Int.reduceGT, Int.reduceGE, Int.reduceEq, Int.reduceNe, Int.reduceBEq, Int.reduceBNe, Int.reduceAdd, Int.reduceSub, Int.reduceMul, Int.reduceToNat, Int.reduceNeg, ↓reduceIte, ↓reduceDIte, hk, BitVec.ofInt_natCast, hrem, hti, w1, w11, w2, w3, w4]
      simp [COp.use]
    · simp -dsimp only [go_sem, Nat.reduceEqDiff, Nat.reduceAdd, Nat.reduceSub, Nat.reduceMul, Nat.reduceLeDiff, Nat.reduceLT, Nat.reduceBEq, Int.reduceLT, Int.reduceLE, Int.reduceGT, Int.reduceGE, Int.reduceEq, Int.reduceNe, Int.reduceBEq, Int.reduceBNe, Int.reduceAdd, Int.reduceSub, Int.reduceMul, Int.reduceToNat, Int.reduceNeg, ↓reduceIte, ↓reduceDIte, hk, BitVec.ofInt_natCast, hrem, hti, w1, w11, w2, w3, w4]
      simp [COp.use]
    · simp -dsimp only [go_sem, Nat.reduceEqDiff, Nat.reduceAdd, Nat.reduceSub, Nat.reduceMul, Nat.reduceLeDiff, Nat.reduceLT, Nat.reduceBEq, Int.reduceLT, Int.reduceLE, Int.reduceGT, Int.reduceGE, Int.reduceEq, Int.reduceNe, Int.reduceBEq, Int.reduceBNe, Int.reduceAdd, Int.reduceSub, Int.reduceMul, Int.reduceToNat, Int.reduceNeg, ↓reduceIte, ↓reduceDIte, hk, BitVec.ofInt_natCast, hrem, hti, w1, w11, w2, w3, w4]
      simp [COp.use]
    · simp -dsimp only [go_sem, Nat.reduceEqDiff, Nat.reduceAdd, Nat.reduceSub, Nat.reduceMul, Nat.reduceLeDiff, Nat.reduceLT, Nat.reduceBEq, Int.reduceLT, Int.reduceLE, Int.reduceGT, Int.reduceGE, Int.reduceEq, Int.reduceNe, Int.reduceBEq, Int.reduceBNe, Int.reduceAdd, Int.reduceSub, Int.reduceMul, Int.reduceToNat, Int.reduceNeg, ↓reduceIte, ↓reduceDIte, hk, BitVec.ofInt_natCast, hrem, hti, w1, w11, w2, w3, w4]
      simp [COp.use]
    · simp -dsimp only [go_sem, Nat.reduceEqDiff, Nat.reduceAdd, Nat.reduceSub, Nat.reduceMul, Nat.reduceLeDiff, Nat.reduceLT, Nat.reduceBEq, Int.reduceLT, Int.reduceLE, Int.reduceGT, Int.reduceGE, Int.reduceEq, Int.reduceNe, Int.reduceBEq, Int.reduceBNe, Int.reduceAdd, Int.reduceSub, Int.reduceMul, Int.reduceToNat, Int.reduceNeg, ↓reduceIte, ↓reduceDIte, hk, BitVec.ofInt_natCast, hrem, hti, w1, w11, w2, w3, w4]
      simp [COp.use, st_one, q10]
    · simp -dsimp only [go_sem, Nat.reduceEqDiff, Nat.reduceAdd, Nat.reduceSub, Nat.reduceMul, Nat.reduceLeDiff, Nat.reduceLT, Nat.reduceBEq, Int.reduceLT, Int.reduceLE, Int.reduceGT, Int.reduceGE, Int.reduceEq, Int.reduceNe, Int.reduceBEq, Int.reduceBNe, Int.reduceAdd, Int.reduceSub, Int.reduceMul, Int.reduceToNat, Int.reduceNeg, ↓reduceIte, ↓reduceDIte, hk, BitVec.ofInt_natCast, hrem, hti, w1, w11, w2, w3, w4]
      simp [COp.use]
    · simp -dsimp only [go_sem, Nat.reduceEqDiff, Nat.reduceAdd, Nat.reduceSub, Nat.reduceMul, Nat.reduceLeDiff, Nat.reduceLT, Nat.reduceBEq, Int.reduceLT, Int.reduceLE, Int.reduceGT, Int.reduceGE, Int.reduceEq, Int.reduceNe, Int.reduceBEq, Int.reduceBNe, Int.reduceAdd, Int.reduceSub, Int.reduceMul, Int.reduceToNat, Int.reduceNeg, ↓reduceIte, ↓reduceDIte, hk, BitVec.ofInt_natCast, hrem, hti, w1, w11, w2, w3, w4]
      simp [COp.use]
  · have hx : ypc = 0 ∨ ypc = 1 ∨ ypc = 2 ∨ ypc = 3 ∨ ypc = 5 ∨ ypc = 6 ∨ ypc = 7 ∨ ypc = 8 := by omega
    rcases hx with rfl | rfl | rfl | rfl | rfl | rfl | rfl | rfl
    · simp -dsimp only [go_sem, Nat.reduceEqDiff, Nat.reduceAdd, Nat.reduceSub, Nat.reduceMul, Nat.reduceLeDiff, Nat.reduceLT, Nat.reduceBEq, Int.reduceLT, Int.reduceLE, Int.reduceGT, Int.reduceGE, Int.reduceEq, Int.reduceNe, Int.reduceBEq, Int.reduceBNe, Int.reduceAdd, Int.reduceSub, Int.reduceMul, Int.reduceToNat, Int.reduceNeg, ↓reduceIte, ↓reduceDIte, hk, BitVec.ofInt_natCast, hrem, hti, w1, w11, w2, w3, w4]
      simp [COp.use]
    · simp -dsimp only [go_sem, Nat.reduceEqDiff, Nat.reduceAdd, Nat.reduceSub, Nat.reduceMul, Nat.reduceLeDiff, Nat.reduceLT, Nat.reduceBEq, Int.reduceLT, Int.reduceLE, Int.reduceGT, Int.reduceGE, Int.reduceEq, Int.reduceNe, Int.reduceBEq, Int.reduceBNe, Int.reduceAdd, Int.reduceSub, Int.reduceMul, Int.reduceToNat, Int.reduceNeg, ↓reduceIte, ↓reduceDIte, hk, BitVec.ofInt_natCast, hrem, hti, w1, w11, w2, w3, w4]
      simp [COp.use]
    · simp -dsimp only [go_sem, Nat.reduceEqDiff, Nat.reduceAdd, Nat.reduceSub, Nat.reduceMul, Nat.reduceLeDiff, Nat.reduceLT, Nat.reduceBEq, Int.reduceLT, Int.reduceLE, Int.reduceGT, Int.reduceGE, Int.reduceEq, Int.reduceNe, Int.reduceBEq, Int.reduceBNe, Int.reduceAdd, Int.reduceSub, Int.reduceMul, Int.reduceToNat, Int.reduceNeg, ↓reduceIte, ↓reduceDIte, hk, BitVec.ofInt_natCast, hrem, hti, w1, w11, w2, w3, w4]
      simp [COp.use]
    · have hd := q10 (by decide)
      subst hd
      by_cases hd : yd = 0#64
      · have hd1 : (yd == 0#64) = true := by simp [hd]
        have hd2 : (yd != 0#64) = false := by simp [hd]
        simp -dsimp only [go_sem, Nat.reduceEqDiff, Nat.reduceAdd, Nat.reduceSub, Nat.reduceMul, Nat.reduceLeDiff, Nat.reduceLT, Nat.reduceBEq, Int.reduceLT, Int.reduceLE, Int.reduceGT, Int.reduceGE, Int.reduceEq, Int.reduceNe, Int.reduceBEq, Int.reduceBNe, Int.reduceAdd, Int.reduceSub, Int.reduceMul, Int.reduceToNat, Int.reduceNeg, ↓reduceIte, ↓reduceDIte, hk, BitVec.ofInt_natCast, hrem, hti, w1, w11, w2, w3, w4, hd1, r2, d2]
        simp [COp.use, COp.now, COp.own, hd2, st_lit, hks]
      · have hd1 : (yd == 0#64) = false := by simp [hd]
        have hd2 : (yd != 0#64) = true := by simp [hd]
        cases hp : (yst / 2#64 == yp)
        · simp -dsimp only [go_sem, Nat.reduceEqDiff, Nat.reduceAdd, Nat.reduceSub, Nat.reduceMul, Nat.reduceLeDiff, Nat.reduceLT, Nat.reduceBEq, Int.reduceLT, Int.reduceLE, Int.reduceGT, Int.reduceGE, Int.reduceEq, Int.reduceNe, Int.reduceBEq, Int.reduceBNe, Int.reduceAdd, Int.reduceSub, Int.reduceMul, Int.reduceToNat, Int.reduceNeg, ↓reduceIte, ↓reduceDIte, hk, BitVec.ofInt_natCast, hrem, hti, w1, w11, w2, w3, w4, hd1, r2, d2, hp]
          simp [COp.use, COp.now, COp.own, hd2, po_lit, hp, st_un, hks]
        · simp -dsimp only [go_sem, Nat.reduceEqDiff, Nat.reduceAdd, Nat.reduceSub, Nat.reduceMul, Nat.reduceLeDiff, Nat.reduceLT, Nat.reduceBEq, Int.reduceLT, Int.reduceLE, Int.reduceGT, Int.reduceGE, Int.reduceEq, Int.reduceNe, Int.reduceBEq, Int.reduceBNe, Int.reduceAdd, Int.reduceSub, Int.reduceMul, Int.reduceToNat, Int.reduceNeg, ↓reduceIte, ↓reduceDIte, hk, BitVec.ofInt_natCast, hrem, hti, w1, w11, w2, w3, w4, hd1, r2, d2, hp]
          simp [COp.use, COp.now, COp.own, hd2, po_lit, hp, st_lit, hks]
    · simp -dsimp only [go_sem, Nat.reduceEqDiff, Nat.reduceAdd, Nat.reduceSub, Nat.reduceMul, Nat.reduceLeDiff, Nat.reduceLT, Nat.reduceBEq, Int.reduceLT, Int.reduceLE, Int.reduceGT, Int.reduceGE, Int.reduceEq, Int.reduceNe, Int.reduceBEq, Int.reduceBNe, Int.reduceAdd, Int.reduceSub, Int.reduceMul, Int.reduceToNat, Int.reduceNeg, ↓reduceIte, ↓reduceDIte, hk, BitVec.ofInt_natCast, hrem, hti, w1, w11, w2, w3, w4]
      simp [COp.use]
    · simp -dsimp only [go_sem, Nat.reduceEqDiff, Nat.reduceAdd, Nat.reduceSub, Nat.reduceMul, Nat.reduceLeDiff, Nat.reduceLT, Nat.reduceBEq, Int.reduceLT, Int.reduceLE, Int.reduceGT, Int.reduceGE, Int.reduceEq, Int.reduceNe, Int.reduceBEq, Int.reduceBNe, Int.reduceAdd, Int.reduceSub, Int.reduceMul, Int.reduceToNat, Int.reduceNeg, ↓reduceIte, ↓reduceDIte, hk, BitVec.ofInt_natCast, hrem, hti, w1, w11, w2, w3, w4]
      simp [COp.use]
    · simp -dsimp only [go_sem, Nat.reduceEqDiff, Nat.reduceAdd, Nat.reduceSub, Nat.reduceMul, Nat.reduceLeDiff, Nat.reduceLT, Nat.reduceBEq, Int.reduceLT, Int.reduceLE, Int.reduceGT, Int.reduceGE, Int.reduceEq, Int.reduceNe, Int.reduceBEq, Int.reduceBNe, Int.reduceAdd, Int.reduceSub, Int.reduceMul, Int.reduceToNat, Int.reduceNeg, ↓reduceIte, ↓reduceDIte, hk, BitVec.ofInt_natCast, hrem, hti, w1, w11, w2, w3, w4]
      simp [COp.use]
    · have ht := q11 (.inr rfl)
      have hh := q12 rfl
      subst ht hh
      simp -dsimp only [go_sem, Nat.reduceEqDiff, Nat.reduceAdd, Nat.reduceSub, Nat.reduceMul, Nat.reduceLeDiff, Nat.reduceLT, Nat.reduceBEq, Int.reduceLT, Int.reduceLE, Int.reduceGT, Int.reduceGE, Int.reduceEq, Int.reduceNe, Int.reduceBEq, Int.reduceBNe, Int.reduceAdd, Int.reduceSub, Int.reduceMul, Int.reduceToNat, Int.reduceNeg, ↓reduceIte, ↓reduceDIte, hk, BitVec.ofInt_natCast, hrem, hti, w1, w11, w2, w3, w4]
      simp [COp.use]
  · simp -dsimp only [go_sem, Nat.reduceEqDiff, Nat.reduceAdd, Nat.reduceSub, Nat.reduceMul, Nat.reduceLeDiff, Nat.reduceLT, Nat.reduceBEq, Int.reduceLT, Int.reduceLE, Int.reduceGT, Int.reduceGE, Int.reduceEq, Int.reduceNe, Int.reduceBEq, Int.reduceBNe, Int.reduceAdd, Int.reduceSub, Int.reduceMul, Int.reduceToNat, Int.reduceNeg, ↓reduceIte, ↓reduceDIte, hk, BitVec.ofInt_natCast, hrem, hti, w1, w11, w2, w3, w4]
    simp [COp.use]
end
end Go.Proofs.Ytopjhhcncjleaaa
