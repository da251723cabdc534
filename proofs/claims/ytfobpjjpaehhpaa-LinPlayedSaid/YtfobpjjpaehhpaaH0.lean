/- Calls of threads: plain, and worked out. -/
import Derived.Test.YtfobpjjpaehhpaaS0
namespace Go.Proofs.Ytfobpjjpaehhpaa
open Go Go.LK
set_option linter.unusedSimpArgs false
set_option linter.unusedVariables false
abbrev i64 (n : Int) : Value := .int .i64 n
structure CallD where
  th : Int
  kind : Int
  arg : BitVec 64
  fr : Int
  to : Int
  dn : Bool
  code : Int
  ret : BitVec 64
def CallD.cells (c : CallD) : List Value := [.int .i64 c.th, .int .i64 c.kind, w64 c.arg, .int .i64 c.fr, .int .i64 c.to, .bool c.dn, .int .i64 c.code, w64 c.ret]
theorem CallD.len (c : CallD) : c.cells.length = 8 := rfl
def CallD.Ok (c : CallD) : Prop := (-9223372036854775808 ≤ c.th ∧ c.th ≤ 9223372036854775807) ∧ (-9223372036854775808 ≤ c.kind ∧ c.kind ≤ 9223372036854775807) ∧ (-9223372036854775808 ≤ c.fr ∧ c.fr ≤ 9223372036854775807) ∧ (-9223372036854775808 ≤ c.to ∧ c.to ≤ 9223372036854775807) ∧ (-9223372036854775808 ≤ c.code ∧ c.code ≤ 9223372036854775807)
theorem CallD.row (r : List Value) (h_0 : Row2 CellIs [.int .i64, .int .i64, .int .u64, .int .i64, .int .i64, .bool, .int .i64, .int .u64] r) : ∃ x, r = CallD.cells x ∧ CallD.Ok x := by
  obtain ⟨_, _, rfl, k0, h_1⟩ := row_cons h_0
  obtain ⟨x0, rfl, y0⟩ := is_i64 k0
  obtain ⟨_, _, rfl, k1, h_2⟩ := row_cons h_1
  obtain ⟨x1, rfl, y1⟩ := is_i64 k1
  obtain ⟨_, _, rfl, k2, h_3⟩ := row_cons h_2
  obtain ⟨x2, rfl⟩ := is_u64 k2
  obtain ⟨_, _, rfl, k3, h_4⟩ := row_cons h_3
  obtain ⟨x3, rfl, y3⟩ := is_i64 k3
  obtain ⟨_, _, rfl, k4, h_5⟩ := row_cons h_4
  obtain ⟨x4, rfl, y4⟩ := is_i64 k4
  obtain ⟨_, _, rfl, k5, h_6⟩ := row_cons h_5
  obtain ⟨x5, rfl⟩ := is_bool k5
  obtain ⟨_, _, rfl, k6, h_7⟩ := row_cons h_6
  obtain ⟨x6, rfl, y6⟩ := is_i64 k6
  obtain ⟨_, _, rfl, k7, h_8⟩ := row_cons h_7
  obtain ⟨x7, rfl⟩ := is_u64 k7
  obtain rfl := row_nil h_8
  exact ⟨⟨x0, x1, x2, x3, x4, x5, x6, x7⟩, rfl, ⟨y0, y1, y3, y4, y6⟩⟩

abbrev CallD.v (c : CallD) : Value := .agg #[i64 c.th, i64 c.kind, w64 c.arg, i64 c.fr, i64 c.to, .bool c.dn, i64 c.code, w64 c.ret]
def aheadF (a b : CallD) : Bool := a.dn && decide (a.to < b.fr)
def meetsF (a b : CallD) : Bool := !aheadF a b && !aheadF b a
def rightF (c : CallD) : Bool :=
  if c.th < 0 ∨ 64 ≤ c.th ∨ c.fr < 0 then false
  else if c.dn = true then decide (c.fr ≤ c.to)
  else decide (c.to = 0 ∧ c.code = 0 ∧ c.ret = 0#64)
def twiceF (c o : CallD) : Bool := decide (o.th = c.th) && meetsF o c
theorem ahead_ev {lim : Nat} {a b : CallD} {H : LHeap} : callE T 26 lim [a.v, b.v] H fun v H' => v = .bool (aheadF a b) ∧ H' = H := by
  refine callE_pop rfl (by simp) rfl ?_
  simp -dsimp only [go_sem, Nat.reduceEqDiff, Nat.reduceAdd, Nat.reduceSub, Nat.reduceMul, Nat.reduceLeDiff, Nat.reduceLT, Nat.reduceBEq, Int.reduceLT, Int.reduceLE, Int.reduceGT, Int.reduceGE, Int.reduceEq, Int.reduceNe, Int.reduceBEq, Int.reduceBNe, Int.reduceAdd, Int.reduceSub, Int.reduceMul, Int.reduceToNat, Int.reduceNeg, ↓reduceIte, ↓reduceDIte]
  (repeat' (first | (refine BT_beq (fun hc => ?_) (fun hc hc2 => ?_) <;> simp -dsimp only [go_sem, Nat.reduceEqDiff, Nat.reduceAdd, Nat.reduceSub, Nat.reduceMul, Nat.reduceLeDiff, Nat.reduceLT, Nat.reduceBEq, Int.reduceLT, Int.reduceLE, Int.reduceGT, Int.reduceGE, Int.reduceEq, Int.reduceNe, Int.reduceBEq, Int.reduceBNe, Int.reduceAdd, Int.reduceSub, Int.reduceMul, Int.reduceToNat, Int.reduceNeg, ↓reduceIte, ↓reduceDIte, *]) | (refine GT_beqT (fun hc => ?_) (fun hc hc2 => ?_) <;> simp -dsimp only [go_sem, Nat.reduceEqDiff, Nat.reduceAdd, Nat.reduceSub, Nat.reduceMul, Nat.reduceLeDiff, Nat.reduceLT, Nat.reduceBEq, Int.reduceLT, Int.reduceLE, Int.reduceGT, Int.reduceGE, Int.reduceEq, Int.reduceNe, Int.reduceBEq, Int.reduceBNe, Int.reduceAdd, Int.reduceSub, Int.reduceMul, Int.reduceToNat, Int.reduceNeg, ↓reduceIte, ↓reduceDIte, *]) | (refine GT_beqF (fun hc hc2 => ?_) (fun hc => ?_) <;> simp -dsimp only [go_sem, Nat.reduceEqDiff, Nat.reduceAdd, Nat.reduceSub, Nat.reduceMul, Nat.reduceLeDiff, Nat.reduceLT, Nat.reduceBEq, Int.reduceLT, Int.reduceLE, Int.reduceGT, Int.reduceGE, Int.reduceEq, Int.reduceNe, Int.reduceBEq, Int.reduceBNe, Int.reduceAdd, Int.reduceSub, Int.reduceMul, Int.reduceToNat, Int.reduceNeg, ↓reduceIte, ↓reduceDIte, *]) | (refine BT_bne (fun hc hc1 hc2 => ?_) (fun hc => ?_) <;> simp -dsimp only [go_sem, Nat.reduceEqDiff, Nat.reduceAdd, Nat.reduceSub, Nat.reduceMul, Nat.reduceLeDiff, Nat.reduceLT, Nat.reduceBEq, Int.reduceLT, Int.reduceLE, Int.reduceGT, Int.reduceGE, Int.reduceEq, Int.reduceNe, Int.reduceBEq, Int.reduceBNe, Int.reduceAdd, Int.reduceSub, Int.reduceMul, Int.reduceToNat, Int.reduceNeg, ↓reduceIte, ↓reduceDIte, *]) | (refine GT_bneT (fun hc hc1 hc2 => ?_) (fun hc => ?_) <;> simp -dsimp only [go_sem, Nat.reduceEqDiff, Nat.reduceAdd, Nat.reduceSub, Nat.reduceMul, Nat.reduceLeDiff, Nat.reduceLT, Nat.reduceBEq, Int.reduceLT, Int.reduceLE, Int.reduceGT, Int.reduceGE, Int.reduceEq, Int.reduceNe, Int.reduceBEq, Int.reduceBNe, Int.reduceAdd, Int.reduceSub, Int.reduceMul, Int.reduceToNat, Int.reduceNeg, ↓reduceIte, ↓reduceDIte, *]) | (refine GT_bneF (fun hc => ?_) (fun hc hc1 hc2 => ?_) <;> simp -dsimp only [go_sem, Nat.reduceEqDiff, Nat.reduceAdd, Nat.reduceSub, Nat.reduceMul, Nat.reduceLeDiff, Nat.reduceLT, Nat.reduceBEq, Int.reduceLT, Int.reduceLE, Int.reduceGT, Int.reduceGE, Int.reduceEq, Int.reduceNe, Int.reduceBEq, Int.reduceBNe, Int.reduceAdd, Int.reduceSub, Int.reduceMul, Int.reduceToNat, Int.reduceNeg, ↓reduceIte, ↓reduceDIte, *]) | (refine BT_not (fun hc => ?_) (fun hc => ?_) <;> simp -dsimp only [go_sem, Nat.reduceEqDiff, Nat.reduceAdd, Nat.reduceSub, Nat.reduceMul, Nat.reduceLeDiff, Nat.reduceLT, Nat.reduceBEq, Int.reduceLT, Int.reduceLE, Int.reduceGT, Int.reduceGE, Int.reduceEq, Int.reduceNe, Int.reduceBEq, Int.reduceBNe, Int.reduceAdd, Int.reduceSub, Int.reduceMul, Int.reduceToNat, Int.reduceNeg, ↓reduceIte, ↓reduceDIte, *]) | (refine GT_notT (fun hc => ?_) (fun hc => ?_) <;> simp -dsimp only [go_sem, Nat.reduceEqDiff, Nat.reduceAdd, Nat.reduceSub, Nat.reduceMul, Nat.reduceLeDiff, Nat.reduceLT, Nat.reduceBEq, Int.reduceLT, Int.reduceLE, Int.reduceGT, Int.reduceGE, Int.reduceEq, Int.reduceNe, Int.reduceBEq, Int.reduceBNe, Int.reduceAdd, Int.reduceSub, Int.reduceMul, Int.reduceToNat, Int.reduceNeg, ↓reduceIte, ↓reduceDIte, *]) | (refine GT_notF (fun hc => ?_) (fun hc => ?_) <;> simp -dsimp only [go_sem, Nat.reduceEqDiff, Nat.reduceAdd, Nat.reduceSub, Nat.reduceMul, Nat.reduceLeDiff, Nat.reduceLT, Nat.reduceBEq, Int.reduceLT, Int.reduceLE, Int.reduceGT, Int.reduceGE, Int.reduceEq, Int.reduceNe, Int.reduceBEq, Int.reduceBNe, Int.reduceAdd, Int.reduceSub, Int.reduceMul, Int.reduceToNat, Int.reduceNeg, ↓reduceIte, ↓reduceDIte, *]) | (refine BT_dec (fun hc => ?_) (fun hc => ?_) <;> simp -dsimp only [go_sem, Nat.reduceEqDiff, Nat.reduceAdd, Nat.reduceSub, Nat.reduceMul, Nat.reduceLeDiff, Nat.reduceLT, Nat.reduceBEq, Int.reduceLT, Int.reduceLE, Int.reduceGT, Int.reduceGE, Int.reduceEq, Int.reduceNe, Int.reduceBEq, Int.reduceBNe, Int.reduceAdd, Int.reduceSub, Int.reduceMul, Int.reduceToNat, Int.reduceNeg, ↓reduceIte, ↓reduceDIte, *]) | (refine GT_decT (fun hc => ?_) (fun hc => ?_) <;> simp -dsimp only [go_sem, Nat.reduceEqDiff, Nat.reduceAdd, Nat.reduceSub, Nat.reduceMul, Nat.reduceLeDiff, Nat.reduceLT, Nat.reduceBEq, Int.reduceLT, Int.reduceLE, Int.reduceGT, Int.reduceGE, Int.reduceEq, Int.reduceNe, Int.reduceBEq, Int.reduceBNe, Int.reduceAdd, Int.reduceSub, Int.reduceMul, Int.reduceToNat, Int.reduceNeg, ↓reduceIte, ↓reduceDIte, *]) | (refine GT_decF (fun hc => ?_) (fun hc => ?_) <;> simp -dsimp only [go_sem, Nat.reduceEqDiff, Nat.reduceAdd, Nat.reduceSub, Nat.reduceMul, Nat.reduceLeDiff, Nat.reduceLT, Nat.reduceBEq, Int.reduceLT, Int.reduceLE, Int.reduceGT, Int.reduceGE, Int.reduceEq, Int.reduceNe, Int.reduceBEq, Int.reduceBNe, Int.reduceAdd, Int.reduceSub, Int.reduceMul, Int.reduceToNat, Int.reduceNeg, ↓reduceIte, ↓reduceDIte, *]) | (refine BT_intro (fun hc => ?_) (fun hc => ?_) <;> simp -dsimp only [go_sem, Nat.reduceEqDiff, Nat.reduceAdd, Nat.reduceSub, Nat.reduceMul, Nat.reduceLeDiff, Nat.reduceLT, Nat.reduceBEq, Int.reduceLT, Int.reduceLE, Int.reduceGT, Int.reduceGE, Int.reduceEq, Int.reduceNe, Int.reduceBEq, Int.reduceBNe, Int.reduceAdd, Int.reduceSub, Int.reduceMul, Int.reduceToNat, Int.reduceNeg, ↓reduceIte, ↓reduceDIte, *]) | (refine GT_introT (fun hc => ?_) (fun hc => ?_) <;> simp -dsimp only [go_sem, Nat.reduceEqDiff, Nat.reduceAdd, Nat.reduceSub, Nat.reduceMul, Nat.reduceLeDiff, Nat.reduceLT, Nat.reduceBEq, Int.reduceLT, Int.reduceLE, Int.reduceGT, Int.reduceGE, Int.reduceEq, Int.reduceNe, Int.reduceBEq, Int.reduceBNe, Int.reduceAdd, Int.reduceSub, Int.reduceMul, Int.reduceToNat, Int.reduceNeg, ↓reduceIte, ↓reduceDIte, *]) | (refine GT_introF (fun hc => ?_) (fun hc => ?_) <;> simp -dsimp only [go_sem, Nat.reduceEqDiff, Nat.reduceAdd, Nat.reduceSub, Nat.reduceMul, Nat.reduceLeDiff, Nat.reduceLT, Nat.reduceBEq, Int.reduceLT, Int.reduceLE, Int.reduceGT, Int.reduceGE, Int.reduceEq, Int.reduceNe, Int.reduceBEq, Int.reduceBNe, Int.reduceAdd, Int.reduceSub, Int.reduceMul, Int.reduceToNat, Int.reduceNeg, ↓reduceIte, ↓reduceDIte, *])))
  all_goals simp [aheadF, *]
theorem meets_ev {lim : Nat} {a b : CallD} {H : LHeap} : callE T 41 lim [a.v, b.v] H fun v H' => v = .bool (meetsF a b) ∧ H' = H := by
  refine callE_pop rfl (by simp) rfl ?_
  simp -dsimp only [go_sem, Nat.reduceEqDiff, Nat.reduceAdd, Nat.reduceSub, Nat.reduceMul, Nat.reduceLeDiff, Nat.reduceLT, Nat.reduceBEq, Int.reduceLT, Int.reduceLE, Int.reduceGT, Int.reduceGE, Int.reduceEq, Int.reduceNe, Int.reduceBEq, Int.reduceBNe, Int.reduceAdd, Int.reduceSub, Int.reduceMul, Int.reduceToNat, Int.reduceNeg, ↓reduceIte, ↓reduceDIte]
  refine CT_val ahead_ev ?_
  simp -dsimp only [go_sem, Nat.reduceEqDiff, Nat.reduceAdd, Nat.reduceSub, Nat.reduceMul, Nat.reduceLeDiff, Nat.reduceLT, Nat.reduceBEq, Int.reduceLT, Int.reduceLE, Int.reduceGT, Int.reduceGE, Int.reduceEq, Int.reduceNe, Int.reduceBEq, Int.reduceBNe, Int.reduceAdd, Int.reduceSub, Int.reduceMul, Int.reduceToNat, Int.reduceNeg, ↓reduceIte, ↓reduceDIte]
  cases h : aheadF a b
  · simp -dsimp only [go_sem, Nat.reduceEqDiff, Nat.reduceAdd, Nat.reduceSub, Nat.reduceMul, Nat.reduceLeDiff, Nat.reduceLT, Nat.reduceBEq, Int.reduceLT, Int.reduceLE, Int.reduceGT, Int.reduceGE, Int.reduceEq, Int.reduceNe, Int.reduceBEq, Int.reduceBNe, Int.reduceAdd, Int.reduceSub, Int.reduceMul, Int.reduceToNat, Int.reduceNeg, ↓reduceIte, ↓reduceDIte]
    refine CT_val ahead_ev ?_
    simp -dsimp only [go_sem, Nat.reduceEqDiff, Nat.reduceAdd, Nat.reduceSub, Nat.reduceMul, Nat.reduceLeDiff, Nat.reduceLT, Nat.reduceBEq, Int.reduceLT, Int.reduceLE, Int.reduceGT, Int.reduceGE, Int.reduceEq, Int.reduceNe, Int.reduceBEq, Int.reduceBNe, Int.reduceAdd, Int.reduceSub, Int.reduceMul, Int.reduceToNat, Int.reduceNeg, ↓reduceIte, ↓reduceDIte]
    simp [meetsF, h]
  · simp -dsimp only [go_sem, Nat.reduceEqDiff, Nat.reduceAdd, Nat.reduceSub, Nat.reduceMul, Nat.reduceLeDiff, Nat.reduceLT, Nat.reduceBEq, Int.reduceLT, Int.reduceLE, Int.reduceGT, Int.reduceGE, Int.reduceEq, Int.reduceNe, Int.reduceBEq, Int.reduceBNe, Int.reduceAdd, Int.reduceSub, Int.reduceMul, Int.reduceToNat, Int.reduceNeg, ↓reduceIte, ↓reduceDIte]
    simp [meetsF, h]
theorem right1_ev {lim : Nat} {c : CallD} {H : LHeap} : callE T 42 lim [c.v] H fun v H' => v = .bool (rightF c) ∧ H' = H := by
  refine callE_pop rfl (by simp) rfl ?_
  obtain ⟨th, kind, arg, fr, to, dn, code, ret⟩ := c
  simp -dsimp only [go_sem, Nat.reduceEqDiff, Nat.reduceAdd, Nat.reduceSub, Nat.reduceMul, Nat.reduceLeDiff, Nat.reduceLT, Nat.reduceBEq, Int.reduceLT, Int.reduceLE, Int.reduceGT, Int.reduceGE, Int.reduceEq, Int.reduceNe, Int.reduceBEq, Int.reduceBNe, Int.reduceAdd, Int.reduceSub, Int.reduceMul, Int.reduceToNat, Int.reduceNeg, ↓reduceIte, ↓reduceDIte]
  (repeat' (first | (refine BT_beq (fun hc => ?_) (fun hc hc2 => ?_) <;> simp -dsimp only [go_sem, Nat.reduceEqDiff, Nat.reduceAdd, Nat.reduceSub, Nat.reduceMul, Nat.reduceLeDiff, Nat.reduceLT, Nat.reduceBEq, Int.reduceLT, Int.reduceLE, Int.reduceGT, Int.reduceGE, Int.reduceEq, Int.reduceNe, Int.reduceBEq, Int.reduceBNe, Int.reduceAdd, Int.reduceSub, Int.reduceMul, Int.reduceToNat, Int.reduceNeg, ↓reduceIte, ↓reduceDIte, rightF, *]) | (refine GT_beqT (fun hc => ?_) (fun hc hc2 => ?_) <;> simp -dsimp only [go_sem, Nat.reduceEqDiff, Nat.reduceAdd, Nat.reduceSub, Nat.reduceMul, Nat.reduceLeDiff, Nat.reduceLT, Nat.reduceBEq, Int.reduceLT, Int.reduceLE, Int.reduceGT, Int.reduceGE, Int.reduceEq, Int.reduceNe, Int.reduceBEq, Int.reduceBNe, Int.reduceAdd, Int.reduceSub, Int.reduceMul, Int.reduceToNat, Int.reduceNeg, ↓reduceIte, ↓reduceDIte, rightF, *]) | (refine GT_beqF (fun hc hc2 => ?_) (fun hc => ?_) <;> simp -dsimp only [go_sem, Nat.reduceEqDiff, Nat.reduceAdd, Nat.reduceSub, Nat.reduceMul, Nat.reduceLeDiff, Nat.reduceLT, Nat.reduceBEq, Int.reduceLT, Int.reduceLE, Int.reduceGT, Int.reduceGE, Int.reduceEq, Int.reduceNe, Int.reduceBEq, Int.reduceBNe, Int.reduceAdd, Int.reduceSub, Int.reduceMul, Int.reduceToNat, Int.reduceNeg, ↓reduceIte, ↓reduceDIte, rightF, *]) | (refine BT_bne (fun hc hc1 hc2 => ?_) (fun hc => ?_) <;> simp -dsimp only [go_sem, Nat.reduceEqDiff, Nat.reduceAdd, Nat.reduceSub, Nat.reduceMul, Nat.reduceLeDiff, Nat.reduceLT, Nat.reduceBEq, Int.reduceLT, Int.reduceLE, Int.reduceGT, Int.reduceGE, Int.reduceEq, Int.reduceNe, Int.reduceBEq, Int.reduceBNe, Int.reduceAdd, Int.reduceSub, Int.reduceMul, Int.reduceToNat, Int.reduceNeg, ↓reduceIte, ↓reduceDIte, rightF, *]) | (refine GT_bneT (fun hc hc1 hc2 => ?_) (fun hc => ?_) <;> simp -dsimp only [go_sem, Nat.reduceEqDiff, Nat.reduceAdd, Nat.reduceSub, Nat.reduceMul, Nat.reduceLeDiff, Nat.reduceLT, Nat.reduceBEq, Int.reduceLT, Int.reduceLE, Int.reduceGT, Int.reduceGE, Int.reduceEq, Int.reduceNe, Int.reduceBEq, Int.reduceBNe, Int.reduceAdd, Int.reduceSub, Int.reduceMul, Int.reduceToNat, Int.reduceNeg, ↓reduceIte, ↓reduceDIte, rightF, *]) | (refine GT_bneF (fun hc => ?_) (fun hc hc1 hc2 => ?_) <;> simp -dsimp only [go_sem, Nat.reduceEqDiff, Nat.reduceAdd, Nat.reduceSub, Nat.reduceMul, Nat.reduceLeDiff, Nat.reduceLT, Nat.reduceBEq, Int.reduceLT, Int.reduceLE, Int.reduceGT, Int.reduceGE, Int.reduceEq, Int.reduceNe, Int.reduceBEq, Int.reduceBNe, Int.reduceAdd, Int.reduceSub, Int.reduceMul, Int.reduceToNat, Int.reduceNeg, ↓reduceIte, ↓reduceDIte, rightF, *]) | (refine BT_not (fun hc => ?_) (fun hc => ?_) <;> simp -dsimp only [go_sem, Nat.reduceEqDiff, Nat.reduceAdd, Nat.reduceSub, Nat.reduceMul, Nat.reduceLeDiff, Nat.reduceLT, Nat.reduceBEq, Int.reduceLT, Int.reduceLE, Int.reduceGT, Int.reduceGE, Int.reduceEq, Int.reduceNe, Int.reduceBEq, Int.reduceBNe, Int.reduceAdd, Int.reduceSub, Int.reduceMul, Int.reduceToNat, Int.reduceNeg, ↓reduceIte, ↓reduceDIte, rightF, *]) | (refine GT_notT (fun hc => ?_) (fun hc => ?_) <;> simp -dsimp only [go_sem, Nat.reduceEqDiff, Nat.reduceAdd, Nat.reduceSub, Nat.reduceMul, Nat.reduceLeDiff, Nat.reduceLT, Nat.reduceBEq, Int.reduceLT, Int.reduceLE, Int.reduceGT, Int.reduceGE, Int.reduceEq, Int.reduceNe, Int.reduceBEq, Int.reduceBNe, Int.reduceAdd, Int.reduceSub, Int.reduceMul, Int.reduceToNat, Int.reduceNeg, ↓reduceIte, ↓reduceDIte, rightF, *]) | (refine GT_notF (fun hc => ?_) (fun hc => ?_) <;> simp -dsimp only [go_sem, Nat.reduceEqDiff, Nat.reduceAdd, Nat.reduceSub, Nat.reduceMul, Nat.reduceLeDiff, Nat.reduceLT, Nat.reduceBEq, Int.reduceLT, Int.reduceLE, Int.reduceGT, Int.reduceGE, Int.reduceEq, Int.reduceNe, Int.reduceBEq, Int.reduceBNe, Int.reduceAdd, Int.reduceSub, Int.reduceMul, Int.reduceToNat, Int.reduceNeg, ↓reduceIte, ↓reduceDIte, rightF, *]) | (refine BT_dec (fun hc => ?_) (fun hc => ?_) <;> simp -dsimp only [go_sem, Nat.reduceEqDiff, Nat.reduceAdd, Nat.reduceSub, Nat.reduceMul, Nat.reduceLeDiff, Nat.reduceLT, Nat.reduceBEq, Int.reduceLT, Int.reduceLE, Int.reduceGT, Int.reduceGE, Int.reduceEq, Int.reduceNe, Int.reduceBEq, Int.reduceBNe, Int.reduceAdd, Int.reduceSub, Int.reduceMul, Int.reduceToNat, Int.reduceNeg, ↓reduceIte, ↓reduceDIte, rightF, *]) | (refine GT_decT (fun hc => ?_) (fun hc => ?_) <;> simp -dsimp only [go_sem, Nat.reduceEqDiff, Nat.reduceAdd, Nat.reduceSub, Nat.reduceMul, Nat.reduceLeDiff, Nat.reduceLT, Nat.reduceBEq, Int.reduceLT, Int.reduceLE, Int.reduceGT, Int.reduceGE, Int.reduceEq, Int.reduceNe, Int.reduceBEq, Int.reduceBNe, Int.reduceAdd, Int.reduceSub, Int.reduceMul, Int.reduceToNat, Int.reduceNeg, ↓reduceIte, ↓reduceDIte, rightF, *]) | (refine GT_decF (fun hc => ?_) (fun hc => ?_) <;> simp -dsimp only [go_sem, Nat.reduceEqDiff, Nat.reduceAdd, Nat.reduceSub, Nat.reduceMul, Nat.reduceLeDiff, Nat.reduceLT, Nat.reduceBEq, Int.reduceLT, Int.reduceLE, Int.reduceGT, Int.reduceGE, Int.reduceEq, Int.reduceNe, Int.reduceBEq, Int.reduceBNe, Int.reduceAdd, Int.reduceSub, Int.reduceMul, Int.reduceToNat, Int.reduceNeg, ↓reduceIte, ↓reduceDIte, rightF, *]) | (refine BT_intro (fun hc => ?_) (fun hc => ?_) <;> simp -dsimp only [go_sem, Nat.reduceEqDiff, Nat.reduceAdd, Nat.reduceSub, Nat.reduceMul, Nat.reduceLeDiff, Nat.reduceLT, Nat.reduceBEq, Int.reduceLT, Int.reduceLE, Int.reduceGT, Int.reduceGE, Int.reduceEq, Int.reduceNe, Int.reduceBEq, Int.reduceBNe, Int.reduceAdd, Int.reduceSub, Int.reduceMul, Int.reduceToNat, Int.reduceNeg, ↓reduceIte, ↓reduceDIte, rightF, *]) | (refine GT_introT (fun hc => ?_) (fun hc => ?_) <;> simp -dsimp only [go_sem, Nat.reduceEqDiff, Nat.reduceAdd, Nat.reduceSub, Nat.reduceMul, Nat.reduceLeDiff, Nat.reduceLT, Nat.reduceBEq, Int.reduceLT, Int.reduceLE, Int.reduceGT, Int.reduceGE, Int.reduceEq, Int.reduceNe, Int.reduceBEq, Int.reduceBNe, Int.reduceAdd, Int.reduceSub, Int.reduceMul, Int.reduceToNat, Int.reduceNeg, ↓reduceIte, ↓reduceDIte, rightF, *]) | (refine GT_introF (fun hc => ?_) (fun hc => ?_) <;> simp -dsimp only [go_sem, Nat.reduceEqDiff, Nat.reduceAdd, Nat.reduceSub, Nat.reduceMul, Nat.reduceLeDiff, Nat.reduceLT, Nat.reduceBEq, Int.reduceLT, Int.reduceLE, Int.reduceGT, Int.reduceGE, Int.reduceEq, Int.reduceNe, Int.reduceBEq, Int.reduceBNe, Int.reduceAdd, Int.reduceSub, Int.reduceMul, Int.reduceToNat, Int.reduceNeg, ↓reduceIte, ↓reduceDIte, rightF, *])))
  all_goals first | (simp [rightF, *]; done) | (simp [rightF, *]; rfl)
theorem twice_ev {lim b : Nat} {c o : CallD} {H : LHeap} (hb : H[b]? = some (.row false 0 c.cells)) : callE T 40 lim [o.v, .pointer (some ⟨b, 0, none⟩)] H fun v H' => v = .bool (twiceF c o) ∧ H' = H := by
  refine callE_pop rfl (by simp) rfl ?_
  have g1 : ∀ t, lget (H ++ t) b 0 = some (i64 c.th) := fun t => lget_at (get_old hb t) 0
  have g2 : ∀ t, lcells (H ++ t) b 0 8 = some c.cells := fun t => lcells_of (get_old hb t) rfl
  simp -dsimp only [go_sem, Nat.reduceEqDiff, Nat.reduceAdd, Nat.reduceSub, Nat.reduceMul, Nat.reduceLeDiff, Nat.reduceLT, Nat.reduceBEq, Int.reduceLT, Int.reduceLE, Int.reduceGT, Int.reduceGE, Int.reduceEq, Int.reduceNe, Int.reduceBEq, Int.reduceBNe, Int.reduceAdd, Int.reduceSub, Int.reduceMul, Int.reduceToNat, Int.reduceNeg, ↓reduceIte, ↓reduceDIte, g1, g2, CallD.cells]
  by_cases h : o.th = c.th
  · have h1 : (o.th == c.th) = true := by simpa using h
    simp -dsimp only [go_sem, Nat.reduceEqDiff, Nat.reduceAdd, Nat.reduceSub, Nat.reduceMul, Nat.reduceLeDiff, Nat.reduceLT, Nat.reduceBEq, Int.reduceLT, Int.reduceLE, Int.reduceGT, Int.reduceGE, Int.reduceEq, Int.reduceNe, Int.reduceBEq, Int.reduceBNe, Int.reduceAdd, Int.reduceSub, Int.reduceMul, Int.reduceToNat, Int.reduceNeg, ↓reduceIte, ↓reduceDIte, h1, g2, CallD.cells]
    refine CT_val meets_ev ?_
    simp -dsimp only [go_sem, Nat.reduceEqDiff, Nat.reduceAdd, Nat.reduceSub, Nat.reduceMul, Nat.reduceLeDiff, Nat.reduceLT, Nat.reduceBEq, Int.reduceLT, Int.reduceLE, Int.reduceGT, Int.reduceGE, Int.reduceEq, Int.reduceNe, Int.reduceBEq, Int.reduceBNe, Int.reduceAdd, Int.reduceSub, Int.reduceMul, Int.reduceToNat, Int.reduceNeg, ↓reduceIte, ↓reduceDIte]
    simp [twiceF, h]
    rfl
  · have h1 : (o.th == c.th) = false := by simpa using h
    simp -dsimp only [go_sem, Nat.reduceEqDiff, Nat.reduceAdd, Nat.reduceSub, Nat.reduceMul, Nat.reduceLeDiff, Nat.reduceLT, Nat.reduceBEq, Int.reduceLT, Int.reduceLE, Int.reduceGT, Int.reduceGE, Int.reduceEq, Int.reduceNe, Int.reduceBEq, Int.reduceBNe, Int.reduceAdd, Int.reduceSub, Int.reduceMul, Int.reduceToNat, Int.reduceNeg, ↓reduceIte, ↓reduceDIte, h1]
    simp [twiceF, h]
/-- The first ones of a slice. -/
theorem Sl.upto {m : Nat} {H : LHeap} {a : Option Addr} {c : List Value} (h : Sl m H a c) {n k cap : Nat} {kk : IntKind} (hm : 0 < m) (hn : c.length = n * m) (hk : k ≤ n) (h0 : 0 < n) (hc : n ≤ cap) :
    (∀ t, lslice (H ++ t) m (.slice a n cap) none (some (.int kk (k : Int))) none = some (.slice a k cap)) ∧ Sl m H a (c.take (k * m)) := by
  rcases h with ⟨rfl, rfl⟩ | ⟨b, o, ro, es, cc, rfl, g2, g3, g4, g5⟩
  · exact absurd (Nat.mul_eq_zero.1 hn.symm) (by omega)
  · refine ⟨fun t => ?_, .inr ⟨b, o, ro, es, cc, rfl, g2, ?_, ?_, g5⟩⟩
    · have e : (0 : Int) ≤ (k : Int) ∧ (k : Int) ≤ (cap : Int) := by omega
      have e2 : k ≤ cap := by omega
      simp [lslice, lbound, e, get_old g2 t, g5, hk, e2]
    · rw [List.length_take]; omega
    · rw [List.length_take, ← List.take_take, g4]
theorem flat_take {α : Type} {f : α → List Value} {m : Nat} (hf : ∀ a, (f a).length = m) : ∀ (l : List α) (i : Nat), (l.flatMap f).take (i * m) = (l.take i).flatMap f
  | [], i => by simp
  | x :: l, 0 => by simp
  | x :: l, i + 1 => by
    rw [List.flatMap_cons, Nat.succ_mul, Nat.add_comm, List.take_succ_cons, List.flatMap_cons, ← flat_take hf l i, ← hf x, List.take_length_add_append]
theorem index_ev {lim b n : Nat} {a : Option Addr} {c : CallD} {l : List CallD} {H : LHeap} (hb : H[b]? = some (.row false 0 c.cells)) (hs : Sl 8 H a (l.flatMap CallD.cells)) (hn : l.length < 1000000) :
    callE T 54 lim [.slice a l.length n, .func (.func 40) #[] #[.pointer (some ⟨b, 0, none⟩)]] H fun v H' => ∃ k : Int, v = i64 k ∧ H' = H ∧ decide (0 ≤ k) = l.any (twiceF c) := by
  refine callE_pop rfl (by simp) rfl ?_
  simp -dsimp only [go_sem, Nat.reduceEqDiff, Nat.reduceAdd, Nat.reduceSub, Nat.reduceMul, Nat.reduceLeDiff, Nat.reduceLT, Nat.reduceBEq, Int.reduceLT, Int.reduceLE, Int.reduceGT, Int.reduceGE, Int.reduceEq, Int.reduceNe, Int.reduceBEq, Int.reduceBNe, Int.reduceAdd, Int.reduceSub, Int.reduceMul, Int.reduceToNat, Int.reduceNeg, ↓reduceIte, ↓reduceDIte]
  refine LT_of (fun i : Nat => [(0, .slice a l.length n), (1, .func (.func 40) #[] #[.pointer (some ⟨b, 0, none⟩)]), (7, i64 l.length), (8, i64 i)]) (fun _ => H) (fun i => i ≤ l.length ∧ ∀ k o, k < i → l[k]? = some o → twiceF c o = false) (fun i => l.length - i) 0 (by simp) rfl ⟨by omega, fun k o h => by omega⟩ ?_
  rintro i ⟨hi, hp⟩
  by_cases hlt : i < l.length
  · have h1 : (i : Int) < l.length := by omega
    have h3 : 0 ≤ (i : Int) := by omega
    have k2 : l[i]? = some (l[i]'hlt) := List.getElem?_eq_getElem _
    generalize l[i]'hlt = y at k2
    obtain ⟨b1, o1, rfl, hb1, hg1⟩ := hs.rows (f := CallD.cells) CallD.len (by omega) (by omega)
    have g1 := hg1 [] i y k2
    simp only [List.append_nil, CallD.cells] at g1
    have hw : IntKind.i64.wrap ((i : Int) + 1) = ((i + 1 : Nat) : Int) := by rw [wrap_i64] <;> omega
    simp -dsimp only [go_sem, Nat.reduceEqDiff, Nat.reduceAdd, Nat.reduceSub, Nat.reduceMul, Nat.reduceLeDiff, Nat.reduceLT, Nat.reduceBEq, Int.reduceLT, Int.reduceLE, Int.reduceGT, Int.reduceGE, Int.reduceEq, Int.reduceNe, Int.reduceBEq, Int.reduceBNe, Int.reduceAdd, Int.reduceSub, Int.reduceMul, Int.reduceToNat, Int.reduceNeg, ↓reduceIte, ↓reduceDIte, h1, h3, g1, hw]
    refine CT_val (twice_ev hb) ?_
    cases hq : twiceF c y
    · simp -dsimp only [go_sem, Nat.reduceEqDiff, Nat.reduceAdd, Nat.reduceSub, Nat.reduceMul, Nat.reduceLeDiff, Nat.reduceLT, Nat.reduceBEq, Int.reduceLT, Int.reduceLE, Int.reduceGT, Int.reduceGE, Int.reduceEq, Int.reduceNe, Int.reduceBEq, Int.reduceBNe, Int.reduceAdd, Int.reduceSub, Int.reduceMul, Int.reduceToNat, Int.reduceNeg, ↓reduceIte, ↓reduceDIte, hw]
      refine ⟨i + 1, rfl, ⟨by omega, fun k o hk ho => ?_⟩, by omega⟩
      by_cases hki : k < i
      · exact hp k o hki ho
      · obtain rfl : k = i := by omega
        rw [k2] at ho; cases ho; exact hq
    · simp -dsimp only [go_sem, Nat.reduceEqDiff, Nat.reduceAdd, Nat.reduceSub, Nat.reduceMul, Nat.reduceLeDiff, Nat.reduceLT, Nat.reduceBEq, Int.reduceLT, Int.reduceLE, Int.reduceGT, Int.reduceGE, Int.reduceEq, Int.reduceNe, Int.reduceBEq, Int.reduceBNe, Int.reduceAdd, Int.reduceSub, Int.reduceMul, Int.reduceToNat, Int.reduceNeg, ↓reduceIte, ↓reduceDIte]
      refine ⟨_, rfl, ?_⟩
      rw [List.any_eq_true.2 ⟨y, List.mem_of_getElem? k2, hq⟩]
      simp
  · have h1 : ¬ (i : Int) < l.length := by omega
    simp -dsimp only [go_sem, Nat.reduceEqDiff, Nat.reduceAdd, Nat.reduceSub, Nat.reduceMul, Nat.reduceLeDiff, Nat.reduceLT, Nat.reduceBEq, Int.reduceLT, Int.reduceLE, Int.reduceGT, Int.reduceGE, Int.reduceEq, Int.reduceNe, Int.reduceBEq, Int.reduceBNe, Int.reduceAdd, Int.reduceSub, Int.reduceMul, Int.reduceToNat, Int.reduceNeg, ↓reduceIte, ↓reduceDIte, h1]
    refine ⟨_, rfl, ?_⟩
    have : l.any (twiceF c) = false := by
      rw [List.any_eq_false]
      intro x hx
      obtain ⟨k, hk, rfl⟩ := List.getElem_of_mem hx
      rw [hp k _ (by omega) (List.getElem?_eq_getElem hk)]
      simp
    rw [this]; rfl
theorem contains_ev {lim b n : Nat} {a : Option Addr} {c : CallD} {l : List CallD} {H : LHeap} (hb : H[b]? = some (.row false 0 c.cells)) (hs : Sl 8 H a (l.flatMap CallD.cells)) (hn : l.length < 1000000) :
    callE T 43 lim [.slice a l.length n, .func (.func 40) #[] #[.pointer (some ⟨b, 0, none⟩)]] H fun v H' => v = .bool (l.any (twiceF c)) ∧ H' = H := by
  refine callE_pop rfl (by simp) rfl ?_
  simp -dsimp only [go_sem, Nat.reduceEqDiff, Nat.reduceAdd, Nat.reduceSub, Nat.reduceMul, Nat.reduceLeDiff, Nat.reduceLT, Nat.reduceBEq, Int.reduceLT, Int.reduceLE, Int.reduceGT, Int.reduceGE, Int.reduceEq, Int.reduceNe, Int.reduceBEq, Int.reduceBNe, Int.reduceAdd, Int.reduceSub, Int.reduceMul, Int.reduceToNat, Int.reduceNeg, ↓reduceIte, ↓reduceDIte]
  refine CT_of (index_ev hb hs hn) ?_
  rintro _ _ ⟨k, rfl, rfl, hk⟩
  rw [← hk]
  simp -dsimp only [go_sem, Nat.reduceEqDiff, Nat.reduceAdd, Nat.reduceSub, Nat.reduceMul, Nat.reduceLeDiff, Nat.reduceLT, Nat.reduceBEq, Int.reduceLT, Int.reduceLE, Int.reduceGT, Int.reduceGE, Int.reduceEq, Int.reduceNe, Int.reduceBEq, Int.reduceBNe, Int.reduceAdd, Int.reduceSub, Int.reduceMul, Int.reduceToNat, Int.reduceNeg, ↓reduceIte, ↓reduceDIte]
/-- Calls that may be those of threads, each of which does one at a time. -/
def okAt (l : List CallD) (i : Nat) : Bool := match l[i]? with | some c => rightF c && !(l.take i).any (twiceF c) | none => true
def rightL (l : List CallD) : Bool := decide (l.length ≤ 1024) && (List.range l.length).all (okAt l)
theorem right_cap {lim n : Nat} {a : Option Addr} {l : List CallD} {H : LHeap} (hcap : l.length ≤ n) (hs : Sl 8 H a (l.flatMap CallD.cells)) :
    callE T 25 lim [.slice a l.length n] H fun v H' => v = .bool (rightL l) ∧ H' = H := by
  refine callE_pop rfl (by simp) rfl ?_
  by_cases hn : l.length ≤ 1024
  · have k1 : ¬ (1024 < (l.length : Int)) := by omega
    simp -dsimp only [go_sem, Nat.reduceEqDiff, Nat.reduceAdd, Nat.reduceSub, Nat.reduceMul, Nat.reduceLeDiff, Nat.reduceLT, Nat.reduceBEq, Int.reduceLT, Int.reduceLE, Int.reduceGT, Int.reduceGE, Int.reduceEq, Int.reduceNe, Int.reduceBEq, Int.reduceBNe, Int.reduceAdd, Int.reduceSub, Int.reduceMul, Int.reduceToNat, Int.reduceNeg, ↓reduceIte, ↓reduceDIte, k1]
    refine LT_of (fun i : Nat × LHeap => [(0, .slice a l.length n), (9, .slice a l.length n), (10, i64 l.length), (11, i64 i.1)]) (fun i => H ++ i.2) (fun i => i.1 ≤ l.length ∧ ∀ k, k < i.1 → okAt l k = true) (fun i => l.length - i.1) (0, []) (by simp) (by simp) ⟨by simp, fun k h => by simp at h⟩ ?_
    rintro ⟨i, t⟩ ⟨hi, hp⟩
    simp only at hi hp ⊢
    by_cases hlt : i < l.length
    · have h1 : (i : Int) < l.length := by omega
      have h3 : 0 ≤ (i : Int) := by omega
      have k2 : l[i]? = some (l[i]'hlt) := List.getElem?_eq_getElem _
      generalize l[i]'hlt = y at k2
      obtain ⟨b1, o1, rfl, hb1, hg1⟩ := hs.rows (f := CallD.cells) CallD.len (by omega) (by omega)
      have g1 := fun t => hg1 t i y k2
      simp only [List.append_nil, CallD.cells] at g1
      have hw : IntKind.i64.wrap ((i : Int) + 1) = ((i + 1 : Nat) : Int) := by rw [wrap_i64] <;> omega
      simp -dsimp only [go_sem, Nat.reduceEqDiff, Nat.reduceAdd, Nat.reduceSub, Nat.reduceMul, Nat.reduceLeDiff, Nat.reduceLT, Nat.reduceBEq, Int.reduceLT, Int.reduceLE, Int.reduceGT, Int.reduceGE, Int.reduceEq, Int.reduceNe, Int.reduceBEq, Int.reduceBNe, Int.reduceAdd, Int.reduceSub, Int.reduceMul, Int.reduceToNat, Int.reduceNeg, ↓reduceIte, ↓reduceDIte, h1, h3, g1, hw]
      refine CT_val right1_ev ?_
      cases hr : rightF y
      · simp -dsimp only [go_sem, Nat.reduceEqDiff, Nat.reduceAdd, Nat.reduceSub, Nat.reduceMul, Nat.reduceLeDiff, Nat.reduceLT, Nat.reduceBEq, Int.reduceLT, Int.reduceLE, Int.reduceGT, Int.reduceGE, Int.reduceEq, Int.reduceNe, Int.reduceBEq, Int.reduceBNe, Int.reduceAdd, Int.reduceSub, Int.reduceMul, Int.reduceToNat, Int.reduceNeg, ↓reduceIte, ↓reduceDIte]
        have : okAt l i = false := by simp [okAt, k2, hr]
        have : rightL l = false := by
          rw [rightL, Bool.and_eq_false_iff]
          right
          rw [List.all_eq_false]
          exact ⟨i, List.mem_range.2 hlt, by simp [this]⟩
        rw [this]
      · obtain ⟨g2, g3⟩ := Sl.upto (kk := .i64) (n := l.length) (k := i) hs (by omega) (by rw [flat_len CallD.len]) (by omega) (by omega) hcap
        rw [flat_take CallD.len] at g3
        have hli : (l.take i).length = i := by simp; omega
        have hcon := fun H' (h1 : H'[H.length + t.length]? = some (.row false 0 y.cells)) (h2 : Sl 8 H' (some ⟨b1, o1, none⟩) ((l.take i).flatMap CallD.cells)) => contains_ev (lim := H.length) (n := n) h1 h2 (by omega)
        rw [hli] at hcon
        simp -dsimp only [go_sem, Nat.reduceEqDiff, Nat.reduceAdd, Nat.reduceSub, Nat.reduceMul, Nat.reduceLeDiff, Nat.reduceLT, Nat.reduceBEq, Int.reduceLT, Int.reduceLE, Int.reduceGT, Int.reduceGE, Int.reduceEq, Int.reduceNe, Int.reduceBEq, Int.reduceBNe, Int.reduceAdd, Int.reduceSub, Int.reduceMul, Int.reduceToNat, Int.reduceNeg, ↓reduceIte, ↓reduceDIte, g2]
        refine CT_val (hcon _ (by simp [CallD.cells]) (g3.into (by omega) (by simp [unbox_app, unbox_cons, unboxO_box]))) ?_
        cases hc : (l.take i).any (twiceF y)
        · simp -dsimp only [go_sem, Nat.reduceEqDiff, Nat.reduceAdd, Nat.reduceSub, Nat.reduceMul, Nat.reduceLeDiff, Nat.reduceLT, Nat.reduceBEq, Int.reduceLT, Int.reduceLE, Int.reduceGT, Int.reduceGE, Int.reduceEq, Int.reduceNe, Int.reduceBEq, Int.reduceBNe, Int.reduceAdd, Int.reduceSub, Int.reduceMul, Int.reduceToNat, Int.reduceNeg, ↓reduceIte, ↓reduceDIte, hw]
          refine ⟨(i + 1, _), rfl, rfl, ⟨by dsimp only; omega, fun k hk => ?_⟩, by dsimp only; omega⟩
          by_cases hki : k < i
          · exact hp k hki
          · obtain rfl : k = i := by dsimp only at hk; omega
            simp [okAt, k2, hr, hc]
        · simp -dsimp only [go_sem, Nat.reduceEqDiff, Nat.reduceAdd, Nat.reduceSub, Nat.reduceMul, Nat.reduceLeDiff, Nat.reduceLT, Nat.reduceBEq, Int.reduceLT, Int.reduceLE, Int.reduceGT, Int.reduceGE, Int.reduceEq, Int.reduceNe, Int.reduceBEq, Int.reduceBNe, Int.reduceAdd, Int.reduceSub, Int.reduceMul, Int.reduceToNat, Int.reduceNeg, ↓reduceIte, ↓reduceDIte]
          have : okAt l i = false := by simp [okAt, k2, hr, hc]
          have : rightL l = false := by
            rw [rightL, Bool.and_eq_false_iff]
            right
            rw [List.all_eq_false]
            exact ⟨i, List.mem_range.2 hlt, by simp [this]⟩
          rw [this]
    · have h1 : ¬ (i : Int) < l.length := by omega
      simp -dsimp only [go_sem, Nat.reduceEqDiff, Nat.reduceAdd, Nat.reduceSub, Nat.reduceMul, Nat.reduceLeDiff, Nat.reduceLT, Nat.reduceBEq, Int.reduceLT, Int.reduceLE, Int.reduceGT, Int.reduceGE, Int.reduceEq, Int.reduceNe, Int.reduceBEq, Int.reduceBNe, Int.reduceAdd, Int.reduceSub, Int.reduceMul, Int.reduceToNat, Int.reduceNeg, ↓reduceIte, ↓reduceDIte, h1]
      have : rightL l = true := by
        rw [rightL, Bool.and_eq_true, List.all_eq_true]
        exact ⟨by simpa using hn, fun k hk => hp k (by have := List.mem_range.1 hk; omega)⟩
      rw [this]
  · have k1 : (1024 < (l.length : Int)) := by omega
    simp -dsimp only [go_sem, Nat.reduceEqDiff, Nat.reduceAdd, Nat.reduceSub, Nat.reduceMul, Nat.reduceLeDiff, Nat.reduceLT, Nat.reduceBEq, Int.reduceLT, Int.reduceLE, Int.reduceGT, Int.reduceGE, Int.reduceEq, Int.reduceNe, Int.reduceBEq, Int.reduceBNe, Int.reduceAdd, Int.reduceSub, Int.reduceMul, Int.reduceToNat, Int.reduceNeg, ↓reduceIte, ↓reduceDIte, k1]
    simp [rightL, hn]
theorem right_ev {lim : Nat} {a : Option Addr} {l : List CallD} {H : LHeap} (hs : Sl 8 H a (l.flatMap CallD.cells)) :
    callE T 25 lim [.slice a l.length l.length] H fun v H' => v = .bool (rightL l) ∧ H' = H := right_cap (Nat.le_refl _) hs
