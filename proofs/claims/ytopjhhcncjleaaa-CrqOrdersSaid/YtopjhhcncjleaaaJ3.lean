/- DROP Calls of threads: plain, and worked out. -/
import Derived.Test.YtopjhhcncjleaaaC1
namespace Go.Proofs.Ytopjhhcncjleaaa
open Go Go.LK
set_option linter.unusedSimpArgs false
set_option linter.unusedVariables false
structure CallD where
  th : Int
  kind : Int
  arg : BitVec 64
  fr : Int
  to : Int
  dn : Bool
  code : Int
  ret : BitVec 64
def CallD.cells (c : CallD) : List Value := [.int .i64 c.th, .int .i64 c.kind, w64 c.arg, .int .i64 c.fr, .int .i64 c.to, .bool c.dn, .int .i64 c.code, w64 c.ret]
theorem CallD.len (c : CallD) : c.cells.length = 8 := rfl
def CallD.Ok (c : CallD) : Prop := (-9223372036854775808 ≤ c.th ∧ c.th ≤ 9223372036854775807) ∧ (-9223372036854775808 ≤ c.kind ∧ c.kind ≤ 9223372036854775807) ∧ (-9223372036854775808 ≤ c.fr ∧ c.fr ≤ 9223372036854775807) ∧ (-9223372036854775808 ≤ c.to ∧ c.to ≤ 9223372036854775807) ∧ (-9223372036854775808 ≤ c.code ∧ c.code ≤ 9223372036854775807)
theorem CallD.row (r : List Value) (h_0 : Row2 CellIs [.int .i64, .int .i64, .int .u64, .int .i64, .int .i64, .bool, .int .i64, .int .u64] r) : ∃ x, r = CallD.cells x ∧ CallD.Ok x := by
  obtain ⟨_, _, rfl, k0, h_1⟩ := row_cons h_0
  obtain ⟨x0, rfl, y0⟩ := is_i64 k0
  obtain ⟨_, _, rfl, k1, h_2⟩ := row_cons h_1
  obtain ⟨x1, rfl, y1⟩ := is_i64 k1
  obtain ⟨_, _, rfl, k2, h_3⟩ := row_cons h_2
  obtain ⟨x2, rfl⟩ := is_u64 k2
  obtain ⟨_, _, rfl, k3, h_4⟩ := row_cons h_3
  obtain ⟨x3, rfl, y3⟩ := is_i64 k3
  obtain ⟨_, _, rfl, k4, h_5⟩ := row_cons h_4
  obtain ⟨x4, rfl, y4⟩ := is_i64 k4
  obtain ⟨_, _, rfl, k5, h_6⟩ := row_cons h_5
  obtain ⟨x5, rfl⟩ := is_bool k5
  obtain ⟨_, _, rfl, k6, h_7⟩ := row_cons h_6
  obtain ⟨x6, rfl, y6⟩ := is_i64 k6
  obtain ⟨_, _, rfl, k7, h_8⟩ := row_cons h_7
  obtain ⟨x7, rfl⟩ := is_u64 k7
  obtain rfl := row_nil h_8
  exact ⟨⟨x0, x1, x2, x3, x4, x5, x6, x7⟩, rfl, ⟨y0, y1, y3, y4, y6⟩⟩

abbrev CallD.v (c : CallD) : Value := .agg #[i64 c.th, i64 c.kind, w64 c.arg, i64 c.fr, i64 c.to, .bool c.dn, i64 c.code, w64 c.ret]
def aheadF (a b : CallD) : Bool := a.dn && decide (a.to < b.fr)
def meetsF (a b : CallD) : Bool := !aheadF a b && !aheadF b a
def rightF (c : CallD) : Bool :=
  if c.th < 0 ∨ 64 ≤ c.th ∨ c.fr < 0 then false
  else if c.dn = true then decide (c.fr ≤ c.to)
  else decide (c.to = 0 ∧ c.code = 0 ∧ c.ret = 0#64)
def twiceF (c o : CallD) : Bool := decide (o.th = c.th) && meetsF o c
theorem ahead_ev {lim : Nat} {a b : CallD} {H : LHeap} : callE T 36 lim [a.v, b.v] H fun v H' => v = .bool (aheadF a b) ∧ H' = H := by
  refine callE_pop rfl (by simp) rfl ?_
  simp -dsimp only [go_sem, Nat.reduceEqDiff, Nat.reduceAdd, Nat.reduceSub, Nat.reduceMul, Nat.reduceLeDiff, Nat.reduceLT, Nat.reduceBEq, Int.reduceLT, Int.reduceLE, Int.reduceGT, Int.reduceGE, Int.reduceEq, Int.reduceNe, Int.reduceBEq, Int.reduceBNe, Int.reduceAdd, Int.reduceSub, Int.reduceMul, Int.reduceToNat, Int.reduceNeg, ↓reduceIte, ↓reduceDIte]
  (repeat' (first | (refine BT_beq (fun hc => ?_) (fun hc hc2 => ?_) <;> simp -dsimp only [go_sem, Nat.reduceEqDiff, Nat.reduceAdd, Nat.reduceSub, Nat.reduceMul, Nat.reduceLeDiff, Nat.reduceLT, Nat.reduceBEq, Int.reduceLT, Int.reduceLE, Int.reduceGT, Int.reduceGE, Int.reduceEq, Int.reduceNe, Int.reduceBEq, Int.reduceBNe, Int.reduceAdd, Int.reduceSub, Int.reduceMul, Int.reduceToNat, Int.reduceNeg, ↓reduceIte, ↓reduceDIte, *]) | (refine GT_beqT (fun hc => ?_) (fun hc hc2 => ?_) <;> simp -dsimp only [go_sem, Nat.reduceEqDiff, Nat.reduceAdd, Nat.reduceSub, Nat.reduceMul, Nat.reduceLeDiff, Nat.reduceLT, Nat.reduceBEq, Int.reduceLT, Int.reduceLE, Int.reduceGT, Int.reduceGE, Int.reduceEq, Int.reduceNe, Int.reduceBEq, Int.reduceBNe, Int.reduceAdd, Int.reduceSub, Int.reduceMul, Int.reduceToNat, Int.reduceNeg, ↓reduceIte, ↓reduceDIte, *]) | (refine GT_beqF (fun hc hc2 => ?_) (fun hc => ?_) <;> simp -dsimp only [go_sem, Nat.reduceEqDiff, Nat.reduceAdd, Nat.reduceSub, Nat.reduceMul, Nat.reduceLeDiff, Nat.reduceLT, Nat.reduceBEq, Int.reduceLT, Int.reduceLE, Int.reduceGT, Int.reduceGE, Int.reduceEq, Int.reduceNe, Int.reduceBEq, Int.reduceBNe, Int.reduceAdd, Int.reduceSub, Int.reduceMul, Int.reduceToNat, Int.reduceNeg, ↓reduceIte, ↓reduceDIte, *]) | (refine BT_bne (fun hc hc1 hc2 => ?_) (fun hc => ?_) <;> simp -dsimp only [go_sem, Nat.reduceEqDiff, Nat.reduceAdd, Nat.reduceSub, Nat.reduceMul, Nat.reduceLeDiff, Nat.reduceLT, Nat.reduceBEq, Int.reduceLT, Int.reduceLE, Int.reduceGT, Int.reduceGE, Int.reduceEq, Int.reduceNe, Int.reduceBEq, Int.reduceBNe, Int.reduceAdd, Int.reduceSub, Int.reduceMul, Int.reduceToNat, Int.reduceNeg, ↓reduceIte, ↓reduceDIte, *]) | (refine GT_bneT (fun hc hc1 hc2 => ?_) (fun hc => ?_) <;> simp -dsimp only [go_sem, Nat.reduceEqDiff, Nat.reduceAdd, Nat.reduceSub, Nat.reduceMul, Nat.reduceLeDiff, Nat.reduceLT, Nat.reduceBEq, Int.reduceLT, Int.reduceLE, Int.reduceGT, Int.reduceGE, Int.reduceEq, Int.reduceNe, Int.reduceBEq, Int.reduceBNe, Int.reduceAdd, Int.reduceSub, Int.reduceMul, Int.reduceToNat, Int.reduceNeg, ↓reduceIte, ↓reduceDIte, *]) | (refine GT_bneF (fun hc => ?_) (fun hc hc1 hc2 => ?_) <;> simp -dsimp only [go_sem, Nat.reduceEqDiff, Nat.reduceAdd, Nat.reduceSub, Nat.reduceMul, Nat.reduceLeDiff, Nat.reduceLT, Nat.reduceBEq, Int.reduceLT, Int.reduceLE, Int.reduceGT, Int.reduceGE, Int.reduceEq, Int.reduceNe, Int.reduceBEq, Int.reduceBNe, Int.reduceAdd, Int.reduceSub, Int.reduceMul, Int.reduceToNat, Int.reduceNeg, ↓reduceIte, ↓reduceDIte, *]) | (refine BT_not (fun hc => ?_) (fun hc => ?_) <;> simp -dsimp only [go_sem, Nat.reduceEqDiff, Nat.reduceAdd, Nat.reduceSub, Nat.reduceMul, Nat.reduceLeDiff, Nat.reduceLT, Nat.reduceBEq, Int.reduceLT, Int.reduceLE, Int.reduceGT, Int.reduceGE, Int.reduceEq, Int.reduceNe, Int.reduceBEq, Int.reduceBNe, Int.reduceAdd, Int.reduceSub, Int.reduceMul, Int.reduceToNat, Int.reduceNeg, ↓reduceIte, ↓reduceDIte, *]) | (refine GT_notT (fun hc => ?_) (fun hc => ?_) <;> simp -dsimp only [go_sem, Nat.reduceEqDiff, Nat.reduceAdd, Nat.reduceSub, Nat.reduceMul, Nat.reduceLeDiff, Nat.reduceLT, Nat.reduceBEq, Int.reduceLT, Int.reduceLE, Int.reduceGT, Int.reduceGE, Int.reduceEq, Int.reduceNe, Int.reduceBEq, Int.reduceBNe, Int.reduceAdd, Int.reduceSub, Int.reduceMul, Int.reduceToNat, Int.reduceNeg, ↓reduceIte, ↓reduceDIte, *]) | (refine GT_notF (fun hc => ?_) (fun hc => ?_) <;> simp -dsimp only [go_sem, Nat.reduceEqDiff, Nat.reduceAdd, Nat.reduceSub, Nat.reduceMul, Nat.reduceLeDiff, Nat.reduceLT, Nat.reduceBEq, Int.reduceLT, Int.reduceLE, Int.reduceGT, Int.reduceGE, Int.reduceEq, Int.reduceNe, Int.reduceBEq, Int.reduceBNe, Int.reduceAdd, Int.reduceSub, Int.reduceMul, Int.reduceToNat, Int.reduceNeg, ↓reduceIte, ↓reduceDIte, *]) | (refine BT_dec (fun hc => ?_) (fun hc => ?_) <;> simp -dsimp only [go_sem, Nat.reduceEqDiff, Nat.reduceAdd, Nat.reduceSub, Nat.reduceMul, Nat.reduceLeDiff, Nat.reduceLT, Nat.reduceBEq, Int.reduceLT, Int.reduceLE, Int.reduceGT, Int.reduceGE, Int.reduceEq, Int.reduceNe, Int.reduceBEq, Int.reduceBNe, Int.reduceAdd, Int.reduceSub, Int.reduceMul, Int.reduceToNat, Int.reduceNeg, ↓reduceIte, ↓reduceDIte, *]) | (refine GT_decT (fun hc => ?_) (fun hc => ?_) <;> simp -dsimp only [go_sem, Nat.reduceEqDiff, Nat.reduceAdd, Nat.reduceSub, Nat.reduceMul, Nat.reduceLeDiff, Nat.reduceLT, Nat.reduceBEq, Int.reduceLT, Int.reduceLE, Int.reduceGT, Int.reduceGE, Int.reduceEq, Int.reduceNe, Int.reduceBEq, Int.reduceBNe, Int.reduceAdd, Int.reduceSub, Int.reduceMul, Int.reduceToNat, Int.reduceNeg, ↓reduceIte, ↓reduceDIte, *]) | (refine GT_decF (fun hc => ?_) (fun hc => ?_) <;> simp -dsimp only [go_sem, Nat.reduceEqDiff, Nat.reduceAdd, Nat.reduceSub, Nat.reduceMul, Nat.reduceLeDiff, Nat.reduceLT, Nat.reduceBEq, Int.reduceLT, Int.reduceLE, Int.reduceGT, Int.reduceGE, Int.reduceEq, Int.reduceNe, Int.reduceBEq, Int.reduceBNe, Int.reduceAdd, Int.reduceSub, Int.reduceMul, Int.reduceToNat, Int.reduceNeg, ↓reduceIte, ↓reduceDIte, *]) | (refine BT_intro (fun hc => ?_) (fun hc => ?_) <;> simp -dsimp only [go_sem, Nat.reduceEqDiff, Nat.reduceAdd, Nat.reduceSub, Nat.reduceMul, Nat.reduceLeDiff, Nat.reduceLT, Nat.reduceBEq, Int.reduceLT, Int.reduceLE, Int.reduceGT, Int.reduceGE, Int.reduceEq, Int.reduceNe, Int.reduceBEq, Int.reduceBNe, Int.reduceAdd, Int.reduceSub, Int.reduceMul, Int.reduceToNat, Int.reduceNeg, ↓reduceIte, ↓reduceDIte, *]) | (refine GT_introT (fun hc => ?_) (fun hc => ?_) <;> simp -dsimp only [go_sem, Nat.reduceEqDiff, Nat.reduceAdd, Nat.reduceSub, Nat.reduceMul, Nat.reduceLeDiff, Nat.reduceLT, Nat.reduceBEq, Int.reduceLT, Int.reduceLE, Int.reduceGT, Int.reduceGE, Int.reduceEq, Int.reduceNe, Int.reduceBEq, Int.reduceBNe, Int.reduceAdd, Int.reduceSub, Int.reduceMul, Int.reduceToNat, Int.reduceNeg, ↓reduceIte, ↓reduceDIte, *]) | (refine GT_introF (fun hc => ?_) (fun hc => ?_) <;> simp -dsimp only [go_sem, Nat.reduceEqDiff, Nat.reduceAdd, Nat.reduceSub, Nat.reduceMul, Nat.reduceLeDiff, Nat.reduceLT, Nat.reduceBEq, Int.reduceLT, Int.reduceLE, Int.reduceGT, Int.reduceGE, Int.reduceEq, Int.reduceNe, Int.reduceBEq, Int.reduceBNe, Int.reduceAdd, Int.reduceSub, Int.reduceMul, Int.reduceToNat, Int.reduceNeg, ↓reduceIte, ↓reduceDIte, *])))
  all_goals simp [aheadF, *]
theorem meets_ev {lim : Nat} {a b : CallD} {H : LHeap} : callE T 97 lim [a.v, b.v] H fun v H' => v = .bool (meetsF a b) ∧ H' = H := by
  refine callE_pop rfl (by simp) rfl ?_
  simp -dsimp only [go_sem, Nat.reduceEqDiff, Nat.reduceAdd, Nat.reduceSub, Nat.reduceMul, Nat.reduceLeDiff, Nat.reduceLT, Nat.reduceBEq, Int.reduceLT, Int.reduceLE, Int.reduceGT, Int.reduceGE, Int.reduceEq, Int.reduceNe, Int.reduceBEq, Int.reduceBNe, Int.reduceAdd, Int.reduceSub, Int.reduceMul, Int.reduceToNat, Int.reduceNeg, ↓reduceIte, ↓reduceDIte]
  refine CT_val ahead_ev ?_
  simp -dsimp only [go_sem, Nat.reduceEqDiff, Nat.reduceAdd, Nat.reduceSub, Nat.reduceMul, Nat.reduceLeDiff, Nat.reduceLT, Nat.reduceBEq, Int.reduceLT, Int.reduceLE, Int.reduceGT, Int.reduceGE, Int.reduceEq, Int.reduceNe, Int.reduceBEq, Int.reduceBNe, Int.reduceAdd, Int.reduceSub, Int.reduceMul, Int.reduceToNat, Int.reduceNeg, ↓reduceIte, ↓reduceDIte]
  cases h : aheadF a b
  · simp -dsimp only [go_sem, Nat.reduceEqDiff, Nat.reduceAdd, Nat.reduceSub, Nat.reduceMul, Nat.reduceLeDiff, Nat.reduceLT, Nat.reduceBEq, Int.reduceLT, Int.reduceLE, Int.reduceGT, Int.reduceGE, Int.reduceEq, Int.reduceNe, Int.reduceBEq, Int.reduceBNe, Int.reduceAdd, Int.reduceSub, Int.reduceMul, Int.reduceToNat, Int.reduceNeg, ↓reduceIte, ↓reduceDIte]
    refine CT_val ahead_ev ?_
    simp -dsimp only [go_sem, Nat.reduceEqDiff, Nat.reduceAdd, Nat.reduceSub, Nat.reduceMul, Nat.reduceLeDiff, Nat.reduceLT, Nat.reduceBEq, Int.reduceLT, Int.reduceLE, Int.reduceGT, Int.reduceGE, Int.reduceEq, Int.reduceNe, Int.reduceBEq, Int.reduceBNe, Int.reduceAdd, Int.reduceSub, Int.reduceMul, Int.reduceToNat, Int.reduceNeg, ↓reduceIte, ↓reduceDIte]
    simp [meetsF, h]
  · simp -dsimp only [go_sem, Nat.reduceEqDiff, Nat.reduceAdd, Nat.reduceSub, Nat.reduceMul, Nat.reduceLeDiff, Nat.reduceLT, Nat.reduceBEq, Int.reduceLT, Int.reduceLE, Int.reduceGT, Int.reduceGE, Int.reduceEq, Int.reduceNe, Int.reduceBEq, Int.reduceBNe, Int.reduceAdd, Int.reduceSub, Int.reduceMul, Int.reduceToNat, Int.reduceNeg, ↓reduceIte, ↓reduceDIte]
    simp [meetsF, h]
theorem right1_ev {lim : Nat} {c : CallD} {H : LHeap} : callE T 98 lim [c.v] H fun v H' => v = .bool (rightF c) ∧ H' = H := by
  refine callE_pop rfl (by simp) rfl ?_
  obtain ⟨th, kind, arg, fr, to, dn, code, ret⟩ := c
  simp -dsimp only [go_sem, Nat.reduceEqDiff, Nat.reduceAdd, Nat.reduceSub, Nat.reduceMul, Nat.reduceLeDiff, Nat.reduceLT, Nat.reduceBEq, Int.reduceLT, Int.reduceLE, Int.reduceGT, Int.reduceGE, Int.reduceEq, Int.reduceNe, Int.reduceBEq, Int.reduceBNe, Int.reduceAdd, Int.reduceSub, Int.reduceMul, Int.reduceToNat, Int.reduceNeg, ↓reduceIte, ↓reduceDIte]
  (repeat' (first | (refine BT_beq (fun hc => ?_) (fun hc hc2 => ?_) <;> simp -dsimp only [go_sem, Nat.reduceEqDiff, Nat.reduceAdd, Nat.reduceSub, Nat.reduceMul, Nat.reduceLeDiff, Nat.reduceLT, Nat.reduceBEq, Int.reduceLT, Int.reduceLE, Int.reduceGT, Int.reduceGE, Int.reduceEq, Int.reduceNe, Int.reduceBEq, Int.reduceBNe, Int.reduceAdd, Int.reduceSub, Int.reduceMul, Int.reduceToNat, Int.reduceNeg, ↓reduceIte, ↓reduceDIte, rightF, *]) | (refine GT_beqT (fun hc => ?_) (fun hc hc2 => ?_) <;> simp -dsimp only [go_sem, Nat.reduceEqDiff, Nat.reduceAdd, Nat.reduceSub, Nat.reduceMul, Nat.reduceLeDiff, Nat.reduceLT, Nat.reduceBEq, Int.reduceLT, Int.reduceLE, Int.reduceGT, Int.reduceGE, Int.reduceEq, Int.reduceNe, Int.reduceBEq, Int.reduceBNe, Int.reduceAdd, Int.reduceSub, Int.reduceMul, Int.reduceToNat, Int.reduceNeg, ↓reduceIte, ↓reduceDIte, rightF, *]) | (refine GT_beqF (fun hc hc2 => ?_) (fun hc => ?_) <;> simp -dsimp only [go_sem, Nat.reduceEqDiff, Nat.reduceAdd, Nat.reduceSub, Nat.reduceMul, Nat.reduceLeDiff, Nat.reduceLT, Nat.reduceBEq, Int.reduceLT, Int.reduceLE, Int.reduceGT, Int.reduceGE, Int.reduceEq, Int.reduceNe, Int.reduceBEq, Int.reduceBNe, Int.reduceAdd, Int.reduceSub, Int.reduceMul, Int.reduceToNat, Int.reduceNeg, ↓reduceIte, ↓reduceDIte, rightF, *]) | (refine BT_bne (fun hc hc1 hc2 => ?_) (fun hc => ?_) <;> simp -dsimp only [go_sem, Nat.reduceEqDiff, Nat.reduceAdd, Nat.reduceSub, Nat.reduceMul, Nat.reduceLeDiff, Nat.reduceLT, Nat.reduceBEq, Int.reduceLT, Int.reduceLE, Int.reduceGT, Int.reduceGE, Int.reduceEq, Int.reduceNe, Int.reduceBEq, Int.reduceBNe, Int.reduceAdd, Int.reduceSub, Int.reduceMul, Int.reduceToNat, Int.reduceNeg, ↓reduceIte, ↓reduceDIte, rightF, *]) | (refine GT_bneT (fun hc hc1 hc2 => ?_) (fun hc => ?_) <;> simp -dsimp only [go_sem, Nat.reduceEqDiff, Nat.reduceAdd, Nat.reduceSub, Nat.reduceMul, Nat.reduceLeDiff, Nat.reduceLT, Nat.reduceBEq, Int.reduceLT, Int.reduceLE, Int.reduceGT, Int.reduceGE, Int.reduceEq, Int.reduceNe, Int.reduceBEq, Int.reduceBNe, Int.reduceAdd, Int.reduceSub, Int.reduceMul, Int.reduceToNat, Int.reduceNeg, ↓reduceIte, ↓reduceDIte, rightF, *]) | (refine GT_bneF (fun hc => ?_) (fun hc hc1 hc2 => ?_) <;> simp -dsimp only [go_sem, Nat.reduceEqDiff, Nat.reduceAdd, Nat.reduceSub, Nat.reduceMul, Nat.reduceLeDiff, Nat.reduceLT, Nat.reduceBEq, Int.reduceLT, Int.reduceLE, Int.reduceGT, Int.reduceGE, Int.reduceEq, Int.reduceNe, Int.reduceBEq, Int.reduceBNe, Int.reduceAdd, Int.reduceSub, Int.reduceMul, Int.reduceToNat, Int.reduceNeg, ↓reduceIte, ↓reduceDIte, rightF, *]) | (refine BT_not (fun hc => ?_) (fun hc => ?_) <;> simp -dsimp only [go_sem, Nat.reduceEqDiff, Nat.reduceAdd, Nat.reduceSub, Nat.reduceMul, Nat.reduceLeDiff, Nat.reduceLT, Nat.reduceBEq, Int.reduceLT, Int.reduceLE, Int.reduceGT, Int.reduceGE, Int.reduceEq, Int.reduceNe, Int.reduceBEq, Int.reduceBNe, Int.reduceAdd, Int.reduceSub, Int.reduceMul, Int.reduceToNat, Int.reduceNeg, ↓reduceIte, ↓reduceDIte, rightF, *]) | (refine GT_notT (fun hc => ?_) (fun hc => ?_) <;> simp -dsimp only [go_sem, Nat.reduceEqDiff, Nat.reduceAdd, Nat.reduceSub, Nat.reduceMul, Nat.reduceLeDiff, Nat.reduceLT, Nat.reduceBEq, Int.reduceLT, Int.reduceLE, Int.reduceGT, Int.reduceGE, Int.reduceEq, Int.reduceNe, Int.reduceBEq, Int.reduceBNe, Int.reduceAdd, Int.reduceSub, Int.reduceMul, Int.reduceToNat, Int.reduceNeg, ↓reduceIte, ↓reduceDIte, rightF, *]) | (refine GT_notF (fun hc => ?_) (fun hc => ?_) <;> simp -dsimp only [go_sem, Nat.reduceEqDiff, Nat.reduceAdd, Nat.reduceSub, Nat.reduceMul, Nat.reduceLeDiff, Nat.reduceLT, Nat.reduceBEq, Int.reduceLT, Int.reduceLE, Int.reduceGT, Int.reduceGE, Int.reduceEq, Int.reduceNe, Int.reduceBEq, Int.reduceBNe, Int.reduceAdd, Int.reduceSub, Int.reduceMul, Int.reduceToNat, Int.reduceNeg, ↓reduceIte, ↓reduceDIte, rightF, *]) | (refine BT_dec (fun hc => ?_) (fun hc => ?_) <;> simp -dsimp only [go_sem, Nat.reduceEqDiff, Nat.reduceAdd, Nat.reduceSub, Nat.reduceMul, Nat.reduceLeDiff, Nat.reduceLT, Nat.reduceBEq, Int.reduceLT, Int.reduceLE, Int.reduceGT, Int.reduceGE, Int.reduceEq, Int.reduceNe, Int.reduceBEq, Int.reduceBNe, Int.reduceAdd, Int.reduceSub, Int.reduceMul, Int.reduceToNat, Int.reduceNeg, ↓reduceIte, ↓reduceDIte, rightF, *]) | (refine GT_decT (fun hc => ?_) (fun hc => ?_) <;> simp -dsimp only [go_sem, Nat.reduceEqDiff, Nat.reduceAdd, Nat.reduceSub, Nat.reduceMul, Nat.reduceLeDiff, Nat.reduceLT, Nat.reduceBEq, Int.reduceLT, Int.reduceLE, Int.reduceGT, Int.reduceGE, Int.reduceEq, Int.reduceNe, Int.reduceBEq, Int.reduceBNe, Int.reduceAdd, Int.reduceSub, Int.reduceMul, Int.reduceToNat, Int.reduceNeg, ↓reduceIte, ↓reduceDIte, rightF, *]) | (refine GT_decF (fun hc => ?_) (fun hc => ?_) <;> simp -dsimp only [go_sem, Nat.reduceEqDiff, Nat.reduceAdd, Nat.reduceSub, Nat.reduceMul, Nat.reduceLeDiff, Nat.reduceLT, Nat.reduceBEq, Int.reduceLT, Int.reduceLE, Int.reduceGT, Int.reduceGE, Int.reduceEq, Int.reduceNe, Int.reduceBEq, Int.reduceBNe, Int.reduceAdd, Int.reduceSub, Int.reduceMul, Int.reduceToNat, Int.reduceNeg, ↓reduceIte, ↓reduceDIte, rightF, *]) | (refine BT_intro (fun hc => ?_) (fun hc => ?_) <;> simp -dsimp only [go_sem, Nat.reduceEqDiff, Nat.reduceAdd, Nat.reduceSub, Nat.reduceMul, Nat.reduceLeDiff, Nat.reduceLT, Nat.reduceBEq, Int.reduceLT, Int.reduceLE, Int.reduceGT, Int.reduceGE, Int.reduceEq, Int.reduceNe, Int.reduceBEq, Int.reduceBNe, Int.reduceAdd, Int.reduceSub, Int.reduceMul, Int.reduceToNat, Int.reduceNeg, ↓reduceIte, ↓reduceDIte, rightF, *]) | (refine GT_introT (fun hc => ?_) (fun hc => ?_) <;> simp -dsimp only [go_sem, Nat.reduceEqDiff, Nat.reduceAdd, Nat.reduceSub, Nat.reduceMul, Nat.reduceLeDiff, Nat.reduceLT, Nat.reduceBEq, Int.reduceLT, Int.reduceLE, Int.reduceGT, Int.reduceGE, Int.reduceEq, Int.reduceNe, Int.reduceBEq, Int.reduceBNe, Int.reduceAdd, Int.reduceSub, Int.reduceMul, Int.reduceToNat, Int.reduceNeg, ↓reduceIte, ↓reduceDIte, rightF, *]) | (refine GT_introF (fun hc => ?_) (fun hc => ?_) <;> simp -dsimp only [go_sem, Nat.reduceEqDiff, Nat.reduceAdd, Nat.reduceSub, Nat.reduceMul, Nat.reduceLeDiff, Nat.reduceLT, Nat.reduceBEq, Int.reduceLT, Int.reduceLE, Int.reduceGT, Int.reduceGE, Int.reduceEq, Int.reduceNe, Int.reduceBEq, Int.reduceBNe, Int.reduceAdd, Int.reduceSub, Int.reduceMul, Int.reduceToNat, Int.reduceNeg, ↓reduceIte, ↓reduceDIte, rightF, *])))
  all_goals first | (simp [rightF, *]; done) | (simp [rightF, *]; rfl)
theorem twice_ev {lim b : Nat} {c o : CallD} {H : LHeap} (hb : H[b]? = some (.row false 0 c.cells)) : callE T 96 lim [o.v, .pointer (some ⟨b, 0, none⟩)] H fun v H' => v = .bool (twiceF c o) ∧ H' = H := by
  refine callE_pop rfl (by simp) rfl ?_
  have g1 : ∀ t, lget (H ++ t) b 0 = some (i64 c.th) := fun t => lget_at (get_old hb t) 0
  have g2 : ∀ t, lcells (H ++ t) b 0 8 = some c.cells := fun t => lcells_of (get_old hb t) rfl
  simp -dsimp only [go_sem, Nat.reduceEqDiff, Nat.reduceAdd, Nat.reduceSub, Nat.reduceMul, Nat.reduceLeDiff, Nat.reduceLT, Nat.reduceBEq, Int.reduceLT, Int.reduceLE, Int.reduceGT, Int.reduceGE, Int.reduceEq, Int.reduceNe, Int.reduceBEq, Int.reduceBNe, Int.reduceAdd, Int.reduceSub, Int.reduceMul, Int.reduceToNat, Int.reduceNeg, ↓reduceIte, ↓reduceDIte, g1, g2, CallD.cells]
  by_cases h : o.th = c.th
  · have h1 : (o.th == c.th) = true := by simpa using h
    simp -dsimp only [go_sem, Nat.reduceEqDiff, Nat.reduceAdd, Nat.reduceSub, Nat.reduceMul, Nat.reduceLeDiff, Nat.reduceLT, Nat.reduceBEq, Int.reduceLT, Int.reduceLE, Int.reduceGT, Int.reduceGE, Int.reduceEq, Int.reduceNe, Int.reduceBEq, Int.reduceBNe, Int.reduceAdd, Int.reduceSub, Int.reduceMul, Int.reduceToNat, Int.reduceNeg, ↓reduceIte, ↓reduceDIte, h1, g2, CallD.cells]
    refine CT_val meets_ev ?_
    simp -dsimp only [go_sem, Nat.reduceEqDiff, Nat.reduceAdd, Nat.reduceSub, Nat.reduceMul, Nat.reduceLeDiff, Nat.reduceLT, Nat.reduceBEq, Int.reduceLT, Int.reduceLE, Int.reduceGT, Int.reduceGE, Int.reduceEq, Int.reduceNe, Int.reduceBEq, Int.reduceBNe, Int.reduceAdd, Int.reduceSub, Int.reduceMul, Int.reduceToNat, Int.reduceNeg, ↓reduceIte, ↓reduceDIte]
    simp [twiceF, h]
    rfl
  · have h1 : (o.th == c.th) = false := by simpa using h
    simp -dsimp only [go_sem, Nat.reduceEqDiff, Nat.reduceAdd, Nat.reduceSub, Nat.reduceMul, Nat.reduceLeDiff, Nat.reduceLT, Nat.reduceBEq, Int.reduceLT, Int.reduceLE, Int.reduceGT, Int.reduceGE, Int.reduceEq, Int.reduceNe, Int.reduceBEq, Int.reduceBNe, Int.reduceAdd, Int.reduceSub, Int.reduceMul, Int.reduceToNat, Int.reduceNeg, ↓reduceIte, ↓reduceDIte, h1]
    simp [twiceF, h]
theorem flat_take {α : Type} {f : α → List Value} {m : Nat} (hf : ∀ a, (f a).length = m) : ∀ (l : List α) (i : Nat), (l.flatMap f).take (i * m) = (l.take i).flatMap f
  | [], i => by simp
  | x :: l, 0 => by simp
  | x :: l, i + 1 => by
    rw [List.flatMap_cons, Nat.succ_mul, Nat.add_comm, List.take_succ_cons, List.flatMap_cons, ← flat_take hf l i, ← hf x, List.take_length_add_append]
theorem index_ev {lim b n : Nat} {a : Option Addr} {c : CallD} {l : List CallD} {H : LHeap} (hb : H[b]? = some (.row false 0 c.cells)) (hs : Sl 8 H a (l.flatMap CallD.cells)) (hn : l.length < 1000000) :
    callE T 104 lim [.slice a l.length n, .func (.func 96) #[] #[.pointer (some ⟨b, 0, none⟩)]] H fun v H' => ∃ k : Int, v = i64 k ∧ H' = H ∧ decide (0 ≤ k) = l.any (twiceF c) := by
  refine callE_pop rfl (by simp) rfl ?_
  simp -dsimp only [go_sem, Nat.reduceEqDiff, Nat.reduceAdd, Nat.reduceSub, Nat.reduceMul, Nat.reduceLeDiff, Nat.reduceLT, Nat.reduceBEq, Int.reduceLT, Int.reduceLE, Int.reduceGT, Int.reduceGE, Int.reduceEq, Int.reduceNe, Int.reduceBEq, Int.reduceBNe, Int.reduceAdd, Int.reduceSub, Int.reduceMul, Int.reduceToNat, Int.reduceNeg, ↓reduceIte, ↓reduceDIte]
  refine LT_of (fun i : Nat => [(0, .slice a l.length n), (1, .func (.func 96) #[] #[.pointer (some ⟨b, 0, none⟩)]), (7, i64 l.length), (8, i64 i)]) (fun _ => H) (fun i => i ≤ l.length ∧ ∀ k o, k < i → l[k]? = some o → twiceF c o = false) (fun i => l.length - i) 0 (by simp) rfl ⟨by omega, fun k o h => by omega⟩ ?_
  rintro i ⟨hi, hp⟩
  by_cases hlt : i < l.length
  · have h1 : (i : Int) < l.length := by omega
    have h3 : 0 ≤ (i : Int) := by omega
    have k2 : l[i]? = some (l[i]'hlt) := List.getElem?_eq_getElem _
    generalize l[i]'hlt = y at k2
    obtain ⟨b1, o1, rfl, hb1, hg1⟩ := hs.rows (f := CallD.cells) CallD.len (by omega) (by omega)
    have g1 := hg1 [] i y k2
    simp only [List.append_nil, CallD.cells] at g1
    have hw : IntKind.i64.wrap ((i : Int) + 1) = ((i + 1 : Nat) : Int) := by rw [wrap_i64] <;> omega
    simp -dsimp only [go_sem, Nat.reduceEqDiff, Nat.reduceAdd, Nat.reduceSub, Nat.reduceMul, Nat.reduceLeDiff, Nat.reduceLT, Nat.reduceBEq, Int.reduceLT, Int.reduceLE, Int.reduceGT, Int.reduceGE, Int.reduceEq, Int.reduceNe, Int.reduceBEq, Int.reduceBNe, Int.reduceAdd, Int.reduceSub, Int.reduceMul, Int.reduceToNat, Int.reduceNeg, ↓reduceIte, ↓reduceDIte, h1, h3, g1, hw]
    refine CT_val (twice_ev hb) ?_
    cases hq : twiceF c y
    · simp -dsimp only [go_sem, Nat.reduceEqDiff, Nat.reduceAdd, Nat.reduceSub, Nat.reduceMul, Nat.reduceLeDiff, Nat.reduceLT, Nat.reduceBEq, Int.reduceLT, Int.reduceLE, Int.reduceGT, Int.reduceGE, Int.reduceEq, Int.reduceNe, Int.reduceBEq, Int.reduceBNe, Int.reduceAdd, Int.reduceSub, Int.reduceMul, Int.reduceToNat, Int.reduceNeg, ↓reduceIte, ↓reduceDIte, hw]
      refine ⟨i + 1, rfl, ⟨by omega, fun k o hk ho => ?_⟩, by omega⟩
      by_cases hki : k < i
      · exact hp k o hki ho
      · obtain rfl : k = i := by omega
        rw [k2] at ho; cases ho; exact hq
    · simp -dsimp only [go_sem, Nat.reduceEqDiff, Nat.reduceAdd, Nat.reduceSub, Nat.reduceMul, Nat.reduceLeDiff, Nat.reduceLT, Nat.reduceBEq, Int.reduceLT, Int.reduceLE, Int.reduceGT, Int.reduceGE, Int.reduceEq, Int.reduceNe, Int.reduceBEq, Int.reduceBNe, Int.reduceAdd, Int.reduceSub, Int.reduceMul, Int.reduceToNat, Int.reduceNeg, ↓reduceIte, ↓reduceDIte]
      refine ⟨_, rfl, ?_⟩
      rw [List.any_eq_true.2 ⟨y, List.mem_of_getElem? k2, hq⟩]
      simp
  · have h1 : ¬ (i : Int) < l.length := by omega
    simp -dsimp only [go_sem, Nat.reduceEqDiff, Nat.reduceAdd, Nat.reduceSub, Nat.reduceMul, Nat.reduceLeDiff, Nat.reduceLT, Nat.reduceBEq, Int.reduceLT, Int.reduceLE, Int.reduceGT, Int.reduceGE, Int.reduceEq, Int.reduceNe, Int.reduceBEq, Int.reduceBNe, Int.reduceAdd, Int.reduceSub, Int.reduceMul, Int.reduceToNat, Int.reduceNeg, ↓reduceIte, ↓reduceDIte, h1]
    refine ⟨_, rfl, ?_⟩
    have : l.any (twiceF c) = false := by
      rw [List.any_eq_false]
      intro x hx
      obtain ⟨k, hk, rfl⟩ := List.getElem_of_mem hx
      rw [hp k _ (by omega) (List.getElem?_eq_getElem hk)]
      simp
    rw [this]; rfl
theorem contains_ev {lim b n : Nat} {a : Option Addr} {c : CallD} {l : List CallD} {H : LHeap} (hb : H[b]? = some (.row false 0 c.cells)) (hs : Sl 8 H a (l.flatMap CallD.cells)) (hn : l.length < 1000000) :
    callE T 99 lim [.slice a l.length n, .func (.func 96) #[] #[.pointer (some ⟨b, 0, none⟩)]] H fun v H' => v = .bool (l.any (twiceF c)) ∧ H' = H := by
  refine callE_pop rfl (by simp) rfl ?_
  simp -dsimp only [go_sem, Nat.reduceEqDiff, Nat.reduceAdd, Nat.reduceSub, Nat.reduceMul, Nat.reduceLeDiff, Nat.reduceLT, Nat.reduceBEq, Int.reduceLT, Int.reduceLE, Int.reduceGT, Int.reduceGE, Int.reduceEq, Int.reduceNe, Int.reduceBEq, Int.reduceBNe, Int.reduceAdd, Int.reduceSub, Int.reduceMul, Int.reduceToNat, Int.reduceNeg, ↓reduceIte, ↓reduceDIte]
  refine CT_of (index_ev hb hs hn) ?_
  rintro _ _ ⟨k, rfl, rfl, hk⟩
  rw [← hk]
  simp -dsimp only [go_sem, Nat.reduceEqDiff, Nat.reduceAdd, Nat.reduceSub, Nat.reduceMul, Nat.reduceLeDiff, Nat.reduceLT, Nat.reduceBEq, Int.reduceLT, Int.reduceLE, Int.reduceGT, Int.reduceGE, Int.reduceEq, Int.reduceNe, Int.reduceBEq, Int.reduceBNe, Int.reduceAdd, Int.reduceSub, Int.reduceMul, Int.reduceToNat, Int.reduceNeg, ↓reduceIte, ↓reduceDIte]
/-- Calls that may be those of threads, each of which does one at a time. -/
def okAt (l : List CallD) (i : Nat) : Bool := match l[i]? with | some c => rightF c && !(l.take i).any (twiceF c) | none => true
def rightL (l : List CallD) : Bool := decide (l.length ≤ 1024) && (List.range l.length).all (okAt l)
theorem right_cap {lim n : Nat} {a : Option Addr} {l : List CallD} {H : LHeap} (hcap : l.length ≤ n) (hs : Sl 8 H a (l.flatMap CallD.cells)) :
    callE T 82 lim [.slice a l.length n] H fun v H' => v = .bool (rightL l) ∧ H' = H := by
  refine callE_pop rfl (by simp) rfl ?_
  by_cases hn : l.length ≤ 1024
  · have k1 : ¬ (1024 < (l.length : Int)) := by omega
    simp -dsimp only [go_sem, Nat.reduceEqDiff, Nat.reduceAdd, Nat.reduceSub, Nat.reduceMul, Nat.reduceLeDiff, Nat.reduceLT, Nat.reduceBEq, Int.reduceLT, Int.reduceLE, Int.reduceGT, Int.reduceGE, Int.reduceEq, Int.reduceNe, Int.reduceBEq, Int.reduceBNe, Int.reduceAdd, Int.reduceSub, Int.reduceMul, Int.reduceToNat, Int.reduceNeg, ↓reduceIte, ↓reduceDIte, k1]
    refine LT_of (fun i : Nat × LHeap => [(0, .slice a l.length n), (9, .slice a l.length n), (10, i64 l.length), (11, i64 i.1)]) (fun i => H ++ i.2) (fun i => i.1 ≤ l.length ∧ ∀ k, k < i.1 → okAt l k = true) (fun i => l.length - i.1) (0, []) (by simp) (by simp) ⟨by simp, fun k h => by simp at h⟩ ?_
    rintro ⟨i, t⟩ ⟨hi, hp⟩
    simp only at hi hp ⊢
    by_cases hlt : i < l.length
    · have h1 : (i : Int) < l.length := by omega
      have h3 : 0 ≤ (i : Int) := by omega
      have k2 : l[i]? = some (l[i]'hlt) := List.getElem?_eq_getElem _
      generalize l[i]'hlt = y at k2
      obtain ⟨b1, o1, rfl, hb1, hg1⟩ := hs.rows (f := CallD.cells) CallD.len (by omega) (by omega)
      have g1 := fun t => hg1 t i y k2
      simp only [List.append_nil, CallD.cells] at g1
      have hw : IntKind.i64.wrap ((i : Int) + 1) = ((i + 1 : Nat) : Int) := by rw [wrap_i64] <;> omega
      simp -dsimp only [go_sem, Nat.reduceEqDiff, Nat.reduceAdd, Nat.reduceSub, Nat.reduceMul, Nat.reduceLeDiff, Nat.reduceLT, Nat.reduceBEq, Int.reduceLT, Int.reduceLE, Int.reduceGT, Int.reduceGE, Int.reduceEq, Int.reduceNe, Int.reduceBEq, Int.reduceBNe, Int.reduceAdd, Int.reduceSub, Int.reduceMul, Int.reduceToNat, Int.reduceNeg, ↓reduceIte, ↓reduceDIte, h1, h3, g1, hw]
      refine CT_val right1_ev ?_
      cases hr : rightF y
      · simp -dsimp only [go_sem, Nat.reduceEqDiff, Nat.reduceAdd, Nat.reduceSub, Nat.reduceMul, Nat.reduceLeDiff, Nat.reduceLT, Nat.reduceBEq, Int.reduceLT, Int.reduceLE, Int.reduceGT, Int.reduceGE, Int.reduceEq, Int.reduceNe, Int.reduceBEq, Int.reduceBNe, Int.reduceAdd, Int.reduceSub, Int.reduceMul, Int.reduceToNat, Int.reduceNeg, ↓reduceIte, ↓reduceDIte]
        have : okAt l i = false := by simp [okAt, k2, hr]
        have : rightL l = false := by
          rw [rightL, Bool.and_eq_false_iff]
          right
          rw [List.all_eq_false]
          exact ⟨i, List.mem_range.2 hlt, by simp [this]⟩
        rw [this]
      · obtain ⟨g2, g3⟩ := Sl.upto (kk := .i64) (n := l.length) (k := i) hs (by omega) (by rw [flat_len CallD.len]) (by omega) (by omega) hcap
        rw [flat_take CallD.len] at g3
        have hli : (l.take i).length = i := by simp; omega
        have hcon := fun H' (h1 : H'[H.length + t.length]? = some (.row false 0 y.cells)) (h2 : Sl 8 H' (some ⟨b1, o1, none⟩) ((l.take i).flatMap CallD.cells)) => contains_ev (lim := H.length) (n := n) h1 h2 (by omega)
        rw [hli] at hcon
        simp -dsimp only [go_sem, Nat.reduceEqDiff, Nat.reduceAdd, Nat.reduceSub, Nat.reduceMul, Nat.reduceLeDiff, Nat.reduceLT, Nat.reduceBEq, Int.reduceLT, Int.reduceLE, Int.reduceGT, Int.reduceGE, Int.reduceEq, Int.reduceNe, Int.reduceBEq, Int.reduceBNe, Int.reduceAdd, Int.reduceSub, Int.reduceMul, Int.reduceToNat, Int.reduceNeg, ↓reduceIte, ↓reduceDIte, g2]
        refine CT_val (hcon _ (by simp [CallD.cells]) (g3.into (by omega) (by simp [unbox_app, unbox_cons, unboxO_box]))) ?_
        cases hc : (l.take i).any (twiceF y)
        · simp -dsimp only [go_sem, Nat.reduceEqDiff, Nat.reduceAdd, Nat.reduceSub, Nat.reduceMul, Nat.reduceLeDiff, Nat.reduceLT, Nat.reduceBEq, Int.reduceLT, Int.reduceLE, Int.reduceGT, Int.reduceGE, Int.reduceEq, Int.reduceNe, Int.reduceBEq, Int.reduceBNe, Int.reduceAdd, Int.reduceSub, Int.reduceMul, Int.reduceToNat, Int.reduceNeg, ↓reduceIte, ↓reduceDIte, hw]
          refine ⟨(i + 1, _), rfl, rfl, ⟨by dsimp only; omega, fun k hk => ?_⟩, by dsimp only; omega⟩
          by_cases hki : k < i
          · exact hp k hki
          · obtain rfl : k = i := by dsimp only at hk; omega
            simp [okAt, k2, hr, hc]
        · simp -dsimp only [go_sem, Nat.reduceEqDiff, Nat.reduceAdd, Nat.reduceSub, Nat.reduceMul, Nat.reduceLeDiff, Nat.reduceLT, Nat.reduceBEq, Int.reduceLT, Int.reduceLE, Int.reduceGT, Int.reduceGE, Int.reduceEq, Int.reduceNe, Int.reduceBEq, Int.reduceBNe, Int.reduceAdd, Int.reduceSub, Int.reduceMul, Int.reduceToNat, Int.reduceNeg, ↓reduceIte, ↓reduceDIte]
          have : okAt l i = false := by simp [okAt, k2, hr, hc]
          have : rightL l = false := by
            rw [rightL, Bool.and_eq_false_iff]
            right
            rw [List.all_eq_false]
            exact ⟨i, List.mem_range.2 hlt, by simp [this]⟩
          rw [this]
    · have h1 : ¬ (i : Int) < l.length := by omega
      simp -dsimp only [go_sem, Nat.reduceEqDiff, Nat.reduceAdd, Nat.reduceSub, Nat.reduceMul, Nat.reduceLeDiff, Nat.reduceLT, Nat.reduceBEq, Int.reduceLT, Int.reduceLE, Int.reduceGT, Int.reduceGE, Int.reduceEq, Int.reduceNe, Int.reduceBEq, Int.reduceBNe, Int.reduceAdd, Int.reduceSub, Int.reduceMul, Int.reduceToNat, Int.reduceNeg, ↓reduceIte, ↓reduceDIte, h1]
      have : rightL l = true := by
        rw [rightL, Bool.and_eq_true, List.all_eq_true]
        exact ⟨by simpa using hn, fun k hk => hp k (by have := List.mem_range.1 hk; omega)⟩
      rw [this]
  · have k1 : (1024 < (l.length : Int)) := by omega
    simp -dsimp only [go_sem, Nat.reduceEqDiff, Nat.reduceAdd, Nat.reduceSub, Nat.reduceMul, Nat.reduceLeDiff, Nat.reduceLT, Nat.reduceBEq, Int.reduceLT, Int.reduceLE, Int.reduceGT, Int.reduceGE, Int.reduceEq, Int.reduceNe, Int.reduceBEq, Int.reduceBNe, Int.reduceAdd, Int.reduceSub, Int.reduceMul, Int.reduceToNat, Int.reduceNeg, ↓reduceIte, ↓reduceDIte, k1]
    simp [rightL, hn]
end Go.Proofs.Ytopjhhcncjleaaa
/- DROP Queues of numbers: what they do, and what calls may have come to. -/
namespace Go.Proofs.Ytopjhhcncjleaaa
open Go Go.LK
set_option linter.unusedSimpArgs false
set_option linter.unusedVariables false
abbrev fifo (c : Int) (a : Option Addr) (n : Nat) : Value := .agg #[i64 c, .slice a n n]
theorem fullF_ev (lim : Nat) (c : Int) (a : Option Addr) (n : Nat) (H : LHeap) :
    callE T 57 lim [fifo c a n] H fun v H' => v = (.bool (decide (c > 0) && decide ((n : Int) ≥ c))) ∧ H' = H := by
  refine callE_pop rfl (by simp) rfl ?_
  simp -dsimp only [go_sem, Nat.reduceEqDiff, Nat.reduceAdd, Nat.reduceSub, Nat.reduceMul, Nat.reduceLeDiff, Nat.reduceLT, Nat.reduceBEq, Int.reduceLT, Int.reduceLE, Int.reduceGT, Int.reduceGE, Int.reduceEq, Int.reduceNe, Int.reduceBEq, Int.reduceBNe, Int.reduceAdd, Int.reduceSub, Int.reduceMul, Int.reduceToNat, Int.reduceNeg, ↓reduceIte, ↓reduceDIte]
  refine GT_introT (fun h => ?_) (fun h => ?_)
  · simp -dsimp only [go_sem, Nat.reduceEqDiff, Nat.reduceAdd, Nat.reduceSub, Nat.reduceMul, Nat.reduceLeDiff, Nat.reduceLT, Nat.reduceBEq, Int.reduceLT, Int.reduceLE, Int.reduceGT, Int.reduceGE, Int.reduceEq, Int.reduceNe, Int.reduceBEq, Int.reduceBNe, Int.reduceAdd, Int.reduceSub, Int.reduceMul, Int.reduceToNat, Int.reduceNeg, ↓reduceIte, ↓reduceDIte, h]
  · simp -dsimp only [go_sem, Nat.reduceEqDiff, Nat.reduceAdd, Nat.reduceSub, Nat.reduceMul, Nat.reduceLeDiff, Nat.reduceLT, Nat.reduceBEq, Int.reduceLT, Int.reduceLE, Int.reduceGT, Int.reduceGE, Int.reduceEq, Int.reduceNe, Int.reduceBEq, Int.reduceBNe, Int.reduceAdd, Int.reduceSub, Int.reduceMul, Int.reduceToNat, Int.reduceNeg, ↓reduceIte, ↓reduceDIte, h]
theorem cloneF_ev {lim : Nat} {a : Option Addr} {n : Nat} {c : List Value} {H : LHeap} (hl : lim ≤ H.length) (hs : Sl 1 H a c) (hc : c.length = n) (hn : n < 1000000) (h1 : c.all Value.oneCell' = true) :
    callE T 52 lim [.slice a n n] H fun v H' => ∃ a' l, v = .slice a' n n ∧ H' = H ++ l ∧ Sl 1 (H ++ l) a' c ∧ Fresh H.length a' := by
  refine callE_stay rfl (by simp) rfl ?_
  have hsrc := fun l => (hs.app l).src (m := 1) (n := n) (cap := n) (by omega) (by omega)
  have ht : c.take n = c := List.take_of_length_le (by omega)
  rcases hs with ⟨rfl, rfl⟩ | ⟨b, o, ro, es, cc, rfl, h2, h3, h4⟩
  · simp at hc; subst hc
    simp -dsimp only [go_sem, Nat.reduceEqDiff, Nat.reduceAdd, Nat.reduceSub, Nat.reduceMul, Nat.reduceLeDiff, Nat.reduceLT, Nat.reduceBEq, Int.reduceLT, Int.reduceLE, Int.reduceGT, Int.reduceGE, Int.reduceEq, Int.reduceNe, Int.reduceBEq, Int.reduceBNe, Int.reduceAdd, Int.reduceSub, Int.reduceMul, Int.reduceToNat, Int.reduceNeg, ↓reduceIte, ↓reduceDIte]
    exact ⟨none, [], rfl, by simp, Sl.nil _ _, Fresh.nil _⟩
  · have h6 : n * 8 ≤ 140737488355328 := by omega
    have h7 : n ≤ 140737488355328 := by omega
    simp -dsimp only [go_sem, Nat.reduceEqDiff, Nat.reduceAdd, Nat.reduceSub, Nat.reduceMul, Nat.reduceLeDiff, Nat.reduceLT, Nat.reduceBEq, Int.reduceLT, Int.reduceLE, Int.reduceGT, Int.reduceGE, Int.reduceEq, Int.reduceNe, Int.reduceBEq, Int.reduceBNe, Int.reduceAdd, Int.reduceSub, Int.reduceMul, Int.reduceToNat, Int.reduceNeg, ↓reduceIte, ↓reduceDIte, hsrc, h1, h6, h7, hl, Nat.zero_mul, Nat.le_refl, Nat.lt_irrefl]
    exact ⟨_, _, rfl, rfl, Sl.row (get_app H _ 1), Fresh.mk (by omega)⟩
theorem withF_ev {lim : Nat} {cap : Int} {a : Option Addr} {n : Nat} {l : List (BitVec 64)} {x : BitVec 64} {H : LHeap} (hl : lim ≤ H.length) (hs : Sl 1 H a (l.map w64)) (hc : l.length = n) (hn : n < 1000000) :
    callE T 58 lim [fifo cap a n, w64 x] H fun v H' => ∃ a' t, v = fifo cap a' (n + 1) ∧ H' = H ++ t ∧ Sl 1 (H ++ t) a' ((l ++ [x]).map w64) ∧ Fresh H.length a' := by
  refine callE_stay rfl (by simp) rfl ?_
  have hsrc := fun t => (hs.app t).src (m := 1) (n := n) (cap := n) (by omega) (by simp; omega)
  have hw : IntKind.i64.wrap (↑n + 1) = ((n + 1 : Nat) : Int) := by rw [wrap_i64] <;> omega
  have h1 : 0 ≤ (n : Int) ∧ (n : Int) ≤ ((n + 1 : Nat) : Int) ∧ (8 : Int) * ((n + 1 : Nat) : Int) ≤ 281474976710656 ∧ ((n + 1 : Nat) : Int) ≤ 281474976710656 := by omega
  have ht : (l.map w64).take n = l.map w64 := List.take_of_length_le (by simp; omega)
  have h2 : n ≤ n + 1 := by omega
  have h3 : lim ≤ H.length + 1 := by omega
  simp -dsimp only [go_sem, Nat.reduceEqDiff, Nat.reduceAdd, Nat.reduceSub, Nat.reduceMul, Nat.reduceLeDiff, Nat.reduceLT, Nat.reduceBEq, Int.reduceLT, Int.reduceLE, Int.reduceGT, Int.reduceGE, Int.reduceEq, Int.reduceNe, Int.reduceBEq, Int.reduceBNe, Int.reduceAdd, Int.reduceSub, Int.reduceMul, Int.reduceToNat, Int.reduceNeg, ↓reduceIte, ↓reduceDIte, hsrc, hw, h1, ht, hc, h2, h3, Nat.le_refl]
  refine ⟨_, _, rfl, rfl, ?_, Fresh.mk (by omega)⟩
  refine Sl.row (ro := false) ?_
  rw [get_app H _ 2]
  simp only [List.getElem?_cons_succ, List.getElem?_cons_zero, Option.some.injEq, LObj.row.injEq, true_and]
  rw [setMany_zero _ _ (by simp [hc])]
  simp [hc, List.set_append_right]
theorem restF_ev {lim : Nat} {cap : Int} {a : Option Addr} {n : Nat} {l : List (BitVec 64)} {x : BitVec 64} {H : LHeap} (hl : lim ≤ H.length) (hs : Sl 1 H a ((x :: l).map w64)) (hc : l.length = n) (hn : n < 1000000) :
    callE T 59 lim [fifo cap a (n + 1)] H fun v H' => ∃ a' t, v = fifo cap a' n ∧ H' = H ++ t ∧ Sl 1 (H ++ t) a' (l.map w64) ∧ Fresh H.length a' := by
  refine callE_stay rfl (by simp) rfl ?_
  obtain ⟨a', h1, h2⟩ := hs.sub (n := n + 1) (cap := n + 1) (lo := 1) (hi := n + 1) (lo' := 1) rfl rfl (by omega) (by simp [hc]) (by omega) (by omega) (by omega) (by omega)
  rw [show ((((x :: l).map w64).drop (1 * 1)).take ((n + 1 - 1) * 1)) = l.map w64 by (simp only [List.map_cons, Nat.mul_one, List.drop_succ_cons, List.drop_zero]; exact List.take_of_length_le (by simp; omega)), show n + 1 - 1 = n by omega] at *
  have h3 : lim ≤ H.length + 1 := by omega
  simp -dsimp only [go_sem, Nat.reduceEqDiff, Nat.reduceAdd, Nat.reduceSub, Nat.reduceMul, Nat.reduceLeDiff, Nat.reduceLT, Nat.reduceBEq, Int.reduceLT, Int.reduceLE, Int.reduceGT, Int.reduceGE, Int.reduceEq, Int.reduceNe, Int.reduceBEq, Int.reduceBNe, Int.reduceAdd, Int.reduceSub, Int.reduceMul, Int.reduceToNat, Int.reduceNeg, ↓reduceIte, ↓reduceDIte, h1]
  refine CT_of (cloneF_ev (by simp; omega) (h2.app _) (by simp [hc]) hn (ws_one _)) ?_
  rintro _ _ ⟨a2, t, rfl, rfl, h4, h5⟩
  simp -dsimp only [go_sem, Nat.reduceEqDiff, Nat.reduceAdd, Nat.reduceSub, Nat.reduceMul, Nat.reduceLeDiff, Nat.reduceLT, Nat.reduceBEq, Int.reduceLT, Int.reduceLE, Int.reduceGT, Int.reduceGE, Int.reduceEq, Int.reduceNe, Int.reduceBEq, Int.reduceBNe, Int.reduceAdd, Int.reduceSub, Int.reduceMul, Int.reduceToNat, Int.reduceNeg, ↓reduceIte, ↓reduceDIte, h3]
  exact ⟨_, _, rfl, rfl, h4.boxed (by omega) (by simp [unbox_app, unbox_cons, unboxO_box]), h5.mono (by simp)⟩
/-- What a queue does. -/
def doF (cap : Int) (l : List (BitVec 64)) (kind : Int) (x : BitVec 64) : List (BitVec 64) × Int × BitVec 64 :=
  if kind = 0 then (if cap > 0 ∧ (l.length : Int) ≥ cap then (l, 15, 0) else (l ++ [x], 0, 0))
  else if kind = 1 then (match l with
    | [] => ([], 13, 0)
    | y :: r => (r, 0, y))
  else (l, 2, 0)
theorem doF_ev {lim : Nat} {cap : Int} {a : Option Addr} {l : List (BitVec 64)} {kind : Int} {x : BitVec 64} {H : LHeap} (hl : lim ≤ H.length) (hs : Sl 1 H a (l.map w64)) (hn : l.length < 1000000) :
    callE T 31 lim [fifo cap a l.length, i64 kind, w64 x] H fun v H' => ∃ a' t, v = .tuple #[fifo cap a' (doF cap l kind x).1.length, i64 (doF cap l kind x).2.1, w64 (doF cap l kind x).2.2] ∧
      H' = H ++ t ∧ Sl 1 (H ++ t) a' ((doF cap l kind x).1.map w64) ∧ (a' = a ∧ (doF cap l kind x).1 = l ∨ Fresh H.length a') := by
  refine callE_stay rfl (by simp) rfl ?_
  have hl1 : lim ≤ H.length + 1 := by omega
  by_cases h0 : kind = 0
  · subst h0
    simp -dsimp only [go_sem, Nat.reduceEqDiff, Nat.reduceAdd, Nat.reduceSub, Nat.reduceMul, Nat.reduceLeDiff, Nat.reduceLT, Nat.reduceBEq, Int.reduceLT, Int.reduceLE, Int.reduceGT, Int.reduceGE, Int.reduceEq, Int.reduceNe, Int.reduceBEq, Int.reduceBNe, Int.reduceAdd, Int.reduceSub, Int.reduceMul, Int.reduceToNat, Int.reduceNeg, ↓reduceIte, ↓reduceDIte]
    refine CT_of (fullF_ev _ _ _ _ _) ?_
    rintro _ _ ⟨rfl, rfl⟩
    by_cases hf : cap > 0 ∧ (l.length : Int) ≥ cap
    · have hf' : (decide (cap > 0) && decide ((l.length : Int) ≥ cap)) = true := by simpa using hf
      simp -dsimp only [go_sem, Nat.reduceEqDiff, Nat.reduceAdd, Nat.reduceSub, Nat.reduceMul, Nat.reduceLeDiff, Nat.reduceLT, Nat.reduceBEq, Int.reduceLT, Int.reduceLE, Int.reduceGT, Int.reduceGE, Int.reduceEq, Int.reduceNe, Int.reduceBEq, Int.reduceBNe, Int.reduceAdd, Int.reduceSub, Int.reduceMul, Int.reduceToNat, Int.reduceNeg, ↓reduceIte, ↓reduceDIte, hf', hl1, doF, hf]
      exact ⟨_, _, rfl, rfl, hs.app _, .inl rfl⟩
    · have hf' : (decide (cap > 0) && decide ((l.length : Int) ≥ cap)) = false := by simpa using hf
      simp -dsimp only [go_sem, Nat.reduceEqDiff, Nat.reduceAdd, Nat.reduceSub, Nat.reduceMul, Nat.reduceLeDiff, Nat.reduceLT, Nat.reduceBEq, Int.reduceLT, Int.reduceLE, Int.reduceGT, Int.reduceGE, Int.reduceEq, Int.reduceNe, Int.reduceBEq, Int.reduceBNe, Int.reduceAdd, Int.reduceSub, Int.reduceMul, Int.reduceToNat, Int.reduceNeg, ↓reduceIte, ↓reduceDIte, hf', hl1, doF, hf]
      refine CT_of (withF_ev (l := l) (by simp; omega) (hs.app _) rfl hn) ?_
      rintro _ _ ⟨a2, t, rfl, rfl, h4, h5⟩
      simp -dsimp only [go_sem, Nat.reduceEqDiff, Nat.reduceAdd, Nat.reduceSub, Nat.reduceMul, Nat.reduceLeDiff, Nat.reduceLT, Nat.reduceBEq, Int.reduceLT, Int.reduceLE, Int.reduceGT, Int.reduceGE, Int.reduceEq, Int.reduceNe, Int.reduceBEq, Int.reduceBNe, Int.reduceAdd, Int.reduceSub, Int.reduceMul, Int.reduceToNat, Int.reduceNeg, ↓reduceIte, ↓reduceDIte, hl1, doF, hf]
      exact ⟨_, _, rfl, rfl, h4.boxed (by omega) (by simp [unbox_app, unbox_cons, unboxO_box]), .inr (h5.mono (by simp))⟩
  · by_cases h1 : kind = 1
    · subst h1
      cases l with
      | nil =>
        simp -dsimp only [go_sem, Nat.reduceEqDiff, Nat.reduceAdd, Nat.reduceSub, Nat.reduceMul, Nat.reduceLeDiff, Nat.reduceLT, Nat.reduceBEq, Int.reduceLT, Int.reduceLE, Int.reduceGT, Int.reduceGE, Int.reduceEq, Int.reduceNe, Int.reduceBEq, Int.reduceBNe, Int.reduceAdd, Int.reduceSub, Int.reduceMul, Int.reduceToNat, Int.reduceNeg, ↓reduceIte, ↓reduceDIte, hl1, doF]
        exact ⟨_, _, rfl, rfl, hs.app _, .inl rfl⟩
      | cons y r =>
        obtain ⟨b, o, rfl, hb, hg⟩ := hs.all (by simp)
        have hg0 := fun t => hg t 0 (w64 y) rfl
        simp only [Nat.add_zero] at hg0
        have h2 : ((((r.length + 1 : Nat) : Int) == 0)) = false := by rw [beq_eq_false_iff_ne]; omega
        have h3 : (0 : Int) < ((r.length + 1 : Nat) : Int) := by omega
        simp only [List.length_cons]
        simp -dsimp only [go_sem, Nat.reduceEqDiff, Nat.reduceAdd, Nat.reduceSub, Nat.reduceMul, Nat.reduceLeDiff, Nat.reduceLT, Nat.reduceBEq, Int.reduceLT, Int.reduceLE, Int.reduceGT, Int.reduceGE, Int.reduceEq, Int.reduceNe, Int.reduceBEq, Int.reduceBNe, Int.reduceAdd, Int.reduceSub, Int.reduceMul, Int.reduceToNat, Int.reduceNeg, ↓reduceIte, ↓reduceDIte, hl1, doF, h2, h3, hg0]
        refine CT_of (restF_ev (l := r) (x := y) (by simp; omega) (hs.app _) rfl (by simp at hn; omega)) ?_
        rintro _ _ ⟨a2, t, rfl, rfl, h4, h5⟩
        simp -dsimp only [go_sem, Nat.reduceEqDiff, Nat.reduceAdd, Nat.reduceSub, Nat.reduceMul, Nat.reduceLeDiff, Nat.reduceLT, Nat.reduceBEq, Int.reduceLT, Int.reduceLE, Int.reduceGT, Int.reduceGE, Int.reduceEq, Int.reduceNe, Int.reduceBEq, Int.reduceBNe, Int.reduceAdd, Int.reduceSub, Int.reduceMul, Int.reduceToNat, Int.reduceNeg, ↓reduceIte, ↓reduceDIte, hl1, doF, hg0]
        exact ⟨_, _, rfl, rfl, h4.boxed (by omega) (by simp [unbox_app, unbox_cons, unboxO_box]), .inr (h5.mono (by simp))⟩
    · have h0' : (kind == 0) = false := by simpa using h0
      have h1' : (kind == 1) = false := by simpa using h1
      simp -dsimp only [go_sem, Nat.reduceEqDiff, Nat.reduceAdd, Nat.reduceSub, Nat.reduceMul, Nat.reduceLeDiff, Nat.reduceLT, Nat.reduceBEq, Int.reduceLT, Int.reduceLE, Int.reduceGT, Int.reduceGE, Int.reduceEq, Int.reduceNe, Int.reduceBEq, Int.reduceBNe, Int.reduceAdd, Int.reduceSub, Int.reduceMul, Int.reduceToNat, Int.reduceNeg, ↓reduceIte, ↓reduceDIte, hl1, doF, h0, h1, h0', h1']
      exact ⟨_, _, rfl, rfl, hs.app _, .inl rfl⟩
def roomF (cap : Int) (n : Nat) : Int := if 0 < cap - n then cap - n else 0
def upF (p : Int) : Int := if p < 0 then 0 else p
def letF (cap : Int) (n : Nat) (kind code : Int) (ret : BitVec 64) (mode puts takes : Int) : Bool :=
  if ret = 0#64 then
    if kind = 0 ∧ code = 15 ∧ 0 < cap ∧ mode = 1 then decide (roomF cap n ≤ upF puts) || decide (roomF cap n - upF puts ≤ upF takes)
    else if kind = 0 ∧ code = 15 ∧ 0 < cap ∧ mode = 2 then decide (0 < upF takes)
    else if kind = 1 ∧ code = 13 ∧ mode = 2 then decide (0 < upF puts) else false
  else false
theorem room_ev {lim : Nat} {cap : Int} {a : Option Addr} {n : Nat} {H : LHeap} (h0 : 0 < cap) (h1 : cap ≤ 9223372036854775807) (hn : n < 1000000) :
    callE T 105 lim [fifo cap a n] H fun v H' => v = i64 (roomF cap n) ∧ H' = H := by
  refine callE_pop rfl (by simp) rfl ?_
  have hw : IntKind.i64.wrap (cap - n) = cap - n := wrap_i64 (by omega) (by omega)
  simp -dsimp only [go_sem, Nat.reduceEqDiff, Nat.reduceAdd, Nat.reduceSub, Nat.reduceMul, Nat.reduceLeDiff, Nat.reduceLT, Nat.reduceBEq, Int.reduceLT, Int.reduceLE, Int.reduceGT, Int.reduceGE, Int.reduceEq, Int.reduceNe, Int.reduceBEq, Int.reduceBNe, Int.reduceAdd, Int.reduceSub, Int.reduceMul, Int.reduceToNat, Int.reduceNeg, ↓reduceIte, ↓reduceDIte, hw]
  simp [roomF]
theorem let_ev {lim : Nat} {cap : Int} {a : Option Addr} {n : Nat} {th kind fr to code : Int} {arg ret : BitVec 64} {dn : Bool} {mode puts takes : Int} {H : LHeap} (h1 : cap ≤ 9223372036854775807) (hn : n < 1000000) (hp : puts ≤ 9223372036854775807) :
    callE T 102 lim [fifo cap a n, .agg #[i64 th, i64 kind, w64 arg, i64 fr, i64 to, .bool dn, i64 code, w64 ret], i64 mode, i64 puts, i64 takes] H fun v H' => v = .bool (letF cap n kind code ret mode puts takes) ∧ H' = H := by
  refine callE_pop rfl (by simp) rfl ?_
  simp -dsimp only [go_sem, Nat.reduceEqDiff, Nat.reduceAdd, Nat.reduceSub, Nat.reduceMul, Nat.reduceLeDiff, Nat.reduceLT, Nat.reduceBEq, Int.reduceLT, Int.reduceLE, Int.reduceGT, Int.reduceGE, Int.reduceEq, Int.reduceNe, Int.reduceBEq, Int.reduceBNe, Int.reduceAdd, Int.reduceSub, Int.reduceMul, Int.reduceToNat, Int.reduceNeg, ↓reduceIte, ↓reduceDIte]
  (repeat' (first | (refine BT_beq (fun hc => ?_) (fun hc hc2 => ?_) <;> simp -dsimp only [go_sem, Nat.reduceEqDiff, Nat.reduceAdd, Nat.reduceSub, Nat.reduceMul, Nat.reduceLeDiff, Nat.reduceLT, Nat.reduceBEq, Int.reduceLT, Int.reduceLE, Int.reduceGT, Int.reduceGE, Int.reduceEq, Int.reduceNe, Int.reduceBEq, Int.reduceBNe, Int.reduceAdd, Int.reduceSub, Int.reduceMul, Int.reduceToNat, Int.reduceNeg, ↓reduceIte, ↓reduceDIte, letF, upF, *]) | (refine GT_beqT (fun hc => ?_) (fun hc hc2 => ?_) <;> simp -dsimp only [go_sem, Nat.reduceEqDiff, Nat.reduceAdd, Nat.reduceSub, Nat.reduceMul, Nat.reduceLeDiff, Nat.reduceLT, Nat.reduceBEq, Int.reduceLT, Int.reduceLE, Int.reduceGT, Int.reduceGE, Int.reduceEq, Int.reduceNe, Int.reduceBEq, Int.reduceBNe, Int.reduceAdd, Int.reduceSub, Int.reduceMul, Int.reduceToNat, Int.reduceNeg, ↓reduceIte, ↓reduceDIte, letF, upF, *]) | (refine GT_beqF (fun hc hc2 => ?_) (fun hc => ?_) <;> simp -dsimp only [go_sem, Nat.reduceEqDiff, Nat.reduceAdd, Nat.reduceSub, Nat.reduceMul, Nat.reduceLeDiff, Nat.reduceLT, Nat.reduceBEq, Int.reduceLT, Int.reduceLE, Int.reduceGT, Int.reduceGE, Int.reduceEq, Int.reduceNe, Int.reduceBEq, Int.reduceBNe, Int.reduceAdd, Int.reduceSub, Int.reduceMul, Int.reduceToNat, Int.reduceNeg, ↓reduceIte, ↓reduceDIte, letF, upF, *]) | (refine BT_bne (fun hc hc1 hc2 => ?_) (fun hc => ?_) <;> simp -dsimp only [go_sem, Nat.reduceEqDiff, Nat.reduceAdd, Nat.reduceSub, Nat.reduceMul, Nat.reduceLeDiff, Nat.reduceLT, Nat.reduceBEq, Int.reduceLT, Int.reduceLE, Int.reduceGT, Int.reduceGE, Int.reduceEq, Int.reduceNe, Int.reduceBEq, Int.reduceBNe, Int.reduceAdd, Int.reduceSub, Int.reduceMul, Int.reduceToNat, Int.reduceNeg, ↓reduceIte, ↓reduceDIte, letF, upF, *]) | (refine GT_bneT (fun hc hc1 hc2 => ?_) (fun hc => ?_) <;> simp -dsimp only [go_sem, Nat.reduceEqDiff, Nat.reduceAdd, Nat.reduceSub, Nat.reduceMul, Nat.reduceLeDiff, Nat.reduceLT, Nat.reduceBEq, Int.reduceLT, Int.reduceLE, Int.reduceGT, Int.reduceGE, Int.reduceEq, Int.reduceNe, Int.reduceBEq, Int.reduceBNe, Int.reduceAdd, Int.reduceSub, Int.reduceMul, Int.reduceToNat, Int.reduceNeg, ↓reduceIte, ↓reduceDIte, letF, upF, *]) | (refine GT_bneF (fun hc => ?_) (fun hc hc1 hc2 => ?_) <;> simp -dsimp only [go_sem, Nat.reduceEqDiff, Nat.reduceAdd, Nat.reduceSub, Nat.reduceMul, Nat.reduceLeDiff, Nat.reduceLT, Nat.reduceBEq, Int.reduceLT, Int.reduceLE, Int.reduceGT, Int.reduceGE, Int.reduceEq, Int.reduceNe, Int.reduceBEq, Int.reduceBNe, Int.reduceAdd, Int.reduceSub, Int.reduceMul, Int.reduceToNat, Int.reduceNeg, ↓reduceIte, ↓reduceDIte, letF, upF, *]) | (refine BT_not (fun hc => ?_) (fun hc => ?_) <;> simp -dsimp only [go_sem, Nat.reduceEqDiff, Nat.reduceAdd, Nat.reduceSub, Nat.reduceMul, Nat.reduceLeDiff, Nat.reduceLT, Nat.reduceBEq, Int.reduceLT, Int.reduceLE, Int.reduceGT, Int.reduceGE, Int.reduceEq, Int.reduceNe, Int.reduceBEq, Int.reduceBNe, Int.reduceAdd, Int.reduceSub, Int.reduceMul, Int.reduceToNat, Int.reduceNeg, ↓reduceIte, ↓reduceDIte, letF, upF, *]) | (refine GT_notT (fun hc => ?_) (fun hc => ?_) <;> simp -dsimp only [go_sem, Nat.reduceEqDiff, Nat.reduceAdd, Nat.reduceSub, Nat.reduceMul, Nat.reduceLeDiff, Nat.reduceLT, Nat.reduceBEq, Int.reduceLT, Int.reduceLE, Int.reduceGT, Int.reduceGE, Int.reduceEq, Int.reduceNe, Int.reduceBEq, Int.reduceBNe, Int.reduceAdd, Int.reduceSub, Int.reduceMul, Int.reduceToNat, Int.reduceNeg, ↓reduceIte, ↓reduceDIte, letF, upF, *]) | (refine GT_notF (fun hc => ?_) (fun hc => ?_) <;> simp -dsimp only [go_sem, Nat.reduceEqDiff, Nat.reduceAdd, Nat.reduceSub, Nat.reduceMul, Nat.reduceLeDiff, Nat.reduceLT, Nat.reduceBEq, Int.reduceLT, Int.reduceLE, Int.reduceGT, Int.reduceGE, Int.reduceEq, Int.reduceNe, Int.reduceBEq, Int.reduceBNe, Int.reduceAdd, Int.reduceSub, Int.reduceMul, Int.reduceToNat, Int.reduceNeg, ↓reduceIte, ↓reduceDIte, letF, upF, *]) | (refine BT_dec (fun hc => ?_) (fun hc => ?_) <;> simp -dsimp only [go_sem, Nat.reduceEqDiff, Nat.reduceAdd, Nat.reduceSub, Nat.reduceMul, Nat.reduceLeDiff, Nat.reduceLT, Nat.reduceBEq, Int.reduceLT, Int.reduceLE, Int.reduceGT, Int.reduceGE, Int.reduceEq, Int.reduceNe, Int.reduceBEq, Int.reduceBNe, Int.reduceAdd, Int.reduceSub, Int.reduceMul, Int.reduceToNat, Int.reduceNeg, ↓reduceIte, ↓reduceDIte, letF, upF, *]) | (refine GT_decT (fun hc => ?_) (fun hc => ?_) <;> simp -dsimp only [go_sem, Nat.reduceEqDiff, Nat.reduceAdd, Nat.reduceSub, Nat.reduceMul, Nat.reduceLeDiff, Nat.reduceLT, Nat.reduceBEq, Int.reduceLT, Int.reduceLE, Int.reduceGT, Int.reduceGE, Int.reduceEq, Int.reduceNe, Int.reduceBEq, Int.reduceBNe, Int.reduceAdd, Int.reduceSub, Int.reduceMul, Int.reduceToNat, Int.reduceNeg, ↓reduceIte, ↓reduceDIte, letF, upF, *]) | (refine GT_decF (fun hc => ?_) (fun hc => ?_) <;> simp -dsimp only [go_sem, Nat.reduceEqDiff, Nat.reduceAdd, Nat.reduceSub, Nat.reduceMul, Nat.reduceLeDiff, Nat.reduceLT, Nat.reduceBEq, Int.reduceLT, Int.reduceLE, Int.reduceGT, Int.reduceGE, Int.reduceEq, Int.reduceNe, Int.reduceBEq, Int.reduceBNe, Int.reduceAdd, Int.reduceSub, Int.reduceMul, Int.reduceToNat, Int.reduceNeg, ↓reduceIte, ↓reduceDIte, letF, upF, *]) | (refine BT_intro (fun hc => ?_) (fun hc => ?_) <;> simp -dsimp only [go_sem, Nat.reduceEqDiff, Nat.reduceAdd, Nat.reduceSub, Nat.reduceMul, Nat.reduceLeDiff, Nat.reduceLT, Nat.reduceBEq, Int.reduceLT, Int.reduceLE, Int.reduceGT, Int.reduceGE, Int.reduceEq, Int.reduceNe, Int.reduceBEq, Int.reduceBNe, Int.reduceAdd, Int.reduceSub, Int.reduceMul, Int.reduceToNat, Int.reduceNeg, ↓reduceIte, ↓reduceDIte, letF, upF, *]) | (refine GT_introT (fun hc => ?_) (fun hc => ?_) <;> simp -dsimp only [go_sem, Nat.reduceEqDiff, Nat.reduceAdd, Nat.reduceSub, Nat.reduceMul, Nat.reduceLeDiff, Nat.reduceLT, Nat.reduceBEq, Int.reduceLT, Int.reduceLE, Int.reduceGT, Int.reduceGE, Int.reduceEq, Int.reduceNe, Int.reduceBEq, Int.reduceBNe, Int.reduceAdd, Int.reduceSub, Int.reduceMul, Int.reduceToNat, Int.reduceNeg, ↓reduceIte, ↓reduceDIte, letF, upF, *]) | (refine GT_introF (fun hc => ?_) (fun hc => ?_) <;> simp -dsimp only [go_sem, Nat.reduceEqDiff, Nat.reduceAdd, Nat.reduceSub, Nat.reduceMul, Nat.reduceLeDiff, Nat.reduceLT, Nat.reduceBEq, Int.reduceLT, Int.reduceLE, Int.reduceGT, Int.reduceGE, Int.reduceEq, Int.reduceNe, Int.reduceBEq, Int.reduceBNe, Int.reduceAdd, Int.reduceSub, Int.reduceMul, Int.reduceToNat, Int.reduceNeg, ↓reduceIte, ↓reduceDIte, letF, upF, *])))
  · refine CT_of (room_ev (by assumption) h1 hn) ?_
    rintro _ _ ⟨rfl, rfl⟩
    simp -dsimp only [go_sem, Nat.reduceEqDiff, Nat.reduceAdd, Nat.reduceSub, Nat.reduceMul, Nat.reduceLeDiff, Nat.reduceLT, Nat.reduceBEq, Int.reduceLT, Int.reduceLE, Int.reduceGT, Int.reduceGE, Int.reduceEq, Int.reduceNe, Int.reduceBEq, Int.reduceBNe, Int.reduceAdd, Int.reduceSub, Int.reduceMul, Int.reduceToNat, Int.reduceNeg, ↓reduceIte, ↓reduceDIte]
    (repeat' (first | (refine BT_beq (fun hc => ?_) (fun hc hc2 => ?_) <;> simp -dsimp only [go_sem, Nat.reduceEqDiff, Nat.reduceAdd, Nat.reduceSub, Nat.reduceMul, Nat.reduceLeDiff, Nat.reduceLT, Nat.reduceBEq, Int.reduceLT, Int.reduceLE, Int.reduceGT, Int.reduceGE, Int.reduceEq, Int.reduceNe, Int.reduceBEq, Int.reduceBNe, Int.reduceAdd, Int.reduceSub, Int.reduceMul, Int.reduceToNat, Int.reduceNeg, ↓reduceIte, ↓reduceDIte, *]) | (refine GT_beqT (fun hc => ?_) (fun hc hc2 => ?_) <;> simp -dsimp only [go_sem, Nat.reduceEqDiff, Nat.reduceAdd, Nat.reduceSub, Nat.reduceMul, Nat.reduceLeDiff, Nat.reduceLT, Nat.reduceBEq, Int.reduceLT, Int.reduceLE, Int.reduceGT, Int.reduceGE, Int.reduceEq, Int.reduceNe, Int.reduceBEq, Int.reduceBNe, Int.reduceAdd, Int.reduceSub, Int.reduceMul, Int.reduceToNat, Int.reduceNeg, ↓reduceIte, ↓reduceDIte, *]) | (refine GT_beqF (fun hc hc2 => ?_) (fun hc => ?_) <;> simp -dsimp only [go_sem, Nat.reduceEqDiff, Nat.reduceAdd, Nat.reduceSub, Nat.reduceMul, Nat.reduceLeDiff, Nat.reduceLT, Nat.reduceBEq, Int.reduceLT, Int.reduceLE, Int.reduceGT, Int.reduceGE, Int.reduceEq, Int.reduceNe, Int.reduceBEq, Int.reduceBNe, Int.reduceAdd, Int.reduceSub, Int.reduceMul, Int.reduceToNat, Int.reduceNeg, ↓reduceIte, ↓reduceDIte, *]) | (refine BT_bne (fun hc hc1 hc2 => ?_) (fun hc => ?_) <;> simp -dsimp only [go_sem, Nat.reduceEqDiff, Nat.reduceAdd, Nat.reduceSub, Nat.reduceMul, Nat.reduceLeDiff, Nat.reduceLT, Nat.reduceBEq, Int.reduceLT, Int.reduceLE, Int.reduceGT, Int.reduceGE, Int.reduceEq, Int.reduceNe, Int.reduceBEq, Int.reduceBNe, Int.reduceAdd, Int.reduceSub, Int.reduceMul, Int.reduceToNat, Int.reduceNeg, ↓reduceIte, ↓reduceDIte, *]) | (refine GT_bneT (fun hc hc1 hc2 => ?_) (fun hc => ?_) <;> simp -dsimp only [go_sem, Nat.reduceEqDiff, Nat.reduceAdd, Nat.reduceSub, Nat.reduceMul, Nat.reduceLeDiff, Nat.reduceLT, Nat.reduceBEq, Int.reduceLT, Int.reduceLE, Int.reduceGT, Int.reduceGE, Int.reduceEq, Int.reduceNe, Int.reduceBEq, Int.reduceBNe, Int.reduceAdd, Int.reduceSub, Int.reduceMul, Int.reduceToNat, Int.reduceNeg, ↓reduceIte, ↓reduceDIte, *]) | (refine GT_bneF (fun hc => ?_) (fun hc hc1 hc2 => ?_) <;> simp -dsimp only [go_sem, Nat.reduceEqDiff, Nat.reduceAdd, Nat.reduceSub, Nat.reduceMul, Nat.reduceLeDiff, Nat.reduceLT, Nat.reduceBEq, Int.reduceLT, Int.reduceLE, Int.reduceGT, Int.reduceGE, Int.reduceEq, Int.reduceNe, Int.reduceBEq, Int.reduceBNe, Int.reduceAdd, Int.reduceSub, Int.reduceMul, Int.reduceToNat, Int.reduceNeg, ↓reduceIte, ↓reduceDIte, *]) | (refine BT_not (fun hc => ?_) (fun hc => ?_) <;> simp -dsimp only [go_sem, Nat.reduceEqDiff, Nat.reduceAdd, Nat.reduceSub, Nat.reduceMul, Nat.reduceLeDiff, Nat.reduceLT, Nat.reduceBEq, Int.reduceLT, Int.reduceLE, Int.reduceGT, Int.reduceGE, Int.reduceEq, Int.reduceNe, Int.reduceBEq, Int.reduceBNe, Int.reduceAdd, Int.reduceSub, Int.reduceMul, Int.reduceToNat, Int.reduceNeg, ↓reduceIte, ↓reduceDIte, *]) | (refine GT_notT (fun hc => ?_) (fun hc => ?_) <;> simp -dsimp only [go_sem, Nat.reduceEqDiff, Nat.reduceAdd, Nat.reduceSub, Nat.reduceMul, Nat.reduceLeDiff, Nat.reduceLT, Nat.reduceBEq, Int.reduceLT, Int.reduceLE, Int.reduceGT, Int.reduceGE, Int.reduceEq, Int.reduceNe, Int.reduceBEq, Int.reduceBNe, Int.reduceAdd, Int.reduceSub, Int.reduceMul, Int.reduceToNat, Int.reduceNeg, ↓reduceIte, ↓reduceDIte, *]) | (refine GT_notF (fun hc => ?_) (fun hc => ?_) <;> simp -dsimp only [go_sem, Nat.reduceEqDiff, Nat.reduceAdd, Nat.reduceSub, Nat.reduceMul, Nat.reduceLeDiff, Nat.reduceLT, Nat.reduceBEq, Int.reduceLT, Int.reduceLE, Int.reduceGT, Int.reduceGE, Int.reduceEq, Int.reduceNe, Int.reduceBEq, Int.reduceBNe, Int.reduceAdd, Int.reduceSub, Int.reduceMul, Int.reduceToNat, Int.reduceNeg, ↓reduceIte, ↓reduceDIte, *]) | (refine BT_dec (fun hc => ?_) (fun hc => ?_) <;> simp -dsimp only [go_sem, Nat.reduceEqDiff, Nat.reduceAdd, Nat.reduceSub, Nat.reduceMul, Nat.reduceLeDiff, Nat.reduceLT, Nat.reduceBEq, Int.reduceLT, Int.reduceLE, Int.reduceGT, Int.reduceGE, Int.reduceEq, Int.reduceNe, Int.reduceBEq, Int.reduceBNe, Int.reduceAdd, Int.reduceSub, Int.reduceMul, Int.reduceToNat, Int.reduceNeg, ↓reduceIte, ↓reduceDIte, *]) | (refine GT_decT (fun hc => ?_) (fun hc => ?_) <;> simp -dsimp only [go_sem, Nat.reduceEqDiff, Nat.reduceAdd, Nat.reduceSub, Nat.reduceMul, Nat.reduceLeDiff, Nat.reduceLT, Nat.reduceBEq, Int.reduceLT, Int.reduceLE, Int.reduceGT, Int.reduceGE, Int.reduceEq, Int.reduceNe, Int.reduceBEq, Int.reduceBNe, Int.reduceAdd, Int.reduceSub, Int.reduceMul, Int.reduceToNat, Int.reduceNeg, ↓reduceIte, ↓reduceDIte, *]) | (refine GT_decF (fun hc => ?_) (fun hc => ?_) <;> simp -dsimp only [go_sem, Nat.reduceEqDiff, Nat.reduceAdd, Nat.reduceSub, Nat.reduceMul, Nat.reduceLeDiff, Nat.reduceLT, Nat.reduceBEq, Int.reduceLT, Int.reduceLE, Int.reduceGT, Int.reduceGE, Int.reduceEq, Int.reduceNe, Int.reduceBEq, Int.reduceBNe, Int.reduceAdd, Int.reduceSub, Int.reduceMul, Int.reduceToNat, Int.reduceNeg, ↓reduceIte, ↓reduceDIte, *]) | (refine BT_intro (fun hc => ?_) (fun hc => ?_) <;> simp -dsimp only [go_sem, Nat.reduceEqDiff, Nat.reduceAdd, Nat.reduceSub, Nat.reduceMul, Nat.reduceLeDiff, Nat.reduceLT, Nat.reduceBEq, Int.reduceLT, Int.reduceLE, Int.reduceGT, Int.reduceGE, Int.reduceEq, Int.reduceNe, Int.reduceBEq, Int.reduceBNe, Int.reduceAdd, Int.reduceSub, Int.reduceMul, Int.reduceToNat, Int.reduceNeg, ↓reduceIte, ↓reduceDIte, *]) | (refine GT_introT (fun hc => ?_) (fun hc => ?_) <;> simp -dsimp only [go_sem, Nat.reduceEqDiff, Nat.reduceAdd, Nat.reduceSub, Nat.reduceMul, Nat.reduceLeDiff, Nat.reduceLT, Nat.reduceBEq, Int.reduceLT, Int.reduceLE, Int.reduceGT, Int.reduceGE, Int.reduceEq, Int.reduceNe, Int.reduceBEq, Int.reduceBNe, Int.reduceAdd, Int.reduceSub, Int.reduceMul, Int.reduceToNat, Int.reduceNeg, ↓reduceIte, ↓reduceDIte, *]) | (refine GT_introF (fun hc => ?_) (fun hc => ?_) <;> simp -dsimp only [go_sem, Nat.reduceEqDiff, Nat.reduceAdd, Nat.reduceSub, Nat.reduceMul, Nat.reduceLeDiff, Nat.reduceLT, Nat.reduceBEq, Int.reduceLT, Int.reduceLE, Int.reduceGT, Int.reduceGE, Int.reduceEq, Int.reduceNe, Int.reduceBEq, Int.reduceBNe, Int.reduceAdd, Int.reduceSub, Int.reduceMul, Int.reduceToNat, Int.reduceNeg, ↓reduceIte, ↓reduceDIte, *])))
    · refine CT_of (room_ev (by assumption) h1 hn) ?_
      rintro _ _ ⟨rfl, rfl⟩
      have hw : IntKind.i64.wrap (roomF cap n - (if puts < 0 then 0 else puts)) = roomF cap n - (if puts < 0 then 0 else puts) := wrap_i64 (by unfold roomF; split <;> split <;> omega) (by unfold roomF; split <;> split <;> omega)
      simp -dsimp only [go_sem, Nat.reduceEqDiff, Nat.reduceAdd, Nat.reduceSub, Nat.reduceMul, Nat.reduceLeDiff, Nat.reduceLT, Nat.reduceBEq, Int.reduceLT, Int.reduceLE, Int.reduceGT, Int.reduceGE, Int.reduceEq, Int.reduceNe, Int.reduceBEq, Int.reduceBNe, Int.reduceAdd, Int.reduceSub, Int.reduceMul, Int.reduceToNat, Int.reduceNeg, ↓reduceIte, ↓reduceDIte, *]
      simp only [letF, upF, *]
      simp
      rfl
    · simp [letF, upF, *]
  all_goals rfl
/-- What a call may come to: the queue behind it. -/
def mayF (cap : Int) (l : List (BitVec 64)) (c : CallD) (mode puts takes : Int) : Option (List (BitVec 64)) :=
  if c.dn = false then (if (doF cap l c.kind c.arg).2.1 = 0 then some (doF cap l c.kind c.arg).1 else none)
  else if (doF cap l c.kind c.arg).2.1 = c.code ∧ (doF cap l c.kind c.arg).2.2 = c.ret then some (doF cap l c.kind c.arg).1
  else if letF cap l.length c.kind c.code c.ret mode puts takes then some l else none
/-- A queue that may be, or none. -/
def MayRes (H' : LHeap) (cap : Int) (o : Option (List (BitVec 64))) (v : Value) : Prop :=
  match o with
  | some m => ∃ a', v = .tuple #[fifo cap a' m.length, .bool true] ∧ Sl 1 H' a' (m.map w64)
  | none => v = .tuple #[fifo 0 none 0, .bool false]
theorem MayRes_of {H' : LHeap} {cap : Int} {o o' : Option (List (BitVec 64))} {v : Value} (h : o = o') (g : MayRes H' cap o' v) : MayRes H' cap o v := by rw [h]; exact g
/-- A queue that may be, whose numbers are those that were there, or new; or none. -/
def MayN (H' : LHeap) (n : Nat) (b : Option Addr) (cap : Int) (o : Option (List (BitVec 64))) (v : Value) : Prop :=
  match o with
  | some m => ∃ a', v = .tuple #[fifo cap a' m.length, .bool true] ∧ Sl 1 H' a' (m.map w64) ∧ (a' = b ∨ Fresh n a')
  | none => v = .tuple #[fifo 0 none 0, .bool false]
theorem qmay_ev {lim : Nat} {cap : Int} {a : Option Addr} {l : List (BitVec 64)} {c : CallD} {mode puts takes : Int} {H : LHeap} (hl : lim ≤ H.length) (hs : Sl 1 H a (l.map w64)) (h1 : cap ≤ 9223372036854775807) (hn : l.length < 1000000) (hp : puts ≤ 9223372036854775807) :
    callE T 86 lim [fifo cap a l.length, c.v, i64 mode, i64 puts, i64 takes] H fun v H' => ∃ t, H' = H ++ t ∧ MayN (H ++ t) H.length a cap (mayF cap l c mode puts takes) v := by
  refine callE_stay rfl (by simp) rfl ?_
  simp -dsimp only [go_sem, Nat.reduceEqDiff, Nat.reduceAdd, Nat.reduceSub, Nat.reduceMul, Nat.reduceLeDiff, Nat.reduceLT, Nat.reduceBEq, Int.reduceLT, Int.reduceLE, Int.reduceGT, Int.reduceGE, Int.reduceEq, Int.reduceNe, Int.reduceBEq, Int.reduceBNe, Int.reduceAdd, Int.reduceSub, Int.reduceMul, Int.reduceToNat, Int.reduceNeg, ↓reduceIte, ↓reduceDIte, *]
  refine CT_of (doF_ev (l := l) (by simp; omega) (hs.app _) hn) ?_
  rintro _ _ ⟨a1, t, rfl, rfl, g1, gf⟩
  generalize hq : doF cap l c.kind c.arg = q at g1
  simp -dsimp only [go_sem, Nat.reduceEqDiff, Nat.reduceAdd, Nat.reduceSub, Nat.reduceMul, Nat.reduceLeDiff, Nat.reduceLT, Nat.reduceBEq, Int.reduceLT, Int.reduceLE, Int.reduceGT, Int.reduceGE, Int.reduceEq, Int.reduceNe, Int.reduceBEq, Int.reduceBNe, Int.reduceAdd, Int.reduceSub, Int.reduceMul, Int.reduceToNat, Int.reduceNeg, ↓reduceIte, ↓reduceDIte, hl, hq]
  have gf' : a1 = a ∨ Fresh H.length a1 := gf.imp (·.1) (·.mono (by simp))
  clear gf
  (repeat' (first | (refine BT_beq (fun hc => ?_) (fun hc hc2 => ?_) <;> simp -dsimp only [go_sem, Nat.reduceEqDiff, Nat.reduceAdd, Nat.reduceSub, Nat.reduceMul, Nat.reduceLeDiff, Nat.reduceLT, Nat.reduceBEq, Int.reduceLT, Int.reduceLE, Int.reduceGT, Int.reduceGE, Int.reduceEq, Int.reduceNe, Int.reduceBEq, Int.reduceBNe, Int.reduceAdd, Int.reduceSub, Int.reduceMul, Int.reduceToNat, Int.reduceNeg, ↓reduceIte, ↓reduceDIte, mayF, MayN, *]) | (refine GT_beqT (fun hc => ?_) (fun hc hc2 => ?_) <;> simp -dsimp only [go_sem, Nat.reduceEqDiff, Nat.reduceAdd, Nat.reduceSub, Nat.reduceMul, Nat.reduceLeDiff, Nat.reduceLT, Nat.reduceBEq, Int.reduceLT, Int.reduceLE, Int.reduceGT, Int.reduceGE, Int.reduceEq, Int.reduceNe, Int.reduceBEq, Int.reduceBNe, Int.reduceAdd, Int.reduceSub, Int.reduceMul, Int.reduceToNat, Int.reduceNeg, ↓reduceIte, ↓reduceDIte, mayF, MayN, *]) | (refine GT_beqF (fun hc hc2 => ?_) (fun hc => ?_) <;> simp -dsimp only [go_sem, Nat.reduceEqDiff, Nat.reduceAdd, Nat.reduceSub, Nat.reduceMul, Nat.reduceLeDiff, Nat.reduceLT, Nat.reduceBEq, Int.reduceLT, Int.reduceLE, Int.reduceGT, Int.reduceGE, Int.reduceEq, Int.reduceNe, Int.reduceBEq, Int.reduceBNe, Int.reduceAdd, Int.reduceSub, Int.reduceMul, Int.reduceToNat, Int.reduceNeg, ↓reduceIte, ↓reduceDIte, mayF, MayN, *]) | (refine BT_bne (fun hc hc1 hc2 => ?_) (fun hc => ?_) <;> simp -dsimp only [go_sem, Nat.reduceEqDiff, Nat.reduceAdd, Nat.reduceSub, Nat.reduceMul, Nat.reduceLeDiff, Nat.reduceLT, Nat.reduceBEq, Int.reduceLT, Int.reduceLE, Int.reduceGT, Int.reduceGE, Int.reduceEq, Int.reduceNe, Int.reduceBEq, Int.reduceBNe, Int.reduceAdd, Int.reduceSub, Int.reduceMul, Int.reduceToNat, Int.reduceNeg, ↓reduceIte, ↓reduceDIte, mayF, MayN, *]) | (refine GT_bneT (fun hc hc1 hc2 => ?_) (fun hc => ?_) <;> simp -dsimp only [go_sem, Nat.reduceEqDiff, Nat.reduceAdd, Nat.reduceSub, Nat.reduceMul, Nat.reduceLeDiff, Nat.reduceLT, Nat.reduceBEq, Int.reduceLT, Int.reduceLE, Int.reduceGT, Int.reduceGE, Int.reduceEq, Int.reduceNe, Int.reduceBEq, Int.reduceBNe, Int.reduceAdd, Int.reduceSub, Int.reduceMul, Int.reduceToNat, Int.reduceNeg, ↓reduceIte, ↓reduceDIte, mayF, MayN, *]) | (refine GT_bneF (fun hc => ?_) (fun hc hc1 hc2 => ?_) <;> simp -dsimp only [go_sem, Nat.reduceEqDiff, Nat.reduceAdd, Nat.reduceSub, Nat.reduceMul, Nat.reduceLeDiff, Nat.reduceLT, Nat.reduceBEq, Int.reduceLT, Int.reduceLE, Int.reduceGT, Int.reduceGE, Int.reduceEq, Int.reduceNe, Int.reduceBEq, Int.reduceBNe, Int.reduceAdd, Int.reduceSub, Int.reduceMul, Int.reduceToNat, Int.reduceNeg, ↓reduceIte, ↓reduceDIte, mayF, MayN, *]) | (refine BT_not (fun hc => ?_) (fun hc => ?_) <;> simp -dsimp only [go_sem, Nat.reduceEqDiff, Nat.reduceAdd, Nat.reduceSub, Nat.reduceMul, Nat.reduceLeDiff, Nat.reduceLT, Nat.reduceBEq, Int.reduceLT, Int.reduceLE, Int.reduceGT, Int.reduceGE, Int.reduceEq, Int.reduceNe, Int.reduceBEq, Int.reduceBNe, Int.reduceAdd, Int.reduceSub, Int.reduceMul, Int.reduceToNat, Int.reduceNeg, ↓reduceIte, ↓reduceDIte, mayF, MayN, *]) | (refine GT_notT (fun hc => ?_) (fun hc => ?_) <;> simp -dsimp only [go_sem, Nat.reduceEqDiff, Nat.reduceAdd, Nat.reduceSub, Nat.reduceMul, Nat.reduceLeDiff, Nat.reduceLT, Nat.reduceBEq, Int.reduceLT, Int.reduceLE, Int.reduceGT, Int.reduceGE, Int.reduceEq, Int.reduceNe, Int.reduceBEq, Int.reduceBNe, Int.reduceAdd, Int.reduceSub, Int.reduceMul, Int.reduceToNat, Int.reduceNeg, ↓reduceIte, ↓reduceDIte, mayF, MayN, *]) | (refine GT_notF (fun hc => ?_) (fun hc => ?_) <;> simp -dsimp only [go_sem, Nat.reduceEqDiff, Nat.reduceAdd, Nat.reduceSub, Nat.reduceMul, Nat.reduceLeDiff, Nat.reduceLT, Nat.reduceBEq, Int.reduceLT, Int.reduceLE, Int.reduceGT, Int.reduceGE, Int.reduceEq, Int.reduceNe, Int.reduceBEq, Int.reduceBNe, Int.reduceAdd, Int.reduceSub, Int.reduceMul, Int.reduceToNat, Int.reduceNeg, ↓reduceIte, ↓reduceDIte, mayF, MayN, *]) | (refine BT_dec (fun hc => ?_) (fun hc => ?_) <;> simp -dsimp only [go_sem, Nat.reduceEqDiff, Nat.reduceAdd, Nat.reduceSub, Nat.reduceMul, Nat.reduceLeDiff, Nat.reduceLT, Nat.reduceBEq, Int.reduceLT, Int.reduceLE, Int.reduceGT, Int.reduceGE, Int.reduceEq, Int.reduceNe, Int.reduceBEq, Int.reduceBNe, Int.reduceAdd, Int.reduceSub, Int.reduceMul, Int.reduceToNat, Int.reduceNeg, ↓reduceIte, ↓reduceDIte, mayF, MayN, *]) | (refine GT_decT (fun hc => ?_) (fun hc => ?_) <;> simp -dsimp only [go_sem, Nat.reduceEqDiff, Nat.reduceAdd, Nat.reduceSub, Nat.reduceMul, Nat.reduceLeDiff, Nat.reduceLT, Nat.reduceBEq, Int.reduceLT, Int.reduceLE, Int.reduceGT, Int.reduceGE, Int.reduceEq, Int.reduceNe, Int.reduceBEq, Int.reduceBNe, Int.reduceAdd, Int.reduceSub, Int.reduceMul, Int.reduceToNat, Int.reduceNeg, ↓reduceIte, ↓reduceDIte, mayF, MayN, *]) | (refine GT_decF (fun hc => ?_) (fun hc => ?_) <;> simp -dsimp only [go_sem, Nat.reduceEqDiff, Nat.reduceAdd, Nat.reduceSub, Nat.reduceMul, Nat.reduceLeDiff, Nat.reduceLT, Nat.reduceBEq, Int.reduceLT, Int.reduceLE, Int.reduceGT, Int.reduceGE, Int.reduceEq, Int.reduceNe, Int.reduceBEq, Int.reduceBNe, Int.reduceAdd, Int.reduceSub, Int.reduceMul, Int.reduceToNat, Int.reduceNeg, ↓reduceIte, ↓reduceDIte, mayF, MayN, *]) | (refine BT_intro (fun hc => ?_) (fun hc => ?_) <;> simp -dsimp only [go_sem, Nat.reduceEqDiff, Nat.reduceAdd, Nat.reduceSub, Nat.reduceMul, Nat.reduceLeDiff, Nat.reduceLT, Nat.reduceBEq, Int.reduceLT, Int.reduceLE, Int.reduceGT, Int.reduceGE, Int.reduceEq, Int.reduceNe, Int.reduceBEq, Int.reduceBNe, Int.reduceAdd, Int.reduceSub, Int.reduceMul, Int.reduceToNat, Int.reduceNeg, ↓reduceIte, ↓reduceDIte, mayF, MayN, *]) | (refine GT_introT (fun hc => ?_) (fun hc => ?_) <;> simp -dsimp only [go_sem, Nat.reduceEqDiff, Nat.reduceAdd, Nat.reduceSub, Nat.reduceMul, Nat.reduceLeDiff, Nat.reduceLT, Nat.reduceBEq, Int.reduceLT, Int.reduceLE, Int.reduceGT, Int.reduceGE, Int.reduceEq, Int.reduceNe, Int.reduceBEq, Int.reduceBNe, Int.reduceAdd, Int.reduceSub, Int.reduceMul, Int.reduceToNat, Int.reduceNeg, ↓reduceIte, ↓reduceDIte, mayF, MayN, *]) | (refine GT_introF (fun hc => ?_) (fun hc => ?_) <;> simp -dsimp only [go_sem, Nat.reduceEqDiff, Nat.reduceAdd, Nat.reduceSub, Nat.reduceMul, Nat.reduceLeDiff, Nat.reduceLT, Nat.reduceBEq, Int.reduceLT, Int.reduceLE, Int.reduceGT, Int.reduceGE, Int.reduceEq, Int.reduceNe, Int.reduceBEq, Int.reduceBNe, Int.reduceAdd, Int.reduceSub, Int.reduceMul, Int.reduceToNat, Int.reduceNeg, ↓reduceIte, ↓reduceDIte, mayF, MayN, *])))
  · exact ⟨_, rfl, _, rfl, g1.into (by omega) (by simp [unbox_app, unbox_cons, unboxO_box]), gf'⟩
  · exact ⟨_, rfl⟩
  · exact ⟨_, rfl, _, rfl, g1.into (by omega) (by simp [unbox_app, unbox_cons, unboxO_box]), gf'⟩
  all_goals
    refine CT_of (let_ev h1 hn hp) ?_
    rintro _ _ ⟨rfl, rfl⟩
    simp -dsimp only [go_sem, Nat.reduceEqDiff, Nat.reduceAdd, Nat.reduceSub, Nat.reduceMul, Nat.reduceLeDiff, Nat.reduceLT, Nat.reduceBEq, Int.reduceLT, Int.reduceLE, Int.reduceGT, Int.reduceGE, Int.reduceEq, Int.reduceNe, Int.reduceBEq, Int.reduceBNe, Int.reduceAdd, Int.reduceSub, Int.reduceMul, Int.reduceToNat, Int.reduceNeg, ↓reduceIte, ↓reduceDIte, *]
    cases hb : letF cap l.length c.kind c.code c.ret mode puts takes
    · simp -dsimp only [go_sem, Nat.reduceEqDiff, Nat.reduceAdd, Nat.reduceSub, Nat.reduceMul, Nat.reduceLeDiff, Nat.reduceLT, Nat.reduceBEq, Int.reduceLT, Int.reduceLE, Int.reduceGT, Int.reduceGE, Int.reduceEq, Int.reduceNe, Int.reduceBEq, Int.reduceBNe, Int.reduceAdd, Int.reduceSub, Int.reduceMul, Int.reduceToNat, Int.reduceNeg, ↓reduceIte, ↓reduceDIte, hl]
      have hm : mayF cap l c mode puts takes = none := by simp [mayF, *]
      exact ⟨_, rfl, by rw [hm]; rfl⟩
    · simp -dsimp only [go_sem, Nat.reduceEqDiff, Nat.reduceAdd, Nat.reduceSub, Nat.reduceMul, Nat.reduceLeDiff, Nat.reduceLT, Nat.reduceBEq, Int.reduceLT, Int.reduceLE, Int.reduceGT, Int.reduceGE, Int.reduceEq, Int.reduceNe, Int.reduceBEq, Int.reduceBNe, Int.reduceAdd, Int.reduceSub, Int.reduceMul, Int.reduceToNat, Int.reduceNeg, ↓reduceIte, ↓reduceDIte, hl]
      have hm : mayF cap l c mode puts takes = some l := by simp [mayF, *]
      exact ⟨_, rfl, by rw [hm]; exact ⟨_, rfl, hs.app _, .inl rfl⟩⟩
end Go.Proofs.Ytopjhhcncjleaaa
/- DROP Texts that tell queues apart. -/
namespace Go.Proofs.Ytopjhhcncjleaaa
open Go Go.LK
set_option linter.unusedSimpArgs false
set_option linter.unusedVariables false
/-- A word's bytes, the first so many. -/
def bytesN (v : BitVec 64) (k : Nat) : List UInt8 := (List.range k).map fun j => UInt8.ofNat (v >>> (8 * j)).toNat
theorem bytesN_succ (v : BitVec 64) (k : Nat) : bytesN v (k + 1) = bytesN v k ++ [UInt8.ofNat (v >>> (8 * k)).toNat] := by
  simp [bytesN, List.range_succ]
theorem bytesN_len (v : BitVec 64) (k : Nat) : (bytesN v k).length = k := by simp [bytesN]
theorem shr_eq (v : BitVec 64) (k : Nat) : ((v >>> (8 * k)) >>> (8 : Nat)) = v >>> (8 * (k + 1)) := by
  rw [← BitVec.shiftRight_add]; congr 1
theorem lay_ev {lim : Nat} {a : Option Addr} {c : List UInt8} {v : BitVec 64} {H t : LHeap} {k : Nat} (hl : lim ≤ H.length) (ho : Own 1 (H ++ t) H.length a (c.map b8)) (hk : c.length = k) (hn : k < 100000000) :
    callE T 88 lim [.slice a k k, w64 v] (H ++ t) fun r H' => ∃ a' t', r = .slice a' (k + 8) (k + 8) ∧ H' = H ++ t' ∧ Own 1 (H ++ t') H.length a' ((c ++ bytesN v 8).map b8) ∧
      (∀ j o, t[j]? = some o → Off (H.length + j) a → t'[j]? = some o ∧ Off (H.length + j) a') := by
  refine callE_stay rfl (by simp) rfl ?_
  simp -dsimp only [go_sem, Nat.reduceEqDiff, Nat.reduceAdd, Nat.reduceSub, Nat.reduceMul, Nat.reduceLeDiff, Nat.reduceLT, Nat.reduceBEq, Int.reduceLT, Int.reduceLE, Int.reduceGT, Int.reduceGE, Int.reduceEq, Int.reduceNe, Int.reduceBEq, Int.reduceBNe, Int.reduceAdd, Int.reduceSub, Int.reduceMul, Int.reduceToNat, Int.reduceNeg, ↓reduceIte, ↓reduceDIte]
  refine LT_of (fun s : Nat × Option Addr × LHeap => [(0, .slice s.2.1 (k + s.1) (k + s.1)), (1, w64 (v >>> (8 * s.1))), (5, i64 s.1)]) (fun s => H ++ s.2.2) (fun s => s.1 ≤ 8 ∧ Own 1 (H ++ s.2.2) H.length s.2.1 ((c ++ bytesN v s.1).map b8) ∧ (∀ j o, t[j]? = some o → Off (H.length + j) a → s.2.2[j]? = some o ∧ Off (H.length + j) s.2.1)) (fun s => 8 - s.1) (0, a, t) (by simp) rfl ⟨by simp, by simpa [bytesN] using ho, fun j o h1 h2 => ⟨h1, h2⟩⟩ ?_
  rintro ⟨i, a', t'⟩ ⟨hi, ho, hk0⟩
  simp only at hi ho hk0 ⊢
  by_cases hlt : i < 8
  · have h1 : (i : Int) < 8 := by omega
    have hw : IntKind.i64.wrap ((i : Int) + 1) = ((i + 1 : Nat) : Int) := by rw [wrap_i64] <;> omega
    have g2 := fun u news => ho.grow (k := k + i) (bytes := 1) (lim := lim) (by simp [bytesN_len, hk]) (by omega) hl (by omega) (by omega) u news
    have h8 : min (8#64).toNat 64 = 8 := rfl
    simp -dsimp only [go_sem, Nat.reduceEqDiff, Nat.reduceAdd, Nat.reduceSub, Nat.reduceMul, Nat.reduceLeDiff, Nat.reduceLT, Nat.reduceBEq, Int.reduceLT, Int.reduceLE, Int.reduceGT, Int.reduceGE, Int.reduceEq, Int.reduceNe, Int.reduceBEq, Int.reduceBNe, Int.reduceAdd, Int.reduceSub, Int.reduceMul, Int.reduceToNat, Int.reduceNeg, ↓reduceIte, ↓reduceDIte, h1, g2, hw, h8, shr_eq v i]
    refine ⟨(i + 1, some ⟨H.length + (t'.length + 1), 0, none⟩, _), rfl, rfl, ⟨by dsimp only; omega, ?_, fun j o q1 q2 => ?_⟩, by dsimp only; omega⟩
    · dsimp only
      rw [show (c ++ bytesN v (i + 1)).map b8 = (c ++ bytesN v i).map b8 ++ [b8 (UInt8.ofNat (v >>> (8 * i)).toNat)] by simp [bytesN_succ]]
      exact Own.grown (u := [_]) rfl (by simp) a'
    · obtain ⟨q3, q4⟩ := hk0 j o q1 q2
      have hj : j < t'.length := (List.getElem?_eq_some_iff.1 q3).1
      exact ⟨get_old (killT_get ho rfl q3 q4) _, fun x hx => by cases hx; dsimp only; omega⟩
  · have h1 : ¬ (i : Int) < 8 := by omega
    simp -dsimp only [go_sem, Nat.reduceEqDiff, Nat.reduceAdd, Nat.reduceSub, Nat.reduceMul, Nat.reduceLeDiff, Nat.reduceLT, Nat.reduceBEq, Int.reduceLT, Int.reduceLE, Int.reduceGT, Int.reduceGE, Int.reduceEq, Int.reduceNe, Int.reduceBEq, Int.reduceBNe, Int.reduceAdd, Int.reduceSub, Int.reduceMul, Int.reduceToNat, Int.reduceNeg, ↓reduceIte, ↓reduceDIte, h1]
    have : i = 8 := by omega
    subst this
    exact ⟨_, _, rfl, rfl, ho, hk0⟩
/-- A queue's key. -/
def keyN (cap : Int) (l : List (BitVec 64)) : List UInt8 := bytesN (BitVec.ofInt 64 cap) 8 ++ l.flatMap (bytesN · 8)
theorem keyN_len (cap : Int) (l : List (BitVec 64)) : (keyN cap l).length = 8 + 8 * l.length := by
  simp only [keyN, List.length_append, bytesN_len, List.length_flatMap]
  rw [List.map_const', List.sum_replicate_nat]; omega
theorem keyN_snoc (cap : Int) (l : List (BitVec 64)) (x : BitVec 64) : keyN cap (l ++ [x]) = keyN cap l ++ bytesN x 8 := by
  simp [keyN]
theorem key_ev {lim : Nat} {cap : Int} {a : Option Addr} {l : List (BitVec 64)} {H : LHeap} (hs : Sl 1 H a (l.map w64)) (hn : l.length < 1000000) :
    callE T 66 lim [fifo cap a l.length] H fun v H' => v = strV (keyN cap l) ∧ H' = H := by
  refine callE_pop rfl (by simp) rfl ?_
  simp -dsimp only [go_sem, Nat.reduceEqDiff, Nat.reduceAdd, Nat.reduceSub, Nat.reduceMul, Nat.reduceLeDiff, Nat.reduceLT, Nat.reduceBEq, Int.reduceLT, Int.reduceLE, Int.reduceGT, Int.reduceGE, Int.reduceEq, Int.reduceNe, Int.reduceBEq, Int.reduceBNe, Int.reduceAdd, Int.reduceSub, Int.reduceMul, Int.reduceToNat, Int.reduceNeg, ↓reduceIte, ↓reduceDIte]
  refine CT_of (lay_ev (c := []) (by omega) (Own.nil _ _ _) rfl (by omega)) ?_
  rintro _ _ ⟨a1, t1, rfl, rfl, g1, g0⟩
  have hb := (g0 0 _ rfl (fun x hx => by cases hx)).1
  have hb1 : lget t1 0 1 = some (.slice a l.length l.length) := by simp [lget, hb]
  simp -dsimp only [go_sem, Nat.reduceEqDiff, Nat.reduceAdd, Nat.reduceSub, Nat.reduceMul, Nat.reduceLeDiff, Nat.reduceLT, Nat.reduceBEq, Int.reduceLT, Int.reduceLE, Int.reduceGT, Int.reduceGE, Int.reduceEq, Int.reduceNe, Int.reduceBEq, Int.reduceBNe, Int.reduceAdd, Int.reduceSub, Int.reduceMul, Int.reduceToNat, Int.reduceNeg, ↓reduceIte, ↓reduceDIte, hb1]
  refine LT_of (fun s : Nat × Option Addr × LHeap => [(3, .slice s.2.1 (8 + 8 * s.1) (8 + 8 * s.1)), (11, .slice a l.length l.length), (12, i64 l.length), (13, i64 s.1)]) (fun s => H ++ s.2.2) (fun s => s.1 ≤ l.length ∧ Own 1 (H ++ s.2.2) H.length s.2.1 ((keyN cap (l.take s.1)).map b8)) (fun s => l.length - s.1) (0, a1, t1) rfl rfl ⟨by simp, by simpa [keyN] using g1⟩ ?_
  rintro ⟨i, a', t⟩ ⟨hi, ho⟩
  simp only at hi ho ⊢
  have hkl := keyN_len cap (l.take i)
  rw [List.length_take, Nat.min_eq_left hi] at hkl
  by_cases hlt : i < l.length
  · have h1 : (i : Int) < l.length := by omega
    have h3 : 0 ≤ (i : Int) := by omega
    have hw : IntKind.i64.wrap ((i : Int) + 1) = ((i + 1 : Nat) : Int) := by rw [wrap_i64] <;> omega
    have k1 : l[i]? = some (l[i]'hlt) := List.getElem?_eq_getElem _
    generalize l[i]'hlt = x at k1
    obtain ⟨b, o, rfl, hb, hg⟩ := hs.all (by simp; omega)
    have g2 := fun t => hg t i (w64 x) (by simp [k1])
    simp -dsimp only [go_sem, Nat.reduceEqDiff, Nat.reduceAdd, Nat.reduceSub, Nat.reduceMul, Nat.reduceLeDiff, Nat.reduceLT, Nat.reduceBEq, Int.reduceLT, Int.reduceLE, Int.reduceGT, Int.reduceGE, Int.reduceEq, Int.reduceNe, Int.reduceBEq, Int.reduceBNe, Int.reduceAdd, Int.reduceSub, Int.reduceMul, Int.reduceToNat, Int.reduceNeg, ↓reduceIte, ↓reduceDIte, h1, h3, g2, hw]
    refine CT_of (lay_ev (by omega) ho hkl (by omega)) ?_
    rintro _ _ ⟨a2, t2, rfl, rfl, g3, _⟩
    simp -dsimp only [go_sem, Nat.reduceEqDiff, Nat.reduceAdd, Nat.reduceSub, Nat.reduceMul, Nat.reduceLeDiff, Nat.reduceLT, Nat.reduceBEq, Int.reduceLT, Int.reduceLE, Int.reduceGT, Int.reduceGE, Int.reduceEq, Int.reduceNe, Int.reduceBEq, Int.reduceBNe, Int.reduceAdd, Int.reduceSub, Int.reduceMul, Int.reduceToNat, Int.reduceNeg, ↓reduceIte, ↓reduceDIte, h1, h3, g2, hw]
    refine ⟨(i + 1, a2, t2), by simp only [show 8 + 8 * (i + 1) = 8 + 8 * i + 8 by omega], rfl, ⟨by dsimp only; omega, ?_⟩, by dsimp only; omega⟩
    dsimp only
    rw [List.take_add_one, k1]
    simp only [Option.toList_some, keyN_snoc]
    exact g3
  · have h1 : ¬ (i : Int) < l.length := by omega
    have : i = l.length := by omega
    subst this
    rw [List.take_length] at ho
    rcases ho with ⟨_, h⟩ | ⟨b, rfl, hb1, hb2⟩
    · have := congrArg List.length h
      simp [keyN_len] at this
    · have hc := lcells_of (n := 8 + 8 * l.length) hb2 (by simp [keyN_len])
      simp -dsimp only [go_sem, Nat.reduceEqDiff, Nat.reduceAdd, Nat.reduceSub, Nat.reduceMul, Nat.reduceLeDiff, Nat.reduceLT, Nat.reduceBEq, Int.reduceLT, Int.reduceLE, Int.reduceGT, Int.reduceGE, Int.reduceEq, Int.reduceNe, Int.reduceBEq, Int.reduceBNe, Int.reduceAdd, Int.reduceSub, Int.reduceMul, Int.reduceToNat, Int.reduceNeg, ↓reduceIte, ↓reduceDIte, h1, hc, bytesOf_b8]
theorem bytesN_inj {x y : BitVec 64} (h : bytesN x 8 = bytesN y 8) : x = y := by
  have e : ∀ j, j < 8 → x.toNat / 256 ^ j % 256 = y.toNat / 256 ^ j % 256 := by
    intro j hj
    have := congrArg (fun l => l[j]?) h
    simp only [bytesN, List.getElem?_map, List.getElem?_range hj, Option.map_some, Option.some.injEq] at this
    have := congrArg UInt8.toNat this
    simpa [UInt8.toNat_ofNat', BitVec.toNat_ushiftRight, Nat.shiftRight_eq_div_pow, Nat.pow_mul] using this
  have h0 := e 0 (by omega)
  have h1 := e 1 (by omega)
  have h2 := e 2 (by omega)
  have h3 := e 3 (by omega)
  have h4 := e 4 (by omega)
  have h5 := e 5 (by omega)
  have h6 := e 6 (by omega)
  have h7 := e 7 (by omega)
  have hx := x.isLt
  have hy := y.isLt
  refine BitVec.eq_of_toNat_eq ?_
  omega
theorem keys_inj : ∀ {l m : List (BitVec 64)}, l.flatMap (bytesN · 8) = m.flatMap (bytesN · 8) → l = m
  | [], [], _ => rfl
  | [], y :: m, h => by
    have := congrArg List.length h
    simp only [List.flatMap_nil, List.flatMap_cons, List.length_append, bytesN_len, List.length_nil] at this
    omega
  | x :: l, [], h => by
    have := congrArg List.length h
    simp only [List.flatMap_nil, List.flatMap_cons, List.length_append, bytesN_len, List.length_nil] at this
    omega
  | x :: l, y :: m, h => by
    simp only [List.flatMap_cons] at h
    obtain ⟨h1, h2⟩ := List.append_inj h (by simp [bytesN_len])
    rw [bytesN_inj h1, keys_inj h2]
theorem keyN_eq {c d : Int} {l m : List (BitVec 64)} (hc : -9223372036854775808 ≤ c ∧ c ≤ 9223372036854775807) (hd : -9223372036854775808 ≤ d ∧ d ≤ 9223372036854775807) :
    (keyN c l == keyN d m) = decide (c = d ∧ l = m) := by
  rw [Bool.eq_iff_iff, beq_iff_eq, decide_eq_true_eq]
  constructor
  · intro h
    obtain ⟨h1, h2⟩ := List.append_inj h (by simp [bytesN_len])
    refine ⟨?_, keys_inj h2⟩
    have := congrArg BitVec.toInt (bytesN_inj h1)
    rw [BitVec.toInt_ofInt, BitVec.toInt_ofInt] at this
    rw [Int.bmod_eq_of_le (by omega) (by omega), Int.bmod_eq_of_le (by omega) (by omega)] at this
    exact this
  · rintro ⟨rfl, rfl⟩; rfl
end Go.Proofs.Ytopjhhcncjleaaa
/- DROP Calls: what is ahead of what; the document's functions of calls; counts. -/
namespace Go.Proofs.Ytopjhhcncjleaaa
open Go Go.LK
set_option linter.unusedSimpArgs false
set_option linter.unusedVariables false
theorem ahead_self {a : CallD} (h : rightF a = true) : aheadF a a = false := by
  unfold rightF at h
  unfold aheadF
  split at h
  · cases h
  · split at h
    · rename_i hd; rw [hd]; simp at h ⊢; omega
    · rename_i hd; simp at hd; rw [hd]; rfl
theorem ahead_not {a b : CallD} (ha : rightF a = true) (hb : rightF b = true) (h : aheadF a b = true) : aheadF b a = false := by
  have h1 := ahead_self ha
  have h2 := ahead_self hb
  simp only [aheadF, Bool.and_eq_true, decide_eq_true_eq, Bool.and_eq_false_iff, decide_eq_false_iff_not] at *
  rcases h2 with h2 | h2
  · exact .inl h2
  · rcases h1 with h1 | h1
    · rw [h1] at h; cases h.1
    · exact .inr (by omega)
theorem ahead_trans {a b c : CallD} (hb : rightF b = true) (h : aheadF a b = true) (g : aheadF b c = true) : aheadF a c = true := by
  have h2 := ahead_self hb
  simp only [aheadF, Bool.and_eq_true, decide_eq_true_eq, Bool.and_eq_false_iff, decide_eq_false_iff_not] at *
  refine ⟨h.1, ?_⟩
  rcases h2 with h2 | h2
  · rw [h2] at g; cases g.1
  · omega
def onF (c : CallD) (m : Int) : Bool := decide (c.fr ≤ m) && (!c.dn || decide (m ≤ c.to))
theorem take_at {l : List CallD} {j : Nat} {o : CallD} (h : o ∈ l.take j) : ∃ k, k < j ∧ l[k]? = some o := by
  obtain ⟨k, hk, rfl⟩ := List.getElem_of_mem h
  have : k < j ∧ k < l.length := by simp at hk; omega
  exact ⟨k, this.1, by rw [List.getElem_take]; exact List.getElem?_eq_getElem this.2⟩
/-- Of calls that are right: they meet just if one begins while the other one goes on. -/
theorem meets_on {o c : CallD} (ho : rightF o = true) (hc : rightF c = true) : meetsF o c = (onF o c.fr || onF c o.fr) := by
  have h1 : o.dn = true → o.fr ≤ o.to := by
    intro hd; unfold rightF at ho; split at ho
    · cases ho
    · simpa [hd] using ho
  have h2 : c.dn = true → c.fr ≤ c.to := by
    intro hd; unfold rightF at hc; split at hc
    · cases hc
    · simpa [hd] using hc
  rw [Bool.eq_iff_iff]
  simp only [meetsF, aheadF, onF, Bool.and_eq_true, Bool.or_eq_true, Bool.not_eq_true', Bool.and_eq_false_iff, decide_eq_true_eq, decide_eq_false_iff_not]
  cases hod : o.dn <;> cases hcd : c.dn <;> simp only [hod, hcd, Bool.false_eq_true, Bool.true_eq_false, false_implies, true_implies, reduceCtorEq, false_or, true_or, or_true, and_true, true_and, forall_const] at * <;> first | omega | (simp; omega) | (simp; done)
def condI (l : List CallD) (at_ kind : Int) (i : Nat) : Bool :=
  decide (0 ≤ at_) && match l[i]?, l[at_.toNat]? with
    | some c, some d => decide ((i : Int) ≠ at_) && ((decide (kind < 0) || decide (c.kind = kind)) && meetsF c d)
    | _, _ => false
def cntF (l : List CallD) (at_ kind : Int) : Nat → Nat
  | 0 => 0
  | j + 1 => cntF l at_ kind j + (if condI l at_ kind j = true then 1 else 0)
theorem cnt_le (l : List CallD) (at_ kind : Int) : ∀ j, cntF l at_ kind j ≤ j
  | 0 => Nat.le_refl _
  | j + 1 => by
    have := cnt_le l at_ kind j
    simp only [cntF]
    split <;> omega
theorem cnt_out {l : List CallD} {at_ kind : Int} (h : at_ < 0 ∨ (l.length : Int) ≤ at_) : ∀ j, cntF l at_ kind j = 0
  | 0 => rfl
  | j + 1 => by
    have : condI l at_ kind j = false := by
      unfold condI
      by_cases h0 : 0 ≤ at_
      · have : l[at_.toNat]? = none := List.getElem?_eq_none (by omega)
        rw [this]
        cases l[j]? <;> simp
      · simp [h0]
    rw [cntF, cnt_out h j, this]; rfl
set_option maxHeartbeats 1000000 in
theorem among_ev {lim n : Nat} {a : Option Addr} {l : List CallD} {at_ kind : Int} {H : LHeap} (hs : Sl 8 H a (l.flatMap CallD.cells)) (hn : l.length < 1000000) :
    callE T 87 lim [.slice a l.length n, i64 at_, i64 kind] H fun v H' => v = i64 (cntF l at_ kind l.length) ∧ H' = H := by
  refine callE_pop rfl (by simp) rfl ?_
  by_cases h1 : at_ < 0
  · simp -dsimp only [go_sem, Nat.reduceEqDiff, Nat.reduceAdd, Nat.reduceSub, Nat.reduceMul, Nat.reduceLeDiff, Nat.reduceLT, Nat.reduceBEq, Int.reduceLT, Int.reduceLE, Int.reduceGT, Int.reduceGE, Int.reduceEq, Int.reduceNe, Int.reduceBEq, Int.reduceBNe, Int.reduceAdd, Int.reduceSub, Int.reduceMul, Int.reduceToNat, Int.reduceNeg, ↓reduceIte, ↓reduceDIte, h1]
    rw [cnt_out (.inl h1)]; rfl
  by_cases h2 : (l.length : Int) ≤ at_
  · simp -dsimp only [go_sem, Nat.reduceEqDiff, Nat.reduceAdd, Nat.reduceSub, Nat.reduceMul, Nat.reduceLeDiff, Nat.reduceLT, Nat.reduceBEq, Int.reduceLT, Int.reduceLE, Int.reduceGT, Int.reduceGE, Int.reduceEq, Int.reduceNe, Int.reduceBEq, Int.reduceBNe, Int.reduceAdd, Int.reduceSub, Int.reduceMul, Int.reduceToNat, Int.reduceNeg, ↓reduceIte, ↓reduceDIte, h1, h2]
    rw [cnt_out (.inr h2)]; rfl
  obtain ⟨j, rfl⟩ := Int.eq_ofNat_of_zero_le (Int.not_lt.1 h1)
  have hj : j < l.length := by omega
  have hd : l[j]? = some (l[j]'hj) := List.getElem?_eq_getElem _
  generalize l[j]'hj = d at hd
  obtain ⟨b1, o1, rfl, hb1, hg1⟩ := hs.rows (f := CallD.cells) CallD.len (by omega) (by omega)
  have gd := fun t => hg1 t j d hd
  simp only [CallD.cells] at gd
  have j1 : (j : Int) < l.length := by omega
  have j3 : 0 ≤ (j : Int) := by omega
  simp -dsimp only [go_sem, Nat.reduceEqDiff, Nat.reduceAdd, Nat.reduceSub, Nat.reduceMul, Nat.reduceLeDiff, Nat.reduceLT, Nat.reduceBEq, Int.reduceLT, Int.reduceLE, Int.reduceGT, Int.reduceGE, Int.reduceEq, Int.reduceNe, Int.reduceBEq, Int.reduceBNe, Int.reduceAdd, Int.reduceSub, Int.reduceMul, Int.reduceToNat, Int.reduceNeg, ↓reduceIte, ↓reduceDIte, h1, h2]
  refine LT_of (fun q : Nat × LHeap => [(0, .slice (some ⟨b1, o1, none⟩) l.length n), (1, i64 j), (2, i64 kind), (7, i64 (cntF l j kind q.1)), (18, .slice (some ⟨b1, o1, none⟩) l.length n), (19, i64 l.length), (20, i64 q.1)]) (fun q => H ++ q.2) (fun q => q.1 ≤ l.length) (fun q => l.length - q.1) (0, []) (by simp [cntF]) (by simp) (by simp) ?_
  rintro ⟨i, t⟩ hi
  simp only at hi ⊢
  by_cases hlt : i < l.length
  · have m1 : (i : Int) < l.length := by omega
    have m3 : 0 ≤ (i : Int) := by omega
    have hc : l[i]? = some (l[i]'hlt) := List.getElem?_eq_getElem _
    generalize l[i]'hlt = c at hc
    have gc := fun t => hg1 t i c hc
    simp only [CallD.cells] at gc
    have hw : IntKind.i64.wrap ((i : Int) + 1) = ((i + 1 : Nat) : Int) := by rw [wrap_i64] <;> omega
    have hle := cnt_le l j kind i
    have hw2 : IntKind.i64.wrap ((cntF l j kind i : Int) + 1) = ((cntF l j kind i + 1 : Nat) : Int) := by rw [wrap_i64] <;> omega
    have ci : condI l j kind i = (decide ((i : Int) ≠ j) && ((decide (kind < 0) || decide (c.kind = kind)) && meetsF c d)) := by
      simp [condI, hc, hd]
    have no : condI l j kind i = false → cntF l j kind (i + 1) = cntF l j kind i := fun h => by simp [cntF, h]
    have yes : condI l j kind i = true → cntF l j kind (i + 1) = cntF l j kind i + 1 := fun h => by simp [cntF, h]
    by_cases hij : i = j
    · have e1 : ((i : Int) != j) = false := by simp [hij]
      have := no (by rw [ci]; simp [hij])
      simp -dsimp only [go_sem, Nat.reduceEqDiff, Nat.reduceAdd, Nat.reduceSub, Nat.reduceMul, Nat.reduceLeDiff, Nat.reduceLT, Nat.reduceBEq, Int.reduceLT, Int.reduceLE, Int.reduceGT, Int.reduceGE, Int.reduceEq, Int.reduceNe, Int.reduceBEq, Int.reduceBNe, Int.reduceAdd, Int.reduceSub, Int.reduceMul, Int.reduceToNat, Int.reduceNeg, ↓reduceIte, ↓reduceDIte, m1, m3, gc, e1, hw]
      exact ⟨(i + 1, _), by rw [this], rfl, by dsimp only; omega, by dsimp only; omega⟩
    · have e1 : ((i : Int) != j) = true := by simp; omega
      have e1' : (i : Int) ≠ j := by omega
      by_cases hk : kind < 0 ∨ c.kind = kind
      · rcases hk with hk | hk
        · simp -dsimp only [go_sem, Nat.reduceEqDiff, Nat.reduceAdd, Nat.reduceSub, Nat.reduceMul, Nat.reduceLeDiff, Nat.reduceLT, Nat.reduceBEq, Int.reduceLT, Int.reduceLE, Int.reduceGT, Int.reduceGE, Int.reduceEq, Int.reduceNe, Int.reduceBEq, Int.reduceBNe, Int.reduceAdd, Int.reduceSub, Int.reduceMul, Int.reduceToNat, Int.reduceNeg, ↓reduceIte, ↓reduceDIte, m1, m3, gc, gd, e1, hk, j1, j3]
          refine CT_val (meets_ev (a := c) (b := d)) ?_
          cases hm : meetsF c d
          · have := no (by rw [ci, hm]; simp)
            simp -dsimp only [go_sem, Nat.reduceEqDiff, Nat.reduceAdd, Nat.reduceSub, Nat.reduceMul, Nat.reduceLeDiff, Nat.reduceLT, Nat.reduceBEq, Int.reduceLT, Int.reduceLE, Int.reduceGT, Int.reduceGE, Int.reduceEq, Int.reduceNe, Int.reduceBEq, Int.reduceBNe, Int.reduceAdd, Int.reduceSub, Int.reduceMul, Int.reduceToNat, Int.reduceNeg, ↓reduceIte, ↓reduceDIte, hw]
            exact ⟨(i + 1, _), by rw [this], rfl, by dsimp only; omega, by dsimp only; omega⟩
          · have := yes (by rw [ci, hm]; simp [e1', hk])
            simp -dsimp only [go_sem, Nat.reduceEqDiff, Nat.reduceAdd, Nat.reduceSub, Nat.reduceMul, Nat.reduceLeDiff, Nat.reduceLT, Nat.reduceBEq, Int.reduceLT, Int.reduceLE, Int.reduceGT, Int.reduceGE, Int.reduceEq, Int.reduceNe, Int.reduceBEq, Int.reduceBNe, Int.reduceAdd, Int.reduceSub, Int.reduceMul, Int.reduceToNat, Int.reduceNeg, ↓reduceIte, ↓reduceDIte, hw, hw2]
            exact ⟨(i + 1, _), by rw [this], rfl, by dsimp only; omega, by dsimp only; omega⟩
        · by_cases hk0 : kind < 0
          · simp -dsimp only [go_sem, Nat.reduceEqDiff, Nat.reduceAdd, Nat.reduceSub, Nat.reduceMul, Nat.reduceLeDiff, Nat.reduceLT, Nat.reduceBEq, Int.reduceLT, Int.reduceLE, Int.reduceGT, Int.reduceGE, Int.reduceEq, Int.reduceNe, Int.reduceBEq, Int.reduceBNe, Int.reduceAdd, Int.reduceSub, Int.reduceMul, Int.reduceToNat, Int.reduceNeg, ↓reduceIte, ↓reduceDIte, m1, m3, gc, gd, e1, hk0, j1, j3]
            refine CT_val (meets_ev (a := c) (b := d)) ?_
            cases hm : meetsF c d
            · have := no (by rw [ci, hm]; simp)
              simp -dsimp only [go_sem, Nat.reduceEqDiff, Nat.reduceAdd, Nat.reduceSub, Nat.reduceMul, Nat.reduceLeDiff, Nat.reduceLT, Nat.reduceBEq, Int.reduceLT, Int.reduceLE, Int.reduceGT, Int.reduceGE, Int.reduceEq, Int.reduceNe, Int.reduceBEq, Int.reduceBNe, Int.reduceAdd, Int.reduceSub, Int.reduceMul, Int.reduceToNat, Int.reduceNeg, ↓reduceIte, ↓reduceDIte, hw]
              exact ⟨(i + 1, _), by rw [this], rfl, by dsimp only; omega, by dsimp only; omega⟩
            · have := yes (by rw [ci, hm]; simp [e1', hk])
              simp -dsimp only [go_sem, Nat.reduceEqDiff, Nat.reduceAdd, Nat.reduceSub, Nat.reduceMul, Nat.reduceLeDiff, Nat.reduceLT, Nat.reduceBEq, Int.reduceLT, Int.reduceLE, Int.reduceGT, Int.reduceGE, Int.reduceEq, Int.reduceNe, Int.reduceBEq, Int.reduceBNe, Int.reduceAdd, Int.reduceSub, Int.reduceMul, Int.reduceToNat, Int.reduceNeg, ↓reduceIte, ↓reduceDIte, hw, hw2]
              exact ⟨(i + 1, _), by rw [this], rfl, by dsimp only; omega, by dsimp only; omega⟩
          · have e2 : (c.kind == kind) = true := by simpa using hk
            simp -dsimp only [go_sem, Nat.reduceEqDiff, Nat.reduceAdd, Nat.reduceSub, Nat.reduceMul, Nat.reduceLeDiff, Nat.reduceLT, Nat.reduceBEq, Int.reduceLT, Int.reduceLE, Int.reduceGT, Int.reduceGE, Int.reduceEq, Int.reduceNe, Int.reduceBEq, Int.reduceBNe, Int.reduceAdd, Int.reduceSub, Int.reduceMul, Int.reduceToNat, Int.reduceNeg, ↓reduceIte, ↓reduceDIte, m1, m3, gc, gd, e1, hk0, e2, j1, j3]
            refine CT_val (meets_ev (a := c) (b := d)) ?_
            cases hm : meetsF c d
            · have := no (by rw [ci, hm]; simp)
              simp -dsimp only [go_sem, Nat.reduceEqDiff, Nat.reduceAdd, Nat.reduceSub, Nat.reduceMul, Nat.reduceLeDiff, Nat.reduceLT, Nat.reduceBEq, Int.reduceLT, Int.reduceLE, Int.reduceGT, Int.reduceGE, Int.reduceEq, Int.reduceNe, Int.reduceBEq, Int.reduceBNe, Int.reduceAdd, Int.reduceSub, Int.reduceMul, Int.reduceToNat, Int.reduceNeg, ↓reduceIte, ↓reduceDIte, hw]
              exact ⟨(i + 1, _), by rw [this], rfl, by dsimp only; omega, by dsimp only; omega⟩
            · have := yes (by rw [ci, hm]; simp [e1', hk])
              simp -dsimp only [go_sem, Nat.reduceEqDiff, Nat.reduceAdd, Nat.reduceSub, Nat.reduceMul, Nat.reduceLeDiff, Nat.reduceLT, Nat.reduceBEq, Int.reduceLT, Int.reduceLE, Int.reduceGT, Int.reduceGE, Int.reduceEq, Int.reduceNe, Int.reduceBEq, Int.reduceBNe, Int.reduceAdd, Int.reduceSub, Int.reduceMul, Int.reduceToNat, Int.reduceNeg, ↓reduceIte, ↓reduceDIte, hw, hw2]
              exact ⟨(i + 1, _), by rw [this], rfl, by dsimp only; omega, by dsimp only; omega⟩
      · have hk0 : ¬ kind < 0 := fun q => hk (.inl q)
        have hk1 : ¬ c.kind = kind := fun q => hk (.inr q)
        have e2 : (c.kind == kind) = false := by simpa using hk1
        have := no (by rw [ci]; simp [hk0, hk1])
        simp -dsimp only [go_sem, Nat.reduceEqDiff, Nat.reduceAdd, Nat.reduceSub, Nat.reduceMul, Nat.reduceLeDiff, Nat.reduceLT, Nat.reduceBEq, Int.reduceLT, Int.reduceLE, Int.reduceGT, Int.reduceGE, Int.reduceEq, Int.reduceNe, Int.reduceBEq, Int.reduceBNe, Int.reduceAdd, Int.reduceSub, Int.reduceMul, Int.reduceToNat, Int.reduceNeg, ↓reduceIte, ↓reduceDIte, m1, m3, gc, gd, e1, hk0, e2, j1, j3, hw]
        exact ⟨(i + 1, _), by rw [this], rfl, by dsimp only; omega, by dsimp only; omega⟩
  · have m1 : ¬ (i : Int) < l.length := by omega
    have : i = l.length := by omega
    subst this
    simp -dsimp only [go_sem, Nat.reduceEqDiff, Nat.reduceAdd, Nat.reduceSub, Nat.reduceMul, Nat.reduceLeDiff, Nat.reduceLT, Nat.reduceBEq, Int.reduceLT, Int.reduceLE, Int.reduceGT, Int.reduceGE, Int.reduceEq, Int.reduceNe, Int.reduceBEq, Int.reduceBNe, Int.reduceAdd, Int.reduceSub, Int.reduceMul, Int.reduceToNat, Int.reduceNeg, ↓reduceIte, ↓reduceDIte, m1]
theorem right_at {lim n m : Nat} {a : Option Addr} {l : List CallD} {H : LHeap} (hm : l.length = m) (hcap : m ≤ n) (hs : Sl 8 H a (l.flatMap CallD.cells)) :
    callE T 82 lim [.slice a m n] H fun v H' => v = .bool (rightL l) ∧ H' = H := by subst hm; exact right_cap hcap hs
theorem among_at {lim n m : Nat} {a : Option Addr} {l : List CallD} {at_ kind : Int} {H : LHeap} (hm : l.length = m) (hs : Sl 8 H a (l.flatMap CallD.cells)) (hn : l.length < 1000000) :
    callE T 87 lim [.slice a m n, i64 at_, i64 kind] H fun v H' => v = i64 (cntF l at_ kind m) ∧ H' = H := by subst hm; exact among_ev hs hn
end Go.Proofs.Ytopjhhcncjleaaa
