/- The statement VyAlone. -/
import Derived.Test.YtgipbamdefjenaaV8
namespace Go.Proofs.Ytgipbamdefjenaa
open Go Go.LK
set_option linter.unusedSimpArgs false
set_option linter.unusedVariables false
structure Ask where
  th : Int
  kind : Int
  arg : BitVec 64
def Ask.cells (c : Ask) : List Value := [.int .i64 c.th, .int .i64 c.kind, w64 c.arg]
theorem Ask.len (c : Ask) : c.cells.length = 3 := rfl
def Ask.Ok (c : Ask) : Prop := (-9223372036854775808 ≤ c.th ∧ c.th ≤ 9223372036854775807) ∧ (-9223372036854775808 ≤ c.kind ∧ c.kind ≤ 9223372036854775807)
theorem Ask.row (r : List Value) (h_0 : Row2 CellIs [.int .i64, .int .i64, .int .u64] r) : ∃ x, r = Ask.cells x ∧ Ask.Ok x := by
  obtain ⟨_, _, rfl, k0, h_1⟩ := row_cons h_0
  obtain ⟨x0, rfl, y0⟩ := is_i64 k0
  obtain ⟨_, _, rfl, k1, h_2⟩ := row_cons h_1
  obtain ⟨x1, rfl, y1⟩ := is_i64 k1
  obtain ⟨_, _, rfl, k2, h_3⟩ := row_cons h_2
  obtain ⟨x2, rfl⟩ := is_u64 k2
  obtain rfl := row_nil h_3
  exact ⟨⟨x0, x1, x2⟩, rfl, ⟨y0, y1⟩⟩

theorem two_ev (lim : Nat) (H : LHeap) (n : Int) : ∃ s : Nat, (s = 2 ∨ s = 4 ∨ s = 8) ∧ callE T 22 lim [i64 n] H fun v H' => v = i64 s ∧ H' = H := by
  obtain ⟨d, hd, d0, d3⟩ := andK n 3 (by decide)
  have d3 : d ≤ 3 := d3
  have : d = 0 ∨ d = 1 ∨ d = 2 ∨ d = 3 := by omega
  rcases this with rfl | rfl | rfl | rfl
  · refine ⟨2, .inl rfl, ?_⟩
    refine callE_pop rfl (by simp) rfl ?_
    have e1 : Int.tmod 0 3 = 0 := by decide
    have e2 : lbin .shl (i64 2) (w64 (BitVec.ofInt 64 0)) = some (i64 2) := by rfl
    simp -dsimp only [go_sem, Nat.reduceEqDiff, Nat.reduceAdd, Nat.reduceSub, Nat.reduceMul, Nat.reduceLeDiff, Nat.reduceLT, Nat.reduceBEq, Int.reduceLT, Int.reduceLE, Int.reduceGT, Int.reduceGE, Int.reduceEq, Int.reduceNe, Int.reduceBEq, Int.reduceBNe, Int.reduceAdd, Int.reduceSub, Int.reduceMul, Int.reduceToNat, Int.reduceNeg, ↓reduceIte, ↓reduceDIte, hd, e1, e2]
  · refine ⟨4, .inr (.inl rfl), ?_⟩
    refine callE_pop rfl (by simp) rfl ?_
    have e1 : Int.tmod 1 3 = 1 := by decide
    have e2 : lbin .shl (i64 2) (w64 (BitVec.ofInt 64 1)) = some (i64 4) := by rfl
    simp -dsimp only [go_sem, Nat.reduceEqDiff, Nat.reduceAdd, Nat.reduceSub, Nat.reduceMul, Nat.reduceLeDiff, Nat.reduceLT, Nat.reduceBEq, Int.reduceLT, Int.reduceLE, Int.reduceGT, Int.reduceGE, Int.reduceEq, Int.reduceNe, Int.reduceBEq, Int.reduceBNe, Int.reduceAdd, Int.reduceSub, Int.reduceMul, Int.reduceToNat, Int.reduceNeg, ↓reduceIte, ↓reduceDIte, hd, e1, e2]
  · refine ⟨8, .inr (.inr rfl), ?_⟩
    refine callE_pop rfl (by simp) rfl ?_
    have e1 : Int.tmod 2 3 = 2 := by decide
    have e2 : lbin .shl (i64 2) (w64 (BitVec.ofInt 64 2)) = some (i64 8) := by rfl
    simp -dsimp only [go_sem, Nat.reduceEqDiff, Nat.reduceAdd, Nat.reduceSub, Nat.reduceMul, Nat.reduceLeDiff, Nat.reduceLT, Nat.reduceBEq, Int.reduceLT, Int.reduceLE, Int.reduceGT, Int.reduceGE, Int.reduceEq, Int.reduceNe, Int.reduceBEq, Int.reduceBNe, Int.reduceAdd, Int.reduceSub, Int.reduceMul, Int.reduceToNat, Int.reduceNeg, ↓reduceIte, ↓reduceDIte, hd, e1, e2]
  · refine ⟨2, .inl rfl, ?_⟩
    refine callE_pop rfl (by simp) rfl ?_
    have e1 : Int.tmod 3 3 = 0 := by decide
    have e2 : lbin .shl (i64 2) (w64 (BitVec.ofInt 64 0)) = some (i64 2) := by rfl
    simp -dsimp only [go_sem, Nat.reduceEqDiff, Nat.reduceAdd, Nat.reduceSub, Nat.reduceMul, Nat.reduceLeDiff, Nat.reduceLT, Nat.reduceBEq, Int.reduceLT, Int.reduceLE, Int.reduceGT, Int.reduceGE, Int.reduceEq, Int.reduceNe, Int.reduceBEq, Int.reduceBNe, Int.reduceAdd, Int.reduceSub, Int.reduceMul, Int.reduceToNat, Int.reduceNeg, ↓reduceIte, ↓reduceDIte, hd, e1, e2]
/-- The operation that is asked for. -/
def Ask.op (r : RV) (c : Ask) (d : Int) : VOp := if d = 0 then ⟨r, false, c.arg, 0, 0#64, 0⟩ else ⟨r, true, 0#64, 0, 0#64, 0⟩
theorem abegin_ev {lim : Nat} {H : LHeap} {r : RV} {c : Ask} {d : Int} (hl : lim ≤ H.length) (hr : r.right = true) (hd : IntKind.i64.wrap ((BitVec.ofInt IntKind.i64.bits c.kind &&& BitVec.ofInt IntKind.i64.bits 1).toNat : Int) = d) :
    callE T 24 lim [r.v, .agg #[i64 c.th, i64 c.kind, w64 c.arg]] H fun v H' => ∃ u1 u2 u3 u4, v = ptr (H.length + 4) ∧ H' = H ++ [u1, u2, u3, u4, vrw (c.op r d)] := by
  refine callE_stay rfl (by simp) rfl ?_
  by_cases h0 : d = 0
  · have e0 : (d == 0) = true := by simp [h0]
    simp -dsimp only [go_sem, Nat.reduceEqDiff, Nat.reduceAdd, Nat.reduceSub, Nat.reduceMul, Nat.reduceLeDiff, Nat.reduceLT, Nat.reduceBEq, Int.reduceLT, Int.reduceLE, Int.reduceGT, Int.reduceGE, Int.reduceEq, Int.reduceNe, Int.reduceBEq, Int.reduceBNe, Int.reduceAdd, Int.reduceSub, Int.reduceMul, Int.reduceToNat, Int.reduceNeg, ↓reduceIte, ↓reduceDIte, hd, e0, hl]
    refine CT_of (vput_ev (by simp; omega)) ?_
    rintro _ _ ⟨u1, u2, rfl, rfl⟩
    rw [if_pos hr]
    simp -dsimp only [go_sem, Nat.reduceEqDiff, Nat.reduceAdd, Nat.reduceSub, Nat.reduceMul, Nat.reduceLeDiff, Nat.reduceLT, Nat.reduceBEq, Int.reduceLT, Int.reduceLE, Int.reduceGT, Int.reduceGE, Int.reduceEq, Int.reduceNe, Int.reduceBEq, Int.reduceBNe, Int.reduceAdd, Int.reduceSub, Int.reduceMul, Int.reduceToNat, Int.reduceNeg, ↓reduceIte, ↓reduceDIte, Nat.add_assoc]
    exact ⟨.row false 0 [i64 r.a, i64 r.s], .row false 0 [i64 c.th, i64 c.kind, w64 c.arg], u1, u2, by simp [Ask.op, h0]⟩
  · have e0 : (d == 0) = false := by simp [h0]
    simp -dsimp only [go_sem, Nat.reduceEqDiff, Nat.reduceAdd, Nat.reduceSub, Nat.reduceMul, Nat.reduceLeDiff, Nat.reduceLT, Nat.reduceBEq, Int.reduceLT, Int.reduceLE, Int.reduceGT, Int.reduceGE, Int.reduceEq, Int.reduceNe, Int.reduceBEq, Int.reduceBNe, Int.reduceAdd, Int.reduceSub, Int.reduceMul, Int.reduceToNat, Int.reduceNeg, ↓reduceIte, ↓reduceDIte, hd, e0, hl]
    refine CT_of (vtake_ev (by simp; omega)) ?_
    rintro _ _ ⟨u1, u2, rfl, rfl⟩
    rw [if_pos hr]
    simp -dsimp only [go_sem, Nat.reduceEqDiff, Nat.reduceAdd, Nat.reduceSub, Nat.reduceMul, Nat.reduceLeDiff, Nat.reduceLT, Nat.reduceBEq, Int.reduceLT, Int.reduceLE, Int.reduceGT, Int.reduceGE, Int.reduceEq, Int.reduceNe, Int.reduceBEq, Int.reduceBNe, Int.reduceAdd, Int.reduceSub, Int.reduceMul, Int.reduceToNat, Int.reduceNeg, ↓reduceIte, ↓reduceDIte, Nat.add_assoc]
    exact ⟨.row false 0 [i64 r.a, i64 r.s], .row false 0 [i64 c.th, i64 c.kind, w64 c.arg], u1, u2, by simp [Ask.op, h0]⟩
end Go.Proofs.Ytgipbamdefjenaa
