/- Words of 64 bits as bit vectors, and how the logical machine's operations work on them. -/
import Derived.Test.YtopjhhcncjleaaaLO
namespace Go.LK
open Go Go.RowKit
set_option linter.unusedVariables false
set_option linter.unusedSimpArgs false

/-- A word as a value. -/
def w64 (x : BitVec 64) : Value := .int .u64 (x.toNat : Int)
theorem wrap_u64m (x : Int) : IntKind.u64.wrap x = x % 18446744073709551616 := by
  unfold IntKind.wrap
  simp only [IntKind.bits, IntKind.signed, Bool.false_and, Bool.false_eq_true, if_false]
  rfl
theorem wrap_u8m (x : Int) : IntKind.u8.wrap x = x % 256 := by
  unfold IntKind.wrap
  simp only [IntKind.bits, IntKind.signed, Bool.false_and, Bool.false_eq_true, if_false]
  rfl
theorem w64_lt (x : BitVec 64) : x.toNat < 18446744073709551616 := x.isLt
theorem w64_ofInt (x : BitVec 64) : BitVec.ofInt 64 (x.toNat : Int) = x := by
  rw [BitVec.ofInt_natCast, BitVec.ofNat_toNat, BitVec.setWidth_eq]
theorem w64_wrap (n : Int) : Value.int .u64 (IntKind.u64.wrap n) = w64 (BitVec.ofInt 64 n) := by
  rw [wrap_u64m, w64, BitVec.toNat_ofInt]
  have : (0 : Int) ≤ n % 18446744073709551616 := Int.emod_nonneg _ (by decide)
  have e : ((2 ^ 64 : Nat) : Int) = 18446744073709551616 := by decide
  rw [e, Int.toNat_of_nonneg this]
theorem w64_of {n : Int} (h : (Lit.int .u64 n).wf = true) : ∃ x : BitVec 64, Value.int .u64 n = w64 x := by
  simp only [Lit.wf, IntKind.min, IntKind.max, IntKind.signed, IntKind.bits, Bool.and_eq_true, decide_eq_true_eq, Bool.false_eq_true, if_false] at h
  refine ⟨BitVec.ofInt 64 n, ?_⟩
  rw [← w64_wrap, wrap_u64m, Int.emod_eq_of_lt (by omega) (by omega)]
theorem w64_inj {x y : BitVec 64} : w64 x = w64 y ↔ x = y := by
  constructor
  · intro h
    simp only [w64, Value.int.injEq, true_and] at h
    exact BitVec.eq_of_toNat_eq (by omega)
  · rintro rfl; rfl
theorem w64_lit (x : BitVec 64) (n : Nat) (h : x.toNat = n) : Value.int .u64 (n : Int) = w64 x := by rw [w64, h]
section
variable (x y : BitVec 64)
private theorem val (n : Int) (z : BitVec 64) (h : n % 18446744073709551616 = z.toNat) : Value.int .u64 (IntKind.u64.wrap n) = w64 z := by rw [wrap_u64m, h, w64]
theorem lbin_add : lbin .add (w64 x) (w64 y) = some (w64 (x + y)) := by
  show (if IntKind.u64 = IntKind.u64 then some (Value.int .u64 (IntKind.u64.wrap (x.toNat + y.toNat))) else none) = _
  rw [if_pos rfl, val _ (x + y)]
  rw [BitVec.toNat_add]; omega
theorem lbin_sub : lbin .sub (w64 x) (w64 y) = some (w64 (x - y)) := by
  show (if IntKind.u64 = IntKind.u64 then some (Value.int .u64 (IntKind.u64.wrap (x.toNat - y.toNat))) else none) = _
  have := w64_lt x; have := w64_lt y
  rw [if_pos rfl, val _ (x - y)]
  rw [BitVec.toNat_sub]; omega
theorem lbin_mul : lbin .mul (w64 x) (w64 y) = some (w64 (x * y)) := by
  show (if IntKind.u64 = IntKind.u64 then some (Value.int .u64 (IntKind.u64.wrap ((x.toNat : Int) * y.toNat))) else none) = _
  rw [if_pos rfl, val _ (x * y)]
  rw [BitVec.toNat_mul, ← Int.natCast_mul]; rfl
theorem lbin_quo (h : y ≠ 0#64) : lbin .quo (w64 x) (w64 y) = some (w64 (x / y)) := by
  show (if IntKind.u64 = IntKind.u64 then (if (y.toNat : Int) = 0 then none else some (Value.int .u64 (IntKind.u64.wrap ((x.toNat : Int).tdiv y.toNat)))) else none) = _
  have hy : ¬ (y.toNat : Int) = 0 := fun q => h (BitVec.eq_of_toNat_eq (by simpa using q))
  have := w64_lt x
  rw [if_pos rfl, if_neg hy, val _ (x / y)]
  rw [BitVec.toNat_udiv, ← Int.ofNat_tdiv]
  have := Nat.div_le_self x.toNat y.toNat
  generalize x.toNat / y.toNat = q at this
  omega
theorem lbin_rem (h : y ≠ 0#64) : lbin .rem (w64 x) (w64 y) = some (w64 (x % y)) := by
  show (if IntKind.u64 = IntKind.u64 then (if (y.toNat : Int) = 0 then none else some (Value.int .u64 ((x.toNat : Int).tmod y.toNat))) else none) = _
  have hy : ¬ (y.toNat : Int) = 0 := fun q => h (BitVec.eq_of_toNat_eq (by simpa using q))
  rw [if_pos rfl, if_neg hy, w64, BitVec.toNat_umod, ← Int.ofNat_tmod]
private theorem vnat (z : BitVec 64) : Value.int .u64 (IntKind.u64.wrap (z.toNat : Int)) = w64 z := val _ _ (by have := w64_lt z; omega)
theorem lbin_and : lbin .and (w64 x) (w64 y) = some (w64 (x &&& y)) := by
  show (if IntKind.u64 = IntKind.u64 then some (Value.int .u64 (IntKind.u64.wrap ((BitVec.ofInt 64 (x.toNat : Int) &&& BitVec.ofInt 64 (y.toNat : Int)).toNat : Int))) else none) = _
  rw [if_pos rfl, w64_ofInt, w64_ofInt, vnat]
theorem lbin_or : lbin .or (w64 x) (w64 y) = some (w64 (x ||| y)) := by
  show (if IntKind.u64 = IntKind.u64 then some (Value.int .u64 (IntKind.u64.wrap ((BitVec.ofInt 64 (x.toNat : Int) ||| BitVec.ofInt 64 (y.toNat : Int)).toNat : Int))) else none) = _
  rw [if_pos rfl, w64_ofInt, w64_ofInt, vnat]
theorem lbin_xor : lbin .xor (w64 x) (w64 y) = some (w64 (x ^^^ y)) := by
  show (if IntKind.u64 = IntKind.u64 then some (Value.int .u64 (IntKind.u64.wrap ((BitVec.ofInt 64 (x.toNat : Int) ^^^ BitVec.ofInt 64 (y.toNat : Int)).toNat : Int))) else none) = _
  rw [if_pos rfl, w64_ofInt, w64_ofInt, vnat]
theorem lbin_andNot : lbin .andNot (w64 x) (w64 y) = some (w64 (x &&& ~~~y)) := by
  show (if IntKind.u64 = IntKind.u64 then some (Value.int .u64 (IntKind.u64.wrap ((BitVec.ofInt 64 (x.toNat : Int) &&& ~~~BitVec.ofInt 64 (y.toNat : Int)).toNat : Int))) else none) = _
  rw [if_pos rfl, w64_ofInt, w64_ofInt, vnat]
private theorem shl_nat (s : Nat) : Value.int .u64 (IntKind.u64.wrap ((x.toNat : Int) * 2 ^ s)) = w64 (x <<< s) := by
  refine val _ _ ?_
  rw [BitVec.toNat_shiftLeft, Nat.shiftLeft_eq]
  have : (x.toNat : Int) * 2 ^ s = ((x.toNat * 2 ^ s : Nat) : Int) := by simp
  rw [this]; rfl
private theorem shr_nat (s : Nat) : Value.int .u64 ((x.toNat : Int).fdiv (2 ^ s)) = w64 (x >>> s) := by
  rw [w64, BitVec.toNat_ushiftRight, Nat.shiftRight_eq_div_pow]
  have : ((2 : Int) ^ s) = ((2 ^ s : Nat) : Int) := by simp
  rw [this, Int.fdiv_eq_ediv_of_nonneg _ (Int.natCast_nonneg _)]
  rfl
theorem lbin_shl {k : IntKind} {n : Int} (h : 0 ≤ n) : lbin .shl (w64 x) (.int k n) = some (w64 (x <<< (min n.toNat 64))) := by
  show (if n < 0 then none else some (Value.int .u64 (IntKind.u64.wrap ((x.toNat : Int) * 2 ^ (min n.toNat 64))))) = _
  rw [if_neg (by omega), shl_nat]
theorem lbin_shr {k : IntKind} {n : Int} (h : 0 ≤ n) : lbin .shr (w64 x) (.int k n) = some (w64 (x >>> (min n.toNat 64))) := by
  show (if n < 0 then none else some (Value.int .u64 ((x.toNat : Int).fdiv (2 ^ (min n.toNat 64))))) = _
  rw [if_neg (by omega), shr_nat]
theorem lbin_shl_w (z : BitVec 64) : lbin .shl (w64 x) (w64 z) = some (w64 (x <<< (min z.toNat 64))) := lbin_shl x (k := .u64) (n := z.toNat) (by omega)
theorem lbin_shr_w (z : BitVec 64) : lbin .shr (w64 x) (w64 z) = some (w64 (x >>> (min z.toNat 64))) := lbin_shr x (k := .u64) (n := z.toNat) (by omega)
private theorem beq_nat : ((x.toNat : Int) == y.toNat) = (x == y) := by
  rw [Bool.eq_iff_iff, beq_iff_eq, beq_iff_eq]
  exact ⟨fun h => BitVec.eq_of_toNat_eq (by omega), fun h => by rw [h]⟩
theorem lbin_eql : lbin .eql (w64 x) (w64 y) = some (.bool (x == y)) := by
  show (if IntKind.u64 = IntKind.u64 then some (Value.bool ((x.toNat : Int) == y.toNat)) else none) = _
  rw [if_pos rfl, beq_nat]
theorem lbin_neq : lbin .neq (w64 x) (w64 y) = some (.bool (x != y)) := by
  show (if IntKind.u64 = IntKind.u64 then some (Value.bool (!((x.toNat : Int) == y.toNat))) else none) = _
  rw [if_pos rfl, beq_nat]; rfl
private theorem lt_nat : ((x.toNat : Int) < y.toNat) = (x < y) := propext (by rw [BitVec.lt_def]; omega)
private theorem le_nat : ((x.toNat : Int) ≤ y.toNat) = (x ≤ y) := propext (by rw [BitVec.le_def]; omega)
theorem lbin_lss : lbin .lss (w64 x) (w64 y) = some (.bool (decide (x < y))) := by
  show (if IntKind.u64 = IntKind.u64 then some (Value.bool (decide ((x.toNat : Int) < y.toNat))) else none) = _
  simp only [if_true, gt_iff_lt, lt_nat]
theorem lbin_leq : lbin .leq (w64 x) (w64 y) = some (.bool (decide (x ≤ y))) := by
  show (if IntKind.u64 = IntKind.u64 then some (Value.bool (decide ((x.toNat : Int) ≤ y.toNat))) else none) = _
  simp only [if_true, ge_iff_le, le_nat]
theorem lbin_gtr : lbin .gtr (w64 x) (w64 y) = some (.bool (decide (y < x))) := by
  show (if IntKind.u64 = IntKind.u64 then some (Value.bool (decide ((x.toNat : Int) > y.toNat))) else none) = _
  simp only [if_true, gt_iff_lt, lt_nat]
theorem lbin_geq : lbin .geq (w64 x) (w64 y) = some (.bool (decide (y ≤ x))) := by
  show (if IntKind.u64 = IntKind.u64 then some (Value.bool (decide ((x.toNat : Int) ≥ y.toNat))) else none) = _
  simp only [if_true, ge_iff_le, le_nat]
end
/-- A conversion of a number. -/
def lconv (k : IntKind) : Value → Option Value
  | .int _ n => some (.int k (k.wrap n))
  | _ => none
theorem lpure_conv (r : Operand → Value) (k : IntKind) (x : Operand) : lpure r (.conv k x) = lconv k (r x) := by
  simp only [lpure]; cases r x <;> rfl
theorem lconv_u64 (k : IntKind) (n : Int) : lconv .u64 (.int k n) = some (w64 (BitVec.ofInt 64 n)) := by
  rw [lconv, w64_wrap]
theorem lconv_w64 (x : BitVec 64) : lconv .u64 (w64 x) = some (w64 x) := by
  rw [w64, lconv, w64_wrap, w64_ofInt, w64]
theorem lconv_w64_i (x : BitVec 64) : lconv .i64 (w64 x) = some (.int .i64 x.toInt) := by
  rw [w64, lconv]
  congr 2
  have := w64_lt x
  unfold IntKind.wrap
  simp only [IntKind.bits, IntKind.signed, Bool.true_and, decide_eq_true_eq, ge_iff_le]
  rw [BitVec.toInt_eq_toNat_cond]
  have e1 : (2 ^ 64 : Int) = 18446744073709551616 := by decide
  have e2 : (2 ^ (64 - 1) : Int) = 9223372036854775808 := by decide
  have e3 : (2 ^ 64 : Nat) = 18446744073709551616 := by decide
  rw [e1, e2, e3]
  split <;> split <;> omega
theorem lconv_w64_u8 (x : BitVec 64) : lconv .u8 (w64 x) = some (.int .u8 ((x.toNat % 256 : Nat) : Int)) := by
  rw [w64, lconv, wrap_u8m]; rfl
theorem lconv_i64 (k : IntKind) (n : Int) : lconv .i64 (.int k n) = some (.int .i64 (IntKind.i64.wrap n)) := rfl
theorem lconv_u8 (k : IntKind) (n : Int) : lconv .u8 (.int k n) = some (.int .u8 (IntKind.u8.wrap n)) := rfl
def lcpl : Value → Option Value
  | .int k n => some (.int k (k.wrap (BitVec.ofInt k.bits (if k.signed then -1 else k.max) ^^^ BitVec.ofInt k.bits n).toNat))
  | _ => none
theorem lpure_cpl (r : Operand → Value) (x : Operand) : lpure r (.cpl x) = lcpl (r x) := by
  simp only [lpure]; cases r x <;> rfl
theorem lcpl_w64 (x : BitVec 64) : lcpl (w64 x) = some (w64 (~~~x)) := by
  show some (Value.int .u64 (IntKind.u64.wrap ((BitVec.ofInt 64 18446744073709551615 ^^^ BitVec.ofInt 64 (x.toNat : Int)).toNat : Int))) = _
  rw [w64_ofInt, w64_wrap, BitVec.ofInt_natCast, BitVec.ofNat_toNat, BitVec.setWidth_eq, show BitVec.ofInt 64 18446744073709551615 = BitVec.allOnes 64 by decide]
  rw [BitVec.allOnes_xor]
def lneg : Value → Option Value
  | .int k n => some (.int k (k.wrap (0 - n)))
  | _ => none
theorem lpure_neg (r : Operand → Value) (x : Operand) : lpure r (.neg x) = lneg (r x) := by
  simp only [lpure]; cases r x <;> rfl
theorem lneg_int (k : IntKind) (n : Int) : lneg (.int k n) = some (.int k (k.wrap (0 - n))) := rfl
theorem lneg_w64 (x : BitVec 64) : lneg (w64 x) = some (w64 (- x)) := by
  rw [w64, lneg, w64_wrap]
  congr 2
  refine BitVec.eq_of_toNat_eq ?_
  rw [BitVec.toNat_ofInt, BitVec.toNat_neg]
  have := w64_lt x
  omega
theorem leqCells_w (ts : List Bool) (x y : BitVec 64) (xs ys : List Value) : leqCells (false :: ts) (w64 x :: xs) (w64 y :: ys) = (leqCells ts xs ys).map fun r => (x == y) && r := by
  show (if IntKind.u64 = IntKind.u64 then (leqCells ts xs ys).map fun r => ((x.toNat : Int) == y.toNat) && r else none) = _
  rw [if_pos rfl, beq_nat]
theorem sameC_w (x y : BitVec 64) : sameC (w64 x) (w64 y) = (x == y) := by
  show (IntKind.u64 == IntKind.u64 && ((x.toNat : Int) == y.toNat)) = _
  rw [beq_nat]; rfl
theorem sameV_w (x y : BitVec 64) : sameV (w64 x) (w64 y) = (x == y) := sameC_w x y
theorem scalar_w (x : BitVec 64) : scalar (w64 x) = true := rfl
theorem scalarA_w (x : BitVec 64) : scalarA (w64 x) = true := rfl
theorem scalarR_w (x : BitVec 64) : scalarR (w64 x) = true := rfl
theorem noTuple_w (x : BitVec 64) : noTuple (w64 x) = true := rfl
theorem oneCell_w (x : BitVec 64) : (w64 x).oneCell' = true := rfl
theorem cells_w (x : BitVec 64) : cellsL (w64 x) = [w64 x] := rfl
theorem ws_scalar (l : List (BitVec 64)) : (l.map w64).all scalar = true := by simp [scalar_w]
theorem ws_one (l : List (BitVec 64)) : (l.map w64).all Value.oneCell' = true := by simp [oneCell_w]
theorem bs_scalar (l : List Bool) : (l.map Value.bool).all scalar = true := by simp [scalar]
theorem bs_one (l : List Bool) : (l.map Value.bool).all Value.oneCell' = true := by simp [Value.oneCell']
attribute [go_sem high] lbin_add lbin_sub lbin_mul lbin_and lbin_or lbin_xor lbin_andNot lbin_shl_w lbin_shr_w lbin_eql lbin_neq lbin_lss lbin_leq lbin_gtr lbin_geq lconv_u64 lconv_w64 lconv_w64_i lconv_i64 lconv_u8 lcpl_w64 lneg_int lneg_w64 leqCells_w sameC_w sameV_w scalar_w scalarA_w scalarR_w noTuple_w oneCell_w cells_w ws_scalar ws_one bs_scalar bs_one
attribute [go_sem ↓] lpure_conv lpure_cpl lpure_neg
end Go.LK
