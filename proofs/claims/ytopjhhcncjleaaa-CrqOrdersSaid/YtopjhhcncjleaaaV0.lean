/- DROP Rings that may be closed: worked out. -/
import Derived.Test.YtopjhhcncjleaaaM3
import Derived.Test.YtopjhhcncjleaaaC4
namespace Go.Proofs.Ytopjhhcncjleaaa
open Go Go.LK
set_option linter.unusedSimpArgs false
set_option linter.unusedVariables false
theorem one_ev (lim : Nat) (H : LHeap) : callE T 21 lim [] H fun v H' => v = .bool true ∧ H' = H :=
  callE_iso (n := 1000) (K := []) rfl rfl rfl (by kernel_rfl) rfl
def onesW (x : BitVec 64) : Int :=
  let a := (x >>> 1 &&& 6148914691236517205#64) + (x &&& 6148914691236517205#64)
  let b := (a >>> 2 &&& 3689348814741910323#64) + (a &&& 3689348814741910323#64)
  let c := (b >>> 4 + b) &&& 1085102592571150095#64
  let d := c + c >>> 8
  let e := d + d >>> 16
  let f := e + e >>> 32
  IntKind.i64.wrap ((BitVec.ofInt IntKind.i64.bits f.toInt &&& BitVec.ofInt IntKind.i64.bits 127).toNat : Int)
theorem ones_pow : ∀ n, n < 1025 → (onesW (BitVec.ofNat 64 n) == 1) = decide (0 < n ∧ n &&& (n - 1) = 0) := by decide +kernel
theorem ones_ev (lim : Nat) (H : LHeap) (x : BitVec 64) : callE T 81 lim [w64 x] H fun v H' => v = i64 (onesW x) ∧ H' = H := by
  refine callE_pop rfl (by simp) rfl ?_
  have s1 : (min (1#64).toNat 64) = 1 := by decide
  have s2 : (min (2#64).toNat 64) = 2 := by decide
  have s4 : (min (4#64).toNat 64) = 4 := by decide
  have s8 : (min (8#64).toNat 64) = 8 := by decide
  have s16 : (min (16#64).toNat 64) = 16 := by decide
  have s32 : (min (32#64).toNat 64) = 32 := by decide
  simp -dsimp only [go_sem, Nat.reduceEqDiff, Nat.reduceAdd, Nat.reduceSub, Nat.reduceMul, Nat.reduceLeDiff, Nat.reduceLT, Nat.reduceBEq, Int.reduceLT, Int.reduceLE, Int.reduceGT, Int.reduceGE, Int.reduceEq, Int.reduceNe, Int.reduceBEq, Int.reduceBNe, Int.reduceAdd, Int.reduceSub, Int.reduceMul, Int.reduceToNat, Int.reduceNeg, ↓reduceIte, ↓reduceDIte, s1, s2, s4, s8, s16, s32]
  rfl
theorem pop_ex : ∃ f : BitVec 64 → Int, (∀ lim H x, callE T 81 lim [w64 x] H fun v H' => v = i64 (f x) ∧ H' = H) ∧ (∀ n, n < 1025 → (f (BitVec.ofNat 64 n) == 1) = decide (0 < n ∧ n &&& (n - 1) = 0)) := ⟨onesW, ones_ev, ones_pow⟩
noncomputable def popI : BitVec 64 → Int := Classical.choose pop_ex
theorem pop_ev (lim : Nat) (H : LHeap) (x : BitVec 64) : callE T 81 lim [w64 x] H fun v H' => v = i64 (popI x) ∧ H' = H := (Classical.choose_spec pop_ex).1 lim H x
theorem pop_pow (n : Nat) (h : n < 1025) : (popI (BitVec.ofNat 64 n) == 1) = decide (0 < n ∧ n &&& (n - 1) = 0) := (Classical.choose_spec pop_ex).2 n h
structure RV where
  a : Int
  s : Int
abbrev RV.v (r : RV) : Value := .agg #[i64 r.a, i64 r.s]
def pw (n : Int) : Bool := decide (0 < n.toNat ∧ n.toNat &&& (n.toNat - 1) = 0)
def RV.right (r : RV) : Bool := decide (0 ≤ r.a) && decide (r.a ≤ 65536) && decide (r.a.tmod 2 = 0) && decide (1 ≤ r.s) && decide (r.s ≤ 1024) && pw r.s
theorem RV.right_of {r : RV} (h : r.right = true) : 0 ≤ r.a ∧ r.a ≤ 65536 ∧ r.a.tmod 2 = 0 ∧ 1 ≤ r.s ∧ r.s ≤ 1024 := by
  simp only [RV.right, Bool.and_eq_true, decide_eq_true_eq] at h
  omega
section
variable {lim : Nat} {H : LHeap} {r : RV}
theorem power_ev {n : Int} (h0 : 0 ≤ n) (h1 : n ≤ 1024) : callE T 56 lim [w64 (BitVec.ofInt 64 n)] H fun v H' => v = .bool (pw n) ∧ H' = H := by
  refine callE_pop rfl (by simp) rfl ?_
  obtain ⟨k, rfl⟩ := Int.eq_ofNat_of_zero_le h0
  simp -dsimp only [go_sem, Nat.reduceEqDiff, Nat.reduceAdd, Nat.reduceSub, Nat.reduceMul, Nat.reduceLeDiff, Nat.reduceLT, Nat.reduceBEq, Int.reduceLT, Int.reduceLE, Int.reduceGT, Int.reduceGE, Int.reduceEq, Int.reduceNe, Int.reduceBEq, Int.reduceBNe, Int.reduceAdd, Int.reduceSub, Int.reduceMul, Int.reduceToNat, Int.reduceNeg, ↓reduceIte, ↓reduceDIte]
  refine CT_val (pop_ev _ _ _) ?_
  have := pop_pow k (by omega)
  rw [BitVec.ofInt_natCast]
  simp -dsimp only [go_sem, Nat.reduceEqDiff, Nat.reduceAdd, Nat.reduceSub, Nat.reduceMul, Nat.reduceLeDiff, Nat.reduceLT, Nat.reduceBEq, Int.reduceLT, Int.reduceLE, Int.reduceGT, Int.reduceGE, Int.reduceEq, Int.reduceNe, Int.reduceBEq, Int.reduceBNe, Int.reduceAdd, Int.reduceSub, Int.reduceMul, Int.reduceToNat, Int.reduceNeg, ↓reduceIte, ↓reduceDIte, this]
  simp [pw]
theorem right_ev : callE T 29 lim [r.v] H fun v H' => v = .bool r.right ∧ H' = H := by
  refine callE_pop rfl (by simp) rfl ?_
  by_cases h1 : 0 ≤ r.a
  · by_cases h2 : r.a ≤ 65536
    · by_cases h5 : r.a.tmod 2 = 0
      · have h5' : (r.a.tmod 2 == 0) = true := by simp [h5]
        by_cases h3 : 1 ≤ r.s
        · by_cases h4 : r.s ≤ 1024
          · simp -dsimp only [go_sem, Nat.reduceEqDiff, Nat.reduceAdd, Nat.reduceSub, Nat.reduceMul, Nat.reduceLeDiff, Nat.reduceLT, Nat.reduceBEq, Int.reduceLT, Int.reduceLE, Int.reduceGT, Int.reduceGE, Int.reduceEq, Int.reduceNe, Int.reduceBEq, Int.reduceBNe, Int.reduceAdd, Int.reduceSub, Int.reduceMul, Int.reduceToNat, Int.reduceNeg, ↓reduceIte, ↓reduceDIte, h1, h2, h3, h4, h5']
            refine CT_val (power_ev (by omega) h4) ?_
            simp -dsimp only [go_sem, Nat.reduceEqDiff, Nat.reduceAdd, Nat.reduceSub, Nat.reduceMul, Nat.reduceLeDiff, Nat.reduceLT, Nat.reduceBEq, Int.reduceLT, Int.reduceLE, Int.reduceGT, Int.reduceGE, Int.reduceEq, Int.reduceNe, Int.reduceBEq, Int.reduceBNe, Int.reduceAdd, Int.reduceSub, Int.reduceMul, Int.reduceToNat, Int.reduceNeg, ↓reduceIte, ↓reduceDIte]
            simp [RV.right, *]
          · simp -dsimp only [go_sem, Nat.reduceEqDiff, Nat.reduceAdd, Nat.reduceSub, Nat.reduceMul, Nat.reduceLeDiff, Nat.reduceLT, Nat.reduceBEq, Int.reduceLT, Int.reduceLE, Int.reduceGT, Int.reduceGE, Int.reduceEq, Int.reduceNe, Int.reduceBEq, Int.reduceBNe, Int.reduceAdd, Int.reduceSub, Int.reduceMul, Int.reduceToNat, Int.reduceNeg, ↓reduceIte, ↓reduceDIte, h1, h2, h3, h4, h5']
            simp [RV.right, *]
        · simp -dsimp only [go_sem, Nat.reduceEqDiff, Nat.reduceAdd, Nat.reduceSub, Nat.reduceMul, Nat.reduceLeDiff, Nat.reduceLT, Nat.reduceBEq, Int.reduceLT, Int.reduceLE, Int.reduceGT, Int.reduceGE, Int.reduceEq, Int.reduceNe, Int.reduceBEq, Int.reduceBNe, Int.reduceAdd, Int.reduceSub, Int.reduceMul, Int.reduceToNat, Int.reduceNeg, ↓reduceIte, ↓reduceDIte, h1, h2, h3, h5']
          simp [RV.right, *]
      · have h5' : (r.a.tmod 2 == 0) = false := by simp [h5]
        simp -dsimp only [go_sem, Nat.reduceEqDiff, Nat.reduceAdd, Nat.reduceSub, Nat.reduceMul, Nat.reduceLeDiff, Nat.reduceLT, Nat.reduceBEq, Int.reduceLT, Int.reduceLE, Int.reduceGT, Int.reduceGE, Int.reduceEq, Int.reduceNe, Int.reduceBEq, Int.reduceBNe, Int.reduceAdd, Int.reduceSub, Int.reduceMul, Int.reduceToNat, Int.reduceNeg, ↓reduceIte, ↓reduceDIte, h1, h2, h5']
        simp [RV.right, *]
    · simp -dsimp only [go_sem, Nat.reduceEqDiff, Nat.reduceAdd, Nat.reduceSub, Nat.reduceMul, Nat.reduceLeDiff, Nat.reduceLT, Nat.reduceBEq, Int.reduceLT, Int.reduceLE, Int.reduceGT, Int.reduceGE, Int.reduceEq, Int.reduceNe, Int.reduceBEq, Int.reduceBNe, Int.reduceAdd, Int.reduceSub, Int.reduceMul, Int.reduceToNat, Int.reduceNeg, ↓reduceIte, ↓reduceDIte, h1, h2]
      simp [RV.right, *]
  · simp -dsimp only [go_sem, Nat.reduceEqDiff, Nat.reduceAdd, Nat.reduceSub, Nat.reduceMul, Nat.reduceLeDiff, Nat.reduceLT, Nat.reduceBEq, Int.reduceLT, Int.reduceLE, Int.reduceGT, Int.reduceGE, Int.reduceEq, Int.reduceNe, Int.reduceBEq, Int.reduceBNe, Int.reduceAdd, Int.reduceSub, Int.reduceMul, Int.reduceToNat, Int.reduceNeg, ↓reduceIte, ↓reduceDIte, h1]
    simp [RV.right, *]
theorem words_ev : callE T 12 lim [r.v] H fun v H' => v = i64 (if r.right = true then 4 + 2 * r.s else 0) ∧ H' = H := by
  refine callE_pop rfl (by simp) rfl ?_
  simp -dsimp only [go_sem, Nat.reduceEqDiff, Nat.reduceAdd, Nat.reduceSub, Nat.reduceMul, Nat.reduceLeDiff, Nat.reduceLT, Nat.reduceBEq, Int.reduceLT, Int.reduceLE, Int.reduceGT, Int.reduceGE, Int.reduceEq, Int.reduceNe, Int.reduceBEq, Int.reduceBNe, Int.reduceAdd, Int.reduceSub, Int.reduceMul, Int.reduceToNat, Int.reduceNeg, ↓reduceIte, ↓reduceDIte]
  refine CT_val right_ev ?_
  cases hr : r.right
  · simp -dsimp only [go_sem, Nat.reduceEqDiff, Nat.reduceAdd, Nat.reduceSub, Nat.reduceMul, Nat.reduceLeDiff, Nat.reduceLT, Nat.reduceBEq, Int.reduceLT, Int.reduceLE, Int.reduceGT, Int.reduceGE, Int.reduceEq, Int.reduceNe, Int.reduceBEq, Int.reduceBNe, Int.reduceAdd, Int.reduceSub, Int.reduceMul, Int.reduceToNat, Int.reduceNeg, ↓reduceIte, ↓reduceDIte]
  · obtain ⟨a0, a1, a2, s0, s1⟩ := RV.right_of hr
    have w1 : IntKind.i64.wrap (2 * r.s) = 2 * r.s := by rw [wrap_i64] <;> omega
    have w2 : IntKind.i64.wrap (4 + 2 * r.s) = 4 + 2 * r.s := by rw [wrap_i64] <;> omega
    simp -dsimp only [go_sem, Nat.reduceEqDiff, Nat.reduceAdd, Nat.reduceSub, Nat.reduceMul, Nat.reduceLeDiff, Nat.reduceLT, Nat.reduceBEq, Int.reduceLT, Int.reduceLE, Int.reduceGT, Int.reduceGE, Int.reduceEq, Int.reduceNe, Int.reduceBEq, Int.reduceBNe, Int.reduceAdd, Int.reduceSub, Int.reduceMul, Int.reduceToNat, Int.reduceNeg, ↓reduceIte, ↓reduceDIte, w1, w2]
theorem next_ev : callE T 30 lim [r.v] H fun v H' => v = i64 (if r.right = true then r.a + 2 else -1) ∧ H' = H := by
  refine callE_pop rfl (by simp) rfl ?_
  simp -dsimp only [go_sem, Nat.reduceEqDiff, Nat.reduceAdd, Nat.reduceSub, Nat.reduceMul, Nat.reduceLeDiff, Nat.reduceLT, Nat.reduceBEq, Int.reduceLT, Int.reduceLE, Int.reduceGT, Int.reduceGE, Int.reduceEq, Int.reduceNe, Int.reduceBEq, Int.reduceBNe, Int.reduceAdd, Int.reduceSub, Int.reduceMul, Int.reduceToNat, Int.reduceNeg, ↓reduceIte, ↓reduceDIte]
  refine CT_val right_ev ?_
  cases hr : r.right
  · simp -dsimp only [go_sem, Nat.reduceEqDiff, Nat.reduceAdd, Nat.reduceSub, Nat.reduceMul, Nat.reduceLeDiff, Nat.reduceLT, Nat.reduceBEq, Int.reduceLT, Int.reduceLE, Int.reduceGT, Int.reduceGE, Int.reduceEq, Int.reduceNe, Int.reduceBEq, Int.reduceBNe, Int.reduceAdd, Int.reduceSub, Int.reduceMul, Int.reduceToNat, Int.reduceNeg, ↓reduceIte, ↓reduceDIte]
  · obtain ⟨a0, a1, a2, s0, s1⟩ := RV.right_of hr
    have w1 : IntKind.i64.wrap (r.a + 2) = r.a + 2 := by rw [wrap_i64] <;> omega
    simp -dsimp only [go_sem, Nat.reduceEqDiff, Nat.reduceAdd, Nat.reduceSub, Nat.reduceMul, Nat.reduceLeDiff, Nat.reduceLT, Nat.reduceBEq, Int.reduceLT, Int.reduceLE, Int.reduceGT, Int.reduceGE, Int.reduceEq, Int.reduceNe, Int.reduceBEq, Int.reduceBNe, Int.reduceAdd, Int.reduceSub, Int.reduceMul, Int.reduceToNat, Int.reduceNeg, ↓reduceIte, ↓reduceDIte, w1]
def RV.cell (r : RV) (p : BitVec 64) : Int := r.a + 4 + 2 * ((p.toNat % r.s.toNat : Nat) : Int)
theorem cell_in {p : BitVec 64} (hr : r.right = true) : 4 ≤ r.cell p ∧ r.cell p + 1 < r.a + 4 + 2 * r.s ∧ (r.cell p).tmod 2 = 0 := by
  obtain ⟨a0, a1, a2, s0, s1⟩ := RV.right_of hr
  have := Nat.mod_lt p.toNat (show 0 < r.s.toNat by omega)
  rw [Int.tmod_eq_emod_of_nonneg a0] at a2
  have e : 0 ≤ r.cell p := by unfold RV.cell; omega
  rw [Int.tmod_eq_emod_of_nonneg e]
  unfold RV.cell
  omega
theorem cell_ev {p : BitVec 64} (hr : r.right = true) : callE T 41 lim [r.v, w64 p] H fun v H' => v = i64 (r.cell p) ∧ H' = H := by
  refine callE_pop rfl (by simp) rfl ?_
  obtain ⟨a0, a1, a2, s0, s1⟩ := RV.right_of hr
  obtain ⟨k, hk⟩ := Int.eq_ofNat_of_zero_le (show 0 ≤ r.s by omega)
  have w1 : IntKind.i64.wrap (r.a + 4) = r.a + 4 := by rw [wrap_i64] <;> omega
  have hs : (BitVec.ofNat 64 k).toNat = k := by rw [BitVec.toNat_ofNat, Nat.mod_eq_of_lt]; omega
  have hne : BitVec.ofNat 64 k ≠ 0#64 := fun q => by
    have := congrArg BitVec.toNat q
    rw [hs] at this
    simp at this; omega
  have hne2 : (BitVec.ofNat 64 k == 0#64) = false := by simpa using hne
  have hrem := lbin_rem p (BitVec.ofNat 64 k) hne
  have hlt : p.toNat % k < 1024 := Nat.lt_of_lt_of_le (Nat.mod_lt _ (by omega)) (by omega)
  have hti : (p % BitVec.ofNat 64 k).toInt = ((p.toNat % k : Nat) : Int) := by
    rw [BitVec.toInt_eq_toNat_of_lt]
    · rw [BitVec.toNat_umod, hs]
    · rw [BitVec.toNat_umod, hs]; omega
  have w2 : IntKind.i64.wrap (2 * ((p.toNat % k : Nat) : Int)) = 2 * ((p.toNat % k : Nat) : Int) := by rw [wrap_i64] <;> omega
  have w3 : IntKind.i64.wrap (r.a + 4 + 2 * ((p.toNat % k : Nat) : Int)) = r.a + 4 + 2 * ((p.toNat % k : Nat) : Int) := by rw [wrap_i64] <;> omega
  simp -dsimp only [go_sem, Nat.reduceEqDiff, Nat.reduceAdd, Nat.reduceSub, Nat.reduceMul, Nat.reduceLeDiff, Nat.reduceLT, Nat.reduceBEq, Int.reduceLT, Int.reduceLE, Int.reduceGT, Int.reduceGE, Int.reduceEq, Int.reduceNe, Int.reduceBEq, Int.reduceBNe, Int.reduceAdd, Int.reduceSub, Int.reduceMul, Int.reduceToNat, Int.reduceNeg, ↓reduceIte, ↓reduceDIte, w1, hk, BitVec.ofInt_natCast]
  refine callE_pop rfl (by simp) rfl ?_
  simp -dsimp only [go_sem, Nat.reduceEqDiff, Nat.reduceAdd, Nat.reduceSub, Nat.reduceMul, Nat.reduceLeDiff, Nat.reduceLT, Nat.reduceBEq, Int.reduceLT, Int.reduceLE, Int.reduceGT, Int.reduceGE, Int.reduceEq, Int.reduceNe, Int.reduceBEq, Int.reduceBNe, Int.reduceAdd, Int.reduceSub, Int.reduceMul, Int.reduceToNat, Int.reduceNeg, ↓reduceIte, ↓reduceDIte, hne2, hrem]
  have ht : List.take (H.length + 1) (H ++ [LObj.row false 0 [i64 r.a, i64 (k : Int)]]) = H ++ [LObj.row false 0 [i64 r.a, i64 (k : Int)]] := List.take_of_length_le (by simp)
  simp -dsimp only [go_sem, Nat.reduceEqDiff, Nat.reduceAdd, Nat.reduceSub, Nat.reduceMul, Nat.reduceLeDiff, Nat.reduceLT, Nat.reduceBEq, Int.reduceLT, Int.reduceLE, Int.reduceGT, Int.reduceGE, Int.reduceEq, Int.reduceNe, Int.reduceBEq, Int.reduceBNe, Int.reduceAdd, Int.reduceSub, Int.reduceMul, Int.reduceToNat, Int.reduceNeg, ↓reduceIte, ↓reduceDIte, hti, w2, w3, ht]
  simp [RV.cell, hk]
/-- A cell's state. -/
def stW (p l : BitVec 64) : BitVec 64 := p <<< 1 ||| l &&& 1#64
def poW (s : BitVec 64) : BitVec 64 := s >>> 1
theorem state_ev {p l : BitVec 64} : callE T 42 lim [w64 p, w64 l] H fun v H' => v = w64 (stW p l) ∧ H' = H := by
  refine callE_pop rfl (by simp) rfl ?_
  have s1 : (min (1#64).toNat 64) = 1 := by decide
  simp -dsimp only [go_sem, Nat.reduceEqDiff, Nat.reduceAdd, Nat.reduceSub, Nat.reduceMul, Nat.reduceLeDiff, Nat.reduceLT, Nat.reduceBEq, Int.reduceLT, Int.reduceLE, Int.reduceGT, Int.reduceGE, Int.reduceEq, Int.reduceNe, Int.reduceBEq, Int.reduceBNe, Int.reduceAdd, Int.reduceSub, Int.reduceMul, Int.reduceToNat, Int.reduceNeg, ↓reduceIte, ↓reduceDIte, s1]
  rfl
theorem position_ev {s : BitVec 64} : callE T 77 lim [w64 s] H fun v H' => v = w64 (poW s) ∧ H' = H := by
  refine callE_pop rfl (by simp) rfl ?_
  have s1 : (min (1#64).toNat 64) = 1 := by decide
  simp -dsimp only [go_sem, Nat.reduceEqDiff, Nat.reduceAdd, Nat.reduceSub, Nat.reduceMul, Nat.reduceLeDiff, Nat.reduceLT, Nat.reduceBEq, Int.reduceLT, Int.reduceLE, Int.reduceGT, Int.reduceGE, Int.reduceEq, Int.reduceNe, Int.reduceBEq, Int.reduceBNe, Int.reduceAdd, Int.reduceSub, Int.reduceMul, Int.reduceToNat, Int.reduceNeg, ↓reduceIte, ↓reduceDIte, s1]
  rfl
end
end Go.Proofs.Ytopjhhcncjleaaa
