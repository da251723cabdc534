/- The statement TailPacks. -/
import Derived.Test.YtcoejlhlcpkmkaaT1
namespace Go.Proofs.Ytcoejlhlcpkmkaa
open Go Go.LK
set_option linter.unusedSimpArgs false
set_option linter.unusedVariables false
theorem mod_get (x : BitVec 64) (k j : Nat) (h : 2 ^ k < 18446744073709551616) : (x % BitVec.ofNat 64 (2 ^ k)).getLsbD j = (decide (j < k) && x.getLsbD j) := by
  rw [← BitVec.testBit_toNat, BitVec.toNat_umod, BitVec.toNat_ofNat, Nat.mod_eq_of_lt h, Nat.testBit_mod_two_pow, BitVec.testBit_toNat]
theorem pack_next (n t i : BitVec 64) : getW 0 40 (packW n t i) = n % 1099511627776#64 := by
  apply BitVec.eq_of_getLsbD_eq
  intro j hj
  rw [getW_get _ _ _ _ (by decide), mod_get n 40 j (by decide)]
  by_cases h : j < 40
  · rw [packW_get _ _ _ _ (by omega), if_pos (by omega), Nat.zero_add, Bool.and_comm]
  · simp [h]
theorem pack_turn (n t i : BitVec 64) : getW 40 16 (packW n t i) = t % 65536#64 := by
  apply BitVec.eq_of_getLsbD_eq
  intro j hj
  rw [getW_get _ _ _ _ (by decide), mod_get t 16 j (by decide)]
  by_cases h : j < 16
  · rw [packW_get _ _ _ _ (by omega), if_neg (by omega), if_pos (by omega), Nat.add_sub_cancel_left, Bool.and_comm]
  · simp [h]
theorem pack_in (n t i : BitVec 64) : getW 56 8 (packW n t i) = i % 256#64 := by
  apply BitVec.eq_of_getLsbD_eq
  intro j hj
  rw [getW_get _ _ _ _ (by decide), mod_get i 8 j (by decide)]
  by_cases h : j < 8
  · rw [packW_get _ _ _ _ (by omega), if_neg (by omega), if_neg (by omega), Nat.add_sub_cancel_left, Bool.and_comm]
  · simp [h]
theorem packs_ev {lim : Nat} {H : LHeap} {n t i : BitVec 64} : callE T 3 lim [head n t i] H fun v H' => v = .bool true := by
  refine callE_pop rfl (by simp) rfl ?_
  have r1 := fun x => lbin_rem x 256#64 (by decide)
  have r2 := fun x => lbin_rem x 65536#64 (by decide)
  have r3 := fun x => lbin_rem x 1099511627776#64 (by decide)
  simp -dsimp only [go_sem, Nat.reduceEqDiff, Nat.reduceAdd, Nat.reduceSub, Nat.reduceMul, Nat.reduceLeDiff, Nat.reduceLT, Nat.reduceBEq, Int.reduceLT, Int.reduceLE, Int.reduceGT, Int.reduceGE, Int.reduceEq, Int.reduceNe, Int.reduceBEq, Int.reduceBNe, Int.reduceAdd, Int.reduceSub, Int.reduceMul, Int.reduceToNat, Int.reduceNeg, ↓reduceIte, ↓reduceDIte]
  refine CT_val own_ev ?_
  simp -dsimp only [go_sem, Nat.reduceEqDiff, Nat.reduceAdd, Nat.reduceSub, Nat.reduceMul, Nat.reduceLeDiff, Nat.reduceLT, Nat.reduceBEq, Int.reduceLT, Int.reduceLE, Int.reduceGT, Int.reduceGE, Int.reduceEq, Int.reduceNe, Int.reduceBEq, Int.reduceBNe, Int.reduceAdd, Int.reduceSub, Int.reduceMul, Int.reduceToNat, Int.reduceNeg, ↓reduceIte, ↓reduceDIte]
  refine CT_val word_ev ?_
  simp -dsimp only [go_sem, Nat.reduceEqDiff, Nat.reduceAdd, Nat.reduceSub, Nat.reduceMul, Nat.reduceLeDiff, Nat.reduceLT, Nat.reduceBEq, Int.reduceLT, Int.reduceLE, Int.reduceGT, Int.reduceGE, Int.reduceEq, Int.reduceNe, Int.reduceBEq, Int.reduceBNe, Int.reduceAdd, Int.reduceSub, Int.reduceMul, Int.reduceToNat, Int.reduceNeg, ↓reduceIte, ↓reduceDIte]
  refine CT_val refword_ev ?_
  simp -dsimp only [go_sem, Nat.reduceEqDiff, Nat.reduceAdd, Nat.reduceSub, Nat.reduceMul, Nat.reduceLeDiff, Nat.reduceLT, Nat.reduceBEq, Int.reduceLT, Int.reduceLE, Int.reduceGT, Int.reduceGE, Int.reduceEq, Int.reduceNe, Int.reduceBEq, Int.reduceBNe, Int.reduceAdd, Int.reduceSub, Int.reduceMul, Int.reduceToNat, Int.reduceNeg, ↓reduceIte, ↓reduceDIte, r1, r2, r3]
  refine CT_val word_ev ?_
  simp -dsimp only [go_sem, Nat.reduceEqDiff, Nat.reduceAdd, Nat.reduceSub, Nat.reduceMul, Nat.reduceLeDiff, Nat.reduceLT, Nat.reduceBEq, Int.reduceLT, Int.reduceLE, Int.reduceGT, Int.reduceGE, Int.reduceEq, Int.reduceNe, Int.reduceBEq, Int.reduceBNe, Int.reduceAdd, Int.reduceSub, Int.reduceMul, Int.reduceToNat, Int.reduceNeg, ↓reduceIte, ↓reduceDIte, r1, r2, r3]
  refine CT_val of_ev ?_
  rw [pack_next, pack_turn, pack_in]
  simp -dsimp only [go_sem, Nat.reduceEqDiff, Nat.reduceAdd, Nat.reduceSub, Nat.reduceMul, Nat.reduceLeDiff, Nat.reduceLT, Nat.reduceBEq, Int.reduceLT, Int.reduceLE, Int.reduceGT, Int.reduceGE, Int.reduceEq, Int.reduceNe, Int.reduceBEq, Int.reduceBNe, Int.reduceAdd, Int.reduceSub, Int.reduceMul, Int.reduceToNat, Int.reduceNeg, ↓reduceIte, ↓reduceDIte, r1, r2, r3]
  refine CT_val own_ev ?_
  simp -dsimp only [go_sem, Nat.reduceEqDiff, Nat.reduceAdd, Nat.reduceSub, Nat.reduceMul, Nat.reduceLeDiff, Nat.reduceLT, Nat.reduceBEq, Int.reduceLT, Int.reduceLE, Int.reduceGT, Int.reduceGE, Int.reduceEq, Int.reduceNe, Int.reduceBEq, Int.reduceBNe, Int.reduceAdd, Int.reduceSub, Int.reduceMul, Int.reduceToNat, Int.reduceNeg, ↓reduceIte, ↓reduceDIte, r1, r2, r3]
  refine CT_val (one_ev _ _) ?_
  simp -dsimp only [go_sem, Nat.reduceEqDiff, Nat.reduceAdd, Nat.reduceSub, Nat.reduceMul, Nat.reduceLeDiff, Nat.reduceLT, Nat.reduceBEq, Int.reduceLT, Int.reduceLE, Int.reduceGT, Int.reduceGE, Int.reduceEq, Int.reduceNe, Int.reduceBEq, Int.reduceBNe, Int.reduceAdd, Int.reduceSub, Int.reduceMul, Int.reduceToNat, Int.reduceNeg, ↓reduceIte, ↓reduceDIte]
