/- Calls: what is ahead of what; the document's functions of calls; counts. -/
import Derived.Test.YtfobpjjpaehhpaaB1
namespace Go.Proofs.Ytfobpjjpaehhpaa
open Go Go.LK
set_option linter.unusedSimpArgs false
set_option linter.unusedVariables false
theorem one_ev (lim : Nat) (H : LHeap) : callE T 12 lim [] H fun v H' => v = .bool true ∧ H' = H :=
  callE_iso (n := 100000) (K := []) rfl rfl rfl (by kernel_rfl) rfl
theorem ahead_self {a : CallD} (h : rightF a = true) : aheadF a a = false := by
  unfold rightF at h
  unfold aheadF
  split at h
  · cases h
  · split at h
    · rename_i hd; rw [hd]; simp at h ⊢; omega
    · rename_i hd; simp at hd; rw [hd]; rfl
theorem ahead_not {a b : CallD} (ha : rightF a = true) (hb : rightF b = true) (h : aheadF a b = true) : aheadF b a = false := by
  have h1 := ahead_self ha
  have h2 := ahead_self hb
  simp only [aheadF, Bool.and_eq_true, decide_eq_true_eq, Bool.and_eq_false_iff, decide_eq_false_iff_not] at *
  rcases h2 with h2 | h2
  · exact .inl h2
  · rcases h1 with h1 | h1
    · rw [h1] at h; cases h.1
    · exact .inr (by omega)
theorem ahead_trans {a b c : CallD} (hb : rightF b = true) (h : aheadF a b = true) (g : aheadF b c = true) : aheadF a c = true := by
  have h2 := ahead_self hb
  simp only [aheadF, Bool.and_eq_true, decide_eq_true_eq, Bool.and_eq_false_iff, decide_eq_false_iff_not] at *
  refine ⟨h.1, ?_⟩
  rcases h2 with h2 | h2
  · rw [h2] at g; cases g.1
  · omega
def onF (c : CallD) (m : Int) : Bool := decide (c.fr ≤ m) && (!c.dn || decide (m ≤ c.to))
theorem on_ev {lim : Nat} {c : CallD} {m : Int} {H : LHeap} : callE T 36 lim [c.v, i64 m] H fun v H' => v = .bool (onF c m) ∧ H' = H := by
  refine callE_pop rfl (by simp) rfl ?_
  simp -dsimp only [go_sem, Nat.reduceEqDiff, Nat.reduceAdd, Nat.reduceSub, Nat.reduceMul, Nat.reduceLeDiff, Nat.reduceLT, Nat.reduceBEq, Int.reduceLT, Int.reduceLE, Int.reduceGT, Int.reduceGE, Int.reduceEq, Int.reduceNe, Int.reduceBEq, Int.reduceBNe, Int.reduceAdd, Int.reduceSub, Int.reduceMul, Int.reduceToNat, Int.reduceNeg, ↓reduceIte, ↓reduceDIte]
  (repeat' (first | (refine BT_beq (fun hc => ?_) (fun hc hc2 => ?_) <;> simp -dsimp only [go_sem, Nat.reduceEqDiff, Nat.reduceAdd, Nat.reduceSub, Nat.reduceMul, Nat.reduceLeDiff, Nat.reduceLT, Nat.reduceBEq, Int.reduceLT, Int.reduceLE, Int.reduceGT, Int.reduceGE, Int.reduceEq, Int.reduceNe, Int.reduceBEq, Int.reduceBNe, Int.reduceAdd, Int.reduceSub, Int.reduceMul, Int.reduceToNat, Int.reduceNeg, ↓reduceIte, ↓reduceDIte, *]) | (refine GT_beqT (fun hc => ?_) (fun hc hc2 => ?_) <;> simp -dsimp only [go_sem, Nat.reduceEqDiff, Nat.reduceAdd, Nat.reduceSub, Nat.reduceMul, Nat.reduceLeDiff, Nat.reduceLT, Nat.reduceBEq, Int.reduceLT, Int.reduceLE, Int.reduceGT, Int.reduceGE, Int.reduceEq, Int.reduceNe, Int.reduceBEq, Int.reduceBNe, Int.reduceAdd, Int.reduceSub, Int.reduceMul, Int.reduceToNat, Int.reduceNeg, ↓reduceIte, ↓reduceDIte, *]) | (refine GT_beqF (fun hc hc2 => ?_) (fun hc => ?_) <;> simp -dsimp only [go_sem, Nat.reduceEqDiff, Nat.reduceAdd, Nat.reduceSub, Nat.reduceMul, Nat.reduceLeDiff, Nat.reduceLT, Nat.reduceBEq, Int.reduceLT, Int.reduceLE, Int.reduceGT, Int.reduceGE, Int.reduceEq, Int.reduceNe, Int.reduceBEq, Int.reduceBNe, Int.reduceAdd, Int.reduceSub, Int.reduceMul, Int.reduceToNat, Int.reduceNeg, ↓reduceIte, ↓reduceDIte, *]) | (refine BT_bne (fun hc hc1 hc2 => ?_) (fun hc => ?_) <;> simp -dsimp only [go_sem, Nat.reduceEqDiff, Nat.reduceAdd, Nat.reduceSub, Nat.reduceMul, Nat.reduceLeDiff, Nat.reduceLT, Nat.reduceBEq, Int.reduceLT, Int.reduceLE, Int.reduceGT, Int.reduceGE, Int.reduceEq, Int.reduceNe, Int.reduceBEq, Int.reduceBNe, Int.reduceAdd, Int.reduceSub, Int.reduceMul, Int.reduceToNat, Int.reduceNeg, ↓reduceIte, ↓reduceDIte, *]) | (refine GT_bneT (fun hc hc1 hc2 => ?_) (fun hc => ?_) <;> simp -dsimp only [go_sem, Nat.reduceEqDiff, Nat.reduceAdd, Nat.reduceSub, Nat.reduceMul, Nat.reduceLeDiff, Nat.reduceLT, Nat.reduceBEq, Int.reduceLT, Int.reduceLE, Int.reduceGT, Int.reduceGE, Int.reduceEq, Int.reduceNe, Int.reduceBEq, Int.reduceBNe, Int.reduceAdd, Int.reduceSub, Int.reduceMul, Int.reduceToNat, Int.reduceNeg, ↓reduceIte, ↓reduceDIte, *]) | (refine GT_bneF (fun hc => ?_) (fun hc hc1 hc2 => ?_) <;> simp -dsimp only [go_sem, Nat.reduceEqDiff, Nat.reduceAdd, Nat.reduceSub, Nat.reduceMul, Nat.reduceLeDiff, Nat.reduceLT, Nat.reduceBEq, Int.reduceLT, Int.reduceLE, Int.reduceGT, Int.reduceGE, Int.reduceEq, Int.reduceNe, Int.reduceBEq, Int.reduceBNe, Int.reduceAdd, Int.reduceSub, Int.reduceMul, Int.reduceToNat, Int.reduceNeg, ↓reduceIte, ↓reduceDIte, *]) | (refine BT_not (fun hc => ?_) (fun hc => ?_) <;> simp -dsimp only [go_sem, Nat.reduceEqDiff, Nat.reduceAdd, Nat.reduceSub, Nat.reduceMul, Nat.reduceLeDiff, Nat.reduceLT, Nat.reduceBEq, Int.reduceLT, Int.reduceLE, Int.reduceGT, Int.reduceGE, Int.reduceEq, Int.reduceNe, Int.reduceBEq, Int.reduceBNe, Int.reduceAdd, Int.reduceSub, Int.reduceMul, Int.reduceToNat, Int.reduceNeg, ↓reduceIte, ↓reduceDIte, *]) | (refine GT_notT (fun hc => ?_) (fun hc => ?_) <;> simp -dsimp only [go_sem, Nat.reduceEqDiff, Nat.reduceAdd, Nat.reduceSub, Nat.reduceMul, Nat.reduceLeDiff, Nat.reduceLT, Nat.reduceBEq, Int.reduceLT, Int.reduceLE, Int.reduceGT, Int.reduceGE, Int.reduceEq, Int.reduceNe, Int.reduceBEq, Int.reduceBNe, Int.reduceAdd, Int.reduceSub, Int.reduceMul, Int.reduceToNat, Int.reduceNeg, ↓reduceIte, ↓reduceDIte, *]) | (refine GT_notF (fun hc => ?_) (fun hc => ?_) <;> simp -dsimp only [go_sem, Nat.reduceEqDiff, Nat.reduceAdd, Nat.reduceSub, Nat.reduceMul, Nat.reduceLeDiff, Nat.reduceLT, Nat.reduceBEq, Int.reduceLT, Int.reduceLE, Int.reduceGT, Int.reduceGE, Int.reduceEq, Int.reduceNe, Int.reduceBEq, Int.reduceBNe, Int.reduceAdd, Int.reduceSub, Int.reduceMul, Int.reduceToNat, Int.reduceNeg, ↓reduceIte, ↓reduceDIte, *]) | (refine BT_dec (fun hc => ?_) (fun hc => ?_) <;> simp -dsimp only [go_sem, Nat.reduceEqDiff, Nat.reduceAdd, Nat.reduceSub, Nat.reduceMul, Nat.reduceLeDiff, Nat.reduceLT, Nat.reduceBEq, Int.reduceLT, Int.reduceLE, Int.reduceGT, Int.reduceGE, Int.reduceEq, Int.reduceNe, Int.reduceBEq, Int.reduceBNe, Int.reduceAdd, Int.reduceSub, Int.reduceMul, Int.reduceToNat, Int.reduceNeg, ↓reduceIte, ↓reduceDIte, *]) | (refine GT_decT (fun hc => ?_) (fun hc => ?_) <;> simp -dsimp only [go_sem, Nat.reduceEqDiff, Nat.reduceAdd, Nat.reduceSub, Nat.reduceMul, Nat.reduceLeDiff, Nat.reduceLT, Nat.reduceBEq, Int.reduceLT, Int.reduceLE, Int.reduceGT, Int.reduceGE, Int.reduceEq, Int.reduceNe, Int.reduceBEq, Int.reduceBNe, Int.reduceAdd, Int.reduceSub, Int.reduceMul, Int.reduceToNat, Int.reduceNeg, ↓reduceIte, ↓reduceDIte, *]) | (refine GT_decF (fun hc => ?_) (fun hc => ?_) <;> simp -dsimp only [go_sem, Nat.reduceEqDiff, Nat.reduceAdd, Nat.reduceSub, Nat.reduceMul, Nat.reduceLeDiff, Nat.reduceLT, Nat.reduceBEq, Int.reduceLT, Int.reduceLE, Int.reduceGT, Int.reduceGE, Int.reduceEq, Int.reduceNe, Int.reduceBEq, Int.reduceBNe, Int.reduceAdd, Int.reduceSub, Int.reduceMul, Int.reduceToNat, Int.reduceNeg, ↓reduceIte, ↓reduceDIte, *]) | (refine BT_intro (fun hc => ?_) (fun hc => ?_) <;> simp -dsimp only [go_sem, Nat.reduceEqDiff, Nat.reduceAdd, Nat.reduceSub, Nat.reduceMul, Nat.reduceLeDiff, Nat.reduceLT, Nat.reduceBEq, Int.reduceLT, Int.reduceLE, Int.reduceGT, Int.reduceGE, Int.reduceEq, Int.reduceNe, Int.reduceBEq, Int.reduceBNe, Int.reduceAdd, Int.reduceSub, Int.reduceMul, Int.reduceToNat, Int.reduceNeg, ↓reduceIte, ↓reduceDIte, *]) | (refine GT_introT (fun hc => ?_) (fun hc => ?_) <;> simp -dsimp only [go_sem, Nat.reduceEqDiff, Nat.reduceAdd, Nat.reduceSub, Nat.reduceMul, Nat.reduceLeDiff, Nat.reduceLT, Nat.reduceBEq, Int.reduceLT, Int.reduceLE, Int.reduceGT, Int.reduceGE, Int.reduceEq, Int.reduceNe, Int.reduceBEq, Int.reduceBNe, Int.reduceAdd, Int.reduceSub, Int.reduceMul, Int.reduceToNat, Int.reduceNeg, ↓reduceIte, ↓reduceDIte, *]) | (refine GT_introF (fun hc => ?_) (fun hc => ?_) <;> simp -dsimp only [go_sem, Nat.reduceEqDiff, Nat.reduceAdd, Nat.reduceSub, Nat.reduceMul, Nat.reduceLeDiff, Nat.reduceLT, Nat.reduceBEq, Int.reduceLT, Int.reduceLE, Int.reduceGT, Int.reduceGE, Int.reduceEq, Int.reduceNe, Int.reduceBEq, Int.reduceBNe, Int.reduceAdd, Int.reduceSub, Int.reduceMul, Int.reduceToNat, Int.reduceNeg, ↓reduceIte, ↓reduceDIte, *])))
  all_goals simp [onF, *]
theorem refahead_ev {lim : Nat} {a b : CallD} {H : LHeap} : callE T 22 lim [a.v, b.v] H fun v H' => v = .bool (aheadF a b) ∧ H' = H := by
  refine callE_pop rfl (by simp) rfl ?_
  simp -dsimp only [go_sem, Nat.reduceEqDiff, Nat.reduceAdd, Nat.reduceSub, Nat.reduceMul, Nat.reduceLeDiff, Nat.reduceLT, Nat.reduceBEq, Int.reduceLT, Int.reduceLE, Int.reduceGT, Int.reduceGE, Int.reduceEq, Int.reduceNe, Int.reduceBEq, Int.reduceBNe, Int.reduceAdd, Int.reduceSub, Int.reduceMul, Int.reduceToNat, Int.reduceNeg, ↓reduceIte, ↓reduceDIte]
  (repeat' (first | (refine BT_beq (fun hc => ?_) (fun hc hc2 => ?_) <;> simp -dsimp only [go_sem, Nat.reduceEqDiff, Nat.reduceAdd, Nat.reduceSub, Nat.reduceMul, Nat.reduceLeDiff, Nat.reduceLT, Nat.reduceBEq, Int.reduceLT, Int.reduceLE, Int.reduceGT, Int.reduceGE, Int.reduceEq, Int.reduceNe, Int.reduceBEq, Int.reduceBNe, Int.reduceAdd, Int.reduceSub, Int.reduceMul, Int.reduceToNat, Int.reduceNeg, ↓reduceIte, ↓reduceDIte, *]) | (refine GT_beqT (fun hc => ?_) (fun hc hc2 => ?_) <;> simp -dsimp only [go_sem, Nat.reduceEqDiff, Nat.reduceAdd, Nat.reduceSub, Nat.reduceMul, Nat.reduceLeDiff, Nat.reduceLT, Nat.reduceBEq, Int.reduceLT, Int.reduceLE, Int.reduceGT, Int.reduceGE, Int.reduceEq, Int.reduceNe, Int.reduceBEq, Int.reduceBNe, Int.reduceAdd, Int.reduceSub, Int.reduceMul, Int.reduceToNat, Int.reduceNeg, ↓reduceIte, ↓reduceDIte, *]) | (refine GT_beqF (fun hc hc2 => ?_) (fun hc => ?_) <;> simp -dsimp only [go_sem, Nat.reduceEqDiff, Nat.reduceAdd, Nat.reduceSub, Nat.reduceMul, Nat.reduceLeDiff, Nat.reduceLT, Nat.reduceBEq, Int.reduceLT, Int.reduceLE, Int.reduceGT, Int.reduceGE, Int.reduceEq, Int.reduceNe, Int.reduceBEq, Int.reduceBNe, Int.reduceAdd, Int.reduceSub, Int.reduceMul, Int.reduceToNat, Int.reduceNeg, ↓reduceIte, ↓reduceDIte, *]) | (refine BT_bne (fun hc hc1 hc2 => ?_) (fun hc => ?_) <;> simp -dsimp only [go_sem, Nat.reduceEqDiff, Nat.reduceAdd, Nat.reduceSub, Nat.reduceMul, Nat.reduceLeDiff, Nat.reduceLT, Nat.reduceBEq, Int.reduceLT, Int.reduceLE, Int.reduceGT, Int.reduceGE, Int.reduceEq, Int.reduceNe, Int.reduceBEq, Int.reduceBNe, Int.reduceAdd, Int.reduceSub, Int.reduceMul, Int.reduceToNat, Int.reduceNeg, ↓reduceIte, ↓reduceDIte, *]) | (refine GT_bneT (fun hc hc1 hc2 => ?_) (fun hc => ?_) <;> simp -dsimp only [go_sem, Nat.reduceEqDiff, Nat.reduceAdd, Nat.reduceSub, Nat.reduceMul, Nat.reduceLeDiff, Nat.reduceLT, Nat.reduceBEq, Int.reduceLT, Int.reduceLE, Int.reduceGT, Int.reduceGE, Int.reduceEq, Int.reduceNe, Int.reduceBEq, Int.reduceBNe, Int.reduceAdd, Int.reduceSub, Int.reduceMul, Int.reduceToNat, Int.reduceNeg, ↓reduceIte, ↓reduceDIte, *]) | (refine GT_bneF (fun hc => ?_) (fun hc hc1 hc2 => ?_) <;> simp -dsimp only [go_sem, Nat.reduceEqDiff, Nat.reduceAdd, Nat.reduceSub, Nat.reduceMul, Nat.reduceLeDiff, Nat.reduceLT, Nat.reduceBEq, Int.reduceLT, Int.reduceLE, Int.reduceGT, Int.reduceGE, Int.reduceEq, Int.reduceNe, Int.reduceBEq, Int.reduceBNe, Int.reduceAdd, Int.reduceSub, Int.reduceMul, Int.reduceToNat, Int.reduceNeg, ↓reduceIte, ↓reduceDIte, *]) | (refine BT_not (fun hc => ?_) (fun hc => ?_) <;> simp -dsimp only [go_sem, Nat.reduceEqDiff, Nat.reduceAdd, Nat.reduceSub, Nat.reduceMul, Nat.reduceLeDiff, Nat.reduceLT, Nat.reduceBEq, Int.reduceLT, Int.reduceLE, Int.reduceGT, Int.reduceGE, Int.reduceEq, Int.reduceNe, Int.reduceBEq, Int.reduceBNe, Int.reduceAdd, Int.reduceSub, Int.reduceMul, Int.reduceToNat, Int.reduceNeg, ↓reduceIte, ↓reduceDIte, *]) | (refine GT_notT (fun hc => ?_) (fun hc => ?_) <;> simp -dsimp only [go_sem, Nat.reduceEqDiff, Nat.reduceAdd, Nat.reduceSub, Nat.reduceMul, Nat.reduceLeDiff, Nat.reduceLT, Nat.reduceBEq, Int.reduceLT, Int.reduceLE, Int.reduceGT, Int.reduceGE, Int.reduceEq, Int.reduceNe, Int.reduceBEq, Int.reduceBNe, Int.reduceAdd, Int.reduceSub, Int.reduceMul, Int.reduceToNat, Int.reduceNeg, ↓reduceIte, ↓reduceDIte, *]) | (refine GT_notF (fun hc => ?_) (fun hc => ?_) <;> simp -dsimp only [go_sem, Nat.reduceEqDiff, Nat.reduceAdd, Nat.reduceSub, Nat.reduceMul, Nat.reduceLeDiff, Nat.reduceLT, Nat.reduceBEq, Int.reduceLT, Int.reduceLE, Int.reduceGT, Int.reduceGE, Int.reduceEq, Int.reduceNe, Int.reduceBEq, Int.reduceBNe, Int.reduceAdd, Int.reduceSub, Int.reduceMul, Int.reduceToNat, Int.reduceNeg, ↓reduceIte, ↓reduceDIte, *]) | (refine BT_dec (fun hc => ?_) (fun hc => ?_) <;> simp -dsimp only [go_sem, Nat.reduceEqDiff, Nat.reduceAdd, Nat.reduceSub, Nat.reduceMul, Nat.reduceLeDiff, Nat.reduceLT, Nat.reduceBEq, Int.reduceLT, Int.reduceLE, Int.reduceGT, Int.reduceGE, Int.reduceEq, Int.reduceNe, Int.reduceBEq, Int.reduceBNe, Int.reduceAdd, Int.reduceSub, Int.reduceMul, Int.reduceToNat, Int.reduceNeg, ↓reduceIte, ↓reduceDIte, *]) | (refine GT_decT (fun hc => ?_) (fun hc => ?_) <;> simp -dsimp only [go_sem, Nat.reduceEqDiff, Nat.reduceAdd, Nat.reduceSub, Nat.reduceMul, Nat.reduceLeDiff, Nat.reduceLT, Nat.reduceBEq, Int.reduceLT, Int.reduceLE, Int.reduceGT, Int.reduceGE, Int.reduceEq, Int.reduceNe, Int.reduceBEq, Int.reduceBNe, Int.reduceAdd, Int.reduceSub, Int.reduceMul, Int.reduceToNat, Int.reduceNeg, ↓reduceIte, ↓reduceDIte, *]) | (refine GT_decF (fun hc => ?_) (fun hc => ?_) <;> simp -dsimp only [go_sem, Nat.reduceEqDiff, Nat.reduceAdd, Nat.reduceSub, Nat.reduceMul, Nat.reduceLeDiff, Nat.reduceLT, Nat.reduceBEq, Int.reduceLT, Int.reduceLE, Int.reduceGT, Int.reduceGE, Int.reduceEq, Int.reduceNe, Int.reduceBEq, Int.reduceBNe, Int.reduceAdd, Int.reduceSub, Int.reduceMul, Int.reduceToNat, Int.reduceNeg, ↓reduceIte, ↓reduceDIte, *]) | (refine BT_intro (fun hc => ?_) (fun hc => ?_) <;> simp -dsimp only [go_sem, Nat.reduceEqDiff, Nat.reduceAdd, Nat.reduceSub, Nat.reduceMul, Nat.reduceLeDiff, Nat.reduceLT, Nat.reduceBEq, Int.reduceLT, Int.reduceLE, Int.reduceGT, Int.reduceGE, Int.reduceEq, Int.reduceNe, Int.reduceBEq, Int.reduceBNe, Int.reduceAdd, Int.reduceSub, Int.reduceMul, Int.reduceToNat, Int.reduceNeg, ↓reduceIte, ↓reduceDIte, *]) | (refine GT_introT (fun hc => ?_) (fun hc => ?_) <;> simp -dsimp only [go_sem, Nat.reduceEqDiff, Nat.reduceAdd, Nat.reduceSub, Nat.reduceMul, Nat.reduceLeDiff, Nat.reduceLT, Nat.reduceBEq, Int.reduceLT, Int.reduceLE, Int.reduceGT, Int.reduceGE, Int.reduceEq, Int.reduceNe, Int.reduceBEq, Int.reduceBNe, Int.reduceAdd, Int.reduceSub, Int.reduceMul, Int.reduceToNat, Int.reduceNeg, ↓reduceIte, ↓reduceDIte, *]) | (refine GT_introF (fun hc => ?_) (fun hc => ?_) <;> simp -dsimp only [go_sem, Nat.reduceEqDiff, Nat.reduceAdd, Nat.reduceSub, Nat.reduceMul, Nat.reduceLeDiff, Nat.reduceLT, Nat.reduceBEq, Int.reduceLT, Int.reduceLE, Int.reduceGT, Int.reduceGE, Int.reduceEq, Int.reduceNe, Int.reduceBEq, Int.reduceBNe, Int.reduceAdd, Int.reduceSub, Int.reduceMul, Int.reduceToNat, Int.reduceNeg, ↓reduceIte, ↓reduceDIte, *])))
  all_goals simp [aheadF, *]
abbrev ptr (b : Nat) : Value := .pointer (some ⟨b, 0, none⟩)
theorem take_at {l : List CallD} {j : Nat} {o : CallD} (h : o ∈ l.take j) : ∃ k, k < j ∧ l[k]? = some o := by
  obtain ⟨k, hk, rfl⟩ := List.getElem_of_mem h
  have : k < j ∧ k < l.length := by simp at hk; omega
  exact ⟨k, this.1, by rw [List.getElem_take]; exact List.getElem?_eq_getElem this.2⟩
/-- Of calls that are right: they meet just if one begins while the other one goes on. -/
theorem meets_on {o c : CallD} (ho : rightF o = true) (hc : rightF c = true) : meetsF o c = (onF o c.fr || onF c o.fr) := by
  have h1 : o.dn = true → o.fr ≤ o.to := by
    intro hd; unfold rightF at ho; split at ho
    · cases ho
    · simpa [hd] using ho
  have h2 : c.dn = true → c.fr ≤ c.to := by
    intro hd; unfold rightF at hc; split at hc
    · cases hc
    · simpa [hd] using hc
  rw [Bool.eq_iff_iff]
  simp only [meetsF, aheadF, onF, Bool.and_eq_true, Bool.or_eq_true, Bool.not_eq_true', Bool.and_eq_false_iff, decide_eq_true_eq, decide_eq_false_iff_not]
  cases hod : o.dn <;> cases hcd : c.dn <;> simp only [hod, hcd, Bool.false_eq_true, Bool.true_eq_false, false_implies, true_implies, reduceCtorEq, false_or, true_or, or_true, and_true, true_and, forall_const] at * <;> first | omega | (simp; omega) | (simp; done)
set_option maxHeartbeats 4000000 in
theorem refright_ev {lim : Nat} {a : Option Addr} {l : List CallD} {H : LHeap} (hs : Sl 8 H a (l.flatMap CallD.cells)) :
    callE T 20 lim [.slice a l.length l.length] H fun v H' => v = .bool (rightL l) ∧ H' = H := by
  refine callE_pop rfl (by simp) rfl ?_
  by_cases hn : l.length ≤ 1024
  · have k1 : ¬ (1024 < (l.length : Int)) := by omega
    simp -dsimp only [go_sem, Nat.reduceEqDiff, Nat.reduceAdd, Nat.reduceSub, Nat.reduceMul, Nat.reduceLeDiff, Nat.reduceLT, Nat.reduceBEq, Int.reduceLT, Int.reduceLE, Int.reduceGT, Int.reduceGE, Int.reduceEq, Int.reduceNe, Int.reduceBEq, Int.reduceBNe, Int.reduceAdd, Int.reduceSub, Int.reduceMul, Int.reduceToNat, Int.reduceNeg, ↓reduceIte, ↓reduceDIte, k1]
    refine LT_of (fun i : Nat × LHeap => [(0, .slice a l.length l.length), (3, i64 i.1)]) (fun i => H ++ i.2) (fun i => i.1 ≤ l.length ∧ ∀ k, k < i.1 → okAt l k = true) (fun i => l.length - i.1) (0, []) (by simp) (by simp) ⟨by simp, fun k h => by simp at h⟩ ?_
    rintro ⟨i, t⟩ ⟨hi, hp⟩
    simp only at hi hp ⊢
    by_cases hlt : i < l.length
    · have h1 : (i : Int) < l.length := by omega
      have h3 : 0 ≤ (i : Int) := by omega
      have k2 : l[i]? = some (l[i]'hlt) := List.getElem?_eq_getElem _
      generalize l[i]'hlt = y at k2
      obtain ⟨b1, o1, rfl, hb1, hg1, hg2⟩ := hs.rowsAt (f := CallD.cells) CallD.len (by omega) (by omega)
      have g1 := fun t => hg1 t i y k2
      simp only [List.append_nil, CallD.cells] at g1
      have hw : IntKind.i64.wrap ((i : Int) + 1) = ((i + 1 : Nat) : Int) := by rw [wrap_i64] <;> omega
      have bad : okAt l i = false → rightL l = false := by
        intro this
        rw [rightL, Bool.and_eq_false_iff]
        right
        rw [List.all_eq_false]
        exact ⟨i, List.mem_range.2 hlt, by simp [this]⟩
      cases hr : rightF y
      · have e := bad (by simp [okAt, k2, hr])
        rw [e]
        simp -dsimp only [go_sem, Nat.reduceEqDiff, Nat.reduceAdd, Nat.reduceSub, Nat.reduceMul, Nat.reduceLeDiff, Nat.reduceLT, Nat.reduceBEq, Int.reduceLT, Int.reduceLE, Int.reduceGT, Int.reduceGE, Int.reduceEq, Int.reduceNe, Int.reduceBEq, Int.reduceBNe, Int.reduceAdd, Int.reduceSub, Int.reduceMul, Int.reduceToNat, Int.reduceNeg, ↓reduceIte, ↓reduceDIte, h1, h3, g1]
        (repeat' (first | (refine BT_beq (fun hc => ?_) (fun hc hc2 => ?_) <;> simp -dsimp only [go_sem, Nat.reduceEqDiff, Nat.reduceAdd, Nat.reduceSub, Nat.reduceMul, Nat.reduceLeDiff, Nat.reduceLT, Nat.reduceBEq, Int.reduceLT, Int.reduceLE, Int.reduceGT, Int.reduceGE, Int.reduceEq, Int.reduceNe, Int.reduceBEq, Int.reduceBNe, Int.reduceAdd, Int.reduceSub, Int.reduceMul, Int.reduceToNat, Int.reduceNeg, ↓reduceIte, ↓reduceDIte, h1, h3, g1, *]) | (refine GT_beqT (fun hc => ?_) (fun hc hc2 => ?_) <;> simp -dsimp only [go_sem, Nat.reduceEqDiff, Nat.reduceAdd, Nat.reduceSub, Nat.reduceMul, Nat.reduceLeDiff, Nat.reduceLT, Nat.reduceBEq, Int.reduceLT, Int.reduceLE, Int.reduceGT, Int.reduceGE, Int.reduceEq, Int.reduceNe, Int.reduceBEq, Int.reduceBNe, Int.reduceAdd, Int.reduceSub, Int.reduceMul, Int.reduceToNat, Int.reduceNeg, ↓reduceIte, ↓reduceDIte, h1, h3, g1, *]) | (refine GT_beqF (fun hc hc2 => ?_) (fun hc => ?_) <;> simp -dsimp only [go_sem, Nat.reduceEqDiff, Nat.reduceAdd, Nat.reduceSub, Nat.reduceMul, Nat.reduceLeDiff, Nat.reduceLT, Nat.reduceBEq, Int.reduceLT, Int.reduceLE, Int.reduceGT, Int.reduceGE, Int.reduceEq, Int.reduceNe, Int.reduceBEq, Int.reduceBNe, Int.reduceAdd, Int.reduceSub, Int.reduceMul, Int.reduceToNat, Int.reduceNeg, ↓reduceIte, ↓reduceDIte, h1, h3, g1, *]) | (refine BT_bne (fun hc hc1 hc2 => ?_) (fun hc => ?_) <;> simp -dsimp only [go_sem, Nat.reduceEqDiff, Nat.reduceAdd, Nat.reduceSub, Nat.reduceMul, Nat.reduceLeDiff, Nat.reduceLT, Nat.reduceBEq, Int.reduceLT, Int.reduceLE, Int.reduceGT, Int.reduceGE, Int.reduceEq, Int.reduceNe, Int.reduceBEq, Int.reduceBNe, Int.reduceAdd, Int.reduceSub, Int.reduceMul, Int.reduceToNat, Int.reduceNeg, ↓reduceIte, ↓reduceDIte, h1, h3, g1, *]) | (refine GT_bneT (fun hc hc1 hc2 => ?_) (fun hc => ?_) <;> simp -dsimp only [go_sem, Nat.reduceEqDiff, Nat.reduceAdd, Nat.reduceSub, Nat.reduceMul, Nat.reduceLeDiff, Nat.reduceLT, Nat.reduceBEq, Int.reduceLT, Int.reduceLE, Int.reduceGT, Int.reduceGE, Int.reduceEq, Int.reduceNe, Int.reduceBEq, Int.reduceBNe, Int.reduceAdd, Int.reduceSub, Int.reduceMul, Int.reduceToNat, Int.reduceNeg, ↓reduceIte, ↓reduceDIte, h1, h3, g1, *]) | (refine GT_bneF (fun hc => ?_) (fun hc hc1 hc2 => ?_) <;> simp -dsimp only [go_sem, Nat.reduceEqDiff, Nat.reduceAdd, Nat.reduceSub, Nat.reduceMul, Nat.reduceLeDiff, Nat.reduceLT, Nat.reduceBEq, Int.reduceLT, Int.reduceLE, Int.reduceGT, Int.reduceGE, Int.reduceEq, Int.reduceNe, Int.reduceBEq, Int.reduceBNe, Int.reduceAdd, Int.reduceSub, Int.reduceMul, Int.reduceToNat, Int.reduceNeg, ↓reduceIte, ↓reduceDIte, h1, h3, g1, *]) | (refine BT_not (fun hc => ?_) (fun hc => ?_) <;> simp -dsimp only [go_sem, Nat.reduceEqDiff, Nat.reduceAdd, Nat.reduceSub, Nat.reduceMul, Nat.reduceLeDiff, Nat.reduceLT, Nat.reduceBEq, Int.reduceLT, Int.reduceLE, Int.reduceGT, Int.reduceGE, Int.reduceEq, Int.reduceNe, Int.reduceBEq, Int.reduceBNe, Int.reduceAdd, Int.reduceSub, Int.reduceMul, Int.reduceToNat, Int.reduceNeg, ↓reduceIte, ↓reduceDIte, h1, h3, g1, *]) | (refine GT_notT (fun hc => ?_) (fun hc => ?_) <;> simp -dsimp only [go_sem, Nat.reduceEqDiff, Nat.reduceAdd, Nat.reduceSub, Nat.reduceMul, Nat.reduceLeDiff, Nat.reduceLT, Nat.reduceBEq, Int.reduceLT, Int.reduceLE, Int.reduceGT, Int.reduceGE, Int.reduceEq, Int.reduceNe, Int.reduceBEq, Int.reduceBNe, Int.reduceAdd, Int.reduceSub, Int.reduceMul, Int.reduceToNat, Int.reduceNeg, ↓reduceIte, ↓reduceDIte, h1, h3, g1, *]) | (refine GT_notF (fun hc => ?_) (fun hc => ?_) <;> simp -dsimp only [go_sem, Nat.reduceEqDiff, Nat.reduceAdd, Nat.reduceSub, Nat.reduceMul, Nat.reduceLeDiff, Nat.reduceLT, Nat.reduceBEq, Int.reduceLT, Int.reduceLE, Int.reduceGT, Int.reduceGE, Int.reduceEq, Int.reduceNe, Int.reduceBEq, Int.reduceBNe, Int.reduceAdd, Int.reduceSub, Int.reduceMul, Int.reduceToNat, Int.reduceNeg, ↓reduceIte, ↓reduceDIte, h1, h3, g1, *]) | (refine BT_dec (fun hc => ?_) (fun hc => ?_) <;> simp -dsimp only [go_sem, Nat.reduceEqDiff, Nat.reduceAdd, Nat.reduceSub, Nat.reduceMul, Nat.reduceLeDiff, Nat.reduceLT, Nat.reduceBEq, Int.reduceLT, Int.reduceLE, Int.reduceGT, Int.reduceGE, Int.reduceEq, Int.reduceNe, Int.reduceBEq, Int.reduceBNe, Int.reduceAdd, Int.reduceSub, Int.reduceMul, Int.reduceToNat, Int.reduceNeg, ↓reduceIte, ↓reduceDIte, h1, h3, g1, *]) | (refine GT_decT (fun hc => ?_) (fun hc => ?_) <;> simp -dsimp only [go_sem, Nat.reduceEqDiff, Nat.reduceAdd, Nat.reduceSub, Nat.reduceMul, Nat.reduceLeDiff, Nat.reduceLT, Nat.reduceBEq, Int.reduceLT, Int.reduceLE, Int.reduceGT, Int.reduceGE, Int.reduceEq, Int.reduceNe, Int.reduceBEq, Int.reduceBNe, Int.reduceAdd, Int.reduceSub, Int.reduceMul, Int.reduceToNat, Int.reduceNeg, ↓reduceIte, ↓reduceDIte, h1, h3, g1, *]) | (refine GT_decF (fun hc => ?_) (fun hc => ?_) <;> simp -dsimp only [go_sem, Nat.reduceEqDiff, Nat.reduceAdd, Nat.reduceSub, Nat.reduceMul, Nat.reduceLeDiff, Nat.reduceLT, Nat.reduceBEq, Int.reduceLT, Int.reduceLE, Int.reduceGT, Int.reduceGE, Int.reduceEq, Int.reduceNe, Int.reduceBEq, Int.reduceBNe, Int.reduceAdd, Int.reduceSub, Int.reduceMul, Int.reduceToNat, Int.reduceNeg, ↓reduceIte, ↓reduceDIte, h1, h3, g1, *]) | (refine BT_intro (fun hc => ?_) (fun hc => ?_) <;> simp -dsimp only [go_sem, Nat.reduceEqDiff, Nat.reduceAdd, Nat.reduceSub, Nat.reduceMul, Nat.reduceLeDiff, Nat.reduceLT, Nat.reduceBEq, Int.reduceLT, Int.reduceLE, Int.reduceGT, Int.reduceGE, Int.reduceEq, Int.reduceNe, Int.reduceBEq, Int.reduceBNe, Int.reduceAdd, Int.reduceSub, Int.reduceMul, Int.reduceToNat, Int.reduceNeg, ↓reduceIte, ↓reduceDIte, h1, h3, g1, *]) | (refine GT_introT (fun hc => ?_) (fun hc => ?_) <;> simp -dsimp only [go_sem, Nat.reduceEqDiff, Nat.reduceAdd, Nat.reduceSub, Nat.reduceMul, Nat.reduceLeDiff, Nat.reduceLT, Nat.reduceBEq, Int.reduceLT, Int.reduceLE, Int.reduceGT, Int.reduceGE, Int.reduceEq, Int.reduceNe, Int.reduceBEq, Int.reduceBNe, Int.reduceAdd, Int.reduceSub, Int.reduceMul, Int.reduceToNat, Int.reduceNeg, ↓reduceIte, ↓reduceDIte, h1, h3, g1, *]) | (refine GT_introF (fun hc => ?_) (fun hc => ?_) <;> simp -dsimp only [go_sem, Nat.reduceEqDiff, Nat.reduceAdd, Nat.reduceSub, Nat.reduceMul, Nat.reduceLeDiff, Nat.reduceLT, Nat.reduceBEq, Int.reduceLT, Int.reduceLE, Int.reduceGT, Int.reduceGE, Int.reduceEq, Int.reduceNe, Int.reduceBEq, Int.reduceBNe, Int.reduceAdd, Int.reduceSub, Int.reduceMul, Int.reduceToNat, Int.reduceNeg, ↓reduceIte, ↓reduceDIte, h1, h3, g1, *])))
        all_goals first | (exfalso; simp [rightF, *] at hr; done) | (exfalso; simp [rightF, *] at hr; omega) | trace_state
      · obtain ⟨th, kind, arg, fr, to, dn, code, ret⟩ := y
        have good : ¬ th < 0 ∧ ¬ 63 < th ∧ ¬ fr < 0 ∧ (dn = true → ¬ to < fr) ∧ (dn = false → to = 0 ∧ code = 0 ∧ ret = 0#64) := by
          have hr' := hr
          unfold rightF at hr'
          simp only at hr'
          split at hr'
          · cases hr'
          · rename_i hb
            refine ⟨by omega, by omega, by omega, fun hd => ?_, fun hd => ?_⟩
            · rw [if_pos hd] at hr'; simp at hr'; omega
            · rw [if_neg (by rw [hd]; simp)] at hr'; simpa using hr'
        obtain ⟨q1, q2, q3, q4, q5⟩ := good
        cases dn
        · obtain ⟨rfl, rfl, rfl⟩ := q5 rfl
          have e1 : ((0 : Int) != 0) = false := rfl
          have e2 : (0#64 != 0#64) = false := rfl
          simp -dsimp only [go_sem, Nat.reduceEqDiff, Nat.reduceAdd, Nat.reduceSub, Nat.reduceMul, Nat.reduceLeDiff, Nat.reduceLT, Nat.reduceBEq, Int.reduceLT, Int.reduceLE, Int.reduceGT, Int.reduceGE, Int.reduceEq, Int.reduceNe, Int.reduceBEq, Int.reduceBNe, Int.reduceAdd, Int.reduceSub, Int.reduceMul, Int.reduceToNat, Int.reduceNeg, ↓reduceIte, ↓reduceDIte, h1, h3, g1, q1, q2, q3, e1, e2]
          refine LT_of (fun q : Nat => [(0, .slice (some ⟨b1, o1, none⟩) l.length l.length), (3, i64 i), (4, ptr (H.length + t.length)), (5, i64 q)]) (fun _ => H ++ (t ++ [.row false 0 (CallD.cells (CallD.mk th kind arg fr 0 false 0 0#64))])) (fun q => q ≤ i ∧ ∀ (k : Nat) (o : CallD), k < q → l[k]? = some o → twiceF (CallD.mk th kind arg fr 0 false 0 0#64) o = false) (fun q => i - q) 0 (by simp) (by simp [CallD.cells]) ⟨by omega, fun k o h => by omega⟩ ?_
          rintro q ⟨hq, hpq⟩
          by_cases hqi : q < i
          · have p1 : (q : Int) < i := by omega
            have p2 : (q : Int) < l.length := by omega
            have p3 : 0 ≤ (q : Int) := by omega
            have hw2 : IntKind.i64.wrap ((q : Int) + 1) = ((q + 1 : Nat) : Int) := by rw [wrap_i64] <;> omega
            have ho : l[q]? = some (l[q]'(by omega)) := List.getElem?_eq_getElem _
            generalize l[q]'(by omega) = o at ho
            have s0 := fun t => hg2 t q o 0 ho (by omega)
            have s3 := fun t => hg2 t q o 3 ho (by omega)
            have ss := fun t => hg1 t q o ho
            simp only [CallD.cells, List.getElem?_cons_zero, List.getElem?_cons_succ, Nat.add_zero] at s0 s3 ss
            have hro : rightF o = true := by
              have := hp q hqi
              simp only [okAt, ho, Bool.and_eq_true] at this
              exact this.1
            have hmo := meets_on hro hr
            have next : twiceF (CallD.mk th kind arg fr 0 false 0 0#64) o = false → ∀ (k : Nat) (c : CallD), k < q + 1 → l[k]? = some c → twiceF (CallD.mk th kind arg fr 0 false 0 0#64) c = false := by
              intro hy k c hk hc
              by_cases hki : k < q
              · exact hpq k c hki hc
              · obtain rfl : k = q := by omega
                rw [ho] at hc; cases hc; exact hy
            have badq : twiceF (CallD.mk th kind arg fr 0 false 0 0#64) o = true → okAt l i = false := by
              intro hy
              have : (l.take i).any (twiceF (CallD.mk th kind arg fr 0 false 0 0#64)) = true := List.any_eq_true.2 ⟨o, List.mem_of_getElem? (by rw [List.getElem?_take_of_lt hqi]; exact ho), hy⟩
              simp [okAt, k2, this]
            by_cases hth : o.th = th
            · have e1 : (o.th == th) = true := by simpa using hth
              simp -dsimp only [go_sem, Nat.reduceEqDiff, Nat.reduceAdd, Nat.reduceSub, Nat.reduceMul, Nat.reduceLeDiff, Nat.reduceLT, Nat.reduceBEq, Int.reduceLT, Int.reduceLE, Int.reduceGT, Int.reduceGE, Int.reduceEq, Int.reduceNe, Int.reduceBEq, Int.reduceBNe, Int.reduceAdd, Int.reduceSub, Int.reduceMul, Int.reduceToNat, Int.reduceNeg, ↓reduceIte, ↓reduceDIte, p1, p2, p3, s0, s3, ss, e1, CallD.cells]
              refine CT_val (on_ev (c := o)) ?_
              cases ho1 : onF o fr
              · simp -dsimp only [go_sem, Nat.reduceEqDiff, Nat.reduceAdd, Nat.reduceSub, Nat.reduceMul, Nat.reduceLeDiff, Nat.reduceLT, Nat.reduceBEq, Int.reduceLT, Int.reduceLE, Int.reduceGT, Int.reduceGE, Int.reduceEq, Int.reduceNe, Int.reduceBEq, Int.reduceBNe, Int.reduceAdd, Int.reduceSub, Int.reduceMul, Int.reduceToNat, Int.reduceNeg, ↓reduceIte, ↓reduceDIte, p2, p3, s3]
                refine CT_val (on_ev (c := (CallD.mk th kind arg fr 0 false 0 0#64))) ?_
                cases ho2 : onF (CallD.mk th kind arg fr 0 false 0 0#64) o.fr
                · simp -dsimp only [go_sem, Nat.reduceEqDiff, Nat.reduceAdd, Nat.reduceSub, Nat.reduceMul, Nat.reduceLeDiff, Nat.reduceLT, Nat.reduceBEq, Int.reduceLT, Int.reduceLE, Int.reduceGT, Int.reduceGE, Int.reduceEq, Int.reduceNe, Int.reduceBEq, Int.reduceBNe, Int.reduceAdd, Int.reduceSub, Int.reduceMul, Int.reduceToNat, Int.reduceNeg, ↓reduceIte, ↓reduceDIte, hw2]
                  exact ⟨q + 1, rfl, rfl, ⟨by omega, next (by rw [twiceF, hmo]; simp [ho1, ho2])⟩, by omega⟩
                · simp -dsimp only [go_sem, Nat.reduceEqDiff, Nat.reduceAdd, Nat.reduceSub, Nat.reduceMul, Nat.reduceLeDiff, Nat.reduceLT, Nat.reduceBEq, Int.reduceLT, Int.reduceLE, Int.reduceGT, Int.reduceGE, Int.reduceEq, Int.reduceNe, Int.reduceBEq, Int.reduceBNe, Int.reduceAdd, Int.reduceSub, Int.reduceMul, Int.reduceToNat, Int.reduceNeg, ↓reduceIte, ↓reduceDIte]
                  rw [bad (badq (by rw [twiceF, hmo]; simp [ho1, ho2, hth]))]
              · simp -dsimp only [go_sem, Nat.reduceEqDiff, Nat.reduceAdd, Nat.reduceSub, Nat.reduceMul, Nat.reduceLeDiff, Nat.reduceLT, Nat.reduceBEq, Int.reduceLT, Int.reduceLE, Int.reduceGT, Int.reduceGE, Int.reduceEq, Int.reduceNe, Int.reduceBEq, Int.reduceBNe, Int.reduceAdd, Int.reduceSub, Int.reduceMul, Int.reduceToNat, Int.reduceNeg, ↓reduceIte, ↓reduceDIte]
                rw [bad (badq (by rw [twiceF, hmo]; simp [ho1, hth]))]
            · have e1 : (o.th == th) = false := by simpa using hth
              simp -dsimp only [go_sem, Nat.reduceEqDiff, Nat.reduceAdd, Nat.reduceSub, Nat.reduceMul, Nat.reduceLeDiff, Nat.reduceLT, Nat.reduceBEq, Int.reduceLT, Int.reduceLE, Int.reduceGT, Int.reduceGE, Int.reduceEq, Int.reduceNe, Int.reduceBEq, Int.reduceBNe, Int.reduceAdd, Int.reduceSub, Int.reduceMul, Int.reduceToNat, Int.reduceNeg, ↓reduceIte, ↓reduceDIte, p1, p2, p3, s0, s3, ss, e1, CallD.cells, hw2]
              exact ⟨q + 1, rfl, ⟨by omega, next (by simp [twiceF, hth])⟩, by omega⟩
          · have p1 : ¬ (q : Int) < i := by omega
            obtain rfl : q = i := by omega
            simp -dsimp only [go_sem, Nat.reduceEqDiff, Nat.reduceAdd, Nat.reduceSub, Nat.reduceMul, Nat.reduceLeDiff, Nat.reduceLT, Nat.reduceBEq, Int.reduceLT, Int.reduceLE, Int.reduceGT, Int.reduceGE, Int.reduceEq, Int.reduceNe, Int.reduceBEq, Int.reduceBNe, Int.reduceAdd, Int.reduceSub, Int.reduceMul, Int.reduceToNat, Int.reduceNeg, ↓reduceIte, ↓reduceDIte, p1, hw]
            refine ⟨(q + 1, _), rfl, rfl, ⟨by dsimp only; omega, fun k hk => ?_⟩, by dsimp only; omega⟩
            by_cases hki : k < q
            · exact hp k hki
            · obtain rfl : k = q := by dsimp only at hk; omega
              have : (l.take k).any (twiceF (CallD.mk th kind arg fr 0 false 0 0#64)) = false := by
                rw [List.any_eq_false]
                intro x hx
                obtain ⟨j, hj, hjx⟩ := take_at hx
                rw [hpq j x hj hjx]; simp
              simp [okAt, k2, hr, this]
        · have z1 := q4 rfl
          simp -dsimp only [go_sem, Nat.reduceEqDiff, Nat.reduceAdd, Nat.reduceSub, Nat.reduceMul, Nat.reduceLeDiff, Nat.reduceLT, Nat.reduceBEq, Int.reduceLT, Int.reduceLE, Int.reduceGT, Int.reduceGE, Int.reduceEq, Int.reduceNe, Int.reduceBEq, Int.reduceBNe, Int.reduceAdd, Int.reduceSub, Int.reduceMul, Int.reduceToNat, Int.reduceNeg, ↓reduceIte, ↓reduceDIte, h1, h3, g1, q1, q2, q3, z1]
          refine LT_of (fun q : Nat => [(0, .slice (some ⟨b1, o1, none⟩) l.length l.length), (3, i64 i), (4, ptr (H.length + t.length)), (5, i64 q)]) (fun _ => H ++ (t ++ [.row false 0 (CallD.cells (CallD.mk th kind arg fr to true code ret))])) (fun q => q ≤ i ∧ ∀ (k : Nat) (o : CallD), k < q → l[k]? = some o → twiceF (CallD.mk th kind arg fr to true code ret) o = false) (fun q => i - q) 0 (by simp) (by simp [CallD.cells]) ⟨by omega, fun k o h => by omega⟩ ?_
          rintro q ⟨hq, hpq⟩
          by_cases hqi : q < i
          · have p1 : (q : Int) < i := by omega
            have p2 : (q : Int) < l.length := by omega
            have p3 : 0 ≤ (q : Int) := by omega
            have hw2 : IntKind.i64.wrap ((q : Int) + 1) = ((q + 1 : Nat) : Int) := by rw [wrap_i64] <;> omega
            have ho : l[q]? = some (l[q]'(by omega)) := List.getElem?_eq_getElem _
            generalize l[q]'(by omega) = o at ho
            have s0 := fun t => hg2 t q o 0 ho (by omega)
            have s3 := fun t => hg2 t q o 3 ho (by omega)
            have ss := fun t => hg1 t q o ho
            simp only [CallD.cells, List.getElem?_cons_zero, List.getElem?_cons_succ, Nat.add_zero] at s0 s3 ss
            have hro : rightF o = true := by
              have := hp q hqi
              simp only [okAt, ho, Bool.and_eq_true] at this
              exact this.1
            have hmo := meets_on hro hr
            have next : twiceF (CallD.mk th kind arg fr to true code ret) o = false → ∀ (k : Nat) (c : CallD), k < q + 1 → l[k]? = some c → twiceF (CallD.mk th kind arg fr to true code ret) c = false := by
              intro hy k c hk hc
              by_cases hki : k < q
              · exact hpq k c hki hc
              · obtain rfl : k = q := by omega
                rw [ho] at hc; cases hc; exact hy
            have badq : twiceF (CallD.mk th kind arg fr to true code ret) o = true → okAt l i = false := by
              intro hy
              have : (l.take i).any (twiceF (CallD.mk th kind arg fr to true code ret)) = true := List.any_eq_true.2 ⟨o, List.mem_of_getElem? (by rw [List.getElem?_take_of_lt hqi]; exact ho), hy⟩
              simp [okAt, k2, this]
            by_cases hth : o.th = th
            · have e1 : (o.th == th) = true := by simpa using hth
              simp -dsimp only [go_sem, Nat.reduceEqDiff, Nat.reduceAdd, Nat.reduceSub, Nat.reduceMul, Nat.reduceLeDiff, Nat.reduceLT, Nat.reduceBEq, Int.reduceLT, Int.reduceLE, Int.reduceGT, Int.reduceGE, Int.reduceEq, Int.reduceNe, Int.reduceBEq, Int.reduceBNe, Int.reduceAdd, Int.reduceSub, Int.reduceMul, Int.reduceToNat, Int.reduceNeg, ↓reduceIte, ↓reduceDIte, p1, p2, p3, s0, s3, ss, e1, CallD.cells]
              refine CT_val (on_ev (c := o)) ?_
              cases ho1 : onF o fr
              · simp -dsimp only [go_sem, Nat.reduceEqDiff, Nat.reduceAdd, Nat.reduceSub, Nat.reduceMul, Nat.reduceLeDiff, Nat.reduceLT, Nat.reduceBEq, Int.reduceLT, Int.reduceLE, Int.reduceGT, Int.reduceGE, Int.reduceEq, Int.reduceNe, Int.reduceBEq, Int.reduceBNe, Int.reduceAdd, Int.reduceSub, Int.reduceMul, Int.reduceToNat, Int.reduceNeg, ↓reduceIte, ↓reduceDIte, p2, p3, s3]
                refine CT_val (on_ev (c := (CallD.mk th kind arg fr to true code ret))) ?_
                cases ho2 : onF (CallD.mk th kind arg fr to true code ret) o.fr
                · simp -dsimp only [go_sem, Nat.reduceEqDiff, Nat.reduceAdd, Nat.reduceSub, Nat.reduceMul, Nat.reduceLeDiff, Nat.reduceLT, Nat.reduceBEq, Int.reduceLT, Int.reduceLE, Int.reduceGT, Int.reduceGE, Int.reduceEq, Int.reduceNe, Int.reduceBEq, Int.reduceBNe, Int.reduceAdd, Int.reduceSub, Int.reduceMul, Int.reduceToNat, Int.reduceNeg, ↓reduceIte, ↓reduceDIte, hw2]
                  exact ⟨q + 1, rfl, rfl, ⟨by omega, next (by rw [twiceF, hmo]; simp [ho1, ho2])⟩, by omega⟩
                · simp -dsimp only [go_sem, Nat.reduceEqDiff, Nat.reduceAdd, Nat.reduceSub, Nat.reduceMul, Nat.reduceLeDiff, Nat.reduceLT, Nat.reduceBEq, Int.reduceLT, Int.reduceLE, Int.reduceGT, Int.reduceGE, Int.reduceEq, Int.reduceNe, Int.reduceBEq, Int.reduceBNe, Int.reduceAdd, Int.reduceSub, Int.reduceMul, Int.reduceToNat, Int.reduceNeg, ↓reduceIte, ↓reduceDIte]
                  rw [bad (badq (by rw [twiceF, hmo]; simp [ho1, ho2, hth]))]
              · simp -dsimp only [go_sem, Nat.reduceEqDiff, Nat.reduceAdd, Nat.reduceSub, Nat.reduceMul, Nat.reduceLeDiff, Nat.reduceLT, Nat.reduceBEq, Int.reduceLT, Int.reduceLE, Int.reduceGT, Int.reduceGE, Int.reduceEq, Int.reduceNe, Int.reduceBEq, Int.reduceBNe, Int.reduceAdd, Int.reduceSub, Int.reduceMul, Int.reduceToNat, Int.reduceNeg, ↓reduceIte, ↓reduceDIte]
                rw [bad (badq (by rw [twiceF, hmo]; simp [ho1, hth]))]
            · have e1 : (o.th == th) = false := by simpa using hth
              simp -dsimp only [go_sem, Nat.reduceEqDiff, Nat.reduceAdd, Nat.reduceSub, Nat.reduceMul, Nat.reduceLeDiff, Nat.reduceLT, Nat.reduceBEq, Int.reduceLT, Int.reduceLE, Int.reduceGT, Int.reduceGE, Int.reduceEq, Int.reduceNe, Int.reduceBEq, Int.reduceBNe, Int.reduceAdd, Int.reduceSub, Int.reduceMul, Int.reduceToNat, Int.reduceNeg, ↓reduceIte, ↓reduceDIte, p1, p2, p3, s0, s3, ss, e1, CallD.cells, hw2]
              exact ⟨q + 1, rfl, ⟨by omega, next (by simp [twiceF, hth])⟩, by omega⟩
          · have p1 : ¬ (q : Int) < i := by omega
            obtain rfl : q = i := by omega
            simp -dsimp only [go_sem, Nat.reduceEqDiff, Nat.reduceAdd, Nat.reduceSub, Nat.reduceMul, Nat.reduceLeDiff, Nat.reduceLT, Nat.reduceBEq, Int.reduceLT, Int.reduceLE, Int.reduceGT, Int.reduceGE, Int.reduceEq, Int.reduceNe, Int.reduceBEq, Int.reduceBNe, Int.reduceAdd, Int.reduceSub, Int.reduceMul, Int.reduceToNat, Int.reduceNeg, ↓reduceIte, ↓reduceDIte, p1, hw]
            refine ⟨(q + 1, _), rfl, rfl, ⟨by dsimp only; omega, fun k hk => ?_⟩, by dsimp only; omega⟩
            by_cases hki : k < q
            · exact hp k hki
            · obtain rfl : k = q := by dsimp only at hk; omega
              have : (l.take k).any (twiceF (CallD.mk th kind arg fr to true code ret)) = false := by
                rw [List.any_eq_false]
                intro x hx
                obtain ⟨j, hj, hjx⟩ := take_at hx
                rw [hpq j x hj hjx]; simp
              simp [okAt, k2, hr, this]
    · have h1 : ¬ (i : Int) < l.length := by omega
      simp -dsimp only [go_sem, Nat.reduceEqDiff, Nat.reduceAdd, Nat.reduceSub, Nat.reduceMul, Nat.reduceLeDiff, Nat.reduceLT, Nat.reduceBEq, Int.reduceLT, Int.reduceLE, Int.reduceGT, Int.reduceGE, Int.reduceEq, Int.reduceNe, Int.reduceBEq, Int.reduceBNe, Int.reduceAdd, Int.reduceSub, Int.reduceMul, Int.reduceToNat, Int.reduceNeg, ↓reduceIte, ↓reduceDIte, h1]
      have : rightL l = true := by
        rw [rightL, Bool.and_eq_true, List.all_eq_true]
        exact ⟨by simpa using hn, fun k hk => hp k (by have := List.mem_range.1 hk; omega)⟩
      rw [this]
  · have k1 : (1024 < (l.length : Int)) := by omega
    simp -dsimp only [go_sem, Nat.reduceEqDiff, Nat.reduceAdd, Nat.reduceSub, Nat.reduceMul, Nat.reduceLeDiff, Nat.reduceLT, Nat.reduceBEq, Int.reduceLT, Int.reduceLE, Int.reduceGT, Int.reduceGE, Int.reduceEq, Int.reduceNe, Int.reduceBEq, Int.reduceBNe, Int.reduceAdd, Int.reduceSub, Int.reduceMul, Int.reduceToNat, Int.reduceNeg, ↓reduceIte, ↓reduceDIte, k1]
    simp [rightL, hn]
/-- The calls, for the reference. -/
theorem own_cap {lim n : Nat} {a : Option Addr} {l : List CallD} {H : LHeap} (hl : lim ≤ H.length) (hs : Sl 8 H a (l.flatMap CallD.cells)) (hn : l.length < 1000000) :
    callE T 9 lim [.slice a l.length n] H fun v H' => ∃ a' t, v = .slice a' l.length l.length ∧ H' = H ++ t ∧ Own 8 (H ++ t) H.length a' (l.flatMap CallD.cells) := by
  refine callE_stay rfl (by simp) rfl ?_
  simp -dsimp only [go_sem, Nat.reduceEqDiff, Nat.reduceAdd, Nat.reduceSub, Nat.reduceMul, Nat.reduceLeDiff, Nat.reduceLT, Nat.reduceBEq, Int.reduceLT, Int.reduceLE, Int.reduceGT, Int.reduceGE, Int.reduceEq, Int.reduceNe, Int.reduceBEq, Int.reduceBNe, Int.reduceAdd, Int.reduceSub, Int.reduceMul, Int.reduceToNat, Int.reduceNeg, ↓reduceIte, ↓reduceDIte]
  refine LT_of (fun s : Nat × Option Addr × LHeap => [(0, .slice a l.length n), (3, .slice s.2.1 s.1 s.1), (4, i64 s.1)]) (fun s => H ++ s.2.2) (fun s => s.1 ≤ l.length ∧ Own 8 (H ++ s.2.2) H.length s.2.1 ((l.take s.1).flatMap CallD.cells)) (fun s => l.length - s.1) (0, none, []) rfl (by simp) ⟨by simp, Own.nil _ _ _⟩ ?_
  rintro ⟨i, a', t⟩ ⟨hi, ho⟩
  simp only at hi ho ⊢
  by_cases hlt : i < l.length
  · have h1 : (i : Int) < l.length := by omega
    have h3 : 0 ≤ (i : Int) := by omega
    have k1 : l[i]? = some (l[i]'hlt) := List.getElem?_eq_getElem _
    generalize l[i]'hlt = c at k1
    obtain ⟨b, o, rfl, hb, hg⟩ := hs.rows (m := 8) CallD.len (by omega) (by omega)
    have g1 := fun t => hg t i c k1
    have g2 := fun u news => ho.grow (k := i) (bytes := 64) (lim := lim) (by rw [flat_len CallD.len]; simp; omega) (by omega) hl (by omega) (by omega) u news
    have hw : IntKind.i64.wrap ((i : Int) + 1) = ((i + 1 : Nat) : Int) := by rw [wrap_i64] <;> omega
    simp -dsimp only [go_sem, Nat.reduceEqDiff, Nat.reduceAdd, Nat.reduceSub, Nat.reduceMul, Nat.reduceLeDiff, Nat.reduceLT, Nat.reduceBEq, Int.reduceLT, Int.reduceLE, Int.reduceGT, Int.reduceGE, Int.reduceEq, Int.reduceNe, Int.reduceBEq, Int.reduceBNe, Int.reduceAdd, Int.reduceSub, Int.reduceMul, Int.reduceToNat, Int.reduceNeg, ↓reduceIte, ↓reduceDIte, h1, h3, g1, g2, hw, CallD.cells]
    have hk : (l.take (i + 1)).flatMap CallD.cells = (l.take i).flatMap CallD.cells ++ c.cells := by
      rw [List.take_add_one, k1]; simp
    refine ⟨(i + 1, some ⟨H.length + (t.length + 2), 0, none⟩, _), rfl, rfl, ⟨by dsimp only; omega, ?_⟩, by dsimp only; omega⟩
    dsimp only
    rw [hk]
    exact Own.grown (u := [_, _]) rfl (by simp) a'
  · have h1 : ¬ (i : Int) < l.length := by omega
    simp -dsimp only [go_sem, Nat.reduceEqDiff, Nat.reduceAdd, Nat.reduceSub, Nat.reduceMul, Nat.reduceLeDiff, Nat.reduceLT, Nat.reduceBEq, Int.reduceLT, Int.reduceLE, Int.reduceGT, Int.reduceGE, Int.reduceEq, Int.reduceNe, Int.reduceBEq, Int.reduceBNe, Int.reduceAdd, Int.reduceSub, Int.reduceMul, Int.reduceToNat, Int.reduceNeg, ↓reduceIte, ↓reduceDIte, h1]
    have : i = l.length := by omega
    subst this
    rw [List.take_length] at ho
    exact ⟨_, _, rfl, rfl, ho⟩
def condI (l : List CallD) (at_ kind : Int) (i : Nat) : Bool :=
  decide (0 ≤ at_) && match l[i]?, l[at_.toNat]? with
    | some c, some d => decide ((i : Int) ≠ at_) && ((decide (kind < 0) || decide (c.kind = kind)) && meetsF c d)
    | _, _ => false
def cntF (l : List CallD) (at_ kind : Int) : Nat → Nat
  | 0 => 0
  | j + 1 => cntF l at_ kind j + (if condI l at_ kind j = true then 1 else 0)
theorem cnt_le (l : List CallD) (at_ kind : Int) : ∀ j, cntF l at_ kind j ≤ j
  | 0 => Nat.le_refl _
  | j + 1 => by
    have := cnt_le l at_ kind j
    simp only [cntF]
    split <;> omega
theorem cnt_out {l : List CallD} {at_ kind : Int} (h : at_ < 0 ∨ (l.length : Int) ≤ at_) : ∀ j, cntF l at_ kind j = 0
  | 0 => rfl
  | j + 1 => by
    have : condI l at_ kind j = false := by
      unfold condI
      by_cases h0 : 0 ≤ at_
      · have : l[at_.toNat]? = none := List.getElem?_eq_none (by omega)
        rw [this]
        cases l[j]? <;> simp
      · simp [h0]
    rw [cntF, cnt_out h j, this]; rfl
set_option maxHeartbeats 1000000 in
theorem among_ev {lim n : Nat} {a : Option Addr} {l : List CallD} {at_ kind : Int} {H : LHeap} (hs : Sl 8 H a (l.flatMap CallD.cells)) (hn : l.length < 1000000) :
    callE T 38 lim [.slice a l.length n, i64 at_, i64 kind] H fun v H' => v = i64 (cntF l at_ kind l.length) ∧ H' = H := by
  refine callE_pop rfl (by simp) rfl ?_
  by_cases h1 : at_ < 0
  · simp -dsimp only [go_sem, Nat.reduceEqDiff, Nat.reduceAdd, Nat.reduceSub, Nat.reduceMul, Nat.reduceLeDiff, Nat.reduceLT, Nat.reduceBEq, Int.reduceLT, Int.reduceLE, Int.reduceGT, Int.reduceGE, Int.reduceEq, Int.reduceNe, Int.reduceBEq, Int.reduceBNe, Int.reduceAdd, Int.reduceSub, Int.reduceMul, Int.reduceToNat, Int.reduceNeg, ↓reduceIte, ↓reduceDIte, h1]
    rw [cnt_out (.inl h1)]; rfl
  by_cases h2 : (l.length : Int) ≤ at_
  · simp -dsimp only [go_sem, Nat.reduceEqDiff, Nat.reduceAdd, Nat.reduceSub, Nat.reduceMul, Nat.reduceLeDiff, Nat.reduceLT, Nat.reduceBEq, Int.reduceLT, Int.reduceLE, Int.reduceGT, Int.reduceGE, Int.reduceEq, Int.reduceNe, Int.reduceBEq, Int.reduceBNe, Int.reduceAdd, Int.reduceSub, Int.reduceMul, Int.reduceToNat, Int.reduceNeg, ↓reduceIte, ↓reduceDIte, h1, h2]
    rw [cnt_out (.inr h2)]; rfl
  obtain ⟨j, rfl⟩ := Int.eq_ofNat_of_zero_le (Int.not_lt.1 h1)
  have hj : j < l.length := by omega
  have hd : l[j]? = some (l[j]'hj) := List.getElem?_eq_getElem _
  generalize l[j]'hj = d at hd
  obtain ⟨b1, o1, rfl, hb1, hg1⟩ := hs.rows (f := CallD.cells) CallD.len (by omega) (by omega)
  have gd := fun t => hg1 t j d hd
  simp only [CallD.cells] at gd
  have j1 : (j : Int) < l.length := by omega
  have j3 : 0 ≤ (j : Int) := by omega
  simp -dsimp only [go_sem, Nat.reduceEqDiff, Nat.reduceAdd, Nat.reduceSub, Nat.reduceMul, Nat.reduceLeDiff, Nat.reduceLT, Nat.reduceBEq, Int.reduceLT, Int.reduceLE, Int.reduceGT, Int.reduceGE, Int.reduceEq, Int.reduceNe, Int.reduceBEq, Int.reduceBNe, Int.reduceAdd, Int.reduceSub, Int.reduceMul, Int.reduceToNat, Int.reduceNeg, ↓reduceIte, ↓reduceDIte, h1, h2]
  refine LT_of (fun q : Nat × LHeap => [(0, .slice (some ⟨b1, o1, none⟩) l.length n), (1, i64 j), (2, i64 kind), (7, i64 (cntF l j kind q.1)), (18, .slice (some ⟨b1, o1, none⟩) l.length n), (19, i64 l.length), (20, i64 q.1)]) (fun q => H ++ q.2) (fun q => q.1 ≤ l.length) (fun q => l.length - q.1) (0, []) (by simp [cntF]) (by simp) (by simp) ?_
  rintro ⟨i, t⟩ hi
  simp only at hi ⊢
  by_cases hlt : i < l.length
  · have m1 : (i : Int) < l.length := by omega
    have m3 : 0 ≤ (i : Int) := by omega
    have hc : l[i]? = some (l[i]'hlt) := List.getElem?_eq_getElem _
    generalize l[i]'hlt = c at hc
    have gc := fun t => hg1 t i c hc
    simp only [CallD.cells] at gc
    have hw : IntKind.i64.wrap ((i : Int) + 1) = ((i + 1 : Nat) : Int) := by rw [wrap_i64] <;> omega
    have hle := cnt_le l j kind i
    have hw2 : IntKind.i64.wrap ((cntF l j kind i : Int) + 1) = ((cntF l j kind i + 1 : Nat) : Int) := by rw [wrap_i64] <;> omega
    have ci : condI l j kind i = (decide ((i : Int) ≠ j) && ((decide (kind < 0) || decide (c.kind = kind)) && meetsF c d)) := by
      simp [condI, hc, hd]
    have no : condI l j kind i = false → cntF l j kind (i + 1) = cntF l j kind i := fun h => by simp [cntF, h]
    have yes : condI l j kind i = true → cntF l j kind (i + 1) = cntF l j kind i + 1 := fun h => by simp [cntF, h]
    by_cases hij : i = j
    · have e1 : ((i : Int) != j) = false := by simp [hij]
      have := no (by rw [ci]; simp [hij])
      simp -dsimp only [go_sem, Nat.reduceEqDiff, Nat.reduceAdd, Nat.reduceSub, Nat.reduceMul, Nat.reduceLeDiff, Nat.reduceLT, Nat.reduceBEq, Int.reduceLT, Int.reduceLE, Int.reduceGT, Int.reduceGE, Int.reduceEq, Int.reduceNe, Int.reduceBEq, Int.reduceBNe, Int.reduceAdd, Int.reduceSub, Int.reduceMul, Int.reduceToNat, Int.reduceNeg, ↓reduceIte, ↓reduceDIte, m1, m3, gc, e1, hw]
      exact ⟨(i + 1, _), by rw [this], rfl, by dsimp only; omega, by dsimp only; omega⟩
    · have e1 : ((i : Int) != j) = true := by simp; omega
      have e1' : (i : Int) ≠ j := by omega
      by_cases hk : kind < 0 ∨ c.kind = kind
      · rcases hk with hk | hk
        · simp -dsimp only [go_sem, Nat.reduceEqDiff, Nat.reduceAdd, Nat.reduceSub, Nat.reduceMul, Nat.reduceLeDiff, Nat.reduceLT, Nat.reduceBEq, Int.reduceLT, Int.reduceLE, Int.reduceGT, Int.reduceGE, Int.reduceEq, Int.reduceNe, Int.reduceBEq, Int.reduceBNe, Int.reduceAdd, Int.reduceSub, Int.reduceMul, Int.reduceToNat, Int.reduceNeg, ↓reduceIte, ↓reduceDIte, m1, m3, gc, gd, e1, hk, j1, j3]
          refine CT_val (meets_ev (a := c) (b := d)) ?_
          cases hm : meetsF c d
          · have := no (by rw [ci, hm]; simp)
            simp -dsimp only [go_sem, Nat.reduceEqDiff, Nat.reduceAdd, Nat.reduceSub, Nat.reduceMul, Nat.reduceLeDiff, Nat.reduceLT, Nat.reduceBEq, Int.reduceLT, Int.reduceLE, Int.reduceGT, Int.reduceGE, Int.reduceEq, Int.reduceNe, Int.reduceBEq, Int.reduceBNe, Int.reduceAdd, Int.reduceSub, Int.reduceMul, Int.reduceToNat, Int.reduceNeg, ↓reduceIte, ↓reduceDIte, hw]
            exact ⟨(i + 1, _), by rw [this], rfl, by dsimp only; omega, by dsimp only; omega⟩
          · have := yes (by rw [ci, hm]; simp [e1', hk])
            simp -dsimp only [go_sem, Nat.reduceEqDiff, Nat.reduceAdd, Nat.reduceSub, Nat.reduceMul, Nat.reduceLeDiff, Nat.reduceLT, Nat.reduceBEq, Int.reduceLT, Int.reduceLE, Int.reduceGT, Int.reduceGE, Int.reduceEq, Int.reduceNe, Int.reduceBEq, Int.reduceBNe, Int.reduceAdd, Int.reduceSub, Int.reduceMul, Int.reduceToNat, Int.reduceNeg, ↓reduceIte, ↓reduceDIte, hw, hw2]
            exact ⟨(i + 1, _), by rw [this], rfl, by dsimp only; omega, by dsimp only; omega⟩
        · by_cases hk0 : kind < 0
          · simp -dsimp only [go_sem, Nat.reduceEqDiff, Nat.reduceAdd, Nat.reduceSub, Nat.reduceMul, Nat.reduceLeDiff, Nat.reduceLT, Nat.reduceBEq, Int.reduceLT, Int.reduceLE, Int.reduceGT, Int.reduceGE, Int.reduceEq, Int.reduceNe, Int.reduceBEq, Int.reduceBNe, Int.reduceAdd, Int.reduceSub, Int.reduceMul, Int.reduceToNat, Int.reduceNeg, ↓reduceIte, ↓reduceDIte, m1, m3, gc, gd, e1, hk0, j1, j3]
            refine CT_val (meets_ev (a := c) (b := d)) ?_
            cases hm : meetsF c d
            · have := no (by rw [ci, hm]; simp)
              simp -dsimp only [go_sem, Nat.reduceEqDiff, Nat.reduceAdd, Nat.reduceSub, Nat.reduceMul, Nat.reduceLeDiff, Nat.reduceLT, Nat.reduceBEq, Int.reduceLT, Int.reduceLE, Int.reduceGT, Int.reduceGE, Int.reduceEq, Int.reduceNe, Int.reduceBEq, Int.reduceBNe, Int.reduceAdd, Int.reduceSub, Int.reduceMul, Int.reduceToNat, Int.reduceNeg, ↓reduceIte, ↓reduceDIte, hw]
              exact ⟨(i + 1, _), by rw [this], rfl, by dsimp only; omega, by dsimp only; omega⟩
            · have := yes (by rw [ci, hm]; simp [e1', hk])
              simp -dsimp only [go_sem, Nat.reduceEqDiff, Nat.reduceAdd, Nat.reduceSub, Nat.reduceMul, Nat.reduceLeDiff, Nat.reduceLT, Nat.reduceBEq, Int.reduceLT, Int.reduceLE, Int.reduceGT, Int.reduceGE, Int.reduceEq, Int.reduceNe, Int.reduceBEq, Int.reduceBNe, Int.reduceAdd, Int.reduceSub, Int.reduceMul, Int.reduceToNat, Int.reduceNeg, ↓reduceIte, ↓reduceDIte, hw, hw2]
              exact ⟨(i + 1, _), by rw [this], rfl, by dsimp only; omega, by dsimp only; omega⟩
          · have e2 : (c.kind == kind) = true := by simpa using hk
            simp -dsimp only [go_sem, Nat.reduceEqDiff, Nat.reduceAdd, Nat.reduceSub, Nat.reduceMul, Nat.reduceLeDiff, Nat.reduceLT, Nat.reduceBEq, Int.reduceLT, Int.reduceLE, Int.reduceGT, Int.reduceGE, Int.reduceEq, Int.reduceNe, Int.reduceBEq, Int.reduceBNe, Int.reduceAdd, Int.reduceSub, Int.reduceMul, Int.reduceToNat, Int.reduceNeg, ↓reduceIte, ↓reduceDIte, m1, m3, gc, gd, e1, hk0, e2, j1, j3]
            refine CT_val (meets_ev (a := c) (b := d)) ?_
            cases hm : meetsF c d
            · have := no (by rw [ci, hm]; simp)
              simp -dsimp only [go_sem, Nat.reduceEqDiff, Nat.reduceAdd, Nat.reduceSub, Nat.reduceMul, Nat.reduceLeDiff, Nat.reduceLT, Nat.reduceBEq, Int.reduceLT, Int.reduceLE, Int.reduceGT, Int.reduceGE, Int.reduceEq, Int.reduceNe, Int.reduceBEq, Int.reduceBNe, Int.reduceAdd, Int.reduceSub, Int.reduceMul, Int.reduceToNat, Int.reduceNeg, ↓reduceIte, ↓reduceDIte, hw]
              exact ⟨(i + 1, _), by rw [this], rfl, by dsimp only; omega, by dsimp only; omega⟩
            · have := yes (by rw [ci, hm]; simp [e1', hk])
              simp -dsimp only [go_sem, Nat.reduceEqDiff, Nat.reduceAdd, Nat.reduceSub, Nat.reduceMul, Nat.reduceLeDiff, Nat.reduceLT, Nat.reduceBEq, Int.reduceLT, Int.reduceLE, Int.reduceGT, Int.reduceGE, Int.reduceEq, Int.reduceNe, Int.reduceBEq, Int.reduceBNe, Int.reduceAdd, Int.reduceSub, Int.reduceMul, Int.reduceToNat, Int.reduceNeg, ↓reduceIte, ↓reduceDIte, hw, hw2]
              exact ⟨(i + 1, _), by rw [this], rfl, by dsimp only; omega, by dsimp only; omega⟩
      · have hk0 : ¬ kind < 0 := fun q => hk (.inl q)
        have hk1 : ¬ c.kind = kind := fun q => hk (.inr q)
        have e2 : (c.kind == kind) = false := by simpa using hk1
        have := no (by rw [ci]; simp [hk0, hk1])
        simp -dsimp only [go_sem, Nat.reduceEqDiff, Nat.reduceAdd, Nat.reduceSub, Nat.reduceMul, Nat.reduceLeDiff, Nat.reduceLT, Nat.reduceBEq, Int.reduceLT, Int.reduceLE, Int.reduceGT, Int.reduceGE, Int.reduceEq, Int.reduceNe, Int.reduceBEq, Int.reduceBNe, Int.reduceAdd, Int.reduceSub, Int.reduceMul, Int.reduceToNat, Int.reduceNeg, ↓reduceIte, ↓reduceDIte, m1, m3, gc, gd, e1, hk0, e2, j1, j3, hw]
        exact ⟨(i + 1, _), by rw [this], rfl, by dsimp only; omega, by dsimp only; omega⟩
  · have m1 : ¬ (i : Int) < l.length := by omega
    have : i = l.length := by omega
    subst this
    simp -dsimp only [go_sem, Nat.reduceEqDiff, Nat.reduceAdd, Nat.reduceSub, Nat.reduceMul, Nat.reduceLeDiff, Nat.reduceLT, Nat.reduceBEq, Int.reduceLT, Int.reduceLE, Int.reduceGT, Int.reduceGE, Int.reduceEq, Int.reduceNe, Int.reduceBEq, Int.reduceBNe, Int.reduceAdd, Int.reduceSub, Int.reduceMul, Int.reduceToNat, Int.reduceNeg, ↓reduceIte, ↓reduceDIte, m1]
theorem own_at {lim n m : Nat} {a : Option Addr} {l : List CallD} {H : LHeap} (hm : l.length = m) (hl : lim ≤ H.length) (hs : Sl 8 H a (l.flatMap CallD.cells)) (hn : l.length < 1000000) :
    callE T 9 lim [.slice a m n] H fun v H' => ∃ a' t, v = .slice a' m m ∧ H' = H ++ t ∧ Own 8 (H ++ t) H.length a' (l.flatMap CallD.cells) := by subst hm; exact own_cap hl hs hn
theorem right_at {lim n m : Nat} {a : Option Addr} {l : List CallD} {H : LHeap} (hm : l.length = m) (hcap : m ≤ n) (hs : Sl 8 H a (l.flatMap CallD.cells)) :
    callE T 25 lim [.slice a m n] H fun v H' => v = .bool (rightL l) ∧ H' = H := by subst hm; exact right_cap hcap hs
theorem refright_at {lim m : Nat} {a : Option Addr} {l : List CallD} {H : LHeap} (hm : l.length = m) (hs : Sl 8 H a (l.flatMap CallD.cells)) :
    callE T 20 lim [.slice a m m] H fun v H' => v = .bool (rightL l) ∧ H' = H := by subst hm; exact refright_ev hs
theorem among_at {lim n m : Nat} {a : Option Addr} {l : List CallD} {at_ kind : Int} {H : LHeap} (hm : l.length = m) (hs : Sl 8 H a (l.flatMap CallD.cells)) (hn : l.length < 1000000) :
    callE T 38 lim [.slice a m n, i64 at_, i64 kind] H fun v H' => v = i64 (cntF l at_ kind m) ∧ H' = H := by subst hm; exact among_ev hs hn
end Go.Proofs.Ytfobpjjpaehhpaa
