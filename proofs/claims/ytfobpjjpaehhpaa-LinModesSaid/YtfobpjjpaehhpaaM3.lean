/- The statement LinModes. -/
import Derived.Test.YtfobpjjpaehhpaaM2
namespace Go.Proofs.Ytfobpjjpaehhpaa
open Go Go.LK
set_option linter.unusedSimpArgs false
set_option linter.unusedVariables false
theorem modes_of {cap mode : Int} {l : List CallD} {r : List Nat} (h : searchF l (stepM cap l 0) = some r) : (searchF l (stepM cap l mode)).isSome = true ∧ validF l r cap mode = true := by
  obtain ⟨h1, h2, h3⟩ := search_vrun h
  have h4 : (prob l (stepM cap l mode)).vrun r 0#64 [] = true := Prob.vrun_mono (P := prob l (stepM cap l 0)) (Q := prob l (stepM cap l mode)) rfl rfl rfl (fun s i t => stepM_mode) _ _ _ h3
  exact ⟨vrun_search h1 h2 h4, by rw [validF, h2, h4]; rfl⟩
set_option maxHeartbeats 2000000 in
theorem linmodes_ev {lim n : Nat} {cap : Int} {a : Option Addr} {l : List CallD} {H : LHeap} (hll : l.length ≤ 9223372036854775807) (hs : Sl 8 H a (l.flatMap CallD.cells)) (hc : cap ≤ 9223372036854775807) :
    callE T 5 lim [.slice a l.length n, i64 cap] H fun v H' => v = .bool true := by
  refine callE_pop rfl (by simp) rfl ?_
  simp -dsimp only [go_sem, Nat.reduceEqDiff, Nat.reduceAdd, Nat.reduceSub, Nat.reduceMul, Nat.reduceLeDiff, Nat.reduceLT, Nat.reduceBEq, Int.reduceLT, Int.reduceLE, Int.reduceGT, Int.reduceGE, Int.reduceEq, Int.reduceNe, Int.reduceBEq, Int.reduceBNe, Int.reduceAdd, Int.reduceSub, Int.reduceMul, Int.reduceToNat, Int.reduceNeg, ↓reduceIte, ↓reduceDIte]
  refine CT_of (few_ev (most := 7) (by omega) hll (by simp) hs) ?_
  rintro _ _ ⟨a1, l1, t1, rfl, rfl, h1, h2, h3⟩
  simp -dsimp only [go_sem, Nat.reduceEqDiff, Nat.reduceAdd, Nat.reduceSub, Nat.reduceMul, Nat.reduceLeDiff, Nat.reduceLT, Nat.reduceBEq, Int.reduceLT, Int.reduceLE, Int.reduceGT, Int.reduceGE, Int.reduceEq, Int.reduceNe, Int.reduceBEq, Int.reduceBNe, Int.reduceAdd, Int.reduceSub, Int.reduceMul, Int.reduceToNat, Int.reduceNeg, ↓reduceIte, ↓reduceDIte]
  refine CT_of (fifo_ev (mode := 0) (by simp) h1 (Nat.le_refl _) hc) ?_
  rintro _ _ ⟨t2, rfl, hm⟩
  obtain ⟨a2, oc2, rfl, ho2⟩ := sch_cases hm
  simp -dsimp only [go_sem, Nat.reduceEqDiff, Nat.reduceAdd, Nat.reduceSub, Nat.reduceMul, Nat.reduceLeDiff, Nat.reduceLT, Nat.reduceBEq, Int.reduceLT, Int.reduceLE, Int.reduceGT, Int.reduceGE, Int.reduceEq, Int.reduceNe, Int.reduceBEq, Int.reduceBNe, Int.reduceAdd, Int.reduceSub, Int.reduceMul, Int.reduceToNat, Int.reduceNeg, ↓reduceIte, ↓reduceDIte]
  have hrl := search_len (l := l1) (stp := stepM cap l1 0)
  generalize hS : searchF l1 (stepM cap l1 0) = S at ho2 hrl ⊢
  refine LT_of (fun x : Nat × LHeap => [(0, .slice a1 l1.length l1.length), (1, i64 cap), (5, .slice a2 (S.getD []).length oc2), (6, .bool S.isSome), (7, i64 x.1)]) (fun x => H ++ (t1 ++ (t2 ++ x.2))) (fun x => x.1 ≤ 3) (fun x => 3 - x.1) (0, []) (by simp) (by simp) (by simp) ?_
  rintro ⟨i, t⟩ hi
  simp only at hi ⊢
  by_cases hlt : i < 3
  · have k1 : (i : Int) < 3 := by omega
    have hw : IntKind.i64.wrap ((i : Int) + 1) = ((i + 1 : Nat) : Int) := by rw [wrap_i64] <;> omega
    simp -dsimp only [go_sem, Nat.reduceEqDiff, Nat.reduceAdd, Nat.reduceSub, Nat.reduceMul, Nat.reduceLeDiff, Nat.reduceLT, Nat.reduceBEq, Int.reduceLT, Int.reduceLE, Int.reduceGT, Int.reduceGE, Int.reduceEq, Int.reduceNe, Int.reduceBEq, Int.reduceBNe, Int.reduceAdd, Int.reduceSub, Int.reduceMul, Int.reduceToNat, Int.reduceNeg, ↓reduceIte, ↓reduceDIte, k1]
    refine CT_of (fifo_ev (l := l1) (mode := i) (by simp) (by simpa using h1.app (t2 ++ t)) (Nat.le_refl _) hc) ?_
    rintro _ _ ⟨t3, rfl, hm3⟩
    obtain ⟨a3, oc3, rfl, ho3⟩ := sch_cases hm3
    cases S with
    | none =>
      simp -dsimp only [go_sem, Nat.reduceEqDiff, Nat.reduceAdd, Nat.reduceSub, Nat.reduceMul, Nat.reduceLeDiff, Nat.reduceLT, Nat.reduceBEq, Int.reduceLT, Int.reduceLE, Int.reduceGT, Int.reduceGE, Int.reduceEq, Int.reduceNe, Int.reduceBEq, Int.reduceBNe, Int.reduceAdd, Int.reduceSub, Int.reduceMul, Int.reduceToNat, Int.reduceNeg, ↓reduceIte, ↓reduceDIte, Option.isSome_none, hw]
      exact ⟨(i + 1, _), rfl, rfl, by dsimp only; omega, by dsimp only; omega⟩
    | some r =>
      obtain ⟨m1, m2⟩ := modes_of (mode := i) hS
      have s2 : Sl 1 (H ++ (t1 ++ (t2 ++ (t ++ t3)))) a2 (r.map fun i : Nat => i64 (i : Int)) := by simpa using ho2.sl.app (t ++ t3)
      simp only [Option.getD_some] at hrl
      simp -dsimp only [go_sem, Nat.reduceEqDiff, Nat.reduceAdd, Nat.reduceSub, Nat.reduceMul, Nat.reduceLeDiff, Nat.reduceLT, Nat.reduceBEq, Int.reduceLT, Int.reduceLE, Int.reduceGT, Int.reduceGE, Int.reduceEq, Int.reduceNe, Int.reduceBEq, Int.reduceBNe, Int.reduceAdd, Int.reduceSub, Int.reduceMul, Int.reduceToNat, Int.reduceNeg, ↓reduceIte, ↓reduceDIte, Option.isSome_some, hw, m1]
      refine CT_val (valid_ev (l := l1) (o := r) (cap := cap) (mode := i) (by omega) (by simpa using h1.app (t2 ++ (t ++ t3))) s2 (by omega) (Nat.le_refl _) hc) ?_
      rw [m2]
      simp -dsimp only [go_sem, Nat.reduceEqDiff, Nat.reduceAdd, Nat.reduceSub, Nat.reduceMul, Nat.reduceLeDiff, Nat.reduceLT, Nat.reduceBEq, Int.reduceLT, Int.reduceLE, Int.reduceGT, Int.reduceGE, Int.reduceEq, Int.reduceNe, Int.reduceBEq, Int.reduceBNe, Int.reduceAdd, Int.reduceSub, Int.reduceMul, Int.reduceToNat, Int.reduceNeg, ↓reduceIte, ↓reduceDIte, hw]
      exact ⟨(i + 1, _), rfl, rfl, by dsimp only; omega, by dsimp only; omega⟩
  · have k1 : ¬ (i : Int) < 3 := by omega
    simp -dsimp only [go_sem, Nat.reduceEqDiff, Nat.reduceAdd, Nat.reduceSub, Nat.reduceMul, Nat.reduceLeDiff, Nat.reduceLT, Nat.reduceBEq, Int.reduceLT, Int.reduceLE, Int.reduceGT, Int.reduceGE, Int.reduceEq, Int.reduceNe, Int.reduceBEq, Int.reduceBNe, Int.reduceAdd, Int.reduceSub, Int.reduceMul, Int.reduceToNat, Int.reduceNeg, ↓reduceIte, ↓reduceDIte, k1]
    refine CT_val one_at ?_
    simp -dsimp only [go_sem, Nat.reduceEqDiff, Nat.reduceAdd, Nat.reduceSub, Nat.reduceMul, Nat.reduceLeDiff, Nat.reduceLT, Nat.reduceBEq, Int.reduceLT, Int.reduceLE, Int.reduceGT, Int.reduceGE, Int.reduceEq, Int.reduceNe, Int.reduceBEq, Int.reduceBNe, Int.reduceAdd, Int.reduceSub, Int.reduceMul, Int.reduceToNat, Int.reduceNeg, ↓reduceIte, ↓reduceDIte]
end Go.Proofs.Ytfobpjjpaehhpaa
