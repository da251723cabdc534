/- The statement LinFinds. -/
import Derived.Test.YtfobpjjpaehhpaaN1
namespace Go.Proofs.Ytfobpjjpaehhpaa
open Go Go.LK
set_option linter.unusedSimpArgs false
set_option linter.unusedVariables false
theorem ord_cases {H : LHeap} {o : Option (List Nat)} {v : Value} (h : OrdRes H o v) : ∃ a', v = .tuple #[.slice a' (o.getD []).length (o.getD []).length, .bool o.isSome] ∧ Sl 1 H a' ((o.getD []).map fun i : Nat => i64 (i : Int)) := by
  cases o with
  | none =>
    simp only [OrdRes] at h
    exact ⟨none, h, Sl.nil _ _⟩
  | some r =>
    simp only [OrdRes] at h
    exact h
set_option maxHeartbeats 2000000 in
theorem linfinds_ev {lim n : Nat} {cap mode : Int} {a : Option Addr} {l : List CallD} {H : LHeap} (hll : l.length ≤ 9223372036854775807) (hs : Sl 8 H a (l.flatMap CallD.cells)) (hc : cap ≤ 9223372036854775807) :
    callE T 3 lim [.slice a l.length n, i64 cap, i64 mode] H fun v H' => v = .bool true := by
  refine callE_pop rfl (by simp) rfl ?_
  simp -dsimp only [go_sem, Nat.reduceEqDiff, Nat.reduceAdd, Nat.reduceSub, Nat.reduceMul, Nat.reduceLeDiff, Nat.reduceLT, Nat.reduceBEq, Int.reduceLT, Int.reduceLE, Int.reduceGT, Int.reduceGE, Int.reduceEq, Int.reduceNe, Int.reduceBEq, Int.reduceBNe, Int.reduceAdd, Int.reduceSub, Int.reduceMul, Int.reduceToNat, Int.reduceNeg, ↓reduceIte, ↓reduceDIte]
  refine CT_of (few_ev (most := 6) (by omega) hll (by simp) hs) ?_
  rintro _ _ ⟨a1, l1, t1, rfl, rfl, h1, h2, h3⟩
  simp -dsimp only [go_sem, Nat.reduceEqDiff, Nat.reduceAdd, Nat.reduceSub, Nat.reduceMul, Nat.reduceLeDiff, Nat.reduceLT, Nat.reduceBEq, Int.reduceLT, Int.reduceLE, Int.reduceGT, Int.reduceGE, Int.reduceEq, Int.reduceNe, Int.reduceBEq, Int.reduceBNe, Int.reduceAdd, Int.reduceSub, Int.reduceMul, Int.reduceToNat, Int.reduceNeg, ↓reduceIte, ↓reduceDIte]
  refine CT_of (own_at (l := l1) rfl (by simp) h1 (by omega)) ?_
  rintro _ _ ⟨ra, t2, rfl, rfl, g2⟩
  simp -dsimp only [go_sem, Nat.reduceEqDiff, Nat.reduceAdd, Nat.reduceSub, Nat.reduceMul, Nat.reduceLeDiff, Nat.reduceLT, Nat.reduceBEq, Int.reduceLT, Int.reduceLE, Int.reduceGT, Int.reduceGE, Int.reduceEq, Int.reduceNe, Int.reduceBEq, Int.reduceBNe, Int.reduceAdd, Int.reduceSub, Int.reduceMul, Int.reduceToNat, Int.reduceNeg, ↓reduceIte, ↓reduceDIte]
  refine CT_of (fifo_ev (l := l1) (mode := mode) (by simp) (by simpa using h1.app t2) (Nat.le_refl _) hc) ?_
  rintro _ _ ⟨t3, rfl, hm⟩
  obtain ⟨a2, oc2, rfl, ho2⟩ := sch_cases hm
  have n1 : l1.length * 1 ≤ 140737488355328 := by omega
  have n2 : l1.length ≤ 140737488355328 := by omega
  have n3 : (0 : Int) ≤ (l1.length : Int) ∧ (l1.length : Int) ≤ (l1.length : Int) ∧ 1 * (l1.length : Int) ≤ 281474976710656 ∧ (l1.length : Int) ≤ 281474976710656 := by omega
  simp -dsimp only [go_sem, Nat.reduceEqDiff, Nat.reduceAdd, Nat.reduceSub, Nat.reduceMul, Nat.reduceLeDiff, Nat.reduceLT, Nat.reduceBEq, Int.reduceLT, Int.reduceLE, Int.reduceGT, Int.reduceGE, Int.reduceEq, Int.reduceNe, Int.reduceBEq, Int.reduceBNe, Int.reduceAdd, Int.reduceSub, Int.reduceMul, Int.reduceToNat, Int.reduceNeg, ↓reduceIte, ↓reduceDIte, n1, n2]
  refine ⟨n3, ?_⟩
  have gr := g2.sl
  refine CT_of (order_ev (l := l1) (by omega) hc _ 0#64 [] _ _ none rfl (by simpa using gr.app (t3 ++ [.row false 1 (List.replicate l1.length (.bool false))])) ?_ (Sl.nil _ _) ?_ (by simp)) ?_
  · rw [usedC_none]
    refine sl_last (A := t1 ++ (t2 ++ t3)) (by simp) ?_
    simp
  · have := leftN_le l1.length 0#64
    simp; omega
  rintro _ _ ⟨t4, rfl, hr⟩
  obtain ⟨a4, rfl, ho4⟩ := ord_cases hr
  have hse : searchF l1 (stepM cap l1 mode) = (prob l1 (stepM cap l1 mode)).fnd 0#64 [] := by rw [searchF, if_pos ⟨by omega, h3⟩]
  rw [← hse] at ho4 ⊢
  have hrl := search_len (l := l1) (stp := stepM cap l1 mode)
  generalize (searchF l1 (stepM cap l1 mode)) = o at ho2 ho4 hrl ⊢
  have e1 : (o.isSome != o.isSome) = false := by simp
  have e2 : (((o.getD []).length : Int) != ((o.getD []).length : Int)) = false := by simp
  simp -dsimp only [go_sem, Nat.reduceEqDiff, Nat.reduceAdd, Nat.reduceSub, Nat.reduceMul, Nat.reduceLeDiff, Nat.reduceLT, Nat.reduceBEq, Int.reduceLT, Int.reduceLE, Int.reduceGT, Int.reduceGE, Int.reduceEq, Int.reduceNe, Int.reduceBEq, Int.reduceBNe, Int.reduceAdd, Int.reduceSub, Int.reduceMul, Int.reduceToNat, Int.reduceNeg, ↓reduceIte, ↓reduceDIte, e1, e2]
  generalize o.getD [] = r at ho2 ho4 hrl ⊢
  have s2 := ho2.sl.app ([.row false 1 (List.replicate l1.length (.bool false))] ++ t4)
  simp only [List.append_assoc, List.cons_append, List.nil_append] at s2 ho4
  refine LT_of (fun i : Nat => [(8, .slice a2 r.length oc2), (10, .slice a4 r.length r.length), (12, i64 i)]) (fun _ => H ++ (t1 ++ (t2 ++ (t3 ++ LObj.row false 1 (List.replicate l1.length (Value.bool false)) :: t4)))) (fun i => i ≤ r.length) (fun i => r.length - i) 0 (by simp) (by simp) (by simp) ?_
  intro i hi
  by_cases hlt : i < r.length
  · have k1 : (i : Int) < r.length := by omega
    have k3 : 0 ≤ (i : Int) := by omega
    have hri : r[i]? = some (r[i]'hlt) := List.getElem?_eq_getElem hlt
    generalize r[i]'hlt = x at hri
    have hw : IntKind.i64.wrap ((i : Int) + 1) = ((i + 1 : Nat) : Int) := by rw [wrap_i64] <;> omega
    obtain ⟨b2, o2, rfl, _, g2⟩ := s2.all (by simp; omega)
    obtain ⟨b3, o3, rfl, _, g3⟩ := ho4.all (by simp; omega)
    have q2 := g2 [] i (i64 x) (by simp [hri])
    have q3 := g3 [] i (i64 x) (by simp [hri])
    simp only [List.append_nil, List.append_assoc, List.cons_append] at q2 q3
    have e3 : ((x : Int) != (x : Int)) = false := by simp
    simp -dsimp only [go_sem, Nat.reduceEqDiff, Nat.reduceAdd, Nat.reduceSub, Nat.reduceMul, Nat.reduceLeDiff, Nat.reduceLT, Nat.reduceBEq, Int.reduceLT, Int.reduceLE, Int.reduceGT, Int.reduceGE, Int.reduceEq, Int.reduceNe, Int.reduceBEq, Int.reduceBNe, Int.reduceAdd, Int.reduceSub, Int.reduceMul, Int.reduceToNat, Int.reduceNeg, ↓reduceIte, ↓reduceDIte, k1, k3, q2, q3, e3, hw]
    exact ⟨i + 1, rfl, by omega, by omega⟩
  · have k1 : ¬ (i : Int) < r.length := by omega
    simp -dsimp only [go_sem, Nat.reduceEqDiff, Nat.reduceAdd, Nat.reduceSub, Nat.reduceMul, Nat.reduceLeDiff, Nat.reduceLT, Nat.reduceBEq, Int.reduceLT, Int.reduceLE, Int.reduceGT, Int.reduceGE, Int.reduceEq, Int.reduceNe, Int.reduceBEq, Int.reduceBNe, Int.reduceAdd, Int.reduceSub, Int.reduceMul, Int.reduceToNat, Int.reduceNeg, ↓reduceIte, ↓reduceDIte, k1]
    refine CT_val one_at ?_
    simp -dsimp only [go_sem, Nat.reduceEqDiff, Nat.reduceAdd, Nat.reduceSub, Nat.reduceMul, Nat.reduceLeDiff, Nat.reduceLT, Nat.reduceBEq, Int.reduceLT, Int.reduceLE, Int.reduceGT, Int.reduceGE, Int.reduceEq, Int.reduceNe, Int.reduceBEq, Int.reduceBNe, Int.reduceAdd, Int.reduceSub, Int.reduceMul, Int.reduceToNat, Int.reduceNeg, ↓reduceIte, ↓reduceDIte]
end Go.Proofs.Ytfobpjjpaehhpaa
