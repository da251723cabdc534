/- Few calls that are right. -/
import Derived.Test.YtfobpjjpaehhpaaL5
namespace Go.Proofs.Ytfobpjjpaehhpaa
open Go Go.LK
set_option linter.unusedSimpArgs false
set_option linter.unusedVariables false
theorem cells_oneD (l : List CallD) : (l.flatMap CallD.cells).all Value.oneCell' = true := by
  simp [CallD.cells, Value.oneCell']
  intro x _
  exact ⟨rfl, rfl⟩
set_option maxHeartbeats 2000000 in
theorem few_ev {lim n : Nat} {most : Nat} {a : Option Addr} {l : List CallD} {H : LHeap} (hm : most ≤ 10) (hll : l.length ≤ 9223372036854775807) (hl : lim ≤ H.length) (hs : Sl 8 H a (l.flatMap CallD.cells)) :
    callE T 8 lim [.slice a l.length n, i64 (most : Int)] H fun v H' => ∃ a' out t, v = .slice a' out.length out.length ∧ H' = H ++ t ∧ Sl 8 (H ++ t) a' (out.flatMap CallD.cells) ∧ out.length ≤ most ∧ rightL out = true := by
  refine callE_stay rfl (by simp) rfl ?_
  simp -dsimp only [go_sem, Nat.reduceEqDiff, Nat.reduceAdd, Nat.reduceSub, Nat.reduceMul, Nat.reduceLeDiff, Nat.reduceLT, Nat.reduceBEq, Int.reduceLT, Int.reduceLE, Int.reduceGT, Int.reduceGE, Int.reduceEq, Int.reduceNe, Int.reduceBEq, Int.reduceBNe, Int.reduceAdd, Int.reduceSub, Int.reduceMul, Int.reduceToNat, Int.reduceNeg, ↓reduceIte, ↓reduceDIte]
  refine LT_of (fun x : Nat × Option Addr × List CallD × LHeap => [(0, .slice a l.length n), (1, i64 (most : Int)), (5, .slice x.2.1 x.2.2.1.length x.2.2.1.length), (6, i64 x.1)]) (fun x => H ++ x.2.2.2) (fun x => x.1 ≤ l.length ∧ Sl 8 (H ++ x.2.2.2) x.2.1 (x.2.2.1.flatMap CallD.cells) ∧ x.2.2.1.length ≤ most ∧ rightL x.2.2.1 = true) (fun x => l.length - x.1) (0, none, [], []) (by simp) (by simp) ⟨by simp, Sl.nil _ _, by simp, by simp [rightL]⟩ ?_
  rintro ⟨i, a', out, t⟩ ⟨hi, ho, hle, hr⟩
  simp only at hi ho hle hr ⊢
  by_cases hlt : i < l.length
  · have h1 : (i : Int) < l.length := by omega
    have h3 : 0 ≤ (i : Int) := by omega
    by_cases hlm : out.length < most
    · have h2 : (out.length : Int) < (most : Int) := by omega
      have k2 : l[i]? = some (l[i]'hlt) := List.getElem?_eq_getElem _
      generalize l[i]'hlt = c at k2
      obtain ⟨ab, ao, rfl, hab1, hg⟩ := hs.rows (f := CallD.cells) CallD.len (by omega) (by omega)
      have gc := fun t => hg t i c k2
      simp only [CallD.cells] at gc
      have hw : IntKind.i64.wrap ((i : Int) + 1) = ((i + 1 : Nat) : Int) := by rw [wrap_i64] <;> omega
      have h6 : out.length * 64 ≤ 140737488355328 := by omega
      have h7 : out.length ≤ 140737488355328 := by omega
      have hno : ¬ (out.length + 1 ≤ out.length ∧ 0 < out.length) := by omega
      have hno0 : ¬ (0 + out.length ≤ 0 ∧ 0 < 0) := by omega
      have k4 : (out.length + 1) * 64 ≤ 140737488355328 := by omega
      have k5 : out.length ≤ 140737488355327 := by omega
      have k6 : out.length * 8 = (out.flatMap CallD.cells).length := (flat_len CallD.len out).symm
      have k7 : (out.flatMap CallD.cells).take (out.length * 8) = out.flatMap CallD.cells := List.take_of_length_le (by omega)
      have hsrc := fun t' => (ho.app t').src (m := 8) (n := out.length) (cap := out.length) (by omega) (by rw [flat_len CallD.len])
      simp only [List.append_assoc] at hsrc
      have hone := cells_oneD out
      simp -dsimp only [go_sem, Nat.reduceEqDiff, Nat.reduceAdd, Nat.reduceSub, Nat.reduceMul, Nat.reduceLeDiff, Nat.reduceLT, Nat.reduceBEq, Int.reduceLT, Int.reduceLE, Int.reduceGT, Int.reduceGE, Int.reduceEq, Int.reduceNe, Int.reduceBEq, Int.reduceBNe, Int.reduceAdd, Int.reduceSub, Int.reduceMul, Int.reduceToNat, Int.reduceNeg, ↓reduceIte, ↓reduceDIte, h1, h2, h3, gc, hsrc, h6, h7, hno, k4, k5, k6, k7, hl, hone]
      have hn : (out ++ [c]).length = out.length + 1 := by simp
      have hsn : ∀ u, Sl 8 (H ++ (t ++ [LObj.dead, LObj.row false 8 c.cells, LObj.dead, LObj.row false 8 (out.flatMap CallD.cells ++ c.cells)] ++ u)) (some ⟨H.length + (t.length + 3), 0, none⟩) ((out ++ [c]).flatMap CallD.cells) := by
        intro u
        rw [List.flatMap_append, List.flatMap_singleton]
        refine Sl.row (ro := false) ?_
        rw [get_app]
        simp [List.getElem?_append]
      refine CT_of (own_at hn (by simp; omega) (by simpa [CallD.cells] using hsn []) (by omega)) ?_
      rintro _ _ ⟨a2, t2, rfl, rfl, g1⟩
      simp -dsimp only [go_sem, Nat.reduceEqDiff, Nat.reduceAdd, Nat.reduceSub, Nat.reduceMul, Nat.reduceLeDiff, Nat.reduceLT, Nat.reduceBEq, Int.reduceLT, Int.reduceLE, Int.reduceGT, Int.reduceGE, Int.reduceEq, Int.reduceNe, Int.reduceBEq, Int.reduceBNe, Int.reduceAdd, Int.reduceSub, Int.reduceMul, Int.reduceToNat, Int.reduceNeg, ↓reduceIte, ↓reduceDIte]
      refine CT_val (refright_at hn (by simpa using g1.sl)) ?_
      cases hq : rightL (out ++ [c])
      · simp -dsimp only [go_sem, Nat.reduceEqDiff, Nat.reduceAdd, Nat.reduceSub, Nat.reduceMul, Nat.reduceLeDiff, Nat.reduceLT, Nat.reduceBEq, Int.reduceLT, Int.reduceLE, Int.reduceGT, Int.reduceGE, Int.reduceEq, Int.reduceNe, Int.reduceBEq, Int.reduceBNe, Int.reduceAdd, Int.reduceSub, Int.reduceMul, Int.reduceToNat, Int.reduceNeg, ↓reduceIte, ↓reduceDIte, hw]
        refine ⟨(i + 1, a', out, _), rfl, rfl, ⟨by dsimp only; omega, ?_, hle, hr⟩, by dsimp only; omega⟩
        have := ho.app ([LObj.dead, LObj.row false 8 c.cells, LObj.dead, LObj.row false 8 (out.flatMap CallD.cells ++ c.cells)] ++ t2)
        simpa [CallD.cells] using this
      · simp -dsimp only [go_sem, Nat.reduceEqDiff, Nat.reduceAdd, Nat.reduceSub, Nat.reduceMul, Nat.reduceLeDiff, Nat.reduceLT, Nat.reduceBEq, Int.reduceLT, Int.reduceLE, Int.reduceGT, Int.reduceGE, Int.reduceEq, Int.reduceNe, Int.reduceBEq, Int.reduceBNe, Int.reduceAdd, Int.reduceSub, Int.reduceMul, Int.reduceToNat, Int.reduceNeg, ↓reduceIte, ↓reduceDIte, hw]
        refine ⟨(i + 1, _, out ++ [c], _), by rw [hn], rfl, ⟨by dsimp only; omega, ?_, by rw [hn]; omega, hq⟩, by dsimp only; omega⟩
        simpa [CallD.cells] using hsn t2
    · have h2 : ¬ (out.length : Int) < (most : Int) := by omega
      simp -dsimp only [go_sem, Nat.reduceEqDiff, Nat.reduceAdd, Nat.reduceSub, Nat.reduceMul, Nat.reduceLeDiff, Nat.reduceLT, Nat.reduceBEq, Int.reduceLT, Int.reduceLE, Int.reduceGT, Int.reduceGE, Int.reduceEq, Int.reduceNe, Int.reduceBEq, Int.reduceBNe, Int.reduceAdd, Int.reduceSub, Int.reduceMul, Int.reduceToNat, Int.reduceNeg, ↓reduceIte, ↓reduceDIte, h1, h2]
      exact ⟨_, _, _, rfl, rfl, ho, hle, hr⟩
  · have h1 : ¬ (i : Int) < l.length := by omega
    simp -dsimp only [go_sem, Nat.reduceEqDiff, Nat.reduceAdd, Nat.reduceSub, Nat.reduceMul, Nat.reduceLeDiff, Nat.reduceLT, Nat.reduceBEq, Int.reduceLT, Int.reduceLE, Int.reduceGT, Int.reduceGE, Int.reduceEq, Int.reduceNe, Int.reduceBEq, Int.reduceBNe, Int.reduceAdd, Int.reduceSub, Int.reduceMul, Int.reduceToNat, Int.reduceNeg, ↓reduceIte, ↓reduceDIte, h1]
    exact ⟨_, _, _, rfl, rfl, ho, hle, hr⟩
end Go.Proofs.Ytfobpjjpaehhpaa
