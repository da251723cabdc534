/- The statement LinPrefix. -/
import Derived.Test.YtfobpjjpaehhpaaP1
namespace Go.Proofs.Ytfobpjjpaehhpaa
open Go Go.LK
set_option linter.unusedSimpArgs false
set_option linter.unusedVariables false
theorem cut_succ {m : Int} {l : List CallD} {i : Nat} {c : CallD} (h : l[i]? = some c) : cutL m (l.take (i + 1)) = cutL m (l.take i) ++ (cutC m c).toList := by
  rw [List.take_add_one, h, cutL, List.filterMap_append]
  simp only [Option.toList_some, List.filterMap_cons, List.filterMap_nil]
  cases cutC m c <;> rfl
set_option maxHeartbeats 4000000 in
theorem linprefix_ev {lim n : Nat} {cap m : Int} {a : Option Addr} {l : List CallD} {H0 : LHeap} (hll : l.length ≤ 9223372036854775807) (hs : Sl 8 H0 a (l.flatMap CallD.cells)) (hc : cap ≤ 9223372036854775807) :
    callE T 4 lim [.slice a l.length n, i64 cap, i64 m] H0 fun v H' => v = .bool true := by
  refine callE_pop rfl (by simp) rfl ?_
  simp -dsimp only [go_sem, Nat.reduceEqDiff, Nat.reduceAdd, Nat.reduceSub, Nat.reduceMul, Nat.reduceLeDiff, Nat.reduceLT, Nat.reduceBEq, Int.reduceLT, Int.reduceLE, Int.reduceGT, Int.reduceGE, Int.reduceEq, Int.reduceNe, Int.reduceBEq, Int.reduceBNe, Int.reduceAdd, Int.reduceSub, Int.reduceMul, Int.reduceToNat, Int.reduceNeg, ↓reduceIte, ↓reduceDIte]
  refine CT_of (few_ev (most := 7) (by omega) hll (by simp) hs) ?_
  rintro _ _ ⟨a1, l1, t1, rfl, rfl, h1, h2, h3⟩
  simp -dsimp only [go_sem, Nat.reduceEqDiff, Nat.reduceAdd, Nat.reduceSub, Nat.reduceMul, Nat.reduceLeDiff, Nat.reduceLT, Nat.reduceBEq, Int.reduceLT, Int.reduceLE, Int.reduceGT, Int.reduceGE, Int.reduceEq, Int.reduceNe, Int.reduceBEq, Int.reduceBNe, Int.reduceAdd, Int.reduceSub, Int.reduceMul, Int.reduceToNat, Int.reduceNeg, ↓reduceIte, ↓reduceDIte]
  refine CT_of (fifo_ev (mode := 0) (by simp) h1 (Nat.le_refl _) hc) ?_
  rintro _ _ ⟨t2, rfl, hm⟩
  obtain ⟨a2, oc2, rfl, ho2⟩ := sch_cases hm
  cases hS : (searchF l1 (stepM cap l1 0)).isSome
  · simp -dsimp only [go_sem, Nat.reduceEqDiff, Nat.reduceAdd, Nat.reduceSub, Nat.reduceMul, Nat.reduceLeDiff, Nat.reduceLT, Nat.reduceBEq, Int.reduceLT, Int.reduceLE, Int.reduceGT, Int.reduceGE, Int.reduceEq, Int.reduceNe, Int.reduceBEq, Int.reduceBNe, Int.reduceAdd, Int.reduceSub, Int.reduceMul, Int.reduceToNat, Int.reduceNeg, ↓reduceIte, ↓reduceDIte]
    refine CT_val one_at ?_
    simp -dsimp only [go_sem, Nat.reduceEqDiff, Nat.reduceAdd, Nat.reduceSub, Nat.reduceMul, Nat.reduceLeDiff, Nat.reduceLT, Nat.reduceBEq, Int.reduceLT, Int.reduceLE, Int.reduceGT, Int.reduceGE, Int.reduceEq, Int.reduceNe, Int.reduceBEq, Int.reduceBNe, Int.reduceAdd, Int.reduceSub, Int.reduceMul, Int.reduceToNat, Int.reduceNeg, ↓reduceIte, ↓reduceDIte]
  · have hcs := cut_search (m := m) hS
    simp -dsimp only [go_sem, Nat.reduceEqDiff, Nat.reduceAdd, Nat.reduceSub, Nat.reduceMul, Nat.reduceLeDiff, Nat.reduceLT, Nat.reduceBEq, Int.reduceLT, Int.reduceLE, Int.reduceGT, Int.reduceGE, Int.reduceEq, Int.reduceNe, Int.reduceBEq, Int.reduceBNe, Int.reduceAdd, Int.reduceSub, Int.reduceMul, Int.reduceToNat, Int.reduceNeg, ↓reduceIte, ↓reduceDIte]
    have hlim : H0.length ≤ (H0 ++ (t1 ++ t2)).length := by simp
    have hs1 : Sl 8 (H0 ++ (t1 ++ t2)) a1 (l1.flatMap CallD.cells) := by simpa using h1.app t2
    generalize (H0 ++ (t1 ++ t2)) = H at hlim hs1 ⊢
    refine LT_of (fun x : Nat × Option Addr × LHeap => [(0, .slice a1 l1.length l1.length), (1, i64 cap), (2, i64 m), (9, .slice x.2.1 (cutL m (l1.take x.1)).length (cutL m (l1.take x.1)).length), (10, i64 x.1)]) (fun x => H ++ x.2.2) (fun x => x.1 ≤ l1.length ∧ Own 8 (H ++ x.2.2) H.length x.2.1 ((cutL m (l1.take x.1)).flatMap CallD.cells)) (fun x => l1.length - x.1) (0, none, []) (by simp [cutL]) (by simp) ⟨by simp, by simpa [cutL] using Own.nil _ _ _⟩ ?_
    rintro ⟨i, a', t⟩ ⟨hi, ho⟩
    simp only at hi ho ⊢
    by_cases hlt : i < l1.length
    · have k1 : (i : Int) < l1.length := by omega
      have k3 : 0 ≤ (i : Int) := by omega
      have hw : IntKind.i64.wrap ((i : Int) + 1) = ((i + 1 : Nat) : Int) := by rw [wrap_i64] <;> omega
      have hcx : l1[i]? = some (l1[i]'hlt) := List.getElem?_eq_getElem _
      generalize l1[i]'hlt = c at hcx
      obtain ⟨lb, lo, rfl, hlb1, hlg⟩ := hs1.rows (f := CallD.cells) CallD.len (by omega) (by omega)
      have gc := fun t => hlg t i c hcx
      simp only [CallD.cells] at gc
      have hsu := cut_succ (m := m) hcx
      have hle : (cutL m (l1.take i)).length ≤ 7 := by
        have := cut_len (m := m) (l1.take i)
        simp at this; omega
      generalize hL : cutL m (l1.take i) = L at ho hsu hle ⊢
      have g2 := fun u news => ho.grow (k := L.length) (bytes := 64) (lim := H0.length) (by rw [flat_len CallD.len]) (by omega) hlim (by omega) (by omega) u news
      by_cases hfr : m ≤ c.fr
      · have e : cutC m c = none := by rw [cutC, if_pos hfr]
        rw [e] at hsu
        simp -dsimp only [go_sem, Nat.reduceEqDiff, Nat.reduceAdd, Nat.reduceSub, Nat.reduceMul, Nat.reduceLeDiff, Nat.reduceLT, Nat.reduceBEq, Int.reduceLT, Int.reduceLE, Int.reduceGT, Int.reduceGE, Int.reduceEq, Int.reduceNe, Int.reduceBEq, Int.reduceBNe, Int.reduceAdd, Int.reduceSub, Int.reduceMul, Int.reduceToNat, Int.reduceNeg, ↓reduceIte, ↓reduceDIte, k1, k3, gc, hfr, hw, take_app_n, get_app_n, get_app_n0, set_app_n, set_app_n0, lget_app_n, lget_app_n0, lcells_app_n, lcells_app_n0, List.length_set, List.take_of_length_le, List.set_set, get_left, set_left, lget_left, lcells_left, get_set_eq, get_set_ne, lget_set_eq, lget_set_ne, lcells_set_ne]
        refine ⟨(i + 1, a', t ++ [.row false 0 c.cells]), by simp only [hsu]; simp, by simp [CallD.cells], ⟨by dsimp only; omega, ?_⟩, by dsimp only; omega⟩
        dsimp only
        rw [hsu, ← List.append_assoc]
        simpa using ho.app _
      · by_cases hcut : c.dn = true ∧ m ≤ c.to
        · have e : cutC m c = some { th := c.th, kind := c.kind, arg := c.arg, fr := c.fr, to := 0, dn := false, code := 0, ret := 0#64 } := by
            rw [cutC, if_neg hfr, if_pos hcut]
          rw [e] at hsu
          obtain ⟨hd1, hd2⟩ := hcut
          simp -dsimp only [go_sem, Nat.reduceEqDiff, Nat.reduceAdd, Nat.reduceSub, Nat.reduceMul, Nat.reduceLeDiff, Nat.reduceLT, Nat.reduceBEq, Int.reduceLT, Int.reduceLE, Int.reduceGT, Int.reduceGE, Int.reduceEq, Int.reduceNe, Int.reduceBEq, Int.reduceBNe, Int.reduceAdd, Int.reduceSub, Int.reduceMul, Int.reduceToNat, Int.reduceNeg, ↓reduceIte, ↓reduceDIte, k1, k3, gc, hfr, hd1, hd2, hw, g2, take_app_n, get_app_n, get_app_n0, set_app_n, set_app_n0, lget_app_n, lget_app_n0, lcells_app_n, lcells_app_n0, List.length_set, List.take_of_length_le, List.set_set, get_left, set_left, lget_left, lcells_left, get_set_eq, get_set_ne, lget_set_eq, lget_set_ne, lcells_set_ne]
          refine ⟨(i + 1, _, _), by simp only [hsu]; simp; rfl, rfl, ⟨by dsimp only; omega, ?_⟩, by dsimp only; omega⟩
          dsimp only
          rw [hsu]
          simp only [Option.toList_some, List.flatMap_append, List.flatMap_singleton]
          exact Own.grown (u := [_, _]) rfl (by simp) a'
        · have e : cutC m c = some c := by rw [cutC, if_neg hfr, if_neg hcut]
          rw [e] at hsu
          cases hdd : c.dn
          · simp -dsimp only [go_sem, Nat.reduceEqDiff, Nat.reduceAdd, Nat.reduceSub, Nat.reduceMul, Nat.reduceLeDiff, Nat.reduceLT, Nat.reduceBEq, Int.reduceLT, Int.reduceLE, Int.reduceGT, Int.reduceGE, Int.reduceEq, Int.reduceNe, Int.reduceBEq, Int.reduceBNe, Int.reduceAdd, Int.reduceSub, Int.reduceMul, Int.reduceToNat, Int.reduceNeg, ↓reduceIte, ↓reduceDIte, k1, k3, gc, hfr, hdd, hw, g2, take_app_n, get_app_n, get_app_n0, set_app_n, set_app_n0, lget_app_n, lget_app_n0, lcells_app_n, lcells_app_n0, List.length_set, List.take_of_length_le, List.set_set, get_left, set_left, lget_left, lcells_left, get_set_eq, get_set_ne, lget_set_eq, lget_set_ne, lcells_set_ne]
            refine ⟨(i + 1, _, _), by simp only [hsu]; simp; rfl, rfl, ⟨by dsimp only; omega, ?_⟩, by dsimp only; omega⟩
            dsimp only
            rw [hsu]
            simp only [Option.toList_some, List.flatMap_append, List.flatMap_singleton, CallD.cells, hdd]
            exact Own.grown (u := [_, _]) rfl (by simp) a'
          · have hto : ¬ m ≤ c.to := fun q => hcut ⟨hdd, q⟩
            simp -dsimp only [go_sem, Nat.reduceEqDiff, Nat.reduceAdd, Nat.reduceSub, Nat.reduceMul, Nat.reduceLeDiff, Nat.reduceLT, Nat.reduceBEq, Int.reduceLT, Int.reduceLE, Int.reduceGT, Int.reduceGE, Int.reduceEq, Int.reduceNe, Int.reduceBEq, Int.reduceBNe, Int.reduceAdd, Int.reduceSub, Int.reduceMul, Int.reduceToNat, Int.reduceNeg, ↓reduceIte, ↓reduceDIte, k1, k3, gc, hfr, hdd, hto, hw, g2, take_app_n, get_app_n, get_app_n0, set_app_n, set_app_n0, lget_app_n, lget_app_n0, lcells_app_n, lcells_app_n0, List.length_set, List.take_of_length_le, List.set_set, get_left, set_left, lget_left, lcells_left, get_set_eq, get_set_ne, lget_set_eq, lget_set_ne, lcells_set_ne]
            refine ⟨(i + 1, _, _), by simp only [hsu]; simp; rfl, rfl, ⟨by dsimp only; omega, ?_⟩, by dsimp only; omega⟩
            dsimp only
            rw [hsu]
            simp only [Option.toList_some, List.flatMap_append, List.flatMap_singleton, CallD.cells, hdd]
            exact Own.grown (u := [_, _]) rfl (by simp) a'
    · have k1 : ¬ (i : Int) < l1.length := by omega
      have hii : i = l1.length := by omega
      subst hii
      rw [List.take_length] at ho ⊢
      simp -dsimp only [go_sem, Nat.reduceEqDiff, Nat.reduceAdd, Nat.reduceSub, Nat.reduceMul, Nat.reduceLeDiff, Nat.reduceLT, Nat.reduceBEq, Int.reduceLT, Int.reduceLE, Int.reduceGT, Int.reduceGE, Int.reduceEq, Int.reduceNe, Int.reduceBEq, Int.reduceBNe, Int.reduceAdd, Int.reduceSub, Int.reduceMul, Int.reduceToNat, Int.reduceNeg, ↓reduceIte, ↓reduceDIte, k1]
      refine CT_of (fifo_ev (l := cutL m l1) (mode := 0) (by simp; omega) ho.sl (Nat.le_refl _) hc) ?_
      rintro _ _ ⟨t4, rfl, hm4⟩
      obtain ⟨a4, oc4, rfl, ho4⟩ := sch_cases hm4
      rw [hcs]
      simp -dsimp only [go_sem, Nat.reduceEqDiff, Nat.reduceAdd, Nat.reduceSub, Nat.reduceMul, Nat.reduceLeDiff, Nat.reduceLT, Nat.reduceBEq, Int.reduceLT, Int.reduceLE, Int.reduceGT, Int.reduceGE, Int.reduceEq, Int.reduceNe, Int.reduceBEq, Int.reduceBNe, Int.reduceAdd, Int.reduceSub, Int.reduceMul, Int.reduceToNat, Int.reduceNeg, ↓reduceIte, ↓reduceDIte]
      refine CT_val one_at ?_
      simp -dsimp only [go_sem, Nat.reduceEqDiff, Nat.reduceAdd, Nat.reduceSub, Nat.reduceMul, Nat.reduceLeDiff, Nat.reduceLT, Nat.reduceBEq, Int.reduceLT, Int.reduceLE, Int.reduceGT, Int.reduceGE, Int.reduceEq, Int.reduceNe, Int.reduceBEq, Int.reduceBNe, Int.reduceAdd, Int.reduceSub, Int.reduceMul, Int.reduceToNat, Int.reduceNeg, ↓reduceIte, ↓reduceDIte]
end Go.Proofs.Ytfobpjjpaehhpaa
