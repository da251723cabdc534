/- The document's search, worked out. -/
import Derived.Test.YtfobpjjpaehhpaaM2
namespace Go.Proofs.Ytfobpjjpaehhpaa
open Go Go.LK
set_option linter.unusedSimpArgs false
set_option linter.unusedVariables false
set_option maxHeartbeats 2000000 in
theorem counts_ev {lim n kind : Nat} {a : Option Addr} {l : List CallD} {j : Nat} {H : LHeap} (hs : Sl 8 H a (l.flatMap CallD.cells)) (hn : l.length < 1000000) (hj : j < l.length) :
    callE T 24 lim [.slice a l.length n, i64 j, i64 (kind : Int)] H fun v H' => v = i64 (cntF l j kind l.length) ∧ H' = H := by
  refine callE_pop rfl (by simp) rfl ?_
  have hd : l[j]? = some (l[j]'hj) := List.getElem?_eq_getElem _
  generalize l[j]'hj = d at hd
  obtain ⟨b1, o1, rfl, hb1, hg1, hg2⟩ := hs.rowsAt (f := CallD.cells) CallD.len (by omega) (by omega)
  have gd := fun t => hg1 t j d hd
  simp only [CallD.cells] at gd
  have j1 : (j : Int) < l.length := by omega
  have j3 : 0 ≤ (j : Int) := by omega
  simp -dsimp only [go_sem, Nat.reduceEqDiff, Nat.reduceAdd, Nat.reduceSub, Nat.reduceMul, Nat.reduceLeDiff, Nat.reduceLT, Nat.reduceBEq, Int.reduceLT, Int.reduceLE, Int.reduceGT, Int.reduceGE, Int.reduceEq, Int.reduceNe, Int.reduceBEq, Int.reduceBNe, Int.reduceAdd, Int.reduceSub, Int.reduceMul, Int.reduceToNat, Int.reduceNeg, ↓reduceIte, ↓reduceDIte]
  refine LT_of (fun q : Nat => [(0, .slice (some ⟨b1, o1, none⟩) l.length n), (1, i64 j), (2, i64 (kind : Int)), (7, i64 (cntF l j kind q)), (8, i64 q)]) (fun q => H) (fun q => q ≤ l.length) (fun q => l.length - q) 0 (by simp [cntF]) (by simp) (by simp) ?_
  intro i hi
  by_cases hlt : i < l.length
  · have m1 : (i : Int) < l.length := by omega
    have m3 : 0 ≤ (i : Int) := by omega
    have hc : l[i]? = some (l[i]'hlt) := List.getElem?_eq_getElem _
    generalize l[i]'hlt = c at hc
    have gc := fun t => hg1 t i c hc
    have gk := fun t => hg2 t i c 1 hc (by omega)
    simp only [CallD.cells, List.getElem?_cons_succ, List.getElem?_cons_zero] at gc gk
    have gc0 := gc []
    have gd0 := gd []
    have gk0 := gk []
    simp only [List.append_nil] at gc0 gd0 gk0
    have hw : IntKind.i64.wrap ((i : Int) + 1) = ((i + 1 : Nat) : Int) := by rw [wrap_i64] <;> omega
    have hle := cnt_le l j kind i
    have hw2 : IntKind.i64.wrap ((cntF l j kind i : Int) + 1) = ((cntF l j kind i + 1 : Nat) : Int) := by rw [wrap_i64] <;> omega
    have hk0 : ¬ ((kind : Int) < 0) := by omega
    have ci : condI l j kind i = (decide ((i : Int) ≠ j) && (decide (c.kind = kind) && meetsF c d)) := by
      simp [condI, hc, hd, hk0]
    have no : condI l j kind i = false → cntF l j kind (i + 1) = cntF l j kind i := fun h => by simp [cntF, h]
    have yes : condI l j kind i = true → cntF l j kind (i + 1) = cntF l j kind i + 1 := fun h => by simp [cntF, h]
    by_cases hij : i = j
    · have e1 : ((i : Int) != j) = false := by simp [hij]
      have := no (by rw [ci]; simp [hij])
      simp -dsimp only [go_sem, Nat.reduceEqDiff, Nat.reduceAdd, Nat.reduceSub, Nat.reduceMul, Nat.reduceLeDiff, Nat.reduceLT, Nat.reduceBEq, Int.reduceLT, Int.reduceLE, Int.reduceGT, Int.reduceGE, Int.reduceEq, Int.reduceNe, Int.reduceBEq, Int.reduceBNe, Int.reduceAdd, Int.reduceSub, Int.reduceMul, Int.reduceToNat, Int.reduceNeg, ↓reduceIte, ↓reduceDIte, m1, m3, gc0, gk0, e1, hw]
      exact ⟨(i + 1), by rw [this], by omega, by omega⟩
    · have e1 : ((i : Int) != j) = true := by simp; omega
      have e1' : (i : Int) ≠ j := by omega
      by_cases hk : c.kind = kind
      · have e2 : (c.kind == (kind : Int)) = true := by simpa using hk
        simp -dsimp only [go_sem, Nat.reduceEqDiff, Nat.reduceAdd, Nat.reduceSub, Nat.reduceMul, Nat.reduceLeDiff, Nat.reduceLT, Nat.reduceBEq, Int.reduceLT, Int.reduceLE, Int.reduceGT, Int.reduceGE, Int.reduceEq, Int.reduceNe, Int.reduceBEq, Int.reduceBNe, Int.reduceAdd, Int.reduceSub, Int.reduceMul, Int.reduceToNat, Int.reduceNeg, ↓reduceIte, ↓reduceDIte, m1, m3, gc0, gd0, gk0, e1, e2, hw, j1, j3]
        refine CT_val (refahead_ev (a := c) (b := d)) ?_
        cases hm : aheadF c d
        · simp -dsimp only [go_sem, Nat.reduceEqDiff, Nat.reduceAdd, Nat.reduceSub, Nat.reduceMul, Nat.reduceLeDiff, Nat.reduceLT, Nat.reduceBEq, Int.reduceLT, Int.reduceLE, Int.reduceGT, Int.reduceGE, Int.reduceEq, Int.reduceNe, Int.reduceBEq, Int.reduceBNe, Int.reduceAdd, Int.reduceSub, Int.reduceMul, Int.reduceToNat, Int.reduceNeg, ↓reduceIte, ↓reduceDIte, m1, m3, gc0, gd0, gk0, e1, e2, hw, j1, j3]
          refine CT_val (refahead_ev (a := d) (b := c)) ?_
          cases hm2 : aheadF d c
          · have := yes (by rw [ci]; simp [e1', hk, meetsF, hm, hm2])
            simp -dsimp only [go_sem, Nat.reduceEqDiff, Nat.reduceAdd, Nat.reduceSub, Nat.reduceMul, Nat.reduceLeDiff, Nat.reduceLT, Nat.reduceBEq, Int.reduceLT, Int.reduceLE, Int.reduceGT, Int.reduceGE, Int.reduceEq, Int.reduceNe, Int.reduceBEq, Int.reduceBNe, Int.reduceAdd, Int.reduceSub, Int.reduceMul, Int.reduceToNat, Int.reduceNeg, ↓reduceIte, ↓reduceDIte, hw, hw2]
            exact ⟨(i + 1), by rw [this], by omega, by omega⟩
          · have := no (by rw [ci]; simp [e1', hk, meetsF, hm, hm2])
            simp -dsimp only [go_sem, Nat.reduceEqDiff, Nat.reduceAdd, Nat.reduceSub, Nat.reduceMul, Nat.reduceLeDiff, Nat.reduceLT, Nat.reduceBEq, Int.reduceLT, Int.reduceLE, Int.reduceGT, Int.reduceGE, Int.reduceEq, Int.reduceNe, Int.reduceBEq, Int.reduceBNe, Int.reduceAdd, Int.reduceSub, Int.reduceMul, Int.reduceToNat, Int.reduceNeg, ↓reduceIte, ↓reduceDIte, hw, hw2]
            exact ⟨(i + 1), by rw [this], by omega, by omega⟩
        · have := no (by rw [ci]; simp [e1', hk, meetsF, hm])
          simp -dsimp only [go_sem, Nat.reduceEqDiff, Nat.reduceAdd, Nat.reduceSub, Nat.reduceMul, Nat.reduceLeDiff, Nat.reduceLT, Nat.reduceBEq, Int.reduceLT, Int.reduceLE, Int.reduceGT, Int.reduceGE, Int.reduceEq, Int.reduceNe, Int.reduceBEq, Int.reduceBNe, Int.reduceAdd, Int.reduceSub, Int.reduceMul, Int.reduceToNat, Int.reduceNeg, ↓reduceIte, ↓reduceDIte, hw, hw2]
          exact ⟨(i + 1), by rw [this], by omega, by omega⟩
      · have e2 : (c.kind == (kind : Int)) = false := by simpa using hk
        have := no (by rw [ci]; simp [hk])
        simp -dsimp only [go_sem, Nat.reduceEqDiff, Nat.reduceAdd, Nat.reduceSub, Nat.reduceMul, Nat.reduceLeDiff, Nat.reduceLT, Nat.reduceBEq, Int.reduceLT, Int.reduceLE, Int.reduceGT, Int.reduceGE, Int.reduceEq, Int.reduceNe, Int.reduceBEq, Int.reduceBNe, Int.reduceAdd, Int.reduceSub, Int.reduceMul, Int.reduceToNat, Int.reduceNeg, ↓reduceIte, ↓reduceDIte, m1, m3, gc0, gk0, e1, e2, hw]
        exact ⟨(i + 1), by rw [this], by omega, by omega⟩
  · have m1 : ¬ (i : Int) < l.length := by omega
    have : i = l.length := by omega
    subst this
    simp -dsimp only [go_sem, Nat.reduceEqDiff, Nat.reduceAdd, Nat.reduceSub, Nat.reduceMul, Nat.reduceLeDiff, Nat.reduceLT, Nat.reduceBEq, Int.reduceLT, Int.reduceLE, Int.reduceGT, Int.reduceGE, Int.reduceEq, Int.reduceNe, Int.reduceBEq, Int.reduceBNe, Int.reduceAdd, Int.reduceSub, Int.reduceMul, Int.reduceToNat, Int.reduceNeg, ↓reduceIte, ↓reduceDIte, m1]
def usedC (n : Nat) (u : BitVec 64) : List Value := (List.range n).map fun k => Value.bool (u.getLsbD k)
theorem usedC_len (n : Nat) (u : BitVec 64) : (usedC n u).length = n := by simp [usedC]
theorem usedC_at {n k : Nat} {u : BitVec 64} (h : k < n) : (usedC n u)[k]? = some (.bool (u.getLsbD k)) := by simp [usedC, h]
theorem usedC_one (n : Nat) (u : BitVec 64) : (usedC n u).all Value.oneCell' = true := by
  simp [usedC, List.all_eq_true, Value.oneCell']
theorem usedC_set {n i : Nat} {u : BitVec 64} (hn : n ≤ 64) (hi : i < n) : (usedC n u).set i (.bool true) = usedC n (withB u i) := by
  refine List.ext_getElem? fun k => ?_
  rw [List.getElem?_set]
  by_cases hk : k < n
  · rw [usedC_at hk, usedC_at hk, get_with (by omega)]
    by_cases e : i = k
    · subst e; simp [usedC_len, hi]
    · simp [e]
  · have e : ¬ i = k := by omega
    rw [if_neg e, List.getElem?_eq_none (by rw [usedC_len]; omega), List.getElem?_eq_none (by rw [usedC_len]; omega)]
theorem usedC_none (n : Nat) : List.replicate n (Value.bool false) = usedC n 0#64 := by
  refine List.ext_getElem? fun k => ?_
  by_cases hk : k < n
  · rw [usedC_at hk]; simp [hk]
  · rw [List.getElem?_eq_none (by simp; omega), List.getElem?_eq_none (by rw [usedC_len]; omega)]
end Go.Proofs.Ytfobpjjpaehhpaa
