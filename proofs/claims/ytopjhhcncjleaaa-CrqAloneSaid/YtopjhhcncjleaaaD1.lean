/- Queues of numbers: what they do. -/
import Derived.Test.YtopjhhcncjleaaaM2
namespace Go.Proofs.Ytopjhhcncjleaaa
open Go Go.LK
set_option linter.unusedSimpArgs false
set_option linter.unusedVariables false
abbrev fifo (c : Int) (a : Option Addr) (n : Nat) : Value := .agg #[i64 c, .slice a n n]
theorem fullF_ev (lim : Nat) (c : Int) (a : Option Addr) (n : Nat) (H : LHeap) :
    callE T 57 lim [fifo c a n] H fun v H' => v = (.bool (decide (c > 0) && decide ((n : Int) ≥ c))) ∧ H' = H := by
  refine callE_pop rfl (by simp) rfl ?_
  simp -dsimp only [go_sem, Nat.reduceEqDiff, Nat.reduceAdd, Nat.reduceSub, Nat.reduceMul, Nat.reduceLeDiff, Nat.reduceLT, Nat.reduceBEq, Int.reduceLT, Int.reduceLE, Int.reduceGT, Int.reduceGE, Int.reduceEq, Int.reduceNe, Int.reduceBEq, Int.reduceBNe, Int.reduceAdd, Int.reduceSub, Int.reduceMul, Int.reduceToNat, Int.reduceNeg, ↓reduceIte, ↓reduceDIte]
  refine GT_introT (fun h => ?_) (fun h => ?_)
  · simp -dsimp only [go_sem, Nat.reduceEqDiff, Nat.reduceAdd, Nat.reduceSub, Nat.reduceMul, Nat.reduceLeDiff, Nat.reduceLT, Nat.reduceBEq, Int.reduceLT, Int.reduceLE, Int.reduceGT, Int.reduceGE, Int.reduceEq, Int.reduceNe, Int.reduceBEq, Int.reduceBNe, Int.reduceAdd, Int.reduceSub, Int.reduceMul, Int.reduceToNat, Int.reduceNeg, ↓reduceIte, ↓reduceDIte, h]
  · simp -dsimp only [go_sem, Nat.reduceEqDiff, Nat.reduceAdd, Nat.reduceSub, Nat.reduceMul, Nat.reduceLeDiff, Nat.reduceLT, Nat.reduceBEq, Int.reduceLT, Int.reduceLE, Int.reduceGT, Int.reduceGE, Int.reduceEq, Int.reduceNe, Int.reduceBEq, Int.reduceBNe, Int.reduceAdd, Int.reduceSub, Int.reduceMul, Int.reduceToNat, Int.reduceNeg, ↓reduceIte, ↓reduceDIte, h]
theorem cloneF_ev {lim : Nat} {a : Option Addr} {n : Nat} {c : List Value} {H : LHeap} (hl : lim ≤ H.length) (hs : Sl 1 H a c) (hc : c.length = n) (hn : n < 1000000) (h1 : c.all Value.oneCell' = true) :
    callE T 52 lim [.slice a n n] H fun v H' => ∃ a' l, v = .slice a' n n ∧ H' = H ++ l ∧ Sl 1 (H ++ l) a' c ∧ Fresh H.length a' := by
  refine callE_stay rfl (by simp) rfl ?_
  have hsrc := fun l => (hs.app l).src (m := 1) (n := n) (cap := n) (by omega) (by omega)
  have ht : c.take n = c := List.take_of_length_le (by omega)
  rcases hs with ⟨rfl, rfl⟩ | ⟨b, o, ro, es, cc, rfl, h2, h3, h4⟩
  · simp at hc; subst hc
    simp -dsimp only [go_sem, Nat.reduceEqDiff, Nat.reduceAdd, Nat.reduceSub, Nat.reduceMul, Nat.reduceLeDiff, Nat.reduceLT, Nat.reduceBEq, Int.reduceLT, Int.reduceLE, Int.reduceGT, Int.reduceGE, Int.reduceEq, Int.reduceNe, Int.reduceBEq, Int.reduceBNe, Int.reduceAdd, Int.reduceSub, Int.reduceMul, Int.reduceToNat, Int.reduceNeg, ↓reduceIte, ↓reduceDIte]
    exact ⟨none, [], rfl, by simp, Sl.nil _ _, Fresh.nil _⟩
  · have h6 : n * 8 ≤ 140737488355328 := by omega
    have h7 : n ≤ 140737488355328 := by omega
    simp -dsimp only [go_sem, Nat.reduceEqDiff, Nat.reduceAdd, Nat.reduceSub, Nat.reduceMul, Nat.reduceLeDiff, Nat.reduceLT, Nat.reduceBEq, Int.reduceLT, Int.reduceLE, Int.reduceGT, Int.reduceGE, Int.reduceEq, Int.reduceNe, Int.reduceBEq, Int.reduceBNe, Int.reduceAdd, Int.reduceSub, Int.reduceMul, Int.reduceToNat, Int.reduceNeg, ↓reduceIte, ↓reduceDIte, hsrc, h1, h6, h7, hl, Nat.zero_mul, Nat.le_refl, Nat.lt_irrefl]
    exact ⟨_, _, rfl, rfl, Sl.row (get_app H _ 1), Fresh.mk (by omega)⟩
theorem withF_ev {lim : Nat} {cap : Int} {a : Option Addr} {n : Nat} {l : List (BitVec 64)} {x : BitVec 64} {H : LHeap} (hl : lim ≤ H.length) (hs : Sl 1 H a (l.map w64)) (hc : l.length = n) (hn : n < 1000000) :
    callE T 58 lim [fifo cap a n, w64 x] H fun v H' => ∃ a' t, v = fifo cap a' (n + 1) ∧ H' = H ++ t ∧ Sl 1 (H ++ t) a' ((l ++ [x]).map w64) ∧ Fresh H.length a' := by
  refine callE_stay rfl (by simp) rfl ?_
  have hsrc := fun t => (hs.app t).src (m := 1) (n := n) (cap := n) (by omega) (by simp; omega)
  have hw : IntKind.i64.wrap (↑n + 1) = ((n + 1 : Nat) : Int) := by rw [wrap_i64] <;> omega
  have h1 : 0 ≤ (n : Int) ∧ (n : Int) ≤ ((n + 1 : Nat) : Int) ∧ (8 : Int) * ((n + 1 : Nat) : Int) ≤ 281474976710656 ∧ ((n + 1 : Nat) : Int) ≤ 281474976710656 := by omega
  have ht : (l.map w64).take n = l.map w64 := List.take_of_length_le (by simp; omega)
  have h2 : n ≤ n + 1 := by omega
  have h3 : lim ≤ H.length + 1 := by omega
  simp -dsimp only [go_sem, Nat.reduceEqDiff, Nat.reduceAdd, Nat.reduceSub, Nat.reduceMul, Nat.reduceLeDiff, Nat.reduceLT, Nat.reduceBEq, Int.reduceLT, Int.reduceLE, Int.reduceGT, Int.reduceGE, Int.reduceEq, Int.reduceNe, Int.reduceBEq, Int.reduceBNe, Int.reduceAdd, Int.reduceSub, Int.reduceMul, Int.reduceToNat, Int.reduceNeg, ↓reduceIte, ↓reduceDIte, hsrc, hw, h1, ht, hc, h2, h3, Nat.le_refl]
  refine ⟨_, _, rfl, rfl, ?_, Fresh.mk (by omega)⟩
  refine Sl.row (ro := false) ?_
  rw [get_app H _ 2]
  simp only [List.getElem?_cons_succ, List.getElem?_cons_zero, Option.some.injEq, LObj.row.injEq, true_and]
  rw [setMany_zero _ _ (by simp [hc])]
  simp [hc, List.set_append_right]
theorem restF_ev {lim : Nat} {cap : Int} {a : Option Addr} {n : Nat} {l : List (BitVec 64)} {x : BitVec 64} {H : LHeap} (hl : lim ≤ H.length) (hs : Sl 1 H a ((x :: l).map w64)) (hc : l.length = n) (hn : n < 1000000) :
    callE T 59 lim [fifo cap a (n + 1)] H fun v H' => ∃ a' t, v = fifo cap a' n ∧ H' = H ++ t ∧ Sl 1 (H ++ t) a' (l.map w64) ∧ Fresh H.length a' := by
  refine callE_stay rfl (by simp) rfl ?_
  obtain ⟨a', h1, h2⟩ := hs.sub (n := n + 1) (cap := n + 1) (lo := 1) (hi := n + 1) (lo' := 1) rfl rfl (by omega) (by simp [hc]) (by omega) (by omega) (by omega) (by omega)
  rw [show ((((x :: l).map w64).drop (1 * 1)).take ((n + 1 - 1) * 1)) = l.map w64 by (simp only [List.map_cons, Nat.mul_one, List.drop_succ_cons, List.drop_zero]; exact List.take_of_length_le (by simp; omega)), show n + 1 - 1 = n by omega] at *
  have h3 : lim ≤ H.length + 1 := by omega
  simp -dsimp only [go_sem, Nat.reduceEqDiff, Nat.reduceAdd, Nat.reduceSub, Nat.reduceMul, Nat.reduceLeDiff, Nat.reduceLT, Nat.reduceBEq, Int.reduceLT, Int.reduceLE, Int.reduceGT, Int.reduceGE, Int.reduceEq, Int.reduceNe, Int.reduceBEq, Int.reduceBNe, Int.reduceAdd, Int.reduceSub, Int.reduceMul, Int.reduceToNat, Int.reduceNeg, ↓reduceIte, ↓reduceDIte, h1]
  refine CT_of (cloneF_ev (by simp; omega) (h2.app _) (by simp [hc]) hn (ws_one _)) ?_
  rintro _ _ ⟨a2, t, rfl, rfl, h4, h5⟩
  simp -dsimp only [go_sem, Nat.reduceEqDiff, Nat.reduceAdd, Nat.reduceSub, Nat.reduceMul, Nat.reduceLeDiff, Nat.reduceLT, Nat.reduceBEq, Int.reduceLT, Int.reduceLE, Int.reduceGT, Int.reduceGE, Int.reduceEq, Int.reduceNe, Int.reduceBEq, Int.reduceBNe, Int.reduceAdd, Int.reduceSub, Int.reduceMul, Int.reduceToNat, Int.reduceNeg, ↓reduceIte, ↓reduceDIte, h3]
  exact ⟨_, _, rfl, rfl, h4.boxed (by omega) (by simp [unbox_app, unbox_cons, unboxO_box]), h5.mono (by simp)⟩
/-- What a queue does. -/
def doF (cap : Int) (l : List (BitVec 64)) (kind : Int) (x : BitVec 64) : List (BitVec 64) × Int × BitVec 64 :=
  if kind = 0 then (if cap > 0 ∧ (l.length : Int) ≥ cap then (l, 15, 0) else (l ++ [x], 0, 0))
  else if kind = 1 then (match l with
    | [] => ([], 13, 0)
    | y :: r => (r, 0, y))
  else (l, 2, 0)
theorem doF_ev {lim : Nat} {cap : Int} {a : Option Addr} {l : List (BitVec 64)} {kind : Int} {x : BitVec 64} {H : LHeap} (hl : lim ≤ H.length) (hs : Sl 1 H a (l.map w64)) (hn : l.length < 1000000) :
    callE T 31 lim [fifo cap a l.length, i64 kind, w64 x] H fun v H' => ∃ a' t, v = .tuple #[fifo cap a' (doF cap l kind x).1.length, i64 (doF cap l kind x).2.1, w64 (doF cap l kind x).2.2] ∧
      H' = H ++ t ∧ Sl 1 (H ++ t) a' ((doF cap l kind x).1.map w64) ∧ (a' = a ∧ (doF cap l kind x).1 = l ∨ Fresh H.length a') := by
  refine callE_stay rfl (by simp) rfl ?_
  have hl1 : lim ≤ H.length + 1 := by omega
  by_cases h0 : kind = 0
  · subst h0
    simp -dsimp only [go_sem, Nat.reduceEqDiff, Nat.reduceAdd, Nat.reduceSub, Nat.reduceMul, Nat.reduceLeDiff, Nat.reduceLT, Nat.reduceBEq, Int.reduceLT, Int.reduceLE, Int.reduceGT, Int.reduceGE, Int.reduceEq, Int.reduceNe, Int.reduceBEq, Int.reduceBNe, Int.reduceAdd, Int.reduceSub, Int.reduceMul, Int.reduceToNat, Int.reduceNeg, ↓reduceIte, ↓reduceDIte]
    refine CT_of (fullF_ev _ _ _ _ _) ?_
    rintro _ _ ⟨rfl, rfl⟩
    by_cases hf : cap > 0 ∧ (l.length : Int) ≥ cap
    · have hf' : (decide (cap > 0) && decide ((l.length : Int) ≥ cap)) = true := by simpa using hf
      simp -dsimp only [go_sem, Nat.reduceEqDiff, Nat.reduceAdd, Nat.reduceSub, Nat.reduceMul, Nat.reduceLeDiff, Nat.reduceLT, Nat.reduceBEq, Int.reduceLT, Int.reduceLE, Int.reduceGT, Int.reduceGE, Int.reduceEq, Int.reduceNe, Int.reduceBEq, Int.reduceBNe, Int.reduceAdd, Int.reduceSub, Int.reduceMul, Int.reduceToNat, Int.reduceNeg, ↓reduceIte, ↓reduceDIte, hf', hl1, doF, hf]
      exact ⟨_, _, rfl, rfl, hs.app _, .inl rfl⟩
    · have hf' : (decide (cap > 0) && decide ((l.length : Int) ≥ cap)) = false := by simpa using hf
      simp -dsimp only [go_sem, Nat.reduceEqDiff, Nat.reduceAdd, Nat.reduceSub, Nat.reduceMul, Nat.reduceLeDiff, Nat.reduceLT, Nat.reduceBEq, Int.reduceLT, Int.reduceLE, Int.reduceGT, Int.reduceGE, Int.reduceEq, Int.reduceNe, Int.reduceBEq, Int.reduceBNe, Int.reduceAdd, Int.reduceSub, Int.reduceMul, Int.reduceToNat, Int.reduceNeg, ↓reduceIte, ↓reduceDIte, hf', hl1, doF, hf]
      refine CT_of (withF_ev (l := l) (by simp; omega) (hs.app _) rfl hn) ?_
      rintro _ _ ⟨a2, t, rfl, rfl, h4, h5⟩
      simp -dsimp only [go_sem, Nat.reduceEqDiff, Nat.reduceAdd, Nat.reduceSub, Nat.reduceMul, Nat.reduceLeDiff, Nat.reduceLT, Nat.reduceBEq, Int.reduceLT, Int.reduceLE, Int.reduceGT, Int.reduceGE, Int.reduceEq, Int.reduceNe, Int.reduceBEq, Int.reduceBNe, Int.reduceAdd, Int.reduceSub, Int.reduceMul, Int.reduceToNat, Int.reduceNeg, ↓reduceIte, ↓reduceDIte, hl1, doF, hf]
      exact ⟨_, _, rfl, rfl, h4.boxed (by omega) (by simp [unbox_app, unbox_cons, unboxO_box]), .inr (h5.mono (by simp))⟩
  · by_cases h1 : kind = 1
    · subst h1
      cases l with
      | nil =>
        simp -dsimp only [go_sem, Nat.reduceEqDiff, Nat.reduceAdd, Nat.reduceSub, Nat.reduceMul, Nat.reduceLeDiff, Nat.reduceLT, Nat.reduceBEq, Int.reduceLT, Int.reduceLE, Int.reduceGT, Int.reduceGE, Int.reduceEq, Int.reduceNe, Int.reduceBEq, Int.reduceBNe, Int.reduceAdd, Int.reduceSub, Int.reduceMul, Int.reduceToNat, Int.reduceNeg, ↓reduceIte, ↓reduceDIte, hl1, doF]
        exact ⟨_, _, rfl, rfl, hs.app _, .inl rfl⟩
      | cons y r =>
        obtain ⟨b, o, rfl, hb, hg⟩ := hs.all (by simp)
        have hg0 := fun t => hg t 0 (w64 y) rfl
        simp only [Nat.add_zero] at hg0
        have h2 : ((((r.length + 1 : Nat) : Int) == 0)) = false := by rw [beq_eq_false_iff_ne]; omega
        have h3 : (0 : Int) < ((r.length + 1 : Nat) : Int) := by omega
        simp only [List.length_cons]
        simp -dsimp only [go_sem, Nat.reduceEqDiff, Nat.reduceAdd, Nat.reduceSub, Nat.reduceMul, Nat.reduceLeDiff, Nat.reduceLT, Nat.reduceBEq, Int.reduceLT, Int.reduceLE, Int.reduceGT, Int.reduceGE, Int.reduceEq, Int.reduceNe, Int.reduceBEq, Int.reduceBNe, Int.reduceAdd, Int.reduceSub, Int.reduceMul, Int.reduceToNat, Int.reduceNeg, ↓reduceIte, ↓reduceDIte, hl1, doF, h2, h3, hg0]
        refine CT_of (restF_ev (l := r) (x := y) (by simp; omega) (hs.app _) rfl (by simp at hn; omega)) ?_
        rintro _ _ ⟨a2, t, rfl, rfl, h4, h5⟩
        simp -dsimp only [go_sem, Nat.reduceEqDiff, Nat.reduceAdd, Nat.reduceSub, Nat.reduceMul, Nat.reduceLeDiff, Nat.reduceLT, Nat.reduceBEq, Int.reduceLT, Int.reduceLE, Int.reduceGT, Int.reduceGE, Int.reduceEq, Int.reduceNe, Int.reduceBEq, Int.reduceBNe, Int.reduceAdd, Int.reduceSub, Int.reduceMul, Int.reduceToNat, Int.reduceNeg, ↓reduceIte, ↓reduceDIte, hl1, doF, hg0]
        exact ⟨_, _, rfl, rfl, h4.boxed (by omega) (by simp [unbox_app, unbox_cons, unboxO_box]), .inr (h5.mono (by simp))⟩
    · have h0' : (kind == 0) = false := by simpa using h0
      have h1' : (kind == 1) = false := by simpa using h1
      simp -dsimp only [go_sem, Nat.reduceEqDiff, Nat.reduceAdd, Nat.reduceSub, Nat.reduceMul, Nat.reduceLeDiff, Nat.reduceLT, Nat.reduceBEq, Int.reduceLT, Int.reduceLE, Int.reduceGT, Int.reduceGE, Int.reduceEq, Int.reduceNe, Int.reduceBEq, Int.reduceBNe, Int.reduceAdd, Int.reduceSub, Int.reduceMul, Int.reduceToNat, Int.reduceNeg, ↓reduceIte, ↓reduceDIte, hl1, doF, h0, h1, h0', h1']
      exact ⟨_, _, rfl, rfl, hs.app _, .inl rfl⟩
end Go.Proofs.Ytopjhhcncjleaaa
