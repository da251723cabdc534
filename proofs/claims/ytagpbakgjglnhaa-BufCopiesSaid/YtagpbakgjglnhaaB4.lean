/- Copies of words, step by step: worked out. -/
import Derived.Test.YtagpbakgjglnhaaM3
import Derived.Test.YtagpbakgjglnhaaC1
import Derived.Test.YtagpbakgjglnhaaB2
namespace Go.Proofs.Ytagpbakgjglnhaa
open Go Go.LK
set_option linter.unusedSimpArgs false
set_option linter.unusedVariables false
structure BOp where
  at_ : Int
  reads : Bool
  words : List (BitVec 64)
  k : Int
  many : Int
  code : Int
abbrev brw (a : Option Addr) (x : BOp) : LObj := .row false 0 [.bool true, i64 x.at_, .bool x.reads, .slice a x.words.length x.words.length, i64 x.k, i64 x.many, i64 x.code]
section
variable {lim o : Nat} {x : BOp} {a : Option Addr} {H : LHeap}
theorem bnone_nil : callE T 27 lim [.pointer none] H fun v H' => v = .bool true ∧ H' = H := by
  refine callE_pop rfl (by simp) rfl ?_
  simp -dsimp only [go_sem, Nat.reduceEqDiff, Nat.reduceAdd, Nat.reduceSub, Nat.reduceMul, Nat.reduceLeDiff, Nat.reduceLT, Nat.reduceBEq, Int.reduceLT, Int.reduceLE, Int.reduceGT, Int.reduceGE, Int.reduceEq, Int.reduceNe, Int.reduceBEq, Int.reduceBNe, Int.reduceAdd, Int.reduceSub, Int.reduceMul, Int.reduceToNat, Int.reduceNeg, ↓reduceIte, ↓reduceDIte]
theorem bnone_ev (h : H[o]? = some (brw a x)) : callE T 27 lim [ptr o] H fun v H' => v = .bool false ∧ H' = H := by
  refine callE_pop rfl (by simp) rfl ?_
  simp -dsimp only [go_sem, Nat.reduceEqDiff, Nat.reduceAdd, Nat.reduceSub, Nat.reduceMul, Nat.reduceLeDiff, Nat.reduceLT, Nat.reduceBEq, Int.reduceLT, Int.reduceLE, Int.reduceGT, Int.reduceGE, Int.reduceEq, Int.reduceNe, Int.reduceBEq, Int.reduceBNe, Int.reduceAdd, Int.reduceSub, Int.reduceMul, Int.reduceToNat, Int.reduceNeg, ↓reduceIte, ↓reduceDIte, lget_at h]
theorem bres_nil : callE T 14 lim [.pointer none] H fun v H' => v = i64 1 ∧ H' = H := by
  refine callE_pop rfl (by simp) rfl ?_
  simp -dsimp only [go_sem, Nat.reduceEqDiff, Nat.reduceAdd, Nat.reduceSub, Nat.reduceMul, Nat.reduceLeDiff, Nat.reduceLT, Nat.reduceBEq, Int.reduceLT, Int.reduceLE, Int.reduceGT, Int.reduceGE, Int.reduceEq, Int.reduceNe, Int.reduceBEq, Int.reduceBNe, Int.reduceAdd, Int.reduceSub, Int.reduceMul, Int.reduceToNat, Int.reduceNeg, ↓reduceIte, ↓reduceDIte]
  refine CT_val bnone_nil ?_
  simp -dsimp only [go_sem, Nat.reduceEqDiff, Nat.reduceAdd, Nat.reduceSub, Nat.reduceMul, Nat.reduceLeDiff, Nat.reduceLT, Nat.reduceBEq, Int.reduceLT, Int.reduceLE, Int.reduceGT, Int.reduceGE, Int.reduceEq, Int.reduceNe, Int.reduceBEq, Int.reduceBNe, Int.reduceAdd, Int.reduceSub, Int.reduceMul, Int.reduceToNat, Int.reduceNeg, ↓reduceIte, ↓reduceDIte]
theorem bres_zero {c : List Value} (h : H[o]? = some (.row false 0 (.bool false :: c))) : callE T 14 lim [ptr o] H fun v H' => v = i64 1 ∧ H' = H := by
  refine callE_pop rfl (by simp) rfl ?_
  simp -dsimp only [go_sem, Nat.reduceEqDiff, Nat.reduceAdd, Nat.reduceSub, Nat.reduceMul, Nat.reduceLeDiff, Nat.reduceLT, Nat.reduceBEq, Int.reduceLT, Int.reduceLE, Int.reduceGT, Int.reduceGE, Int.reduceEq, Int.reduceNe, Int.reduceBEq, Int.reduceBNe, Int.reduceAdd, Int.reduceSub, Int.reduceMul, Int.reduceToNat, Int.reduceNeg, ↓reduceIte, ↓reduceDIte]
  refine callE_pop rfl (by simp) rfl ?_
  simp -dsimp only [go_sem, Nat.reduceEqDiff, Nat.reduceAdd, Nat.reduceSub, Nat.reduceMul, Nat.reduceLeDiff, Nat.reduceLT, Nat.reduceBEq, Int.reduceLT, Int.reduceLE, Int.reduceGT, Int.reduceGE, Int.reduceEq, Int.reduceNe, Int.reduceBEq, Int.reduceBNe, Int.reduceAdd, Int.reduceSub, Int.reduceMul, Int.reduceToNat, Int.reduceNeg, ↓reduceIte, ↓reduceDIte, lget_at h]
theorem bres_ev (h : H[o]? = some (brw a x)) : callE T 14 lim [ptr o] H fun v H' => v = i64 x.code ∧ H' = H := by
  refine callE_pop rfl (by simp) rfl ?_
  simp -dsimp only [go_sem, Nat.reduceEqDiff, Nat.reduceAdd, Nat.reduceSub, Nat.reduceMul, Nat.reduceLeDiff, Nat.reduceLT, Nat.reduceBEq, Int.reduceLT, Int.reduceLE, Int.reduceGT, Int.reduceGE, Int.reduceEq, Int.reduceNe, Int.reduceBEq, Int.reduceBNe, Int.reduceAdd, Int.reduceSub, Int.reduceMul, Int.reduceToNat, Int.reduceNeg, ↓reduceIte, ↓reduceDIte]
  refine CT_val (bnone_ev h) ?_
  simp -dsimp only [go_sem, Nat.reduceEqDiff, Nat.reduceAdd, Nat.reduceSub, Nat.reduceMul, Nat.reduceLeDiff, Nat.reduceLT, Nat.reduceBEq, Int.reduceLT, Int.reduceLE, Int.reduceGT, Int.reduceGE, Int.reduceEq, Int.reduceNe, Int.reduceBEq, Int.reduceBNe, Int.reduceAdd, Int.reduceSub, Int.reduceMul, Int.reduceToNat, Int.reduceNeg, ↓reduceIte, ↓reduceDIte, lget_at h]
theorem bleft_nil : callE T 17 lim [.pointer none] H fun v H' => v = i64 0 ∧ H' = H := by
  refine callE_pop rfl (by simp) rfl ?_
  simp -dsimp only [go_sem, Nat.reduceEqDiff, Nat.reduceAdd, Nat.reduceSub, Nat.reduceMul, Nat.reduceLeDiff, Nat.reduceLT, Nat.reduceBEq, Int.reduceLT, Int.reduceLE, Int.reduceGT, Int.reduceGE, Int.reduceEq, Int.reduceNe, Int.reduceBEq, Int.reduceBNe, Int.reduceAdd, Int.reduceSub, Int.reduceMul, Int.reduceToNat, Int.reduceNeg, ↓reduceIte, ↓reduceDIte]
  refine CT_val bnone_nil ?_
  simp -dsimp only [go_sem, Nat.reduceEqDiff, Nat.reduceAdd, Nat.reduceSub, Nat.reduceMul, Nat.reduceLeDiff, Nat.reduceLT, Nat.reduceBEq, Int.reduceLT, Int.reduceLE, Int.reduceGT, Int.reduceGE, Int.reduceEq, Int.reduceNe, Int.reduceBEq, Int.reduceBNe, Int.reduceAdd, Int.reduceSub, Int.reduceMul, Int.reduceToNat, Int.reduceNeg, ↓reduceIte, ↓reduceDIte]
theorem bleft_ev (h : H[o]? = some (brw a x)) : callE T 17 lim [ptr o] H fun v H' => v = i64 (IntKind.i64.wrap (x.many - x.k)) ∧ H' = H := by
  refine callE_pop rfl (by simp) rfl ?_
  simp -dsimp only [go_sem, Nat.reduceEqDiff, Nat.reduceAdd, Nat.reduceSub, Nat.reduceMul, Nat.reduceLeDiff, Nat.reduceLT, Nat.reduceBEq, Int.reduceLT, Int.reduceLE, Int.reduceGT, Int.reduceGE, Int.reduceEq, Int.reduceNe, Int.reduceBEq, Int.reduceBNe, Int.reduceAdd, Int.reduceSub, Int.reduceMul, Int.reduceToNat, Int.reduceNeg, ↓reduceIte, ↓reduceDIte]
  refine CT_val (bnone_ev h) ?_
  simp -dsimp only [go_sem, Nat.reduceEqDiff, Nat.reduceAdd, Nat.reduceSub, Nat.reduceMul, Nat.reduceLeDiff, Nat.reduceLT, Nat.reduceBEq, Int.reduceLT, Int.reduceLE, Int.reduceGT, Int.reduceGE, Int.reduceEq, Int.reduceNe, Int.reduceBEq, Int.reduceBNe, Int.reduceAdd, Int.reduceSub, Int.reduceMul, Int.reduceToNat, Int.reduceNeg, ↓reduceIte, ↓reduceDIte, lget_at h]
theorem bdone_nil : callE T 15 lim [.pointer none] H fun v H' => v = .bool true ∧ H' = H := by
  refine callE_pop rfl (by simp) rfl ?_
  simp -dsimp only [go_sem, Nat.reduceEqDiff, Nat.reduceAdd, Nat.reduceSub, Nat.reduceMul, Nat.reduceLeDiff, Nat.reduceLT, Nat.reduceBEq, Int.reduceLT, Int.reduceLE, Int.reduceGT, Int.reduceGE, Int.reduceEq, Int.reduceNe, Int.reduceBEq, Int.reduceBNe, Int.reduceAdd, Int.reduceSub, Int.reduceMul, Int.reduceToNat, Int.reduceNeg, ↓reduceIte, ↓reduceDIte]
  refine CT_val bleft_nil ?_
  simp -dsimp only [go_sem, Nat.reduceEqDiff, Nat.reduceAdd, Nat.reduceSub, Nat.reduceMul, Nat.reduceLeDiff, Nat.reduceLT, Nat.reduceBEq, Int.reduceLT, Int.reduceLE, Int.reduceGT, Int.reduceGE, Int.reduceEq, Int.reduceNe, Int.reduceBEq, Int.reduceBNe, Int.reduceAdd, Int.reduceSub, Int.reduceMul, Int.reduceToNat, Int.reduceNeg, ↓reduceIte, ↓reduceDIte]
theorem bdone_ev (h : H[o]? = some (brw a x)) : callE T 15 lim [ptr o] H fun v H' => v = .bool (IntKind.i64.wrap (x.many - x.k) == 0) ∧ H' = H := by
  refine callE_pop rfl (by simp) rfl ?_
  simp -dsimp only [go_sem, Nat.reduceEqDiff, Nat.reduceAdd, Nat.reduceSub, Nat.reduceMul, Nat.reduceLeDiff, Nat.reduceLT, Nat.reduceBEq, Int.reduceLT, Int.reduceLE, Int.reduceGT, Int.reduceGE, Int.reduceEq, Int.reduceNe, Int.reduceBEq, Int.reduceBNe, Int.reduceAdd, Int.reduceSub, Int.reduceMul, Int.reduceToNat, Int.reduceNeg, ↓reduceIte, ↓reduceDIte]
  refine CT_val (bleft_ev h) ?_
  simp -dsimp only [go_sem, Nat.reduceEqDiff, Nat.reduceAdd, Nat.reduceSub, Nat.reduceMul, Nat.reduceLeDiff, Nat.reduceLT, Nat.reduceBEq, Int.reduceLT, Int.reduceLE, Int.reduceGT, Int.reduceGE, Int.reduceEq, Int.reduceNe, Int.reduceBEq, Int.reduceBNe, Int.reduceAdd, Int.reduceSub, Int.reduceMul, Int.reduceToNat, Int.reduceNeg, ↓reduceIte, ↓reduceDIte]
theorem bstep_nil {v : Value} : callE T 16 lim [.pointer none, v] H fun v H' => v = .bool true ∧ H' = H := by
  refine callE_stay rfl (by simp) rfl ?_
  simp -dsimp only [go_sem, Nat.reduceEqDiff, Nat.reduceAdd, Nat.reduceSub, Nat.reduceMul, Nat.reduceLeDiff, Nat.reduceLT, Nat.reduceBEq, Int.reduceLT, Int.reduceLE, Int.reduceGT, Int.reduceGE, Int.reduceEq, Int.reduceNe, Int.reduceBEq, Int.reduceBNe, Int.reduceAdd, Int.reduceSub, Int.reduceMul, Int.reduceToNat, Int.reduceNeg, ↓reduceIte, ↓reduceDIte]
  refine CT_val bdone_nil ?_
  simp -dsimp only [go_sem, Nat.reduceEqDiff, Nat.reduceAdd, Nat.reduceSub, Nat.reduceMul, Nat.reduceLeDiff, Nat.reduceLT, Nat.reduceBEq, Int.reduceLT, Int.reduceLE, Int.reduceGT, Int.reduceGE, Int.reduceEq, Int.reduceNe, Int.reduceBEq, Int.reduceBNe, Int.reduceAdd, Int.reduceSub, Int.reduceMul, Int.reduceToNat, Int.reduceNeg, ↓reduceIte, ↓reduceDIte]
  refine CT_val bdone_nil ?_
  simp -dsimp only [go_sem, Nat.reduceEqDiff, Nat.reduceAdd, Nat.reduceSub, Nat.reduceMul, Nat.reduceLeDiff, Nat.reduceLT, Nat.reduceBEq, Int.reduceLT, Int.reduceLE, Int.reduceGT, Int.reduceGE, Int.reduceEq, Int.reduceNe, Int.reduceBEq, Int.reduceBNe, Int.reduceAdd, Int.reduceSub, Int.reduceMul, Int.reduceToNat, Int.reduceNeg, ↓reduceIte, ↓reduceDIte]
theorem bwords_nil : callE T 18 lim [.pointer none] H fun v H' => v = .slice none 0 0 ∧ H' = H := by
  refine callE_stay rfl (by simp) rfl ?_
  simp -dsimp only [go_sem, Nat.reduceEqDiff, Nat.reduceAdd, Nat.reduceSub, Nat.reduceMul, Nat.reduceLeDiff, Nat.reduceLT, Nat.reduceBEq, Int.reduceLT, Int.reduceLE, Int.reduceGT, Int.reduceGE, Int.reduceEq, Int.reduceNe, Int.reduceBEq, Int.reduceBNe, Int.reduceAdd, Int.reduceSub, Int.reduceMul, Int.reduceToNat, Int.reduceNeg, ↓reduceIte, ↓reduceDIte]
  refine CT_val bnone_nil ?_
  simp -dsimp only [go_sem, Nat.reduceEqDiff, Nat.reduceAdd, Nat.reduceSub, Nat.reduceMul, Nat.reduceLeDiff, Nat.reduceLT, Nat.reduceBEq, Int.reduceLT, Int.reduceLE, Int.reduceGT, Int.reduceGE, Int.reduceEq, Int.reduceNe, Int.reduceBEq, Int.reduceBNe, Int.reduceAdd, Int.reduceSub, Int.reduceMul, Int.reduceToNat, Int.reduceNeg, ↓reduceIte, ↓reduceDIte]
/-- What begins. -/
def BOp.begins (x : BOp) : BOp := if x.many < 1 ∨ 8 < x.many ∨ x.at_ < 0 then { x with many := 0, code := 2 } else x
theorem bbegin_ev (hl : lim ≤ H.length) : callE T 26 lim [.agg #[.bool false, i64 x.at_, .bool x.reads, .slice a x.words.length x.words.length, i64 x.k, i64 x.many, i64 x.code]] H fun v H' => v = ptr H.length ∧ H' = H ++ [brw a x.begins] := by
  refine callE_stay rfl (by simp) rfl ?_
  by_cases h1 : x.many < 1
  · simp -dsimp only [go_sem, Nat.reduceEqDiff, Nat.reduceAdd, Nat.reduceSub, Nat.reduceMul, Nat.reduceLeDiff, Nat.reduceLT, Nat.reduceBEq, Int.reduceLT, Int.reduceLE, Int.reduceGT, Int.reduceGE, Int.reduceEq, Int.reduceNe, Int.reduceBEq, Int.reduceBNe, Int.reduceAdd, Int.reduceSub, Int.reduceMul, Int.reduceToNat, Int.reduceNeg, ↓reduceIte, ↓reduceDIte, h1, hl]
    simp [BOp.begins, h1]
  · by_cases h2 : 8 < x.many
    · simp -dsimp only [go_sem, Nat.reduceEqDiff, Nat.reduceAdd, Nat.reduceSub, Nat.reduceMul, Nat.reduceLeDiff, Nat.reduceLT, Nat.reduceBEq, Int.reduceLT, Int.reduceLE, Int.reduceGT, Int.reduceGE, Int.reduceEq, Int.reduceNe, Int.reduceBEq, Int.reduceBNe, Int.reduceAdd, Int.reduceSub, Int.reduceMul, Int.reduceToNat, Int.reduceNeg, ↓reduceIte, ↓reduceDIte, h1, h2, hl]
      simp [BOp.begins, h1, h2]
    · by_cases h3 : x.at_ < 0
      · simp -dsimp only [go_sem, Nat.reduceEqDiff, Nat.reduceAdd, Nat.reduceSub, Nat.reduceMul, Nat.reduceLeDiff, Nat.reduceLT, Nat.reduceBEq, Int.reduceLT, Int.reduceLE, Int.reduceGT, Int.reduceGE, Int.reduceEq, Int.reduceNe, Int.reduceBEq, Int.reduceBNe, Int.reduceAdd, Int.reduceSub, Int.reduceMul, Int.reduceToNat, Int.reduceNeg, ↓reduceIte, ↓reduceDIte, h1, h2, h3, hl]
        simp [BOp.begins, h1, h2, h3]
      · simp -dsimp only [go_sem, Nat.reduceEqDiff, Nat.reduceAdd, Nat.reduceSub, Nat.reduceMul, Nat.reduceLeDiff, Nat.reduceLT, Nat.reduceBEq, Int.reduceLT, Int.reduceLE, Int.reduceGT, Int.reduceGE, Int.reduceEq, Int.reduceNe, Int.reduceBEq, Int.reduceBNe, Int.reduceAdd, Int.reduceSub, Int.reduceMul, Int.reduceToNat, Int.reduceNeg, ↓reduceIte, ↓reduceDIte, h1, h2, h3, hl]
        simp [BOp.begins, h1, h2, h3]
theorem bread_ev (hl : lim ≤ H.length) {p q : Int} : callE T 13 lim [i64 p, i64 q] H fun v H' => v = ptr H.length ∧ H' = H ++ [brw none (BOp.begins ⟨p, true, [], 0, q, 0⟩)] := by
  refine callE_stay rfl (by simp) rfl ?_
  simp -dsimp only [go_sem, Nat.reduceEqDiff, Nat.reduceAdd, Nat.reduceSub, Nat.reduceMul, Nat.reduceLeDiff, Nat.reduceLT, Nat.reduceBEq, Int.reduceLT, Int.reduceLE, Int.reduceGT, Int.reduceGE, Int.reduceEq, Int.reduceNe, Int.reduceBEq, Int.reduceBNe, Int.reduceAdd, Int.reduceSub, Int.reduceMul, Int.reduceToNat, Int.reduceNeg, ↓reduceIte, ↓reduceDIte]
  refine CT_val (bbegin_ev (x := ⟨p, true, [], 0, q, 0⟩) hl) ?_
  simp -dsimp only [go_sem, Nat.reduceEqDiff, Nat.reduceAdd, Nat.reduceSub, Nat.reduceMul, Nat.reduceLeDiff, Nat.reduceLT, Nat.reduceBEq, Int.reduceLT, Int.reduceLE, Int.reduceGT, Int.reduceGE, Int.reduceEq, Int.reduceNe, Int.reduceBEq, Int.reduceBNe, Int.reduceAdd, Int.reduceSub, Int.reduceMul, Int.reduceToNat, Int.reduceNeg, ↓reduceIte, ↓reduceDIte]
theorem bwrite_ev (hl : lim ≤ H.length) {p : Int} {l : List (BitVec 64)} (hs : Sl 1 H a (l.map w64)) (hn : l.length < 1000000) : callE T 20 lim [i64 p, .slice a l.length l.length] H fun v H' =>
    ∃ a' t, v = ptr (H.length + t.length) ∧ H' = H ++ (t ++ [brw a' (BOp.begins ⟨p, false, l.take 8, 0, l.length, 0⟩)]) ∧ Own 1 (H ++ t) H.length a' ((l.take 8).map w64) := by
  refine callE_stay rfl (by simp) rfl ?_
  have hlt : (l.take 8).length = min 8 l.length := by simp
  by_cases h0 : l = []
  · subst h0
    simp -dsimp only [go_sem, Nat.reduceEqDiff, Nat.reduceAdd, Nat.reduceSub, Nat.reduceMul, Nat.reduceLeDiff, Nat.reduceLT, Nat.reduceBEq, Int.reduceLT, Int.reduceLE, Int.reduceGT, Int.reduceGE, Int.reduceEq, Int.reduceNe, Int.reduceBEq, Int.reduceBNe, Int.reduceAdd, Int.reduceSub, Int.reduceMul, Int.reduceToNat, Int.reduceNeg, ↓reduceIte, ↓reduceDIte]
    have hh : lslice H 1 (.slice a 0 0) none (some (.int .i64 0)) none = some (.slice a 0 0) := by
      rcases hs with ⟨rfl, _⟩ | ⟨b, o, ro, es, cc, rfl, g2, g3, g4, g5⟩
      · rfl
      · simp [lslice, lbound, g2, g5]
    simp -dsimp only [go_sem, Nat.reduceEqDiff, Nat.reduceAdd, Nat.reduceSub, Nat.reduceMul, Nat.reduceLeDiff, Nat.reduceLT, Nat.reduceBEq, Int.reduceLT, Int.reduceLE, Int.reduceGT, Int.reduceGE, Int.reduceEq, Int.reduceNe, Int.reduceBEq, Int.reduceBNe, Int.reduceAdd, Int.reduceSub, Int.reduceMul, Int.reduceToNat, Int.reduceNeg, ↓reduceIte, ↓reduceDIte, hh]
    refine CT_of (clone_ev (l := []) hl hs rfl (by decide) (fun _ => rfl)) ?_
    rintro _ _ ⟨a', t, rfl, rfl, g⟩
    simp -dsimp only [go_sem, Nat.reduceEqDiff, Nat.reduceAdd, Nat.reduceSub, Nat.reduceMul, Nat.reduceLeDiff, Nat.reduceLT, Nat.reduceBEq, Int.reduceLT, Int.reduceLE, Int.reduceGT, Int.reduceGE, Int.reduceEq, Int.reduceNe, Int.reduceBEq, Int.reduceBNe, Int.reduceAdd, Int.reduceSub, Int.reduceMul, Int.reduceToNat, Int.reduceNeg, ↓reduceIte, ↓reduceDIte]
    refine CT_val (bbegin_ev (x := ⟨p, false, [], 0, 0, 0⟩) (by simp; omega)) ?_
    simp -dsimp only [go_sem, Nat.reduceEqDiff, Nat.reduceAdd, Nat.reduceSub, Nat.reduceMul, Nat.reduceLeDiff, Nat.reduceLT, Nat.reduceBEq, Int.reduceLT, Int.reduceLE, Int.reduceGT, Int.reduceGE, Int.reduceEq, Int.reduceNe, Int.reduceBEq, Int.reduceBNe, Int.reduceAdd, Int.reduceSub, Int.reduceMul, Int.reduceToNat, Int.reduceNeg, ↓reduceIte, ↓reduceDIte]
    exact ⟨a', t, rfl, rfl, g⟩
  · have hpos : 0 < l.length := List.length_pos_iff.2 h0
    have hq : (if (8 : Int) < l.length then (8 : Int) else l.length) = ((l.take 8).length : Nat) := by
      rw [hlt]; split <;> omega
    obtain ⟨g1, g2⟩ := Sl.upto (kk := .i64) (k := (l.take 8).length) hs (by decide) (n := l.length) (cap := l.length) (by simp) (by rw [hlt]; omega) hpos (Nat.le_refl _)
    have g1 := g1 []
    have e2 : (l.map w64).take ((l.take 8).length * 1) = (l.take 8).map w64 := by
      rw [Nat.mul_one, hlt, ← List.map_take]
      congr 1
      rw [List.take_eq_take_iff]; omega
    rw [e2] at g2
    simp only [List.append_nil] at g1
    simp -dsimp only [go_sem, Nat.reduceEqDiff, Nat.reduceAdd, Nat.reduceSub, Nat.reduceMul, Nat.reduceLeDiff, Nat.reduceLT, Nat.reduceBEq, Int.reduceLT, Int.reduceLE, Int.reduceGT, Int.reduceGE, Int.reduceEq, Int.reduceNe, Int.reduceBEq, Int.reduceBNe, Int.reduceAdd, Int.reduceSub, Int.reduceMul, Int.reduceToNat, Int.reduceNeg, ↓reduceIte, ↓reduceDIte, hq, g1]
    refine CT_of (clone_ev (l := l.take 8) hl g2 rfl (by omega) ?_) ?_
    · rintro rfl
      rcases hs with ⟨_, hs⟩ | ⟨b, o, ro, es, cc, hs, _⟩
      · simp at hs; exact absurd hs h0
      · cases hs
    rintro _ _ ⟨a', t, rfl, rfl, g⟩
    simp -dsimp only [go_sem, Nat.reduceEqDiff, Nat.reduceAdd, Nat.reduceSub, Nat.reduceMul, Nat.reduceLeDiff, Nat.reduceLT, Nat.reduceBEq, Int.reduceLT, Int.reduceLE, Int.reduceGT, Int.reduceGE, Int.reduceEq, Int.reduceNe, Int.reduceBEq, Int.reduceBNe, Int.reduceAdd, Int.reduceSub, Int.reduceMul, Int.reduceToNat, Int.reduceNeg, ↓reduceIte, ↓reduceDIte]
    refine CT_val (bbegin_ev (x := ⟨p, false, l.take 8, 0, l.length, 0⟩) (by simp; omega)) ?_
    simp -dsimp only [go_sem, Nat.reduceEqDiff, Nat.reduceAdd, Nat.reduceSub, Nat.reduceMul, Nat.reduceLeDiff, Nat.reduceLT, Nat.reduceBEq, Int.reduceLT, Int.reduceLE, Int.reduceGT, Int.reduceGE, Int.reduceEq, Int.reduceNe, Int.reduceBEq, Int.reduceBNe, Int.reduceAdd, Int.reduceSub, Int.reduceMul, Int.reduceToNat, Int.reduceNeg, ↓reduceIte, ↓reduceDIte]
    exact ⟨a', t, rfl, rfl, g⟩
theorem beachW_ev {b : Nat} (hl : lim ≤ H.length) (h : H[o]? = some (brw a x)) (hr : x.reads = false) : callE T 29 lim [ptr o, ptr b] H fun v H' => v = .func (.func 37) #[] #[ptr (H.length + 1), ptr H.length] ∧ H' = H ++ [.row false 0 [ptr o], .row false 0 [ptr b]] := by
  refine callE_stay rfl (by simp) rfl ?_
  have l := (List.getElem?_eq_some_iff.1 h).1
  simp -dsimp only [go_sem, Nat.reduceEqDiff, Nat.reduceAdd, Nat.reduceSub, Nat.reduceMul, Nat.reduceLeDiff, Nat.reduceLT, Nat.reduceBEq, Int.reduceLT, Int.reduceLE, Int.reduceGT, Int.reduceGE, Int.reduceEq, Int.reduceNe, Int.reduceBEq, Int.reduceBNe, Int.reduceAdd, Int.reduceSub, Int.reduceMul, Int.reduceToNat, Int.reduceNeg, ↓reduceIte, ↓reduceDIte, hl, lget_left l, lget_at h, hr]
theorem beachR_ev {b : Nat} (hl : lim ≤ H.length) (h : H[o]? = some (brw a x)) (hr : x.reads = true) : callE T 29 lim [ptr o, ptr b] H fun v H' => v = .func (.func 35) #[] #[ptr H.length, ptr (H.length + 1)] ∧ H' = H ++ [.row false 0 [ptr o], .row false 0 [ptr b]] := by
  refine callE_stay rfl (by simp) rfl ?_
  have l := (List.getElem?_eq_some_iff.1 h).1
  simp -dsimp only [go_sem, Nat.reduceEqDiff, Nat.reduceAdd, Nat.reduceSub, Nat.reduceMul, Nat.reduceLeDiff, Nat.reduceLT, Nat.reduceBEq, Int.reduceLT, Int.reduceLE, Int.reduceGT, Int.reduceGE, Int.reduceEq, Int.reduceNe, Int.reduceBEq, Int.reduceBNe, Int.reduceAdd, Int.reduceSub, Int.reduceMul, Int.reduceToNat, Int.reduceNeg, ↓reduceIte, ↓reduceDIte, hl, lget_left l, lget_at h, hr]
/-- A step of one that stores. -/
theorem bstepW_ev {b pw pb : Nat} {m : MV} (hlo : lim ≤ o) (hlH : lim ≤ H.length) (h : H[o]? = some (brw a x)) (hs : Sl 1 H a (x.words.map w64)) (hm : MemAt H b pw pb m) (h1 : o ≠ b) (h2 : o ≠ pw) (h3 : o ≠ pb)
    {k : Nat} {w : BitVec 64} (hr : x.reads = false) (hk : x.k = k) (hw : x.words[k]? = some w) (hmany : x.many = x.words.length) (h8 : x.words.length ≤ 8) (ha : 0 ≤ x.at_ ∧ x.at_ ≤ 1000000) :
    callE T 16 lim [ptr o, ptr b] H fun v H' => ∃ t, v = .bool (decide ((x.words.length : Int) = k + 1)) ∧ H' = memPut (H.set o (brw a { x with k := (k + 1 : Nat) })) b pw pb (m.use 1 (x.at_ + k) fun _ => w) ++ t := by
  refine callE_stay rfl (by simp) rfl ?_
  have l := (List.getElem?_eq_some_iff.1 h).1
  have hlt : k < x.words.length := (List.getElem?_eq_some_iff.1 hw).1
  have q1 : (IntKind.i64.wrap (x.many - x.k) == 0) = false := by rw [hmany, hk, wrap_i64 (by omega) (by omega), beq_eq_false_iff_ne]; omega
  have hpos : (0 : Int) < m.w.length := by have := hm.pos; omega
  simp -dsimp only [go_sem, Nat.reduceEqDiff, Nat.reduceAdd, Nat.reduceSub, Nat.reduceMul, Nat.reduceLeDiff, Nat.reduceLT, Nat.reduceBEq, Int.reduceLT, Int.reduceLE, Int.reduceGT, Int.reduceGE, Int.reduceEq, Int.reduceNe, Int.reduceBEq, Int.reduceBNe, Int.reduceAdd, Int.reduceSub, Int.reduceMul, Int.reduceToNat, Int.reduceNeg, ↓reduceIte, ↓reduceDIte]
  refine CT_val (bdone_ev h) ?_
  simp -dsimp only [go_sem, Nat.reduceEqDiff, Nat.reduceAdd, Nat.reduceSub, Nat.reduceMul, Nat.reduceLeDiff, Nat.reduceLT, Nat.reduceBEq, Int.reduceLT, Int.reduceLE, Int.reduceGT, Int.reduceGE, Int.reduceEq, Int.reduceNe, Int.reduceBEq, Int.reduceBNe, Int.reduceAdd, Int.reduceSub, Int.reduceMul, Int.reduceToNat, Int.reduceNeg, ↓reduceIte, ↓reduceDIte, q1]
  refine CT_val (len_ev hm) ?_
  simp -dsimp only [go_sem, Nat.reduceEqDiff, Nat.reduceAdd, Nat.reduceSub, Nat.reduceMul, Nat.reduceLeDiff, Nat.reduceLT, Nat.reduceBEq, Int.reduceLT, Int.reduceLE, Int.reduceGT, Int.reduceGE, Int.reduceEq, Int.reduceNe, Int.reduceBEq, Int.reduceBNe, Int.reduceAdd, Int.reduceSub, Int.reduceMul, Int.reduceToNat, Int.reduceNeg, ↓reduceIte, ↓reduceDIte, hpos, lget_at h, hk]
  refine CT_val (beachW_ev hlH h hr) ?_
  simp -dsimp only [go_sem, Nat.reduceEqDiff, Nat.reduceAdd, Nat.reduceSub, Nat.reduceMul, Nat.reduceLeDiff, Nat.reduceLT, Nat.reduceBEq, Int.reduceLT, Int.reduceLE, Int.reduceGT, Int.reduceGE, Int.reduceEq, Int.reduceNe, Int.reduceBEq, Int.reduceBNe, Int.reduceAdd, Int.reduceSub, Int.reduceMul, Int.reduceToNat, Int.reduceNeg, ↓reduceIte, ↓reduceDIte, lget_left l, lget_at h, hk]
  refine callE_pop rfl (by simp) rfl ?_
  have a0 : IntKind.i64.wrap (x.at_ + (k : Int)) = x.at_ + k := wrap_i64 (by omega) (by omega)
  have k0 : 0 ≤ (k : Int) := by omega
  have k1 : (k : Int) < x.words.length := by omega
  obtain ⟨bw, ow, rfl, _, hg⟩ := hs.all (by simp; omega)
  have hg1 := hg [] k (w64 w) (by simp [hw])
  simp only [List.append_nil] at hg1
  have lw : bw < H.length := by
    have := hg1
    unfold lget at this
    split at this
    · rename_i q; exact (List.getElem?_eq_some_iff.1 q).1
    · cases this
  simp -dsimp only [go_sem, Nat.reduceEqDiff, Nat.reduceAdd, Nat.reduceSub, Nat.reduceMul, Nat.reduceLeDiff, Nat.reduceLT, Nat.reduceBEq, Int.reduceLT, Int.reduceLE, Int.reduceGT, Int.reduceGE, Int.reduceEq, Int.reduceNe, Int.reduceBEq, Int.reduceBNe, Int.reduceAdd, Int.reduceSub, Int.reduceMul, Int.reduceToNat, Int.reduceNeg, ↓reduceIte, ↓reduceDIte, lget_left l, lget_at h, hk, k0, k1, a0, lget_left lw, hg1]
  refine CT_heap (store_ev (hm.app _)) ?_
  intro v
  rw [memPut_app hm]
  have hr2 : (memPut H b pw pb (m.use 1 (x.at_ + k) fun _ => w))[o]? = some (brw (some ⟨bw, ow, none⟩) x) := by rw [memPut_get _ h1.symm h2.symm h3.symm]; exact h
  have l2 : o < (memPut H b pw pb (m.use 1 (x.at_ + k) fun _ => w)).length := by rw [memPut_len]; exact l
  have w1 : IntKind.i64.wrap ((k : Int) + 1) = ((k + 1 : Nat) : Int) := by rw [wrap_i64] <;> omega
  have hT : (memPut H b pw pb (m.use 1 (x.at_ + k) fun _ => w) ++ [LObj.row false 0 [ptr o], LObj.row false 0 [ptr b]]).take (H.length + 2) = memPut H b pw pb (m.use 1 (x.at_ + k) fun _ => w) ++ [LObj.row false 0 [ptr o], LObj.row false 0 [ptr b]] :=
    List.take_of_length_le (by simp [memPut_len])
  have hset : (memPut H b pw pb (m.use 1 (x.at_ + k) fun _ => w)).set o (brw (some ⟨bw, ow, none⟩) { x with k := (k + 1 : Nat) }) = memPut (H.set o (brw (some ⟨bw, ow, none⟩) { x with k := (k + 1 : Nat) })) b pw pb (m.use 1 (x.at_ + k) fun _ => w) := memPut_set_off h1 h2 h3 _ _
  simp -dsimp only [go_sem, Nat.reduceEqDiff, Nat.reduceAdd, Nat.reduceSub, Nat.reduceMul, Nat.reduceLeDiff, Nat.reduceLT, Nat.reduceBEq, Int.reduceLT, Int.reduceLE, Int.reduceGT, Int.reduceGE, Int.reduceEq, Int.reduceNe, Int.reduceBEq, Int.reduceBNe, Int.reduceAdd, Int.reduceSub, Int.reduceMul, Int.reduceToNat, Int.reduceNeg, ↓reduceIte, ↓reduceDIte, lget_left l2, get_left l2, lget_at hr2, hr2, hk, hT, memPut_len, w1, set_left l2]
  rw [hset]
  have hr3 : (memPut (H.set o (brw (some ⟨bw, ow, none⟩) { x with k := (k + 1 : Nat) })) b pw pb (m.use 1 (x.at_ + k) fun _ => w) ++ [LObj.row false 0 [ptr o], LObj.row false 0 [ptr b]])[o]? = some (brw (some ⟨bw, ow, none⟩) { x with k := (k + 1 : Nat) }) := by
    refine get_old ?_ _
    rw [memPut_get _ h1.symm h2.symm h3.symm, get_set_eq l]
  refine CT_val (bdone_ev hr3) ?_
  have hd : (IntKind.i64.wrap (x.many - ((k + 1 : Nat) : Int)) == 0) = decide ((x.words.length : Int) = k + 1) := by
    rw [hmany, wrap_i64 (by omega) (by omega)]
    rw [Bool.eq_iff_iff, beq_iff_eq, decide_eq_true_eq]; omega
  simp -dsimp only [go_sem, Nat.reduceEqDiff, Nat.reduceAdd, Nat.reduceSub, Nat.reduceMul, Nat.reduceLeDiff, Nat.reduceLT, Nat.reduceBEq, Int.reduceLT, Int.reduceLE, Int.reduceGT, Int.reduceGE, Int.reduceEq, Int.reduceNe, Int.reduceBEq, Int.reduceBNe, Int.reduceAdd, Int.reduceSub, Int.reduceMul, Int.reduceToNat, Int.reduceNeg, ↓reduceIte, ↓reduceDIte, hd]
  exact ⟨_, rfl⟩
/-- One that loads. -/
theorem bstepR_ev {b pw pb lo : Nat} {m : MV} {w : List (BitVec 64)} (hlo : lim ≤ o) (hlH : lim ≤ H.length) (h : H[o]? = some (brw a x)) (hs : Own 1 H lo a (x.words.map w64)) (hm : MemAt H b pw pb m) (cl : Clean m w) (h1 : o ≠ b) (h2 : o ≠ pw) (h3 : o ≠ pb)
    (l0 : o < lo) (l1 : b < lo) (l2 : pw < lo) (l3 : pb < lo) (l4 : lim ≤ lo) (l5 : lo ≤ H.length)
    {k : Nat} (hr : x.reads = true) (hk : x.k = k) (hw : x.words.length = k) (hmany : k < x.many) (h8 : x.many ≤ 8) (ha : 0 ≤ x.at_ ∧ x.at_ + 8 ≤ w.length) :
    callE T 16 lim [ptr o, ptr b] H fun v H' => ∃ a', v = .bool (decide (x.many = k + 1)) ∧ H'[o]? = some (brw a' { x with k := (k + 1 : Nat), words := x.words ++ [w.getD (x.at_ + k).toNat 0] }) ∧ Own 1 H' lo a' ((x.words ++ [w.getD (x.at_ + k).toNat 0]).map w64) ∧
      MemAt H' b pw pb (m.use 0 (x.at_ + k) id) ∧ H.length ≤ H'.length ∧ ∀ j, j < lo → j ≠ o → j ≠ b → j ≠ pw → j ≠ pb → H'[j]? = H[j]? := by
  refine callE_stay rfl (by simp) rfl ?_
  have l := (List.getElem?_eq_some_iff.1 h).1
  have hle := cl.le
  have q1 : (IntKind.i64.wrap (x.many - x.k) == 0) = false := by rw [hk, wrap_i64 (by omega) (by omega), beq_eq_false_iff_ne]; omega
  have hpos : (0 : Int) < m.w.length := by have := hm.pos; omega
  simp -dsimp only [go_sem, Nat.reduceEqDiff, Nat.reduceAdd, Nat.reduceSub, Nat.reduceMul, Nat.reduceLeDiff, Nat.reduceLT, Nat.reduceBEq, Int.reduceLT, Int.reduceLE, Int.reduceGT, Int.reduceGE, Int.reduceEq, Int.reduceNe, Int.reduceBEq, Int.reduceBNe, Int.reduceAdd, Int.reduceSub, Int.reduceMul, Int.reduceToNat, Int.reduceNeg, ↓reduceIte, ↓reduceDIte]
  refine CT_val (bdone_ev h) ?_
  simp -dsimp only [go_sem, Nat.reduceEqDiff, Nat.reduceAdd, Nat.reduceSub, Nat.reduceMul, Nat.reduceLeDiff, Nat.reduceLT, Nat.reduceBEq, Int.reduceLT, Int.reduceLE, Int.reduceGT, Int.reduceGE, Int.reduceEq, Int.reduceNe, Int.reduceBEq, Int.reduceBNe, Int.reduceAdd, Int.reduceSub, Int.reduceMul, Int.reduceToNat, Int.reduceNeg, ↓reduceIte, ↓reduceDIte, q1]
  refine CT_val (len_ev hm) ?_
  simp -dsimp only [go_sem, Nat.reduceEqDiff, Nat.reduceAdd, Nat.reduceSub, Nat.reduceMul, Nat.reduceLeDiff, Nat.reduceLT, Nat.reduceBEq, Int.reduceLT, Int.reduceLE, Int.reduceGT, Int.reduceGE, Int.reduceEq, Int.reduceNe, Int.reduceBEq, Int.reduceBNe, Int.reduceAdd, Int.reduceSub, Int.reduceMul, Int.reduceToNat, Int.reduceNeg, ↓reduceIte, ↓reduceDIte, hpos, lget_at h, hk]
  refine CT_val (beachR_ev hlH h hr) ?_
  simp -dsimp only [go_sem, Nat.reduceEqDiff, Nat.reduceAdd, Nat.reduceSub, Nat.reduceMul, Nat.reduceLeDiff, Nat.reduceLT, Nat.reduceBEq, Int.reduceLT, Int.reduceLE, Int.reduceGT, Int.reduceGE, Int.reduceEq, Int.reduceNe, Int.reduceBEq, Int.reduceBNe, Int.reduceAdd, Int.reduceSub, Int.reduceMul, Int.reduceToNat, Int.reduceNeg, ↓reduceIte, ↓reduceDIte, lget_left l, lget_at h, hk]
  refine callE_stay rfl (by simp) rfl ?_
  have a0 : IntKind.i64.wrap (x.at_ + (k : Int)) = x.at_ + k := wrap_i64 (by omega) (by omega)
  simp -dsimp only [go_sem, Nat.reduceEqDiff, Nat.reduceAdd, Nat.reduceSub, Nat.reduceMul, Nat.reduceLeDiff, Nat.reduceLT, Nat.reduceBEq, Int.reduceLT, Int.reduceLE, Int.reduceGT, Int.reduceGE, Int.reduceEq, Int.reduceNe, Int.reduceBEq, Int.reduceBNe, Int.reduceAdd, Int.reduceSub, Int.reduceMul, Int.reduceToNat, Int.reduceNeg, ↓reduceIte, ↓reduceDIte, lget_left l, lget_at h, hk, a0]
  refine CT_val (load_ev (hm.app _)) ?_
  have hld : m.load (x.at_ + k) = w.getD (x.at_ + k).toNat 0 := by rw [MV.load, cl.bad (by omega) (by omega), cl.at]; rfl
  rw [memPut_app hm, hld]
  have hr2 : (memPut H b pw pb (m.use 0 (x.at_ + k) id))[o]? = some (brw a x) := by rw [memPut_get _ h1.symm h2.symm h3.symm]; exact h
  have hl2 : o < (memPut H b pw pb (m.use 0 (x.at_ + k) id)).length := by rw [memPut_len]; exact l
  have hm2 : MemAt (memPut H b pw pb (m.use 0 (x.at_ + k) id)) b pw pb (m.use 0 (x.at_ + k) id) := hm.put (MV.use_len _ _ _ _).1 (by rw [(MV.use_len _ _ _ _).2]; exact hm.len)
  have hs2 : Own 1 (memPut H b pw pb (m.use 0 (x.at_ + k) id)) lo a (x.words.map w64) := by
    rcases hs with ⟨e1, e2⟩ | ⟨q, e1, e2, e3⟩
    · exact .inl ⟨e1, e2⟩
    · exact .inr ⟨q, e1, e2, by rw [memPut_get _ (by omega) (by omega) (by omega)]; exact e3⟩
  have hpres : ∀ j, j ≠ b → j ≠ pw → j ≠ pb → (memPut H b pw pb (m.use 0 (x.at_ + k) id))[j]? = H[j]? := fun j g1 g2 g3 => memPut_get _ g1.symm g2.symm g3.symm
  have hlen := memPut_len H b pw pb (m.use 0 (x.at_ + k) id)
  generalize memPut H b pw pb (m.use 0 (x.at_ + k) id) = K at *
  have e0 : (K ++ [LObj.row false 0 [ptr o], LObj.row false 0 [ptr b]])[H.length]? = some (.row false 0 [ptr o]) := by rw [← hlen]; exact get_app0 _ _
  have g0 := lget_at (get_old e0 [.row false 1 [w64 (w.getD (x.at_ + k).toNat 0)]]) 0
  have w1 : IntKind.i64.wrap ((k : Int) + 1) = ((k + 1 : Nat) : Int) := by rw [wrap_i64] <;> omega
  simp only [List.append_assoc, List.cons_append, List.nil_append, List.getElem?_cons_zero] at g0
  simp -dsimp only [go_sem, Nat.reduceEqDiff, Nat.reduceAdd, Nat.reduceSub, Nat.reduceMul, Nat.reduceLeDiff, Nat.reduceLT, Nat.reduceBEq, Int.reduceLT, Int.reduceLE, Int.reduceGT, Int.reduceGE, Int.reduceEq, Int.reduceNe, Int.reduceBEq, Int.reduceBNe, Int.reduceAdd, Int.reduceSub, Int.reduceMul, Int.reduceToNat, Int.reduceNeg, ↓reduceIte, ↓reduceDIte, lget_left hl2, get_left hl2, lget_at hr2, hr2, hk, w1, set_left hl2, g0, hw]
  have hoff : Off H.length a := by
    rcases hs with ⟨e1, e2⟩ | ⟨q, e1, e2, e3⟩
    · intro z hz; rw [e1] at hz; cases hz
    · intro z hz; rw [e1] at hz; cases hz
      have := (List.getElem?_eq_some_iff.1 e3).1
      simp only; omega
  have hoff2 : ∀ j, j < lo → Off j a := by
    intro j hj z hz q
    have := hs.fresh z hz
    omega
  obtain ⟨a', K', p1, p2, p3, p4, p5⟩ := Own.push (lim := lim) (bytes := 8) (k := k) (news := [w64 (w.getD (x.at_ + k).toNat 0)]) (hs2.app [LObj.row false 0 [ptr o], LObj.row false 0 [ptr b], .row false 1 [w64 (w.getD (x.at_ + k).toNat 0)]]) (by simp [hw]) (by decide) l4 (by simp; omega) (by omega) (by omega)
  rw [p1]
  have hlen2 : (K ++ [LObj.row false 0 [ptr o], LObj.row false 0 [ptr b], .row false 1 [w64 (w.getD (x.at_ + k).toNat 0)]]).length = K.length + 3 := by simp
  have hK' : ∀ j, j < K.length → Off j a → K'[j]? = K[j]? := fun j hj ho => by rw [p4 j (by omega) ho, get_left hj]
  have r1 : K'[o]? = some (brw a x) := by rw [hK' o (by omega) (hoff2 o l0)]; exact hr2
  have r2 : K'[H.length]? = some (.row false 0 [ptr o]) := by
    rw [p4 _ (by omega) hoff, ← hlen]; exact get_app0 _ _
  have lo1 : o < K'.length := by omega
  have g5 := lget_at r2 0
  simp only [List.getElem?_cons_zero] at g5
  simp -dsimp only [go_sem, Nat.reduceEqDiff, Nat.reduceAdd, Nat.reduceSub, Nat.reduceMul, Nat.reduceLeDiff, Nat.reduceLT, Nat.reduceBEq, Int.reduceLT, Int.reduceLE, Int.reduceGT, Int.reduceGE, Int.reduceEq, Int.reduceNe, Int.reduceBEq, Int.reduceBNe, Int.reduceAdd, Int.reduceSub, Int.reduceMul, Int.reduceToNat, Int.reduceNeg, ↓reduceIte, ↓reduceDIte, lget_at r1, r1, g5, hlo]
  simp -dsimp only [go_sem, Nat.reduceEqDiff, Nat.reduceAdd, Nat.reduceSub, Nat.reduceMul, Nat.reduceLeDiff, Nat.reduceLT, Nat.reduceBEq, Int.reduceLT, Int.reduceLE, Int.reduceGT, Int.reduceGE, Int.reduceEq, Int.reduceNe, Int.reduceBEq, Int.reduceBNe, Int.reduceAdd, Int.reduceSub, Int.reduceMul, Int.reduceToNat, Int.reduceNeg, ↓reduceIte, ↓reduceDIte, lget_set_eq lo1, get_set_eq lo1, hk, w1, List.set_set]
  have hfin : (K'.set o (brw a' { x with k := (k + 1 : Nat), words := x.words ++ [w.getD (x.at_ + k).toNat 0] }))[o]? = some (brw a' { x with k := (k + 1 : Nat), words := x.words ++ [w.getD (x.at_ + k).toNat 0] }) := get_set_eq lo1 _
  have hrow : LObj.row false 0 [.bool true, i64 x.at_, .bool x.reads, .slice a' (k + 1) (k + 1), .int .i64 ((k + 1 : Nat) : Int), i64 x.many, i64 x.code] = brw a' { x with k := (k + 1 : Nat), words := x.words ++ [w.getD (x.at_ + k).toNat 0] } := by
    simp [hw]
  rw [hrow]
  refine CT_val (bdone_ev hfin) ?_
  have hd : (IntKind.i64.wrap (x.many - ((k + 1 : Nat) : Int)) == 0) = decide (x.many = k + 1) := by
    rw [wrap_i64 (by omega) (by omega)]
    rw [Bool.eq_iff_iff, beq_iff_eq, decide_eq_true_eq]; omega
  simp -dsimp only [go_sem, Nat.reduceEqDiff, Nat.reduceAdd, Nat.reduceSub, Nat.reduceMul, Nat.reduceLeDiff, Nat.reduceLT, Nat.reduceBEq, Int.reduceLT, Int.reduceLE, Int.reduceGT, Int.reduceGE, Int.reduceEq, Int.reduceNe, Int.reduceBEq, Int.reduceBNe, Int.reduceAdd, Int.reduceSub, Int.reduceMul, Int.reduceToNat, Int.reduceNeg, ↓reduceIte, ↓reduceDIte, hd]
  have off : ∀ j, j < lo → j ≠ o → (K'.set o (brw a' { x with k := (k + 1 : Nat), words := x.words ++ [w.getD (x.at_ + k).toNat 0] }))[j]? = K[j]? := fun j hj hne => by
    rw [get_set_ne (Ne.symm hne)]; exact hK' j (by omega) (hoff2 j hj)
  refine ⟨a', hfin, ?_, ?_, by simp; omega, fun j hj q0 q1 q2 q3 => by rw [off j hj q0]; exact hpres j q1 q2 q3⟩
  · rcases p2 with ⟨e1, e2⟩ | ⟨q, e1, e2, e3⟩
    · simp at e2
    · refine .inr ⟨q, e1, e2, ?_⟩
      rw [get_set_ne (by omega)]
      simpa using e3
  · exact ⟨by rw [off b l1 h1.symm]; exact hm2.row, by rw [off pw l2 h2.symm]; exact hm2.ws, by rw [off pb l3 h3.symm]; exact hm2.bs, hm2.len, hm2.pos, hm2.le, hm2.n1, hm2.n2, hm2.n3⟩
theorem bwords_ev {lo k : Nat} (hl : lim ≤ H.length) (h : H[o]? = some (brw a x)) (hr : x.reads = true) (hs : Own 1 H lo a (x.words.map w64)) (hw : x.words.length = k) (h8 : k < 1000000) :
    callE T 18 lim [ptr o] H fun v H' => ∃ a' t, v = .slice a' k k ∧ H' = H ++ t ∧ Own 1 (H ++ t) H.length a' (x.words.map w64) := by
  refine callE_stay rfl (by simp) rfl ?_
  simp -dsimp only [go_sem, Nat.reduceEqDiff, Nat.reduceAdd, Nat.reduceSub, Nat.reduceMul, Nat.reduceLeDiff, Nat.reduceLT, Nat.reduceBEq, Int.reduceLT, Int.reduceLE, Int.reduceGT, Int.reduceGE, Int.reduceEq, Int.reduceNe, Int.reduceBEq, Int.reduceBNe, Int.reduceAdd, Int.reduceSub, Int.reduceMul, Int.reduceToNat, Int.reduceNeg, ↓reduceIte, ↓reduceDIte]
  refine CT_val (bnone_ev h) ?_
  have hsl : lslice H 1 (.slice a k k) none (some (.int .i64 k)) (some (.int .i64 k)) = some (.slice a k k) := by
    rcases hs with ⟨rfl, e2⟩ | ⟨q, rfl, e2, e3⟩
    · have : k = 0 := by rw [← hw]; simpa using e2
      subst this; rfl
    · simp [lslice, lbound, e3]
  simp -dsimp only [go_sem, Nat.reduceEqDiff, Nat.reduceAdd, Nat.reduceSub, Nat.reduceMul, Nat.reduceLeDiff, Nat.reduceLT, Nat.reduceBEq, Int.reduceLT, Int.reduceLE, Int.reduceGT, Int.reduceGE, Int.reduceEq, Int.reduceNe, Int.reduceBEq, Int.reduceBNe, Int.reduceAdd, Int.reduceSub, Int.reduceMul, Int.reduceToNat, Int.reduceNeg, ↓reduceIte, ↓reduceDIte, lget_at h, hr, hw, hsl]
  refine CT_of (clone_ev (l := x.words) hl hs.sl hw h8 ?_) ?_
  · rintro rfl
    rcases hs with ⟨_, e2⟩ | ⟨q, e1, _⟩
    · rw [← hw]; simpa using e2
    · cases e1
  rintro _ _ ⟨a', t, rfl, rfl, g⟩
  simp -dsimp only [go_sem, Nat.reduceEqDiff, Nat.reduceAdd, Nat.reduceSub, Nat.reduceMul, Nat.reduceLeDiff, Nat.reduceLT, Nat.reduceBEq, Int.reduceLT, Int.reduceLE, Int.reduceGT, Int.reduceGE, Int.reduceEq, Int.reduceNe, Int.reduceBEq, Int.reduceBNe, Int.reduceAdd, Int.reduceSub, Int.reduceMul, Int.reduceToNat, Int.reduceNeg, ↓reduceIte, ↓reduceDIte]
  exact ⟨a', t, rfl, rfl, g⟩
theorem bwords_no (h : H[o]? = some (brw a x)) (hr : x.reads = false) : callE T 18 lim [ptr o] H fun v H' => v = .slice none 0 0 ∧ H' = H := by
  refine callE_stay rfl (by simp) rfl ?_
  simp -dsimp only [go_sem, Nat.reduceEqDiff, Nat.reduceAdd, Nat.reduceSub, Nat.reduceMul, Nat.reduceLeDiff, Nat.reduceLT, Nat.reduceBEq, Int.reduceLT, Int.reduceLE, Int.reduceGT, Int.reduceGE, Int.reduceEq, Int.reduceNe, Int.reduceBEq, Int.reduceBNe, Int.reduceAdd, Int.reduceSub, Int.reduceMul, Int.reduceToNat, Int.reduceNeg, ↓reduceIte, ↓reduceDIte]
  refine CT_val (bnone_ev h) ?_
  simp -dsimp only [go_sem, Nat.reduceEqDiff, Nat.reduceAdd, Nat.reduceSub, Nat.reduceMul, Nat.reduceLeDiff, Nat.reduceLT, Nat.reduceBEq, Int.reduceLT, Int.reduceLE, Int.reduceGT, Int.reduceGE, Int.reduceEq, Int.reduceNe, Int.reduceBEq, Int.reduceBNe, Int.reduceAdd, Int.reduceSub, Int.reduceMul, Int.reduceToNat, Int.reduceNeg, ↓reduceIte, ↓reduceDIte, lget_at h, hr]
end
end Go.Proofs.Ytagpbakgjglnhaa
