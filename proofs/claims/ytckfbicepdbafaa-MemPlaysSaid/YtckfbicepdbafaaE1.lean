/- The statement MemSwaps. -/
import Derived.Test.YtckfbicepdbafaaM2
namespace Go.Proofs.Ytckfbicepdbafaa
open Go Go.LK
set_option linter.unusedSimpArgs false
set_option linter.unusedVariables false
structure ActD where
  kind : Int
  a : Int
  n : Int
  v0 : BitVec 64
  v1 : BitVec 64
  v2 : BitVec 64
  v3 : BitVec 64
def ActD.cells (c : ActD) : List Value := [.int .i64 c.kind, .int .i64 c.a, .int .i64 c.n, w64 c.v0, w64 c.v1, w64 c.v2, w64 c.v3]
theorem ActD.len (c : ActD) : c.cells.length = 7 := rfl
def ActD.Ok (c : ActD) : Prop := (-9223372036854775808 ≤ c.kind ∧ c.kind ≤ 9223372036854775807) ∧ (-9223372036854775808 ≤ c.a ∧ c.a ≤ 9223372036854775807) ∧ (-9223372036854775808 ≤ c.n ∧ c.n ≤ 9223372036854775807)
theorem ActD.row (r : List Value) (h_0 : Row2 CellIs [.int .i64, .int .i64, .int .i64, .int .u64, .int .u64, .int .u64, .int .u64] r) : ∃ x, r = ActD.cells x ∧ ActD.Ok x := by
  obtain ⟨_, _, rfl, k0, h_1⟩ := row_cons h_0
  obtain ⟨x0, rfl, y0⟩ := is_i64 k0
  obtain ⟨_, _, rfl, k1, h_2⟩ := row_cons h_1
  obtain ⟨x1, rfl, y1⟩ := is_i64 k1
  obtain ⟨_, _, rfl, k2, h_3⟩ := row_cons h_2
  obtain ⟨x2, rfl, y2⟩ := is_i64 k2
  obtain ⟨_, _, rfl, k3, h_4⟩ := row_cons h_3
  obtain ⟨x3, rfl⟩ := is_u64 k3
  obtain ⟨_, _, rfl, k4, h_5⟩ := row_cons h_4
  obtain ⟨x4, rfl⟩ := is_u64 k4
  obtain ⟨_, _, rfl, k5, h_6⟩ := row_cons h_5
  obtain ⟨x5, rfl⟩ := is_u64 k5
  obtain ⟨_, _, rfl, k6, h_7⟩ := row_cons h_6
  obtain ⟨x6, rfl⟩ := is_u64 k6
  obtain rfl := row_nil h_7
  exact ⟨⟨x0, x1, x2, x3, x4, x5, x6⟩, rfl, ⟨y0, y1, y2⟩⟩
theorem one_ev (lim : Nat) (H : LHeap) : callE T 15 lim [] H fun v H' => v = .bool true ∧ H' = H :=
  callE_iso (n := 100) (K := []) rfl rfl rfl (by kernel_rfl) rfl
structure SW1 where
  i : Nat
  sum : BitVec 64
  or : BitVec 64
  m : MV
theorem swaps_ev {lim : Nat} {v : BitVec 64} {a : Option Addr} {l : List (BitVec 64)} {H : LHeap} (hs : Sl 1 H a (l.map w64)) :
    callE T 3 lim [w64 v, .slice a l.length l.length] H fun v H' => v = .bool true := by
  refine callE_pop rfl (by simp) rfl ?_
  simp -dsimp only [go_sem, Nat.reduceEqDiff, Nat.reduceAdd, Nat.reduceSub, Nat.reduceMul, Nat.reduceLeDiff, Nat.reduceLT, Nat.reduceBEq, Int.reduceLT, Int.reduceLE, Int.reduceGT, Int.reduceGE, Int.reduceEq, Int.reduceNe, Int.reduceBEq, Int.reduceBNe, Int.reduceAdd, Int.reduceSub, Int.reduceMul, Int.reduceToNat, Int.reduceNeg, ↓reduceIte, ↓reduceDIte]
  refine CT_of (new_ev (by simp)) ?_
  rintro _ _ h
  rw [if_neg (by omega)] at h
  obtain ⟨rfl, rfl⟩ := h
  have c0 := Clean.new (n := 4) (by omega) (by omega)
  simp -dsimp only [go_sem, Nat.reduceEqDiff, Nat.reduceAdd, Nat.reduceSub, Nat.reduceMul, Nat.reduceLeDiff, Nat.reduceLT, Nat.reduceBEq, Int.reduceLT, Int.reduceLE, Int.reduceGT, Int.reduceGE, Int.reduceEq, Int.reduceNe, Int.reduceBEq, Int.reduceBNe, Int.reduceAdd, Int.reduceSub, Int.reduceMul, Int.reduceToNat, Int.reduceNeg, ↓reduceIte, ↓reduceDIte]
  refine CT_of (store_c (mem_at (pre := []) c0.ok) c0 (by omega) (by simp)) ?_
  rintro _ _ ⟨m1, c1, rfl⟩
  simp [List.replicate] at c1
  simp -dsimp only [go_sem, Nat.reduceEqDiff, Nat.reduceAdd, Nat.reduceSub, Nat.reduceMul, Nat.reduceLeDiff, Nat.reduceLT, Nat.reduceBEq, Int.reduceLT, Int.reduceLE, Int.reduceGT, Int.reduceGE, Int.reduceEq, Int.reduceNe, Int.reduceBEq, Int.reduceBNe, Int.reduceAdd, Int.reduceSub, Int.reduceMul, Int.reduceToNat, Int.reduceNeg, ↓reduceIte, ↓reduceDIte, memPut]
  refine CT_of (swap_c (mem_at (pre := []) c1.ok) c1 (by omega) (by simp)) ?_
  rintro _ _ ⟨m2, c2, rfl, rfl⟩
  simp at c2
  simp -dsimp only [go_sem, Nat.reduceEqDiff, Nat.reduceAdd, Nat.reduceSub, Nat.reduceMul, Nat.reduceLeDiff, Nat.reduceLT, Nat.reduceBEq, Int.reduceLT, Int.reduceLE, Int.reduceGT, Int.reduceGE, Int.reduceEq, Int.reduceNe, Int.reduceBEq, Int.reduceBNe, Int.reduceAdd, Int.reduceSub, Int.reduceMul, Int.reduceToNat, Int.reduceNeg, ↓reduceIte, ↓reduceDIte, memPut]
  refine CT_of (swap_c (mem_at (pre := []) c2.ok) c2 (by omega) (by simp)) ?_
  rintro _ _ ⟨m3, c3, rfl, rfl⟩
  have hne : v + 1#64 ≠ v := by
    intro h
    have := congrArg BitVec.toNat h
    simp [BitVec.toNat_add] at this
    omega
  have hne2 : (v + 1#64 == v) = false := by simp
  simp [hne] at c3
  simp -dsimp only [go_sem, Nat.reduceEqDiff, Nat.reduceAdd, Nat.reduceSub, Nat.reduceMul, Nat.reduceLeDiff, Nat.reduceLT, Nat.reduceBEq, Int.reduceLT, Int.reduceLE, Int.reduceGT, Int.reduceGE, Int.reduceEq, Int.reduceNe, Int.reduceBEq, Int.reduceBNe, Int.reduceAdd, Int.reduceSub, Int.reduceMul, Int.reduceToNat, Int.reduceNeg, ↓reduceIte, ↓reduceDIte, memPut, List.getD_cons_zero, hne2]
  refine CT_of (load_c (mem_at (pre := []) c3.ok) c3 (by omega) (by simp)) ?_
  rintro _ _ ⟨m4, c4, rfl, rfl⟩
  simp -dsimp only [go_sem, Nat.reduceEqDiff, Nat.reduceAdd, Nat.reduceSub, Nat.reduceMul, Nat.reduceLeDiff, Nat.reduceLT, Nat.reduceBEq, Int.reduceLT, Int.reduceLE, Int.reduceGT, Int.reduceGE, Int.reduceEq, Int.reduceNe, Int.reduceBEq, Int.reduceBNe, Int.reduceAdd, Int.reduceSub, Int.reduceMul, Int.reduceToNat, Int.reduceNeg, ↓reduceIte, ↓reduceDIte, memPut, List.getD_cons_zero, hne2]
  refine LT_of (fun s : SW1 => [(1, .slice a l.length l.length), (5, ptr (H.length + 2)), (7, w64 s.sum), (8, w64 s.or), (9, i64 s.i)])
    (fun s => H ++ [wrow s.m, brow s.m, mrow H.length (H.length + 1) s.m]) (fun s => s.i ≤ 100 ∧ Clean s.m [v + 1#64, s.sum, s.or, 0#64]) (fun s => 100 - s.i) ⟨0, 0#64, 0#64, m4⟩ rfl rfl ⟨by simp, c4⟩ ?_
  rintro ⟨i, sum, or, m⟩ ⟨hi, c⟩
  simp only at hi c ⊢
  by_cases hc : i < l.length ∧ i < 100
  · have h1 : (i : Int) < l.length := by omega
    have h2 : (i : Int) < 100 := by omega
    have h3 : 0 ≤ (i : Int) := by omega
    have hw : IntKind.i64.wrap ((i : Int) + 1) = ((i + 1 : Nat) : Int) := by rw [wrap_i64] <;> omega
    have k1 : l[i]? = some (l[i]'hc.1) := List.getElem?_eq_getElem _
    generalize l[i]'hc.1 = x at k1
    obtain ⟨b, o, rfl, hb, hg⟩ := hs.all (by simp; omega)
    have g1 := fun t => hg t i (w64 x) (by simp [k1])
    simp -dsimp only [go_sem, Nat.reduceEqDiff, Nat.reduceAdd, Nat.reduceSub, Nat.reduceMul, Nat.reduceLeDiff, Nat.reduceLT, Nat.reduceBEq, Int.reduceLT, Int.reduceLE, Int.reduceGT, Int.reduceGE, Int.reduceEq, Int.reduceNe, Int.reduceBEq, Int.reduceBNe, Int.reduceAdd, Int.reduceSub, Int.reduceMul, Int.reduceToNat, Int.reduceNeg, ↓reduceIte, ↓reduceDIte, h1, h2, h3, g1]
    refine CT_of (add_c (mem_at (pre := []) c.ok) c (by omega) (by simp)) ?_
    rintro _ _ ⟨m5, c5, rfl, rfl⟩
    simp at c5
    simp -dsimp only [go_sem, Nat.reduceEqDiff, Nat.reduceAdd, Nat.reduceSub, Nat.reduceMul, Nat.reduceLeDiff, Nat.reduceLT, Nat.reduceBEq, Int.reduceLT, Int.reduceLE, Int.reduceGT, Int.reduceGE, Int.reduceEq, Int.reduceNe, Int.reduceBEq, Int.reduceBNe, Int.reduceAdd, Int.reduceSub, Int.reduceMul, Int.reduceToNat, Int.reduceNeg, ↓reduceIte, ↓reduceDIte, memPut, h1, h2, h3, g1, List.getD_cons_zero, List.getD_cons_succ, Int.reduceToNat]
    refine CT_of (or_c (mem_at (pre := []) c5.ok) c5 (by omega) (by simp)) ?_
    rintro _ _ ⟨m6, c6, rfl, rfl⟩
    simp at c6
    simp -dsimp only [go_sem, Nat.reduceEqDiff, Nat.reduceAdd, Nat.reduceSub, Nat.reduceMul, Nat.reduceLeDiff, Nat.reduceLT, Nat.reduceBEq, Int.reduceLT, Int.reduceLE, Int.reduceGT, Int.reduceGE, Int.reduceEq, Int.reduceNe, Int.reduceBEq, Int.reduceBNe, Int.reduceAdd, Int.reduceSub, Int.reduceMul, Int.reduceToNat, Int.reduceNeg, ↓reduceIte, ↓reduceDIte, memPut, h1, h2, h3, g1, hw, List.getD_cons_zero, List.getD_cons_succ, Int.reduceToNat]
    exact ⟨⟨i + 1, sum + x, or ||| x, m6⟩, rfl, rfl, ⟨by dsimp only; omega, c6⟩, by dsimp only; omega⟩
  · by_cases h1 : i < l.length
    · have h1' : (i : Int) < l.length := by omega
      have h2 : ¬ (i : Int) < 100 := by omega
      simp -dsimp only [go_sem, Nat.reduceEqDiff, Nat.reduceAdd, Nat.reduceSub, Nat.reduceMul, Nat.reduceLeDiff, Nat.reduceLT, Nat.reduceBEq, Int.reduceLT, Int.reduceLE, Int.reduceGT, Int.reduceGE, Int.reduceEq, Int.reduceNe, Int.reduceBEq, Int.reduceBNe, Int.reduceAdd, Int.reduceSub, Int.reduceMul, Int.reduceToNat, Int.reduceNeg, ↓reduceIte, ↓reduceDIte, h1', h2]
      refine CT_of (load_c (mem_at (pre := []) c.ok) c (by omega) (by simp)) ?_
      rintro _ _ ⟨m5, c5, rfl, rfl⟩
      simp -dsimp only [go_sem, Nat.reduceEqDiff, Nat.reduceAdd, Nat.reduceSub, Nat.reduceMul, Nat.reduceLeDiff, Nat.reduceLT, Nat.reduceBEq, Int.reduceLT, Int.reduceLE, Int.reduceGT, Int.reduceGE, Int.reduceEq, Int.reduceNe, Int.reduceBEq, Int.reduceBNe, Int.reduceAdd, Int.reduceSub, Int.reduceMul, Int.reduceToNat, Int.reduceNeg, ↓reduceIte, ↓reduceDIte, memPut, List.getD_cons_zero, List.getD_cons_succ, Int.reduceToNat]
      refine CT_of (load_c (mem_at (pre := []) c5.ok) c5 (by omega) (by simp)) ?_
      rintro _ _ ⟨m6, c6, rfl, rfl⟩
      simp -dsimp only [go_sem, Nat.reduceEqDiff, Nat.reduceAdd, Nat.reduceSub, Nat.reduceMul, Nat.reduceLeDiff, Nat.reduceLT, Nat.reduceBEq, Int.reduceLT, Int.reduceLE, Int.reduceGT, Int.reduceGE, Int.reduceEq, Int.reduceNe, Int.reduceBEq, Int.reduceBNe, Int.reduceAdd, Int.reduceSub, Int.reduceMul, Int.reduceToNat, Int.reduceNeg, ↓reduceIte, ↓reduceDIte, memPut, List.getD_cons_zero, List.getD_cons_succ, Int.reduceToNat]
      refine CT_val (trap_c (mem_at (pre := []) c6.ok) c6) ?_
      simp -dsimp only [go_sem, Nat.reduceEqDiff, Nat.reduceAdd, Nat.reduceSub, Nat.reduceMul, Nat.reduceLeDiff, Nat.reduceLT, Nat.reduceBEq, Int.reduceLT, Int.reduceLE, Int.reduceGT, Int.reduceGE, Int.reduceEq, Int.reduceNe, Int.reduceBEq, Int.reduceBNe, Int.reduceAdd, Int.reduceSub, Int.reduceMul, Int.reduceToNat, Int.reduceNeg, ↓reduceIte, ↓reduceDIte]
      refine CT_val (one_ev _ _) ?_
      simp -dsimp only [go_sem, Nat.reduceEqDiff, Nat.reduceAdd, Nat.reduceSub, Nat.reduceMul, Nat.reduceLeDiff, Nat.reduceLT, Nat.reduceBEq, Int.reduceLT, Int.reduceLE, Int.reduceGT, Int.reduceGE, Int.reduceEq, Int.reduceNe, Int.reduceBEq, Int.reduceBNe, Int.reduceAdd, Int.reduceSub, Int.reduceMul, Int.reduceToNat, Int.reduceNeg, ↓reduceIte, ↓reduceDIte]
    · have h1' : ¬ (i : Int) < l.length := by omega
      simp -dsimp only [go_sem, Nat.reduceEqDiff, Nat.reduceAdd, Nat.reduceSub, Nat.reduceMul, Nat.reduceLeDiff, Nat.reduceLT, Nat.reduceBEq, Int.reduceLT, Int.reduceLE, Int.reduceGT, Int.reduceGE, Int.reduceEq, Int.reduceNe, Int.reduceBEq, Int.reduceBNe, Int.reduceAdd, Int.reduceSub, Int.reduceMul, Int.reduceToNat, Int.reduceNeg, ↓reduceIte, ↓reduceDIte, h1']
      refine CT_of (load_c (mem_at (pre := []) c.ok) c (by omega) (by simp)) ?_
      rintro _ _ ⟨m5, c5, rfl, rfl⟩
      simp -dsimp only [go_sem, Nat.reduceEqDiff, Nat.reduceAdd, Nat.reduceSub, Nat.reduceMul, Nat.reduceLeDiff, Nat.reduceLT, Nat.reduceBEq, Int.reduceLT, Int.reduceLE, Int.reduceGT, Int.reduceGE, Int.reduceEq, Int.reduceNe, Int.reduceBEq, Int.reduceBNe, Int.reduceAdd, Int.reduceSub, Int.reduceMul, Int.reduceToNat, Int.reduceNeg, ↓reduceIte, ↓reduceDIte, memPut, List.getD_cons_zero, List.getD_cons_succ, Int.reduceToNat]
      refine CT_of (load_c (mem_at (pre := []) c5.ok) c5 (by omega) (by simp)) ?_
      rintro _ _ ⟨m6, c6, rfl, rfl⟩
      simp -dsimp only [go_sem, Nat.reduceEqDiff, Nat.reduceAdd, Nat.reduceSub, Nat.reduceMul, Nat.reduceLeDiff, Nat.reduceLT, Nat.reduceBEq, Int.reduceLT, Int.reduceLE, Int.reduceGT, Int.reduceGE, Int.reduceEq, Int.reduceNe, Int.reduceBEq, Int.reduceBNe, Int.reduceAdd, Int.reduceSub, Int.reduceMul, Int.reduceToNat, Int.reduceNeg, ↓reduceIte, ↓reduceDIte, memPut, List.getD_cons_zero, List.getD_cons_succ, Int.reduceToNat]
      refine CT_val (trap_c (mem_at (pre := []) c6.ok) c6) ?_
      simp -dsimp only [go_sem, Nat.reduceEqDiff, Nat.reduceAdd, Nat.reduceSub, Nat.reduceMul, Nat.reduceLeDiff, Nat.reduceLT, Nat.reduceBEq, Int.reduceLT, Int.reduceLE, Int.reduceGT, Int.reduceGE, Int.reduceEq, Int.reduceNe, Int.reduceBEq, Int.reduceBNe, Int.reduceAdd, Int.reduceSub, Int.reduceMul, Int.reduceToNat, Int.reduceNeg, ↓reduceIte, ↓reduceDIte]
      refine CT_val (one_ev _ _) ?_
      simp -dsimp only [go_sem, Nat.reduceEqDiff, Nat.reduceAdd, Nat.reduceSub, Nat.reduceMul, Nat.reduceLeDiff, Nat.reduceLT, Nat.reduceBEq, Int.reduceLT, Int.reduceLE, Int.reduceGT, Int.reduceGE, Int.reduceEq, Int.reduceNe, Int.reduceBEq, Int.reduceBNe, Int.reduceAdd, Int.reduceSub, Int.reduceMul, Int.reduceToNat, Int.reduceNeg, ↓reduceIte, ↓reduceDIte]
end Go.Proofs.Ytckfbicepdbafaa
