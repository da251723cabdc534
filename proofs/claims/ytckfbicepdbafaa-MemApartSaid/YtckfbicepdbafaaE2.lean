/- The statement MemApart. -/
import Derived.Test.YtckfbicepdbafaaE1
namespace Go.Proofs.Ytckfbicepdbafaa
open Go Go.LK
set_option linter.unusedSimpArgs false
set_option linter.unusedVariables false
/-- What a step at a word may have done. -/
structure Step1 (m m' : MV) (n k : Nat) (kk : Int) : Prop where
  ok : m'.Ok n
  few : m'.Few (n + 1)
  get : ∀ i, i ≠ k → (i = k + 1 → kk ≠ 5) → m'.w[i]? = m.w[i]?
theorem and7 (c : Int) : ∃ d : Int, IntKind.i64.wrap ((BitVec.ofInt IntKind.i64.bits c &&& BitVec.ofInt IntKind.i64.bits 7).toNat : Int) = d ∧ 0 ≤ d ∧ d ≤ 7 := by
  have h : (BitVec.ofInt IntKind.i64.bits c &&& BitVec.ofInt IntKind.i64.bits 7).toNat ≤ 7 := by
    rw [BitVec.toNat_and]
    exact Nat.le_trans Nat.and_le_right (by decide)
  exact ⟨_, wrap_i64 (by omega) (by omega), by omega, by omega⟩
set_option maxHeartbeats 2000000 in
theorem apart_ev {lim : Nat} {kind A N : Int} {v0 v1 v2 v3 : BitVec 64} {a : Option Addr} {l : List (BitVec 64)} {H : LHeap} (hs : Sl 1 H a (l.map w64)) (hA : -9223372036854775808 ≤ A ∧ A ≤ 9223372036854775807) :
    callE T 4 lim [.slice a l.length l.length, .agg #[i64 kind, i64 A, i64 N, w64 v0, w64 v1, w64 v2, w64 v3]] H fun v H' => v = .bool true := by
  refine callE_pop rfl (by simp) rfl ?_
  simp -dsimp only [go_sem, Nat.reduceEqDiff, Nat.reduceAdd, Nat.reduceSub, Nat.reduceMul, Nat.reduceLeDiff, Nat.reduceLT, Nat.reduceBEq, Int.reduceLT, Int.reduceLE, Int.reduceGT, Int.reduceGE, Int.reduceEq, Int.reduceNe, Int.reduceBEq, Int.reduceBNe, Int.reduceAdd, Int.reduceSub, Int.reduceMul, Int.reduceToNat, Int.reduceNeg, ↓reduceIte, ↓reduceDIte]
  by_cases h0 : l.length = 0
  · have h0' : ((l.length : Int) == 0) = true := by simp [h0]
    simp -dsimp only [go_sem, Nat.reduceEqDiff, Nat.reduceAdd, Nat.reduceSub, Nat.reduceMul, Nat.reduceLeDiff, Nat.reduceLT, Nat.reduceBEq, Int.reduceLT, Int.reduceLE, Int.reduceGT, Int.reduceGE, Int.reduceEq, Int.reduceNe, Int.reduceBEq, Int.reduceBNe, Int.reduceAdd, Int.reduceSub, Int.reduceMul, Int.reduceToNat, Int.reduceNeg, ↓reduceIte, ↓reduceDIte, h0']
    refine CT_val (one_ev _ _) ?_
    simp -dsimp only [go_sem, Nat.reduceEqDiff, Nat.reduceAdd, Nat.reduceSub, Nat.reduceMul, Nat.reduceLeDiff, Nat.reduceLT, Nat.reduceBEq, Int.reduceLT, Int.reduceLE, Int.reduceGT, Int.reduceGE, Int.reduceEq, Int.reduceNe, Int.reduceBEq, Int.reduceBNe, Int.reduceAdd, Int.reduceSub, Int.reduceMul, Int.reduceToNat, Int.reduceNeg, ↓reduceIte, ↓reduceDIte]
  by_cases h1 : 200 < l.length
  · have h0' : ((l.length : Int) == 0) = false := by rw [beq_eq_false_iff_ne]; omega
    have h1' : 200 < (l.length : Int) := by omega
    simp -dsimp only [go_sem, Nat.reduceEqDiff, Nat.reduceAdd, Nat.reduceSub, Nat.reduceMul, Nat.reduceLeDiff, Nat.reduceLT, Nat.reduceBEq, Int.reduceLT, Int.reduceLE, Int.reduceGT, Int.reduceGE, Int.reduceEq, Int.reduceNe, Int.reduceBEq, Int.reduceBNe, Int.reduceAdd, Int.reduceSub, Int.reduceMul, Int.reduceToNat, Int.reduceNeg, ↓reduceIte, ↓reduceDIte, h0', h1']
    refine CT_val (one_ev _ _) ?_
    simp -dsimp only [go_sem, Nat.reduceEqDiff, Nat.reduceAdd, Nat.reduceSub, Nat.reduceMul, Nat.reduceLeDiff, Nat.reduceLT, Nat.reduceBEq, Int.reduceLT, Int.reduceLE, Int.reduceGT, Int.reduceGE, Int.reduceEq, Int.reduceNe, Int.reduceBEq, Int.reduceBNe, Int.reduceAdd, Int.reduceSub, Int.reduceMul, Int.reduceToNat, Int.reduceNeg, ↓reduceIte, ↓reduceDIte]
  have h0' : ((l.length : Int) == 0) = false := by rw [beq_eq_false_iff_ne]; omega
  have h1' : ¬ 200 < (l.length : Int) := by omega
  simp -dsimp only [go_sem, Nat.reduceEqDiff, Nat.reduceAdd, Nat.reduceSub, Nat.reduceMul, Nat.reduceLeDiff, Nat.reduceLT, Nat.reduceBEq, Int.reduceLT, Int.reduceLE, Int.reduceGT, Int.reduceGE, Int.reduceEq, Int.reduceNe, Int.reduceBEq, Int.reduceBNe, Int.reduceAdd, Int.reduceSub, Int.reduceMul, Int.reduceToNat, Int.reduceNeg, ↓reduceIte, ↓reduceDIte, h0', h1']
  refine CT_of (new_ev (by simp)) ?_
  rintro _ _ h
  rw [if_neg (by omega)] at h
  obtain ⟨rfl, rfl⟩ := h
  have o0 := MV.Ok.new (n := l.length) (by omega) (by omega)
  simp -dsimp only [go_sem, Nat.reduceEqDiff, Nat.reduceAdd, Nat.reduceSub, Nat.reduceMul, Nat.reduceLeDiff, Nat.reduceLT, Nat.reduceBEq, Int.reduceLT, Int.reduceLE, Int.reduceGT, Int.reduceGE, Int.reduceEq, Int.reduceNe, Int.reduceBEq, Int.reduceBNe, Int.reduceAdd, Int.reduceSub, Int.reduceMul, Int.reduceToNat, Int.reduceNeg, ↓reduceIte, ↓reduceDIte]
  refine LT_of (fun s : Nat × MV => [(0, .slice a l.length l.length), (3, ptr H.length), (5, ptr (H.length + 3)), (7, i64 s.1)])
    (fun s => H ++ [.row false 0 [i64 kind, i64 A, i64 N, w64 v0, w64 v1, w64 v2, w64 v3], wrow s.2, brow s.2, mrow (H.length + 1) (H.length + 2) s.2]) (fun s => s.1 ≤ l.length ∧ s.2.Ok l.length ∧ s.2.Few s.1 ∧ (∀ x ∈ s.2.bar, x = false) ∧ (∀ j, j < s.1 → s.2.w[j]? = l[j]?)) (fun s => l.length - s.1) (0, MV.new l.length) rfl (by simp) ⟨by simp, o0, MV.Few.new _, by simp [MV.new], fun j hj => by omega⟩ ?_
  rintro ⟨i, m⟩ ⟨hi, ho, hf, hb, hg⟩
  simp only at hi ho hf hb hg ⊢
  by_cases hlt : i < l.length
  · have h2 : (i : Int) < l.length := by omega
    have h3 : 0 ≤ (i : Int) := by omega
    have hw : IntKind.i64.wrap ((i : Int) + 1) = ((i + 1 : Nat) : Int) := by rw [wrap_i64] <;> omega
    have k1 : l[i]? = some (l[i]'hlt) := List.getElem?_eq_getElem _
    generalize l[i]'hlt = x at k1
    obtain ⟨b, o, rfl, hb1, hg1⟩ := hs.all (by simp; omega)
    have g1 := fun t => hg1 t i (w64 x) (by simp [k1])
    simp -dsimp only [go_sem, Nat.reduceEqDiff, Nat.reduceAdd, Nat.reduceSub, Nat.reduceMul, Nat.reduceLeDiff, Nat.reduceLT, Nat.reduceBEq, Int.reduceLT, Int.reduceLE, Int.reduceGT, Int.reduceGE, Int.reduceEq, Int.reduceNe, Int.reduceBEq, Int.reduceBNe, Int.reduceAdd, Int.reduceSub, Int.reduceMul, Int.reduceToNat, Int.reduceNeg, ↓reduceIte, ↓reduceDIte, h2, h3, g1]
    refine CT_heap (store_ev (mem_at (pre := [_]) ho)) ?_
    intro v
    simp -dsimp only [go_sem, Nat.reduceEqDiff, Nat.reduceAdd, Nat.reduceSub, Nat.reduceMul, Nat.reduceLeDiff, Nat.reduceLT, Nat.reduceBEq, Int.reduceLT, Int.reduceLE, Int.reduceGT, Int.reduceGE, Int.reduceEq, Int.reduceNe, Int.reduceBEq, Int.reduceBNe, Int.reduceAdd, Int.reduceSub, Int.reduceMul, Int.reduceToNat, Int.reduceNeg, ↓reduceIte, ↓reduceDIte, memPut, hw]
    refine ⟨(i + 1, m.use 1 i fun _ => x), rfl, rfl, ⟨by dsimp only; omega, ho.use 1 i fun _ => x, (hf.use (by omega) 1 i fun _ => x), by rw [(MV.use_len _ _ _ _).2]; exact hb, fun j hj => ?_⟩, by dsimp only; omega⟩
    dsimp only at hj ⊢
    by_cases e : j = i
    · subst e
      rw [MV.use_ok (MV.bad_of ho h3 (by omega) hb), k1]
      show (m.w.set _ _)[_]? = _
      rw [Int.toNat_natCast, List.getElem?_set_self (by rw [ho.w]; exact hlt)]
    · rw [MV.use_get (by omega)]
      exact hg j (by omega)
  · have h2 : ¬ (i : Int) < l.length := by omega
    obtain rfl : i = l.length := by omega
    have hwl : m.w = l := List.ext_getElem? fun j => by
      by_cases hj : j < l.length
      · exact hg j hj
      · rw [List.getElem?_eq_none (by rw [ho.w]; omega), List.getElem?_eq_none (by omega)]
    simp -dsimp only [go_sem, Nat.reduceEqDiff, Nat.reduceAdd, Nat.reduceSub, Nat.reduceMul, Nat.reduceLeDiff, Nat.reduceLT, Nat.reduceBEq, Int.reduceLT, Int.reduceLE, Int.reduceGT, Int.reduceGE, Int.reduceEq, Int.reduceNe, Int.reduceBEq, Int.reduceBNe, Int.reduceAdd, Int.reduceSub, Int.reduceMul, Int.reduceToNat, Int.reduceNeg, ↓reduceIte, ↓reduceDIte, h2]
    refine CT_of (memclone_ev (by simp) (mem_at (pre := [_]) ho)) ?_
    rintro _ _ ⟨b', pw', pb', t, rfl, rfl, hc, q1, q2, q3⟩
    simp -dsimp only [go_sem, Nat.reduceEqDiff, Nat.reduceAdd, Nat.reduceSub, Nat.reduceMul, Nat.reduceLeDiff, Nat.reduceLT, Nat.reduceBEq, Int.reduceLT, Int.reduceLE, Int.reduceGT, Int.reduceGE, Int.reduceEq, Int.reduceNe, Int.reduceBEq, Int.reduceBNe, Int.reduceAdd, Int.reduceSub, Int.reduceMul, Int.reduceToNat, Int.reduceNeg, ↓reduceIte, ↓reduceDIte]
    refine CT_val (steps_ev (mem_at (pre := [_]) ho)) ?_
    rw [hf.steps]
    have hn0 : ¬ (l.length : Int) = 0 := by omega
    obtain ⟨k, hk, hk1⟩ : ∃ k : Nat, (IntKind.i64.wrap (A.tmod l.length + l.length)).tmod l.length = (k : Int) ∧ k < l.length := by
      have r1 := Int.tmod_lt_of_pos A (b := (l.length : Int)) (by omega)
      have r2 : -(l.length : Int) < A.tmod l.length := by
        have := Int.lt_tmod_of_pos A (b := (l.length : Int)) (by omega)
        omega
      rw [wrap_i64 (by omega) (by omega)]
      have r3 : 0 ≤ (A.tmod l.length + l.length).tmod l.length := Int.tmod_nonneg _ (by omega)
      have r4 := Int.tmod_lt_of_pos (A.tmod l.length + l.length) (b := (l.length : Int)) (by omega)
      exact ⟨_, (Int.toNat_of_nonneg r3).symm, by omega⟩
    obtain ⟨d, hd, hd0, hd1⟩ := and7 kind
    simp -dsimp only [go_sem, Nat.reduceEqDiff, Nat.reduceAdd, Nat.reduceSub, Nat.reduceMul, Nat.reduceLeDiff, Nat.reduceLT, Nat.reduceBEq, Int.reduceLT, Int.reduceLE, Int.reduceGT, Int.reduceGE, Int.reduceEq, Int.reduceNe, Int.reduceBEq, Int.reduceBNe, Int.reduceAdd, Int.reduceSub, Int.reduceMul, Int.reduceToNat, Int.reduceNeg, ↓reduceIte, ↓reduceDIte, hn0, hk, hd]
    have hdk : d.tmod 6 = 0 ∨ d.tmod 6 = 1 ∨ d.tmod 6 = 2 ∨ d.tmod 6 = 3 ∨ d.tmod 6 = 4 ∨ d.tmod 6 = 5 := by
      have r1 := Int.tmod_nonneg 6 hd0
      have r2 := Int.tmod_lt_of_pos d (b := 6) (by omega)
      omega
    rcases hdk with hdk | hdk | hdk | hdk | hdk | hdk
    · simp -dsimp only [go_sem, Nat.reduceEqDiff, Nat.reduceAdd, Nat.reduceSub, Nat.reduceMul, Nat.reduceLeDiff, Nat.reduceLT, Nat.reduceBEq, Int.reduceLT, Int.reduceLE, Int.reduceGT, Int.reduceGE, Int.reduceEq, Int.reduceNe, Int.reduceBEq, Int.reduceBNe, Int.reduceAdd, Int.reduceSub, Int.reduceMul, Int.reduceToNat, Int.reduceNeg, ↓reduceIte, ↓reduceDIte, hdk]
      refine CT_val (load_ev (mem_at (pre := [_]) ho)) ?_
      have hM : Step1 m (m.use 0 k id) l.length k 0 := ⟨ho.use _ _ _, hf.use (by omega) _ _ _, fun i hi hi2 => MV.use_get (by omega)⟩
      generalize m.use 0 k id = m' at hM ⊢
      simp -dsimp only [go_sem, Nat.reduceEqDiff, Nat.reduceAdd, Nat.reduceSub, Nat.reduceMul, Nat.reduceLeDiff, Nat.reduceLT, Nat.reduceBEq, Int.reduceLT, Int.reduceLE, Int.reduceGT, Int.reduceGE, Int.reduceEq, Int.reduceNe, Int.reduceBEq, Int.reduceBNe, Int.reduceAdd, Int.reduceSub, Int.reduceMul, Int.reduceToNat, Int.reduceNeg, ↓reduceIte, ↓reduceDIte, memPut]
      refine CT_of (peek_ev (by simp) (mem_at (pre := [_]) hM.ok) (by omega)) ?_
      rintro _ _ ⟨a1, t1, rfl, rfl, p1⟩
      rw [hM.ok.peek_all] at p1 ⊢
      simp -dsimp only [go_sem, Nat.reduceEqDiff, Nat.reduceAdd, Nat.reduceSub, Nat.reduceMul, Nat.reduceLeDiff, Nat.reduceLT, Nat.reduceBEq, Int.reduceLT, Int.reduceLE, Int.reduceGT, Int.reduceGE, Int.reduceEq, Int.reduceNe, Int.reduceBEq, Int.reduceBNe, Int.reduceAdd, Int.reduceSub, Int.reduceMul, Int.reduceToNat, Int.reduceNeg, ↓reduceIte, ↓reduceDIte]
      have hc2 : MemAt (H ++ .row false 0 [i64 kind, i64 A, i64 N, w64 v0, w64 v1, w64 v2, w64 v3] :: wrow m' :: brow m' :: mrow (H.length + 1) (H.length + 2) m' :: (t ++ t1)) b' pw' pb' m := by
        have := (hc.tail (A' := H ++ [.row false 0 [i64 kind, i64 A, i64 N, w64 v0, w64 v1, w64 v2, w64 v3], wrow m', brow m', mrow (H.length + 1) (H.length + 2) m']) (by simp) (by simpa using q1) (by simpa using q2) (by simpa using q3)).app t1
        simpa using this
      refine CT_of (peek_ev (by simp) hc2 (by omega)) ?_
      rintro _ _ ⟨a2, t2, rfl, rfl, p2⟩
      rw [ho.peek_all] at p2 ⊢
      have hw1 := hM.ok.w
      have hw2 := ho.w
      have hwn : IntKind.i64.wrap ((l.length : Int) + 1) = ((l.length + 1 : Nat) : Int) := by rw [wrap_i64] <;> omega
      simp -dsimp only [go_sem, Nat.reduceEqDiff, Nat.reduceAdd, Nat.reduceSub, Nat.reduceMul, Nat.reduceLeDiff, Nat.reduceLT, Nat.reduceBEq, Int.reduceLT, Int.reduceLE, Int.reduceGT, Int.reduceGE, Int.reduceEq, Int.reduceNe, Int.reduceBEq, Int.reduceBNe, Int.reduceAdd, Int.reduceSub, Int.reduceMul, Int.reduceToNat, Int.reduceNeg, ↓reduceIte, ↓reduceDIte, hw1, hw2]
      refine CT_val (steps_ev (mem_at (pre := [_]) hM.ok)) ?_
      rw [hM.few.steps]
      simp -dsimp only [go_sem, Nat.reduceEqDiff, Nat.reduceAdd, Nat.reduceSub, Nat.reduceMul, Nat.reduceLeDiff, Nat.reduceLT, Nat.reduceBEq, Int.reduceLT, Int.reduceLE, Int.reduceGT, Int.reduceGE, Int.reduceEq, Int.reduceNe, Int.reduceBEq, Int.reduceBNe, Int.reduceAdd, Int.reduceSub, Int.reduceMul, Int.reduceToNat, Int.reduceNeg, ↓reduceIte, ↓reduceDIte, hwn]
      refine CT_val (steps_ev (by simpa using hc2.app t2)) ?_
      rw [hf.steps]
      simp -dsimp only [go_sem, Nat.reduceEqDiff, Nat.reduceAdd, Nat.reduceSub, Nat.reduceMul, Nat.reduceLeDiff, Nat.reduceLT, Nat.reduceBEq, Int.reduceLT, Int.reduceLE, Int.reduceGT, Int.reduceGE, Int.reduceEq, Int.reduceNe, Int.reduceBEq, Int.reduceBNe, Int.reduceAdd, Int.reduceSub, Int.reduceMul, Int.reduceToNat, Int.reduceNeg, ↓reduceIte, ↓reduceDIte]
      refine LT_of (fun i : Nat => [(0, .slice a l.length l.length), (3, ptr H.length), (10, i64 k), (11, .slice a1 l.length l.length), (12, .slice a2 l.length l.length), (13, i64 i)])
        (fun _ => H ++ .row false 0 [i64 kind, i64 A, i64 N, w64 v0, w64 v1, w64 v2, w64 v3] :: wrow m' :: brow m' :: mrow (H.length + 1) (H.length + 2) m' :: (t ++ (t1 ++ t2))) (fun i => i ≤ l.length) (fun i => l.length - i) 0 rfl rfl (by omega) ?_
      intro i hi
      by_cases hlt : i < l.length
      · have h2 : (i : Int) < l.length := by omega
        have h3 : 0 ≤ (i : Int) := by omega
        have hw : IntKind.i64.wrap ((i : Int) + 1) = ((i + 1 : Nat) : Int) := by rw [wrap_i64] <;> omega
        have hwk : IntKind.i64.wrap ((k : Int) + 1) = ((k + 1 : Nat) : Int) := by rw [wrap_i64] <;> omega
        have k1 : l[i]? = some (l[i]'hlt) := List.getElem?_eq_getElem _
        generalize l[i]'hlt = x at k1
        obtain ⟨b, o, rfl, hb1, hg1⟩ := hs.all (by simp; omega)
        obtain ⟨b1, rfl, _, _, hg2⟩ := p1.has (by rw [List.length_map, hw1]; omega)
        obtain ⟨b2, rfl, _, _, hg3⟩ := p2.has (by rw [List.length_map, hw2]; omega)
        have g1 := fun t => hg1 t i (w64 x) (by simp [k1])
        have e1 : m'.w[i]? = some (m'.w[i]'(by omega)) := List.getElem?_eq_getElem _
        generalize m'.w[i]'(by omega) = z at e1
        have g2 := lget_at (get_old hg2 t2) i
        have g3 := lget_at hg3 i
        simp only [List.append_nil, List.append_assoc, List.cons_append, List.nil_append, Nat.zero_mul, Nat.add_zero, List.length_cons, List.length_nil, Nat.zero_add, Nat.reduceAdd, List.getElem?_map, e1, hwl, k1, Option.map_some] at g2 g3
        by_cases hik : i = k
        · subst hik
          simp -dsimp only [go_sem, Nat.reduceEqDiff, Nat.reduceAdd, Nat.reduceSub, Nat.reduceMul, Nat.reduceLeDiff, Nat.reduceLT, Nat.reduceBEq, Int.reduceLT, Int.reduceLE, Int.reduceGT, Int.reduceGE, Int.reduceEq, Int.reduceNe, Int.reduceBEq, Int.reduceBNe, Int.reduceAdd, Int.reduceSub, Int.reduceMul, Int.reduceToNat, Int.reduceNeg, ↓reduceIte, ↓reduceDIte, h2, h3, g1, g2, g3, hw, hwk, hd]
          exact ⟨i + 1, rfl, by omega, by omega⟩
        · have hik2 : ((i : Int) != (k : Int)) = true := by simp; omega
          have hz := hM.get i hik (fun _ => by decide)
          rw [e1, hwl, k1] at hz
          cases hz
          by_cases hik3 : i = k + 1
          · subst hik3
            have hbb : (((k + 1 : Nat) : Int) != ((k + 1 : Nat) : Int)) = false := by simp
            simp -dsimp only [go_sem, Nat.reduceEqDiff, Nat.reduceAdd, Nat.reduceSub, Nat.reduceMul, Nat.reduceLeDiff, Nat.reduceLT, Nat.reduceBEq, Int.reduceLT, Int.reduceLE, Int.reduceGT, Int.reduceGE, Int.reduceEq, Int.reduceNe, Int.reduceBEq, Int.reduceBNe, Int.reduceAdd, Int.reduceSub, Int.reduceMul, Int.reduceToNat, Int.reduceNeg, ↓reduceIte, ↓reduceDIte, h2, h3, g1, g2, g3, hw, hwk, hd, hik2, hbb, hdk]
            exact ⟨k + 1 + 1, rfl, by omega, by omega⟩
          · have hik4 : ((i : Int) != ((k + 1 : Nat) : Int)) = true := by simp; omega
            simp -dsimp only [go_sem, Nat.reduceEqDiff, Nat.reduceAdd, Nat.reduceSub, Nat.reduceMul, Nat.reduceLeDiff, Nat.reduceLT, Nat.reduceBEq, Int.reduceLT, Int.reduceLE, Int.reduceGT, Int.reduceGE, Int.reduceEq, Int.reduceNe, Int.reduceBEq, Int.reduceBNe, Int.reduceAdd, Int.reduceSub, Int.reduceMul, Int.reduceToNat, Int.reduceNeg, ↓reduceIte, ↓reduceDIte, h2, h3, g1, g2, g3, hw, hwk, hd, hik2, hik4]
            exact ⟨i + 1, rfl, by omega, by omega⟩
      · have h2 : ¬ (i : Int) < l.length := by omega
        simp -dsimp only [go_sem, Nat.reduceEqDiff, Nat.reduceAdd, Nat.reduceSub, Nat.reduceMul, Nat.reduceLeDiff, Nat.reduceLT, Nat.reduceBEq, Int.reduceLT, Int.reduceLE, Int.reduceGT, Int.reduceGE, Int.reduceEq, Int.reduceNe, Int.reduceBEq, Int.reduceBNe, Int.reduceAdd, Int.reduceSub, Int.reduceMul, Int.reduceToNat, Int.reduceNeg, ↓reduceIte, ↓reduceDIte, h2]
        refine CT_val (one_ev _ _) ?_
        simp -dsimp only [go_sem, Nat.reduceEqDiff, Nat.reduceAdd, Nat.reduceSub, Nat.reduceMul, Nat.reduceLeDiff, Nat.reduceLT, Nat.reduceBEq, Int.reduceLT, Int.reduceLE, Int.reduceGT, Int.reduceGE, Int.reduceEq, Int.reduceNe, Int.reduceBEq, Int.reduceBNe, Int.reduceAdd, Int.reduceSub, Int.reduceMul, Int.reduceToNat, Int.reduceNeg, ↓reduceIte, ↓reduceDIte]
    · simp -dsimp only [go_sem, Nat.reduceEqDiff, Nat.reduceAdd, Nat.reduceSub, Nat.reduceMul, Nat.reduceLeDiff, Nat.reduceLT, Nat.reduceBEq, Int.reduceLT, Int.reduceLE, Int.reduceGT, Int.reduceGE, Int.reduceEq, Int.reduceNe, Int.reduceBEq, Int.reduceBNe, Int.reduceAdd, Int.reduceSub, Int.reduceMul, Int.reduceToNat, Int.reduceNeg, ↓reduceIte, ↓reduceDIte, hdk]
      refine CT_heap (store_ev (mem_at (pre := [_]) ho)) ?_
      intro v
      have hM : Step1 m (m.use 1 k fun _ => v0) l.length k 1 := ⟨ho.use _ _ _, hf.use (by omega) _ _ _, fun i hi hi2 => MV.use_get (by omega)⟩
      generalize (m.use 1 k fun _ => v0) = m' at hM ⊢
      simp -dsimp only [go_sem, Nat.reduceEqDiff, Nat.reduceAdd, Nat.reduceSub, Nat.reduceMul, Nat.reduceLeDiff, Nat.reduceLT, Nat.reduceBEq, Int.reduceLT, Int.reduceLE, Int.reduceGT, Int.reduceGE, Int.reduceEq, Int.reduceNe, Int.reduceBEq, Int.reduceBNe, Int.reduceAdd, Int.reduceSub, Int.reduceMul, Int.reduceToNat, Int.reduceNeg, ↓reduceIte, ↓reduceDIte, memPut]
      refine CT_of (peek_ev (by simp) (mem_at (pre := [_]) hM.ok) (by omega)) ?_
      rintro _ _ ⟨a1, t1, rfl, rfl, p1⟩
      rw [hM.ok.peek_all] at p1 ⊢
      simp -dsimp only [go_sem, Nat.reduceEqDiff, Nat.reduceAdd, Nat.reduceSub, Nat.reduceMul, Nat.reduceLeDiff, Nat.reduceLT, Nat.reduceBEq, Int.reduceLT, Int.reduceLE, Int.reduceGT, Int.reduceGE, Int.reduceEq, Int.reduceNe, Int.reduceBEq, Int.reduceBNe, Int.reduceAdd, Int.reduceSub, Int.reduceMul, Int.reduceToNat, Int.reduceNeg, ↓reduceIte, ↓reduceDIte]
      have hc2 : MemAt (H ++ .row false 0 [i64 kind, i64 A, i64 N, w64 v0, w64 v1, w64 v2, w64 v3] :: wrow m' :: brow m' :: mrow (H.length + 1) (H.length + 2) m' :: (t ++ t1)) b' pw' pb' m := by
        have := (hc.tail (A' := H ++ [.row false 0 [i64 kind, i64 A, i64 N, w64 v0, w64 v1, w64 v2, w64 v3], wrow m', brow m', mrow (H.length + 1) (H.length + 2) m']) (by simp) (by simpa using q1) (by simpa using q2) (by simpa using q3)).app t1
        simpa using this
      refine CT_of (peek_ev (by simp) hc2 (by omega)) ?_
      rintro _ _ ⟨a2, t2, rfl, rfl, p2⟩
      rw [ho.peek_all] at p2 ⊢
      have hw1 := hM.ok.w
      have hw2 := ho.w
      have hwn : IntKind.i64.wrap ((l.length : Int) + 1) = ((l.length + 1 : Nat) : Int) := by rw [wrap_i64] <;> omega
      simp -dsimp only [go_sem, Nat.reduceEqDiff, Nat.reduceAdd, Nat.reduceSub, Nat.reduceMul, Nat.reduceLeDiff, Nat.reduceLT, Nat.reduceBEq, Int.reduceLT, Int.reduceLE, Int.reduceGT, Int.reduceGE, Int.reduceEq, Int.reduceNe, Int.reduceBEq, Int.reduceBNe, Int.reduceAdd, Int.reduceSub, Int.reduceMul, Int.reduceToNat, Int.reduceNeg, ↓reduceIte, ↓reduceDIte, hw1, hw2]
      refine CT_val (steps_ev (mem_at (pre := [_]) hM.ok)) ?_
      rw [hM.few.steps]
      simp -dsimp only [go_sem, Nat.reduceEqDiff, Nat.reduceAdd, Nat.reduceSub, Nat.reduceMul, Nat.reduceLeDiff, Nat.reduceLT, Nat.reduceBEq, Int.reduceLT, Int.reduceLE, Int.reduceGT, Int.reduceGE, Int.reduceEq, Int.reduceNe, Int.reduceBEq, Int.reduceBNe, Int.reduceAdd, Int.reduceSub, Int.reduceMul, Int.reduceToNat, Int.reduceNeg, ↓reduceIte, ↓reduceDIte, hwn]
      refine CT_val (steps_ev (by simpa using hc2.app t2)) ?_
      rw [hf.steps]
      simp -dsimp only [go_sem, Nat.reduceEqDiff, Nat.reduceAdd, Nat.reduceSub, Nat.reduceMul, Nat.reduceLeDiff, Nat.reduceLT, Nat.reduceBEq, Int.reduceLT, Int.reduceLE, Int.reduceGT, Int.reduceGE, Int.reduceEq, Int.reduceNe, Int.reduceBEq, Int.reduceBNe, Int.reduceAdd, Int.reduceSub, Int.reduceMul, Int.reduceToNat, Int.reduceNeg, ↓reduceIte, ↓reduceDIte]
      refine LT_of (fun i : Nat => [(0, .slice a l.length l.length), (3, ptr H.length), (10, i64 k), (11, .slice a1 l.length l.length), (12, .slice a2 l.length l.length), (13, i64 i)])
        (fun _ => H ++ .row false 0 [i64 kind, i64 A, i64 N, w64 v0, w64 v1, w64 v2, w64 v3] :: wrow m' :: brow m' :: mrow (H.length + 1) (H.length + 2) m' :: (t ++ (t1 ++ t2))) (fun i => i ≤ l.length) (fun i => l.length - i) 0 rfl rfl (by omega) ?_
      intro i hi
      by_cases hlt : i < l.length
      · have h2 : (i : Int) < l.length := by omega
        have h3 : 0 ≤ (i : Int) := by omega
        have hw : IntKind.i64.wrap ((i : Int) + 1) = ((i + 1 : Nat) : Int) := by rw [wrap_i64] <;> omega
        have hwk : IntKind.i64.wrap ((k : Int) + 1) = ((k + 1 : Nat) : Int) := by rw [wrap_i64] <;> omega
        have k1 : l[i]? = some (l[i]'hlt) := List.getElem?_eq_getElem _
        generalize l[i]'hlt = x at k1
        obtain ⟨b, o, rfl, hb1, hg1⟩ := hs.all (by simp; omega)
        obtain ⟨b1, rfl, _, _, hg2⟩ := p1.has (by rw [List.length_map, hw1]; omega)
        obtain ⟨b2, rfl, _, _, hg3⟩ := p2.has (by rw [List.length_map, hw2]; omega)
        have g1 := fun t => hg1 t i (w64 x) (by simp [k1])
        have e1 : m'.w[i]? = some (m'.w[i]'(by omega)) := List.getElem?_eq_getElem _
        generalize m'.w[i]'(by omega) = z at e1
        have g2 := lget_at (get_old hg2 t2) i
        have g3 := lget_at hg3 i
        simp only [List.append_nil, List.append_assoc, List.cons_append, List.nil_append, Nat.zero_mul, Nat.add_zero, List.length_cons, List.length_nil, Nat.zero_add, Nat.reduceAdd, List.getElem?_map, e1, hwl, k1, Option.map_some] at g2 g3
        by_cases hik : i = k
        · subst hik
          simp -dsimp only [go_sem, Nat.reduceEqDiff, Nat.reduceAdd, Nat.reduceSub, Nat.reduceMul, Nat.reduceLeDiff, Nat.reduceLT, Nat.reduceBEq, Int.reduceLT, Int.reduceLE, Int.reduceGT, Int.reduceGE, Int.reduceEq, Int.reduceNe, Int.reduceBEq, Int.reduceBNe, Int.reduceAdd, Int.reduceSub, Int.reduceMul, Int.reduceToNat, Int.reduceNeg, ↓reduceIte, ↓reduceDIte, h2, h3, g1, g2, g3, hw, hwk, hd]
          exact ⟨i + 1, rfl, by omega, by omega⟩
        · have hik2 : ((i : Int) != (k : Int)) = true := by simp; omega
          have hz := hM.get i hik (fun _ => by decide)
          rw [e1, hwl, k1] at hz
          cases hz
          by_cases hik3 : i = k + 1
          · subst hik3
            have hbb : (((k + 1 : Nat) : Int) != ((k + 1 : Nat) : Int)) = false := by simp
            simp -dsimp only [go_sem, Nat.reduceEqDiff, Nat.reduceAdd, Nat.reduceSub, Nat.reduceMul, Nat.reduceLeDiff, Nat.reduceLT, Nat.reduceBEq, Int.reduceLT, Int.reduceLE, Int.reduceGT, Int.reduceGE, Int.reduceEq, Int.reduceNe, Int.reduceBEq, Int.reduceBNe, Int.reduceAdd, Int.reduceSub, Int.reduceMul, Int.reduceToNat, Int.reduceNeg, ↓reduceIte, ↓reduceDIte, h2, h3, g1, g2, g3, hw, hwk, hd, hik2, hbb, hdk]
            exact ⟨k + 1 + 1, rfl, by omega, by omega⟩
          · have hik4 : ((i : Int) != ((k + 1 : Nat) : Int)) = true := by simp; omega
            simp -dsimp only [go_sem, Nat.reduceEqDiff, Nat.reduceAdd, Nat.reduceSub, Nat.reduceMul, Nat.reduceLeDiff, Nat.reduceLT, Nat.reduceBEq, Int.reduceLT, Int.reduceLE, Int.reduceGT, Int.reduceGE, Int.reduceEq, Int.reduceNe, Int.reduceBEq, Int.reduceBNe, Int.reduceAdd, Int.reduceSub, Int.reduceMul, Int.reduceToNat, Int.reduceNeg, ↓reduceIte, ↓reduceDIte, h2, h3, g1, g2, g3, hw, hwk, hd, hik2, hik4]
            exact ⟨i + 1, rfl, by omega, by omega⟩
      · have h2 : ¬ (i : Int) < l.length := by omega
        simp -dsimp only [go_sem, Nat.reduceEqDiff, Nat.reduceAdd, Nat.reduceSub, Nat.reduceMul, Nat.reduceLeDiff, Nat.reduceLT, Nat.reduceBEq, Int.reduceLT, Int.reduceLE, Int.reduceGT, Int.reduceGE, Int.reduceEq, Int.reduceNe, Int.reduceBEq, Int.reduceBNe, Int.reduceAdd, Int.reduceSub, Int.reduceMul, Int.reduceToNat, Int.reduceNeg, ↓reduceIte, ↓reduceDIte, h2]
        refine CT_val (one_ev _ _) ?_
        simp -dsimp only [go_sem, Nat.reduceEqDiff, Nat.reduceAdd, Nat.reduceSub, Nat.reduceMul, Nat.reduceLeDiff, Nat.reduceLT, Nat.reduceBEq, Int.reduceLT, Int.reduceLE, Int.reduceGT, Int.reduceGE, Int.reduceEq, Int.reduceNe, Int.reduceBEq, Int.reduceBNe, Int.reduceAdd, Int.reduceSub, Int.reduceMul, Int.reduceToNat, Int.reduceNeg, ↓reduceIte, ↓reduceDIte]
    · simp -dsimp only [go_sem, Nat.reduceEqDiff, Nat.reduceAdd, Nat.reduceSub, Nat.reduceMul, Nat.reduceLeDiff, Nat.reduceLT, Nat.reduceBEq, Int.reduceLT, Int.reduceLE, Int.reduceGT, Int.reduceGE, Int.reduceEq, Int.reduceNe, Int.reduceBEq, Int.reduceBNe, Int.reduceAdd, Int.reduceSub, Int.reduceMul, Int.reduceToNat, Int.reduceNeg, ↓reduceIte, ↓reduceDIte, hdk]
      refine CT_val (swap_ev (mem_at (pre := [_]) ho)) ?_
      have hM : Step1 m (m.use 2 k fun w => if w = v0 then v1 else w) l.length k 2 := ⟨ho.use _ _ _, hf.use (by omega) _ _ _, fun i hi hi2 => MV.use_get (by omega)⟩
      generalize (m.use 2 k fun w => if w = v0 then v1 else w) = m' at hM ⊢
      simp -dsimp only [go_sem, Nat.reduceEqDiff, Nat.reduceAdd, Nat.reduceSub, Nat.reduceMul, Nat.reduceLeDiff, Nat.reduceLT, Nat.reduceBEq, Int.reduceLT, Int.reduceLE, Int.reduceGT, Int.reduceGE, Int.reduceEq, Int.reduceNe, Int.reduceBEq, Int.reduceBNe, Int.reduceAdd, Int.reduceSub, Int.reduceMul, Int.reduceToNat, Int.reduceNeg, ↓reduceIte, ↓reduceDIte, memPut]
      refine CT_of (peek_ev (by simp) (mem_at (pre := [_]) hM.ok) (by omega)) ?_
      rintro _ _ ⟨a1, t1, rfl, rfl, p1⟩
      rw [hM.ok.peek_all] at p1 ⊢
      simp -dsimp only [go_sem, Nat.reduceEqDiff, Nat.reduceAdd, Nat.reduceSub, Nat.reduceMul, Nat.reduceLeDiff, Nat.reduceLT, Nat.reduceBEq, Int.reduceLT, Int.reduceLE, Int.reduceGT, Int.reduceGE, Int.reduceEq, Int.reduceNe, Int.reduceBEq, Int.reduceBNe, Int.reduceAdd, Int.reduceSub, Int.reduceMul, Int.reduceToNat, Int.reduceNeg, ↓reduceIte, ↓reduceDIte]
      have hc2 : MemAt (H ++ .row false 0 [i64 kind, i64 A, i64 N, w64 v0, w64 v1, w64 v2, w64 v3] :: wrow m' :: brow m' :: mrow (H.length + 1) (H.length + 2) m' :: (t ++ t1)) b' pw' pb' m := by
        have := (hc.tail (A' := H ++ [.row false 0 [i64 kind, i64 A, i64 N, w64 v0, w64 v1, w64 v2, w64 v3], wrow m', brow m', mrow (H.length + 1) (H.length + 2) m']) (by simp) (by simpa using q1) (by simpa using q2) (by simpa using q3)).app t1
        simpa using this
      refine CT_of (peek_ev (by simp) hc2 (by omega)) ?_
      rintro _ _ ⟨a2, t2, rfl, rfl, p2⟩
      rw [ho.peek_all] at p2 ⊢
      have hw1 := hM.ok.w
      have hw2 := ho.w
      have hwn : IntKind.i64.wrap ((l.length : Int) + 1) = ((l.length + 1 : Nat) : Int) := by rw [wrap_i64] <;> omega
      simp -dsimp only [go_sem, Nat.reduceEqDiff, Nat.reduceAdd, Nat.reduceSub, Nat.reduceMul, Nat.reduceLeDiff, Nat.reduceLT, Nat.reduceBEq, Int.reduceLT, Int.reduceLE, Int.reduceGT, Int.reduceGE, Int.reduceEq, Int.reduceNe, Int.reduceBEq, Int.reduceBNe, Int.reduceAdd, Int.reduceSub, Int.reduceMul, Int.reduceToNat, Int.reduceNeg, ↓reduceIte, ↓reduceDIte, hw1, hw2]
      refine CT_val (steps_ev (mem_at (pre := [_]) hM.ok)) ?_
      rw [hM.few.steps]
      simp -dsimp only [go_sem, Nat.reduceEqDiff, Nat.reduceAdd, Nat.reduceSub, Nat.reduceMul, Nat.reduceLeDiff, Nat.reduceLT, Nat.reduceBEq, Int.reduceLT, Int.reduceLE, Int.reduceGT, Int.reduceGE, Int.reduceEq, Int.reduceNe, Int.reduceBEq, Int.reduceBNe, Int.reduceAdd, Int.reduceSub, Int.reduceMul, Int.reduceToNat, Int.reduceNeg, ↓reduceIte, ↓reduceDIte, hwn]
      refine CT_val (steps_ev (by simpa using hc2.app t2)) ?_
      rw [hf.steps]
      simp -dsimp only [go_sem, Nat.reduceEqDiff, Nat.reduceAdd, Nat.reduceSub, Nat.reduceMul, Nat.reduceLeDiff, Nat.reduceLT, Nat.reduceBEq, Int.reduceLT, Int.reduceLE, Int.reduceGT, Int.reduceGE, Int.reduceEq, Int.reduceNe, Int.reduceBEq, Int.reduceBNe, Int.reduceAdd, Int.reduceSub, Int.reduceMul, Int.reduceToNat, Int.reduceNeg, ↓reduceIte, ↓reduceDIte]
      refine LT_of (fun i : Nat => [(0, .slice a l.length l.length), (3, ptr H.length), (10, i64 k), (11, .slice a1 l.length l.length), (12, .slice a2 l.length l.length), (13, i64 i)])
        (fun _ => H ++ .row false 0 [i64 kind, i64 A, i64 N, w64 v0, w64 v1, w64 v2, w64 v3] :: wrow m' :: brow m' :: mrow (H.length + 1) (H.length + 2) m' :: (t ++ (t1 ++ t2))) (fun i => i ≤ l.length) (fun i => l.length - i) 0 rfl rfl (by omega) ?_
      intro i hi
      by_cases hlt : i < l.length
      · have h2 : (i : Int) < l.length := by omega
        have h3 : 0 ≤ (i : Int) := by omega
        have hw : IntKind.i64.wrap ((i : Int) + 1) = ((i + 1 : Nat) : Int) := by rw [wrap_i64] <;> omega
        have hwk : IntKind.i64.wrap ((k : Int) + 1) = ((k + 1 : Nat) : Int) := by rw [wrap_i64] <;> omega
        have k1 : l[i]? = some (l[i]'hlt) := List.getElem?_eq_getElem _
        generalize l[i]'hlt = x at k1
        obtain ⟨b, o, rfl, hb1, hg1⟩ := hs.all (by simp; omega)
        obtain ⟨b1, rfl, _, _, hg2⟩ := p1.has (by rw [List.length_map, hw1]; omega)
        obtain ⟨b2, rfl, _, _, hg3⟩ := p2.has (by rw [List.length_map, hw2]; omega)
        have g1 := fun t => hg1 t i (w64 x) (by simp [k1])
        have e1 : m'.w[i]? = some (m'.w[i]'(by omega)) := List.getElem?_eq_getElem _
        generalize m'.w[i]'(by omega) = z at e1
        have g2 := lget_at (get_old hg2 t2) i
        have g3 := lget_at hg3 i
        simp only [List.append_nil, List.append_assoc, List.cons_append, List.nil_append, Nat.zero_mul, Nat.add_zero, List.length_cons, List.length_nil, Nat.zero_add, Nat.reduceAdd, List.getElem?_map, e1, hwl, k1, Option.map_some] at g2 g3
        by_cases hik : i = k
        · subst hik
          simp -dsimp only [go_sem, Nat.reduceEqDiff, Nat.reduceAdd, Nat.reduceSub, Nat.reduceMul, Nat.reduceLeDiff, Nat.reduceLT, Nat.reduceBEq, Int.reduceLT, Int.reduceLE, Int.reduceGT, Int.reduceGE, Int.reduceEq, Int.reduceNe, Int.reduceBEq, Int.reduceBNe, Int.reduceAdd, Int.reduceSub, Int.reduceMul, Int.reduceToNat, Int.reduceNeg, ↓reduceIte, ↓reduceDIte, h2, h3, g1, g2, g3, hw, hwk, hd]
          exact ⟨i + 1, rfl, by omega, by omega⟩
        · have hik2 : ((i : Int) != (k : Int)) = true := by simp; omega
          have hz := hM.get i hik (fun _ => by decide)
          rw [e1, hwl, k1] at hz
          cases hz
          by_cases hik3 : i = k + 1
          · subst hik3
            have hbb : (((k + 1 : Nat) : Int) != ((k + 1 : Nat) : Int)) = false := by simp
            simp -dsimp only [go_sem, Nat.reduceEqDiff, Nat.reduceAdd, Nat.reduceSub, Nat.reduceMul, Nat.reduceLeDiff, Nat.reduceLT, Nat.reduceBEq, Int.reduceLT, Int.reduceLE, Int.reduceGT, Int.reduceGE, Int.reduceEq, Int.reduceNe, Int.reduceBEq, Int.reduceBNe, Int.reduceAdd, Int.reduceSub, Int.reduceMul, Int.reduceToNat, Int.reduceNeg, ↓reduceIte, ↓reduceDIte, h2, h3, g1, g2, g3, hw, hwk, hd, hik2, hbb, hdk]
            exact ⟨k + 1 + 1, rfl, by omega, by omega⟩
          · have hik4 : ((i : Int) != ((k + 1 : Nat) : Int)) = true := by simp; omega
            simp -dsimp only [go_sem, Nat.reduceEqDiff, Nat.reduceAdd, Nat.reduceSub, Nat.reduceMul, Nat.reduceLeDiff, Nat.reduceLT, Nat.reduceBEq, Int.reduceLT, Int.reduceLE, Int.reduceGT, Int.reduceGE, Int.reduceEq, Int.reduceNe, Int.reduceBEq, Int.reduceBNe, Int.reduceAdd, Int.reduceSub, Int.reduceMul, Int.reduceToNat, Int.reduceNeg, ↓reduceIte, ↓reduceDIte, h2, h3, g1, g2, g3, hw, hwk, hd, hik2, hik4]
            exact ⟨i + 1, rfl, by omega, by omega⟩
      · have h2 : ¬ (i : Int) < l.length := by omega
        simp -dsimp only [go_sem, Nat.reduceEqDiff, Nat.reduceAdd, Nat.reduceSub, Nat.reduceMul, Nat.reduceLeDiff, Nat.reduceLT, Nat.reduceBEq, Int.reduceLT, Int.reduceLE, Int.reduceGT, Int.reduceGE, Int.reduceEq, Int.reduceNe, Int.reduceBEq, Int.reduceBNe, Int.reduceAdd, Int.reduceSub, Int.reduceMul, Int.reduceToNat, Int.reduceNeg, ↓reduceIte, ↓reduceDIte, h2]
        refine CT_val (one_ev _ _) ?_
        simp -dsimp only [go_sem, Nat.reduceEqDiff, Nat.reduceAdd, Nat.reduceSub, Nat.reduceMul, Nat.reduceLeDiff, Nat.reduceLT, Nat.reduceBEq, Int.reduceLT, Int.reduceLE, Int.reduceGT, Int.reduceGE, Int.reduceEq, Int.reduceNe, Int.reduceBEq, Int.reduceBNe, Int.reduceAdd, Int.reduceSub, Int.reduceMul, Int.reduceToNat, Int.reduceNeg, ↓reduceIte, ↓reduceDIte]
    · simp -dsimp only [go_sem, Nat.reduceEqDiff, Nat.reduceAdd, Nat.reduceSub, Nat.reduceMul, Nat.reduceLeDiff, Nat.reduceLT, Nat.reduceBEq, Int.reduceLT, Int.reduceLE, Int.reduceGT, Int.reduceGE, Int.reduceEq, Int.reduceNe, Int.reduceBEq, Int.reduceBNe, Int.reduceAdd, Int.reduceSub, Int.reduceMul, Int.reduceToNat, Int.reduceNeg, ↓reduceIte, ↓reduceDIte, hdk]
      refine CT_val (add_ev (mem_at (pre := [_]) ho)) ?_
      have hM : Step1 m (m.use 3 k (· + v0)) l.length k 3 := ⟨ho.use _ _ _, hf.use (by omega) _ _ _, fun i hi hi2 => MV.use_get (by omega)⟩
      generalize m.use 3 k (· + v0) = m' at hM ⊢
      simp -dsimp only [go_sem, Nat.reduceEqDiff, Nat.reduceAdd, Nat.reduceSub, Nat.reduceMul, Nat.reduceLeDiff, Nat.reduceLT, Nat.reduceBEq, Int.reduceLT, Int.reduceLE, Int.reduceGT, Int.reduceGE, Int.reduceEq, Int.reduceNe, Int.reduceBEq, Int.reduceBNe, Int.reduceAdd, Int.reduceSub, Int.reduceMul, Int.reduceToNat, Int.reduceNeg, ↓reduceIte, ↓reduceDIte, memPut]
      refine CT_of (peek_ev (by simp) (mem_at (pre := [_]) hM.ok) (by omega)) ?_
      rintro _ _ ⟨a1, t1, rfl, rfl, p1⟩
      rw [hM.ok.peek_all] at p1 ⊢
      simp -dsimp only [go_sem, Nat.reduceEqDiff, Nat.reduceAdd, Nat.reduceSub, Nat.reduceMul, Nat.reduceLeDiff, Nat.reduceLT, Nat.reduceBEq, Int.reduceLT, Int.reduceLE, Int.reduceGT, Int.reduceGE, Int.reduceEq, Int.reduceNe, Int.reduceBEq, Int.reduceBNe, Int.reduceAdd, Int.reduceSub, Int.reduceMul, Int.reduceToNat, Int.reduceNeg, ↓reduceIte, ↓reduceDIte]
      have hc2 : MemAt (H ++ .row false 0 [i64 kind, i64 A, i64 N, w64 v0, w64 v1, w64 v2, w64 v3] :: wrow m' :: brow m' :: mrow (H.length + 1) (H.length + 2) m' :: (t ++ t1)) b' pw' pb' m := by
        have := (hc.tail (A' := H ++ [.row false 0 [i64 kind, i64 A, i64 N, w64 v0, w64 v1, w64 v2, w64 v3], wrow m', brow m', mrow (H.length + 1) (H.length + 2) m']) (by simp) (by simpa using q1) (by simpa using q2) (by simpa using q3)).app t1
        simpa using this
      refine CT_of (peek_ev (by simp) hc2 (by omega)) ?_
      rintro _ _ ⟨a2, t2, rfl, rfl, p2⟩
      rw [ho.peek_all] at p2 ⊢
      have hw1 := hM.ok.w
      have hw2 := ho.w
      have hwn : IntKind.i64.wrap ((l.length : Int) + 1) = ((l.length + 1 : Nat) : Int) := by rw [wrap_i64] <;> omega
      simp -dsimp only [go_sem, Nat.reduceEqDiff, Nat.reduceAdd, Nat.reduceSub, Nat.reduceMul, Nat.reduceLeDiff, Nat.reduceLT, Nat.reduceBEq, Int.reduceLT, Int.reduceLE, Int.reduceGT, Int.reduceGE, Int.reduceEq, Int.reduceNe, Int.reduceBEq, Int.reduceBNe, Int.reduceAdd, Int.reduceSub, Int.reduceMul, Int.reduceToNat, Int.reduceNeg, ↓reduceIte, ↓reduceDIte, hw1, hw2]
      refine CT_val (steps_ev (mem_at (pre := [_]) hM.ok)) ?_
      rw [hM.few.steps]
      simp -dsimp only [go_sem, Nat.reduceEqDiff, Nat.reduceAdd, Nat.reduceSub, Nat.reduceMul, Nat.reduceLeDiff, Nat.reduceLT, Nat.reduceBEq, Int.reduceLT, Int.reduceLE, Int.reduceGT, Int.reduceGE, Int.reduceEq, Int.reduceNe, Int.reduceBEq, Int.reduceBNe, Int.reduceAdd, Int.reduceSub, Int.reduceMul, Int.reduceToNat, Int.reduceNeg, ↓reduceIte, ↓reduceDIte, hwn]
      refine CT_val (steps_ev (by simpa using hc2.app t2)) ?_
      rw [hf.steps]
      simp -dsimp only [go_sem, Nat.reduceEqDiff, Nat.reduceAdd, Nat.reduceSub, Nat.reduceMul, Nat.reduceLeDiff, Nat.reduceLT, Nat.reduceBEq, Int.reduceLT, Int.reduceLE, Int.reduceGT, Int.reduceGE, Int.reduceEq, Int.reduceNe, Int.reduceBEq, Int.reduceBNe, Int.reduceAdd, Int.reduceSub, Int.reduceMul, Int.reduceToNat, Int.reduceNeg, ↓reduceIte, ↓reduceDIte]
      refine LT_of (fun i : Nat => [(0, .slice a l.length l.length), (3, ptr H.length), (10, i64 k), (11, .slice a1 l.length l.length), (12, .slice a2 l.length l.length), (13, i64 i)])
        (fun _ => H ++ .row false 0 [i64 kind, i64 A, i64 N, w64 v0, w64 v1, w64 v2, w64 v3] :: wrow m' :: brow m' :: mrow (H.length + 1) (H.length + 2) m' :: (t ++ (t1 ++ t2))) (fun i => i ≤ l.length) (fun i => l.length - i) 0 rfl rfl (by omega) ?_
      intro i hi
      by_cases hlt : i < l.length
      · have h2 : (i : Int) < l.length := by omega
        have h3 : 0 ≤ (i : Int) := by omega
        have hw : IntKind.i64.wrap ((i : Int) + 1) = ((i + 1 : Nat) : Int) := by rw [wrap_i64] <;> omega
        have hwk : IntKind.i64.wrap ((k : Int) + 1) = ((k + 1 : Nat) : Int) := by rw [wrap_i64] <;> omega
        have k1 : l[i]? = some (l[i]'hlt) := List.getElem?_eq_getElem _
        generalize l[i]'hlt = x at k1
        obtain ⟨b, o, rfl, hb1, hg1⟩ := hs.all (by simp; omega)
        obtain ⟨b1, rfl, _, _, hg2⟩ := p1.has (by rw [List.length_map, hw1]; omega)
        obtain ⟨b2, rfl, _, _, hg3⟩ := p2.has (by rw [List.length_map, hw2]; omega)
        have g1 := fun t => hg1 t i (w64 x) (by simp [k1])
        have e1 : m'.w[i]? = some (m'.w[i]'(by omega)) := List.getElem?_eq_getElem _
        generalize m'.w[i]'(by omega) = z at e1
        have g2 := lget_at (get_old hg2 t2) i
        have g3 := lget_at hg3 i
        simp only [List.append_nil, List.append_assoc, List.cons_append, List.nil_append, Nat.zero_mul, Nat.add_zero, List.length_cons, List.length_nil, Nat.zero_add, Nat.reduceAdd, List.getElem?_map, e1, hwl, k1, Option.map_some] at g2 g3
        by_cases hik : i = k
        · subst hik
          simp -dsimp only [go_sem, Nat.reduceEqDiff, Nat.reduceAdd, Nat.reduceSub, Nat.reduceMul, Nat.reduceLeDiff, Nat.reduceLT, Nat.reduceBEq, Int.reduceLT, Int.reduceLE, Int.reduceGT, Int.reduceGE, Int.reduceEq, Int.reduceNe, Int.reduceBEq, Int.reduceBNe, Int.reduceAdd, Int.reduceSub, Int.reduceMul, Int.reduceToNat, Int.reduceNeg, ↓reduceIte, ↓reduceDIte, h2, h3, g1, g2, g3, hw, hwk, hd]
          exact ⟨i + 1, rfl, by omega, by omega⟩
        · have hik2 : ((i : Int) != (k : Int)) = true := by simp; omega
          have hz := hM.get i hik (fun _ => by decide)
          rw [e1, hwl, k1] at hz
          cases hz
          by_cases hik3 : i = k + 1
          · subst hik3
            have hbb : (((k + 1 : Nat) : Int) != ((k + 1 : Nat) : Int)) = false := by simp
            simp -dsimp only [go_sem, Nat.reduceEqDiff, Nat.reduceAdd, Nat.reduceSub, Nat.reduceMul, Nat.reduceLeDiff, Nat.reduceLT, Nat.reduceBEq, Int.reduceLT, Int.reduceLE, Int.reduceGT, Int.reduceGE, Int.reduceEq, Int.reduceNe, Int.reduceBEq, Int.reduceBNe, Int.reduceAdd, Int.reduceSub, Int.reduceMul, Int.reduceToNat, Int.reduceNeg, ↓reduceIte, ↓reduceDIte, h2, h3, g1, g2, g3, hw, hwk, hd, hik2, hbb, hdk]
            exact ⟨k + 1 + 1, rfl, by omega, by omega⟩
          · have hik4 : ((i : Int) != ((k + 1 : Nat) : Int)) = true := by simp; omega
            simp -dsimp only [go_sem, Nat.reduceEqDiff, Nat.reduceAdd, Nat.reduceSub, Nat.reduceMul, Nat.reduceLeDiff, Nat.reduceLT, Nat.reduceBEq, Int.reduceLT, Int.reduceLE, Int.reduceGT, Int.reduceGE, Int.reduceEq, Int.reduceNe, Int.reduceBEq, Int.reduceBNe, Int.reduceAdd, Int.reduceSub, Int.reduceMul, Int.reduceToNat, Int.reduceNeg, ↓reduceIte, ↓reduceDIte, h2, h3, g1, g2, g3, hw, hwk, hd, hik2, hik4]
            exact ⟨i + 1, rfl, by omega, by omega⟩
      · have h2 : ¬ (i : Int) < l.length := by omega
        simp -dsimp only [go_sem, Nat.reduceEqDiff, Nat.reduceAdd, Nat.reduceSub, Nat.reduceMul, Nat.reduceLeDiff, Nat.reduceLT, Nat.reduceBEq, Int.reduceLT, Int.reduceLE, Int.reduceGT, Int.reduceGE, Int.reduceEq, Int.reduceNe, Int.reduceBEq, Int.reduceBNe, Int.reduceAdd, Int.reduceSub, Int.reduceMul, Int.reduceToNat, Int.reduceNeg, ↓reduceIte, ↓reduceDIte, h2]
        refine CT_val (one_ev _ _) ?_
        simp -dsimp only [go_sem, Nat.reduceEqDiff, Nat.reduceAdd, Nat.reduceSub, Nat.reduceMul, Nat.reduceLeDiff, Nat.reduceLT, Nat.reduceBEq, Int.reduceLT, Int.reduceLE, Int.reduceGT, Int.reduceGE, Int.reduceEq, Int.reduceNe, Int.reduceBEq, Int.reduceBNe, Int.reduceAdd, Int.reduceSub, Int.reduceMul, Int.reduceToNat, Int.reduceNeg, ↓reduceIte, ↓reduceDIte]
    · simp -dsimp only [go_sem, Nat.reduceEqDiff, Nat.reduceAdd, Nat.reduceSub, Nat.reduceMul, Nat.reduceLeDiff, Nat.reduceLT, Nat.reduceBEq, Int.reduceLT, Int.reduceLE, Int.reduceGT, Int.reduceGE, Int.reduceEq, Int.reduceNe, Int.reduceBEq, Int.reduceBNe, Int.reduceAdd, Int.reduceSub, Int.reduceMul, Int.reduceToNat, Int.reduceNeg, ↓reduceIte, ↓reduceDIte, hdk]
      refine CT_val (or_ev (mem_at (pre := [_]) ho)) ?_
      have hM : Step1 m (m.use 4 k (· ||| v0)) l.length k 4 := ⟨ho.use _ _ _, hf.use (by omega) _ _ _, fun i hi hi2 => MV.use_get (by omega)⟩
      generalize m.use 4 k (· ||| v0) = m' at hM ⊢
      simp -dsimp only [go_sem, Nat.reduceEqDiff, Nat.reduceAdd, Nat.reduceSub, Nat.reduceMul, Nat.reduceLeDiff, Nat.reduceLT, Nat.reduceBEq, Int.reduceLT, Int.reduceLE, Int.reduceGT, Int.reduceGE, Int.reduceEq, Int.reduceNe, Int.reduceBEq, Int.reduceBNe, Int.reduceAdd, Int.reduceSub, Int.reduceMul, Int.reduceToNat, Int.reduceNeg, ↓reduceIte, ↓reduceDIte, memPut]
      refine CT_of (peek_ev (by simp) (mem_at (pre := [_]) hM.ok) (by omega)) ?_
      rintro _ _ ⟨a1, t1, rfl, rfl, p1⟩
      rw [hM.ok.peek_all] at p1 ⊢
      simp -dsimp only [go_sem, Nat.reduceEqDiff, Nat.reduceAdd, Nat.reduceSub, Nat.reduceMul, Nat.reduceLeDiff, Nat.reduceLT, Nat.reduceBEq, Int.reduceLT, Int.reduceLE, Int.reduceGT, Int.reduceGE, Int.reduceEq, Int.reduceNe, Int.reduceBEq, Int.reduceBNe, Int.reduceAdd, Int.reduceSub, Int.reduceMul, Int.reduceToNat, Int.reduceNeg, ↓reduceIte, ↓reduceDIte]
      have hc2 : MemAt (H ++ .row false 0 [i64 kind, i64 A, i64 N, w64 v0, w64 v1, w64 v2, w64 v3] :: wrow m' :: brow m' :: mrow (H.length + 1) (H.length + 2) m' :: (t ++ t1)) b' pw' pb' m := by
        have := (hc.tail (A' := H ++ [.row false 0 [i64 kind, i64 A, i64 N, w64 v0, w64 v1, w64 v2, w64 v3], wrow m', brow m', mrow (H.length + 1) (H.length + 2) m']) (by simp) (by simpa using q1) (by simpa using q2) (by simpa using q3)).app t1
        simpa using this
      refine CT_of (peek_ev (by simp) hc2 (by omega)) ?_
      rintro _ _ ⟨a2, t2, rfl, rfl, p2⟩
      rw [ho.peek_all] at p2 ⊢
      have hw1 := hM.ok.w
      have hw2 := ho.w
      have hwn : IntKind.i64.wrap ((l.length : Int) + 1) = ((l.length + 1 : Nat) : Int) := by rw [wrap_i64] <;> omega
      simp -dsimp only [go_sem, Nat.reduceEqDiff, Nat.reduceAdd, Nat.reduceSub, Nat.reduceMul, Nat.reduceLeDiff, Nat.reduceLT, Nat.reduceBEq, Int.reduceLT, Int.reduceLE, Int.reduceGT, Int.reduceGE, Int.reduceEq, Int.reduceNe, Int.reduceBEq, Int.reduceBNe, Int.reduceAdd, Int.reduceSub, Int.reduceMul, Int.reduceToNat, Int.reduceNeg, ↓reduceIte, ↓reduceDIte, hw1, hw2]
      refine CT_val (steps_ev (mem_at (pre := [_]) hM.ok)) ?_
      rw [hM.few.steps]
      simp -dsimp only [go_sem, Nat.reduceEqDiff, Nat.reduceAdd, Nat.reduceSub, Nat.reduceMul, Nat.reduceLeDiff, Nat.reduceLT, Nat.reduceBEq, Int.reduceLT, Int.reduceLE, Int.reduceGT, Int.reduceGE, Int.reduceEq, Int.reduceNe, Int.reduceBEq, Int.reduceBNe, Int.reduceAdd, Int.reduceSub, Int.reduceMul, Int.reduceToNat, Int.reduceNeg, ↓reduceIte, ↓reduceDIte, hwn]
      refine CT_val (steps_ev (by simpa using hc2.app t2)) ?_
      rw [hf.steps]
      simp -dsimp only [go_sem, Nat.reduceEqDiff, Nat.reduceAdd, Nat.reduceSub, Nat.reduceMul, Nat.reduceLeDiff, Nat.reduceLT, Nat.reduceBEq, Int.reduceLT, Int.reduceLE, Int.reduceGT, Int.reduceGE, Int.reduceEq, Int.reduceNe, Int.reduceBEq, Int.reduceBNe, Int.reduceAdd, Int.reduceSub, Int.reduceMul, Int.reduceToNat, Int.reduceNeg, ↓reduceIte, ↓reduceDIte]
      refine LT_of (fun i : Nat => [(0, .slice a l.length l.length), (3, ptr H.length), (10, i64 k), (11, .slice a1 l.length l.length), (12, .slice a2 l.length l.length), (13, i64 i)])
        (fun _ => H ++ .row false 0 [i64 kind, i64 A, i64 N, w64 v0, w64 v1, w64 v2, w64 v3] :: wrow m' :: brow m' :: mrow (H.length + 1) (H.length + 2) m' :: (t ++ (t1 ++ t2))) (fun i => i ≤ l.length) (fun i => l.length - i) 0 rfl rfl (by omega) ?_
      intro i hi
      by_cases hlt : i < l.length
      · have h2 : (i : Int) < l.length := by omega
        have h3 : 0 ≤ (i : Int) := by omega
        have hw : IntKind.i64.wrap ((i : Int) + 1) = ((i + 1 : Nat) : Int) := by rw [wrap_i64] <;> omega
        have hwk : IntKind.i64.wrap ((k : Int) + 1) = ((k + 1 : Nat) : Int) := by rw [wrap_i64] <;> omega
        have k1 : l[i]? = some (l[i]'hlt) := List.getElem?_eq_getElem _
        generalize l[i]'hlt = x at k1
        obtain ⟨b, o, rfl, hb1, hg1⟩ := hs.all (by simp; omega)
        obtain ⟨b1, rfl, _, _, hg2⟩ := p1.has (by rw [List.length_map, hw1]; omega)
        obtain ⟨b2, rfl, _, _, hg3⟩ := p2.has (by rw [List.length_map, hw2]; omega)
        have g1 := fun t => hg1 t i (w64 x) (by simp [k1])
        have e1 : m'.w[i]? = some (m'.w[i]'(by omega)) := List.getElem?_eq_getElem _
        generalize m'.w[i]'(by omega) = z at e1
        have g2 := lget_at (get_old hg2 t2) i
        have g3 := lget_at hg3 i
        simp only [List.append_nil, List.append_assoc, List.cons_append, List.nil_append, Nat.zero_mul, Nat.add_zero, List.length_cons, List.length_nil, Nat.zero_add, Nat.reduceAdd, List.getElem?_map, e1, hwl, k1, Option.map_some] at g2 g3
        by_cases hik : i = k
        · subst hik
          simp -dsimp only [go_sem, Nat.reduceEqDiff, Nat.reduceAdd, Nat.reduceSub, Nat.reduceMul, Nat.reduceLeDiff, Nat.reduceLT, Nat.reduceBEq, Int.reduceLT, Int.reduceLE, Int.reduceGT, Int.reduceGE, Int.reduceEq, Int.reduceNe, Int.reduceBEq, Int.reduceBNe, Int.reduceAdd, Int.reduceSub, Int.reduceMul, Int.reduceToNat, Int.reduceNeg, ↓reduceIte, ↓reduceDIte, h2, h3, g1, g2, g3, hw, hwk, hd]
          exact ⟨i + 1, rfl, by omega, by omega⟩
        · have hik2 : ((i : Int) != (k : Int)) = true := by simp; omega
          have hz := hM.get i hik (fun _ => by decide)
          rw [e1, hwl, k1] at hz
          cases hz
          by_cases hik3 : i = k + 1
          · subst hik3
            have hbb : (((k + 1 : Nat) : Int) != ((k + 1 : Nat) : Int)) = false := by simp
            simp -dsimp only [go_sem, Nat.reduceEqDiff, Nat.reduceAdd, Nat.reduceSub, Nat.reduceMul, Nat.reduceLeDiff, Nat.reduceLT, Nat.reduceBEq, Int.reduceLT, Int.reduceLE, Int.reduceGT, Int.reduceGE, Int.reduceEq, Int.reduceNe, Int.reduceBEq, Int.reduceBNe, Int.reduceAdd, Int.reduceSub, Int.reduceMul, Int.reduceToNat, Int.reduceNeg, ↓reduceIte, ↓reduceDIte, h2, h3, g1, g2, g3, hw, hwk, hd, hik2, hbb, hdk]
            exact ⟨k + 1 + 1, rfl, by omega, by omega⟩
          · have hik4 : ((i : Int) != ((k + 1 : Nat) : Int)) = true := by simp; omega
            simp -dsimp only [go_sem, Nat.reduceEqDiff, Nat.reduceAdd, Nat.reduceSub, Nat.reduceMul, Nat.reduceLeDiff, Nat.reduceLT, Nat.reduceBEq, Int.reduceLT, Int.reduceLE, Int.reduceGT, Int.reduceGE, Int.reduceEq, Int.reduceNe, Int.reduceBEq, Int.reduceBNe, Int.reduceAdd, Int.reduceSub, Int.reduceMul, Int.reduceToNat, Int.reduceNeg, ↓reduceIte, ↓reduceDIte, h2, h3, g1, g2, g3, hw, hwk, hd, hik2, hik4]
            exact ⟨i + 1, rfl, by omega, by omega⟩
      · have h2 : ¬ (i : Int) < l.length := by omega
        simp -dsimp only [go_sem, Nat.reduceEqDiff, Nat.reduceAdd, Nat.reduceSub, Nat.reduceMul, Nat.reduceLeDiff, Nat.reduceLT, Nat.reduceBEq, Int.reduceLT, Int.reduceLE, Int.reduceGT, Int.reduceGE, Int.reduceEq, Int.reduceNe, Int.reduceBEq, Int.reduceBNe, Int.reduceAdd, Int.reduceSub, Int.reduceMul, Int.reduceToNat, Int.reduceNeg, ↓reduceIte, ↓reduceDIte, h2]
        refine CT_val (one_ev _ _) ?_
        simp -dsimp only [go_sem, Nat.reduceEqDiff, Nat.reduceAdd, Nat.reduceSub, Nat.reduceMul, Nat.reduceLeDiff, Nat.reduceLT, Nat.reduceBEq, Int.reduceLT, Int.reduceLE, Int.reduceGT, Int.reduceGE, Int.reduceEq, Int.reduceNe, Int.reduceBEq, Int.reduceBNe, Int.reduceAdd, Int.reduceSub, Int.reduceMul, Int.reduceToNat, Int.reduceNeg, ↓reduceIte, ↓reduceDIte]
    · simp -dsimp only [go_sem, Nat.reduceEqDiff, Nat.reduceAdd, Nat.reduceSub, Nat.reduceMul, Nat.reduceLeDiff, Nat.reduceLT, Nat.reduceBEq, Int.reduceLT, Int.reduceLE, Int.reduceGT, Int.reduceGE, Int.reduceEq, Int.reduceNe, Int.reduceBEq, Int.reduceBNe, Int.reduceAdd, Int.reduceSub, Int.reduceMul, Int.reduceToNat, Int.reduceNeg, ↓reduceIte, ↓reduceDIte, hdk]
      refine CT_val (pair_ev (mem_at (pre := [_]) ho)) ?_
      have hM : Step1 m (m.pair k v0 v1 v2 v3) l.length k 5 := ⟨ho.pair _ _ _ _ _, hf.pair (by omega) _ _ _ _ _, fun i hi hi2 => MV.pair_get (by omega) (by have := hi2; omega)⟩
      generalize m.pair k v0 v1 v2 v3 = m' at hM ⊢
      simp -dsimp only [go_sem, Nat.reduceEqDiff, Nat.reduceAdd, Nat.reduceSub, Nat.reduceMul, Nat.reduceLeDiff, Nat.reduceLT, Nat.reduceBEq, Int.reduceLT, Int.reduceLE, Int.reduceGT, Int.reduceGE, Int.reduceEq, Int.reduceNe, Int.reduceBEq, Int.reduceBNe, Int.reduceAdd, Int.reduceSub, Int.reduceMul, Int.reduceToNat, Int.reduceNeg, ↓reduceIte, ↓reduceDIte, memPut]
      refine CT_of (peek_ev (by simp) (mem_at (pre := [_]) hM.ok) (by omega)) ?_
      rintro _ _ ⟨a1, t1, rfl, rfl, p1⟩
      rw [hM.ok.peek_all] at p1 ⊢
      simp -dsimp only [go_sem, Nat.reduceEqDiff, Nat.reduceAdd, Nat.reduceSub, Nat.reduceMul, Nat.reduceLeDiff, Nat.reduceLT, Nat.reduceBEq, Int.reduceLT, Int.reduceLE, Int.reduceGT, Int.reduceGE, Int.reduceEq, Int.reduceNe, Int.reduceBEq, Int.reduceBNe, Int.reduceAdd, Int.reduceSub, Int.reduceMul, Int.reduceToNat, Int.reduceNeg, ↓reduceIte, ↓reduceDIte]
      have hc2 : MemAt (H ++ .row false 0 [i64 kind, i64 A, i64 N, w64 v0, w64 v1, w64 v2, w64 v3] :: wrow m' :: brow m' :: mrow (H.length + 1) (H.length + 2) m' :: (t ++ t1)) b' pw' pb' m := by
        have := (hc.tail (A' := H ++ [.row false 0 [i64 kind, i64 A, i64 N, w64 v0, w64 v1, w64 v2, w64 v3], wrow m', brow m', mrow (H.length + 1) (H.length + 2) m']) (by simp) (by simpa using q1) (by simpa using q2) (by simpa using q3)).app t1
        simpa using this
      refine CT_of (peek_ev (by simp) hc2 (by omega)) ?_
      rintro _ _ ⟨a2, t2, rfl, rfl, p2⟩
      rw [ho.peek_all] at p2 ⊢
      have hw1 := hM.ok.w
      have hw2 := ho.w
      have hwn : IntKind.i64.wrap ((l.length : Int) + 1) = ((l.length + 1 : Nat) : Int) := by rw [wrap_i64] <;> omega
      simp -dsimp only [go_sem, Nat.reduceEqDiff, Nat.reduceAdd, Nat.reduceSub, Nat.reduceMul, Nat.reduceLeDiff, Nat.reduceLT, Nat.reduceBEq, Int.reduceLT, Int.reduceLE, Int.reduceGT, Int.reduceGE, Int.reduceEq, Int.reduceNe, Int.reduceBEq, Int.reduceBNe, Int.reduceAdd, Int.reduceSub, Int.reduceMul, Int.reduceToNat, Int.reduceNeg, ↓reduceIte, ↓reduceDIte, hw1, hw2]
      refine CT_val (steps_ev (mem_at (pre := [_]) hM.ok)) ?_
      rw [hM.few.steps]
      simp -dsimp only [go_sem, Nat.reduceEqDiff, Nat.reduceAdd, Nat.reduceSub, Nat.reduceMul, Nat.reduceLeDiff, Nat.reduceLT, Nat.reduceBEq, Int.reduceLT, Int.reduceLE, Int.reduceGT, Int.reduceGE, Int.reduceEq, Int.reduceNe, Int.reduceBEq, Int.reduceBNe, Int.reduceAdd, Int.reduceSub, Int.reduceMul, Int.reduceToNat, Int.reduceNeg, ↓reduceIte, ↓reduceDIte, hwn]
      refine CT_val (steps_ev (by simpa using hc2.app t2)) ?_
      rw [hf.steps]
      simp -dsimp only [go_sem, Nat.reduceEqDiff, Nat.reduceAdd, Nat.reduceSub, Nat.reduceMul, Nat.reduceLeDiff, Nat.reduceLT, Nat.reduceBEq, Int.reduceLT, Int.reduceLE, Int.reduceGT, Int.reduceGE, Int.reduceEq, Int.reduceNe, Int.reduceBEq, Int.reduceBNe, Int.reduceAdd, Int.reduceSub, Int.reduceMul, Int.reduceToNat, Int.reduceNeg, ↓reduceIte, ↓reduceDIte]
      refine LT_of (fun i : Nat => [(0, .slice a l.length l.length), (3, ptr H.length), (10, i64 k), (11, .slice a1 l.length l.length), (12, .slice a2 l.length l.length), (13, i64 i)])
        (fun _ => H ++ .row false 0 [i64 kind, i64 A, i64 N, w64 v0, w64 v1, w64 v2, w64 v3] :: wrow m' :: brow m' :: mrow (H.length + 1) (H.length + 2) m' :: (t ++ (t1 ++ t2))) (fun i => i ≤ l.length) (fun i => l.length - i) 0 rfl rfl (by omega) ?_
      intro i hi
      by_cases hlt : i < l.length
      · have h2 : (i : Int) < l.length := by omega
        have h3 : 0 ≤ (i : Int) := by omega
        have hw : IntKind.i64.wrap ((i : Int) + 1) = ((i + 1 : Nat) : Int) := by rw [wrap_i64] <;> omega
        have hwk : IntKind.i64.wrap ((k : Int) + 1) = ((k + 1 : Nat) : Int) := by rw [wrap_i64] <;> omega
        have k1 : l[i]? = some (l[i]'hlt) := List.getElem?_eq_getElem _
        generalize l[i]'hlt = x at k1
        obtain ⟨b, o, rfl, hb1, hg1⟩ := hs.all (by simp; omega)
        obtain ⟨b1, rfl, _, _, hg2⟩ := p1.has (by rw [List.length_map, hw1]; omega)
        obtain ⟨b2, rfl, _, _, hg3⟩ := p2.has (by rw [List.length_map, hw2]; omega)
        have g1 := fun t => hg1 t i (w64 x) (by simp [k1])
        have e1 : m'.w[i]? = some (m'.w[i]'(by omega)) := List.getElem?_eq_getElem _
        generalize m'.w[i]'(by omega) = z at e1
        have g2 := lget_at (get_old hg2 t2) i
        have g3 := lget_at hg3 i
        simp only [List.append_nil, List.append_assoc, List.cons_append, List.nil_append, Nat.zero_mul, Nat.add_zero, List.length_cons, List.length_nil, Nat.zero_add, Nat.reduceAdd, List.getElem?_map, e1, hwl, k1, Option.map_some] at g2 g3
        by_cases hik : i = k
        · subst hik
          simp -dsimp only [go_sem, Nat.reduceEqDiff, Nat.reduceAdd, Nat.reduceSub, Nat.reduceMul, Nat.reduceLeDiff, Nat.reduceLT, Nat.reduceBEq, Int.reduceLT, Int.reduceLE, Int.reduceGT, Int.reduceGE, Int.reduceEq, Int.reduceNe, Int.reduceBEq, Int.reduceBNe, Int.reduceAdd, Int.reduceSub, Int.reduceMul, Int.reduceToNat, Int.reduceNeg, ↓reduceIte, ↓reduceDIte, h2, h3, g1, g2, g3, hw, hwk, hd]
          exact ⟨i + 1, rfl, by omega, by omega⟩
        · have hik2 : ((i : Int) != (k : Int)) = true := by simp; omega
          by_cases hik3 : i = k + 1
          · subst hik3
            have hbb : (((k + 1 : Nat) : Int) != ((k + 1 : Nat) : Int)) = false := by simp
            simp -dsimp only [go_sem, Nat.reduceEqDiff, Nat.reduceAdd, Nat.reduceSub, Nat.reduceMul, Nat.reduceLeDiff, Nat.reduceLT, Nat.reduceBEq, Int.reduceLT, Int.reduceLE, Int.reduceGT, Int.reduceGE, Int.reduceEq, Int.reduceNe, Int.reduceBEq, Int.reduceBNe, Int.reduceAdd, Int.reduceSub, Int.reduceMul, Int.reduceToNat, Int.reduceNeg, ↓reduceIte, ↓reduceDIte, h2, h3, g1, g2, g3, hw, hwk, hd, hik2, hbb, hdk]
            exact ⟨k + 1 + 1, rfl, by omega, by omega⟩
          · have hz := hM.get i hik (fun q => absurd q hik3)
            rw [e1, hwl, k1] at hz
            cases hz
            have hik4 : ((i : Int) != ((k + 1 : Nat) : Int)) = true := by simp; omega
            simp -dsimp only [go_sem, Nat.reduceEqDiff, Nat.reduceAdd, Nat.reduceSub, Nat.reduceMul, Nat.reduceLeDiff, Nat.reduceLT, Nat.reduceBEq, Int.reduceLT, Int.reduceLE, Int.reduceGT, Int.reduceGE, Int.reduceEq, Int.reduceNe, Int.reduceBEq, Int.reduceBNe, Int.reduceAdd, Int.reduceSub, Int.reduceMul, Int.reduceToNat, Int.reduceNeg, ↓reduceIte, ↓reduceDIte, h2, h3, g1, g2, g3, hw, hwk, hd, hik2, hik4]
            exact ⟨i + 1, rfl, by omega, by omega⟩
      · have h2 : ¬ (i : Int) < l.length := by omega
        simp -dsimp only [go_sem, Nat.reduceEqDiff, Nat.reduceAdd, Nat.reduceSub, Nat.reduceMul, Nat.reduceLeDiff, Nat.reduceLT, Nat.reduceBEq, Int.reduceLT, Int.reduceLE, Int.reduceGT, Int.reduceGE, Int.reduceEq, Int.reduceNe, Int.reduceBEq, Int.reduceBNe, Int.reduceAdd, Int.reduceSub, Int.reduceMul, Int.reduceToNat, Int.reduceNeg, ↓reduceIte, ↓reduceDIte, h2]
        refine CT_val (one_ev _ _) ?_
        simp -dsimp only [go_sem, Nat.reduceEqDiff, Nat.reduceAdd, Nat.reduceSub, Nat.reduceMul, Nat.reduceLeDiff, Nat.reduceLT, Nat.reduceBEq, Int.reduceLT, Int.reduceLE, Int.reduceGT, Int.reduceGE, Int.reduceEq, Int.reduceNe, Int.reduceBEq, Int.reduceBNe, Int.reduceAdd, Int.reduceSub, Int.reduceMul, Int.reduceToNat, Int.reduceNeg, ↓reduceIte, ↓reduceDIte]
end Go.Proofs.Ytckfbicepdbafaa
