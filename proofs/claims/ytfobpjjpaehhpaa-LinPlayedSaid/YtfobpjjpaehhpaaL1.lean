/- Sets of places, and names, worked out. -/
import Derived.Test.YtfobpjjpaehhpaaL0
namespace Go.Proofs.Ytfobpjjpaehhpaa
open Go Go.LK
set_option linter.unusedSimpArgs false
set_option linter.unusedVariables false
theorem has_ev {lim : Nat} {u : BitVec 64} {i : Nat} {H : LHeap} (hi : i < 64) : callE T 49 lim [w64 u, i64 i] H fun v H' => v = .bool (u.getLsbD i) ∧ H' = H := by
  refine callE_pop rfl (by simp) rfl ?_
  have h1 : 0 ≤ (i : Int) := by omega
  have h2 : min i 64 = i := by omega
  have h3 : ((u >>> i &&& 1#64) == 1#64) = u.getLsbD i := by
    rw [show u.getLsbD i = (u >>> i).getLsbD 0 by simp [BitVec.getLsbD_ushiftRight]]
    generalize u >>> i = x
    cases hb : x.getLsbD 0
    · rw [beq_eq_false_iff_ne]
      intro h
      have := congrArg (fun y => y.getLsbD 0) h
      simp only [BitVec.getLsbD_and, hb, Bool.false_and] at this
      exact absurd this (by decide)
    · rw [beq_iff_eq]
      refine BitVec.eq_of_getLsbD_eq fun j hj => ?_
      rw [BitVec.getLsbD_and, BitVec.getLsbD_one]
      by_cases e : j = 0
      · subst e; simp [hb]
      · simp [e]
  simp -dsimp only [go_sem, Nat.reduceEqDiff, Nat.reduceAdd, Nat.reduceSub, Nat.reduceMul, Nat.reduceLeDiff, Nat.reduceLT, Nat.reduceBEq, Int.reduceLT, Int.reduceLE, Int.reduceGT, Int.reduceGE, Int.reduceEq, Int.reduceNe, Int.reduceBEq, Int.reduceBNe, Int.reduceAdd, Int.reduceSub, Int.reduceMul, Int.reduceToNat, Int.reduceNeg, ↓reduceIte, ↓reduceDIte, h1, h2, h3, lbin_shr]
theorem with_ev {lim : Nat} {u : BitVec 64} {i : Nat} {H : LHeap} (hi : i < 64) : callE T 30 lim [w64 u, i64 i] H fun v H' => v = w64 (withB u i) ∧ H' = H := by
  refine callE_pop rfl (by simp) rfl ?_
  have h1 : 0 ≤ (i : Int) := by omega
  have h2 : min i 64 = i := by omega
  simp -dsimp only [go_sem, Nat.reduceEqDiff, Nat.reduceAdd, Nat.reduceSub, Nat.reduceMul, Nat.reduceLeDiff, Nat.reduceLT, Nat.reduceBEq, Int.reduceLT, Int.reduceLE, Int.reduceGT, Int.reduceGE, Int.reduceEq, Int.reduceNe, Int.reduceBEq, Int.reduceBNe, Int.reduceAdd, Int.reduceSub, Int.reduceMul, Int.reduceToNat, Int.reduceNeg, ↓reduceIte, ↓reduceDIte, h1, h2, lbin_shl]
  rfl
abbrev ptrF (b : Nat) : Value := .pointer (some ⟨b, 0, none⟩)
set_option maxHeartbeats 1000000 in
theorem name_ev {lim p : Nat} {cap : Int} {a : Option Addr} {s : List (BitVec 64)} {us : BitVec 64} {c0 c1 c2 c3 c5 c6 : Value} {kk : FuncId} {ck : List Value} {H : LHeap}
    (hp : H[p]? = some (.row false 0 [c0, c1, c2, c3, .func (.func kk) #[] ck.toArray, c5, c6])) (hs : Sl 1 H a (s.map w64)) (hn : s.length < 1000000)
    (hkey : ∀ (t : LHeap) lim', callE T kk lim' ([fifo cap a s.length] ++ ck) (H ++ t) fun v H' => v = strV (keyN cap s) ∧ H' = H ++ t) :
    callE T 48 lim [ptrF p, w64 us, fifo cap a s.length] H fun v H' => (∃ k, k ≤ 8 ∧ us >>> (8 * k) = 0#64 ∧ v = strV (nameN k cap us s)) ∧ H' = H := by
  refine callE_pop rfl (by simp) rfl ?_
  have g4 : ∀ t, lget (H ++ t) p 4 = some (.func (.func kk) #[] ck.toArray) := fun t => by rw [lget_at (get_old hp t)]; rfl
  simp -dsimp only [go_sem, Nat.reduceEqDiff, Nat.reduceAdd, Nat.reduceSub, Nat.reduceMul, Nat.reduceLeDiff, Nat.reduceLT, Nat.reduceBEq, Int.reduceLT, Int.reduceLE, Int.reduceGT, Int.reduceGE, Int.reduceEq, Int.reduceNe, Int.reduceBEq, Int.reduceBNe, Int.reduceAdd, Int.reduceSub, Int.reduceMul, Int.reduceToNat, Int.reduceNeg, ↓reduceIte, ↓reduceDIte]
  refine LT_of (fun q : Nat × Option Addr × LHeap => [(0, ptrF p), (5, ptrF H.length), (7, .slice q.2.1 q.1 q.1), (8, w64 (us >>> (8 * q.1)))]) (fun q => H ++ q.2.2) (fun q => q.1 ≤ 8 ∧ Own 1 (H ++ q.2.2) H.length q.2.1 ((bytesN us q.1).map b8) ∧ q.2.2[0]? = some (.row false 0 [i64 cap, .slice a s.length s.length]) ∧ Off H.length q.2.1) (fun q => 8 - q.1) (0, none, [.row false 0 [i64 cap, .slice a s.length s.length]]) (by simp) (by simp) ⟨by simp, Own.nil _ _ _, rfl, fun x hx => by cases hx⟩ ?_
  rintro ⟨i, a', t⟩ ⟨hi, ho, h0, hoff⟩
  simp only at hi ho h0 hoff ⊢
  by_cases hz : us >>> (8 * i) = 0#64
  · have h1 : ¬ (0#64 < 0#64) := by decide
    have hw8 : Value.int IntKind.u8 (IntKind.u8.wrap (i : Int)) = b8 (UInt8.ofNat i) := by
      obtain hq : i = 0 ∨ i = 1 ∨ i = 2 ∨ i = 3 ∨ i = 4 ∨ i = 5 ∨ i = 6 ∨ i = 7 ∨ i = 8 := by omega
      rcases hq with rfl | rfl | rfl | rfl | rfl | rfl | rfl | rfl | rfl <;> rfl
    have hb0 : H ++ t = (H ++ [.row false 0 [i64 cap, .slice a s.length s.length]]) ++ t.drop 1 := by
      cases t with
      | nil => cases h0
      | cons x t => cases h0; simp
    have hk1 : ([UInt8.ofNat i].length : Nat) + (bytesN us i).length ≤ 4611686018427387904 := by rw [bytesN_len]; simp; omega
    have hk2 : ([UInt8.ofNat i] ++ bytesN us i).length + (keyN cap s).length ≤ 4611686018427387904 := by rw [List.length_append, bytesN_len, keyN_len]; simp; omega
    have hb8 : bytesOf [b8 (UInt8.ofNat i)] = some [UInt8.ofNat i] := bytesOf_b8 [UInt8.ofNat i]
    have a1 := lstr_add hk1
    have a2 := lstr_add hk2
    have hB := fun t' => lcells_of (n := 2) (get_old h0 t') rfl
    rcases ho with ⟨rfl, ho⟩ | ⟨b, rfl, hb1, hb2⟩
    · have hbn : bytesN us i = [] := by
        cases hq : bytesN us i with
        | nil => rfl
        | cons x y => rw [hq] at ho; cases ho
      rw [hbn] at a1 a2
      simp only [List.append_nil, List.cons_append, List.nil_append] at a1 a2
      simp -dsimp only [go_sem, Nat.reduceEqDiff, Nat.reduceAdd, Nat.reduceSub, Nat.reduceMul, Nat.reduceLeDiff, Nat.reduceLT, Nat.reduceBEq, Int.reduceLT, Int.reduceLE, Int.reduceGT, Int.reduceGE, Int.reduceEq, Int.reduceNe, Int.reduceBEq, Int.reduceBNe, Int.reduceAdd, Int.reduceSub, Int.reduceMul, Int.reduceToNat, Int.reduceNeg, ↓reduceIte, ↓reduceDIte, h1, g4, hz, hw8, hb8, a1, hB]
      refine CT_of (hkey _ _) ?_
      rintro _ _ ⟨rfl, rfl⟩
      simp -dsimp only [go_sem, Nat.reduceEqDiff, Nat.reduceAdd, Nat.reduceSub, Nat.reduceMul, Nat.reduceLeDiff, Nat.reduceLT, Nat.reduceBEq, Int.reduceLT, Int.reduceLE, Int.reduceGT, Int.reduceGE, Int.reduceEq, Int.reduceNe, Int.reduceBEq, Int.reduceBNe, Int.reduceAdd, Int.reduceSub, Int.reduceMul, Int.reduceToNat, Int.reduceNeg, ↓reduceIte, ↓reduceDIte, h1, g4, hz, hw8, bytesOf_b8, hb8, a1, a2, hB]
      exact ⟨i, hi, hz, by rw [nameN, hbn]; rfl⟩
    · have hc := fun t' => lcells_of (n := i) (get_old hb2 t') (by simp [bytesN_len])
      simp only [List.append_assoc] at hc
      simp only [List.cons_append, List.nil_append] at a1 a2
      simp -dsimp only [go_sem, Nat.reduceEqDiff, Nat.reduceAdd, Nat.reduceSub, Nat.reduceMul, Nat.reduceLeDiff, Nat.reduceLT, Nat.reduceBEq, Int.reduceLT, Int.reduceLE, Int.reduceGT, Int.reduceGE, Int.reduceEq, Int.reduceNe, Int.reduceBEq, Int.reduceBNe, Int.reduceAdd, Int.reduceSub, Int.reduceMul, Int.reduceToNat, Int.reduceNeg, ↓reduceIte, ↓reduceDIte, h1, g4, hz, hw8, hc, bytesOf_b8, hb8, a1, hB]
      refine CT_of (hkey _ _) ?_
      rintro _ _ ⟨rfl, rfl⟩
      simp -dsimp only [go_sem, Nat.reduceEqDiff, Nat.reduceAdd, Nat.reduceSub, Nat.reduceMul, Nat.reduceLeDiff, Nat.reduceLT, Nat.reduceBEq, Int.reduceLT, Int.reduceLE, Int.reduceGT, Int.reduceGE, Int.reduceEq, Int.reduceNe, Int.reduceBEq, Int.reduceBNe, Int.reduceAdd, Int.reduceSub, Int.reduceMul, Int.reduceToNat, Int.reduceNeg, ↓reduceIte, ↓reduceDIte, h1, g4, hz, hw8, hc, bytesOf_b8, hb8, a1, a2, hB]
      exact ⟨i, hi, hz, rfl⟩
  · have h1 : 0#64 < us >>> (8 * i) := by
      rw [BitVec.lt_def]
      rcases Nat.eq_zero_or_pos (us >>> (8 * i)).toNat with h | h
      · exact absurd (BitVec.eq_of_toNat_eq (by simpa using h)) hz
      · simpa using h
    have hi8 : i < 8 := by
      rcases Nat.lt_or_ge i 8 with h | h
      · exact h
      · obtain rfl : i = 8 := by omega
        exact absurd (shr_zero.2 (by have := us.isLt; simpa using this)) hz
    have g2 := fun u news => ho.grow (k := i) (bytes := 1) (lim := H.length) (by simp [bytesN_len]) (by omega) (Nat.le_refl _) (by omega) (by omega) u news
    have h8 : min (8#64).toNat 64 = 8 := rfl
    simp -dsimp only [go_sem, Nat.reduceEqDiff, Nat.reduceAdd, Nat.reduceSub, Nat.reduceMul, Nat.reduceLeDiff, Nat.reduceLT, Nat.reduceBEq, Int.reduceLT, Int.reduceLE, Int.reduceGT, Int.reduceGE, Int.reduceEq, Int.reduceNe, Int.reduceBEq, Int.reduceBNe, Int.reduceAdd, Int.reduceSub, Int.reduceMul, Int.reduceToNat, Int.reduceNeg, ↓reduceIte, ↓reduceDIte, h1, g4, g2, h8, shr_eq us i]
    refine ⟨(i + 1, some ⟨H.length + (t.length + 1), 0, none⟩, _), rfl, rfl, ⟨by dsimp only; omega, ?_, ?_, fun x hx => by cases hx; dsimp only; have := (List.getElem?_eq_some_iff.1 h0).1; omega⟩, by dsimp only; omega⟩
    · dsimp only
      rw [show (bytesN us (i + 1)).map b8 = (bytesN us i).map b8 ++ [b8 (UInt8.ofNat (us >>> (8 * i)).toNat)] by simp [bytesN_succ]]
      exact Own.grown (u := [_]) rfl (by simp) a'
    · exact get_old (killT_get ho rfl h0 hoff) _
end Go.Proofs.Ytfobpjjpaehhpaa
