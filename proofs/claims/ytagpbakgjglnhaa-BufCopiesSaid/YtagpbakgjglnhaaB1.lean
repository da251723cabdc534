/- Words of a text's bytes: the two functions Payload, and what is the same. -/
import Derived.Test.YtagpbakgjglnhaaB0
namespace Go.Proofs.Ytagpbakgjglnhaa
open Go Go.LK
set_option linter.unusedSimpArgs false
set_option linter.unusedVariables false
theorem equal_ev {lim : Nat} {a b : Option Addr} {l m : List (BitVec 64)} {H : LHeap} (hs : Sl 1 H a (l.map w64)) (ht : Sl 1 H b (m.map w64)) (hn : l.length < 1000000) (hm : m.length < 1000000) :
    callE T 24 lim [.slice a l.length l.length, .slice b m.length m.length] H fun v H' => v = .bool (decide (l = m)) ∧ H' = H := by
  refine callE_pop rfl (by simp) rfl ?_
  by_cases hlen : l.length = m.length
  · simp -dsimp only [go_sem, Nat.reduceEqDiff, Nat.reduceAdd, Nat.reduceSub, Nat.reduceMul, Nat.reduceLeDiff, Nat.reduceLT, Nat.reduceBEq, Int.reduceLT, Int.reduceLE, Int.reduceGT, Int.reduceGE, Int.reduceEq, Int.reduceNe, Int.reduceBEq, Int.reduceBNe, Int.reduceAdd, Int.reduceSub, Int.reduceMul, Int.reduceToNat, Int.reduceNeg, ↓reduceIte, ↓reduceDIte, hlen]
    refine LT_of (fun i : Nat => [(0, .slice a m.length m.length), (1, .slice b m.length m.length), (12, i64 m.length), (13, i64 i)]) (fun _ => H) (fun i => i ≤ l.length ∧ ∀ j, j < i → l[j]? = m[j]?) (fun i => l.length - i) 0 (by simp -dsimp only [go_sem, Nat.reduceEqDiff, Nat.reduceAdd, Nat.reduceSub, Nat.reduceMul, Nat.reduceLeDiff, Nat.reduceLT, Nat.reduceBEq, Int.reduceLT, Int.reduceLE, Int.reduceGT, Int.reduceGE, Int.reduceEq, Int.reduceNe, Int.reduceBEq, Int.reduceBNe, Int.reduceAdd, Int.reduceSub, Int.reduceMul, Int.reduceToNat, Int.reduceNeg, ↓reduceIte, ↓reduceDIte]) rfl ⟨by omega, fun j hj => by omega⟩ ?_
    rintro i ⟨hi, hp⟩
    by_cases hlt : i < m.length
    · have h1 : (i : Int) < m.length := by omega
      have h2 : 0 ≤ (i : Int) := by omega
      obtain ⟨b1, o1, rfl, hb1, hg1⟩ := hs.all (by simp; omega)
      obtain ⟨b2, o2, rfl, hb2, hg2⟩ := ht.all (by simp; omega)
      have k1 : l[i]? = some (l[i]'(by omega)) := List.getElem?_eq_getElem _
      have k2 : m[i]? = some (m[i]'hlt) := List.getElem?_eq_getElem _
      generalize l[i]'(by omega) = x at k1
      generalize m[i]'hlt = y at k2
      have g1 := hg1 [] i (w64 x) (by simp [k1])
      have g2 := hg2 [] i (w64 y) (by simp [k2])
      rw [List.append_nil] at g1 g2
      have hw : IntKind.i64.wrap ((i : Int) + 1) = ((i + 1 : Nat) : Int) := by rw [wrap_i64] <;> omega
      by_cases hxy : x = y
      · subst hxy
        simp -dsimp only [go_sem, Nat.reduceEqDiff, Nat.reduceAdd, Nat.reduceSub, Nat.reduceMul, Nat.reduceLeDiff, Nat.reduceLT, Nat.reduceBEq, Int.reduceLT, Int.reduceLE, Int.reduceGT, Int.reduceGE, Int.reduceEq, Int.reduceNe, Int.reduceBEq, Int.reduceBNe, Int.reduceAdd, Int.reduceSub, Int.reduceMul, Int.reduceToNat, Int.reduceNeg, ↓reduceIte, ↓reduceDIte, h1, h2, g1, g2, hw]
        refine ⟨i + 1, rfl, ⟨by omega, fun j hj => ?_⟩, by omega⟩
        by_cases hj' : j < i
        · exact hp j hj'
        · rw [show j = i by omega, k1, k2]
      · have hxy' : (x != y) = true := by simpa using hxy
        have hne : l ≠ m := by rintro rfl; rw [k1] at k2; cases k2; exact hxy rfl
        simp -dsimp only [go_sem, Nat.reduceEqDiff, Nat.reduceAdd, Nat.reduceSub, Nat.reduceMul, Nat.reduceLeDiff, Nat.reduceLT, Nat.reduceBEq, Int.reduceLT, Int.reduceLE, Int.reduceGT, Int.reduceGE, Int.reduceEq, Int.reduceNe, Int.reduceBEq, Int.reduceBNe, Int.reduceAdd, Int.reduceSub, Int.reduceMul, Int.reduceToNat, Int.reduceNeg, ↓reduceIte, ↓reduceDIte, h1, h2, g1, g2, hw, hxy', hne]
    · have h1 : ¬ (i : Int) < m.length := by omega
      have : l = m := List.ext_getElem? fun j => by
        by_cases hj : j < i
        · exact hp j hj
        · rw [List.getElem?_eq_none (by omega), List.getElem?_eq_none (by omega)]
      simp -dsimp only [go_sem, Nat.reduceEqDiff, Nat.reduceAdd, Nat.reduceSub, Nat.reduceMul, Nat.reduceLeDiff, Nat.reduceLT, Nat.reduceBEq, Int.reduceLT, Int.reduceLE, Int.reduceGT, Int.reduceGE, Int.reduceEq, Int.reduceNe, Int.reduceBEq, Int.reduceBNe, Int.reduceAdd, Int.reduceSub, Int.reduceMul, Int.reduceToNat, Int.reduceNeg, ↓reduceIte, ↓reduceDIte, h1, this]
  · have h1 : ((l.length : Int) != (m.length : Int)) = true := by simp; omega
    have h2 : l ≠ m := fun h => hlen (by rw [h])
    simp -dsimp only [go_sem, Nat.reduceEqDiff, Nat.reduceAdd, Nat.reduceSub, Nat.reduceMul, Nat.reduceLeDiff, Nat.reduceLT, Nat.reduceBEq, Int.reduceLT, Int.reduceLE, Int.reduceGT, Int.reduceGE, Int.reduceEq, Int.reduceNe, Int.reduceBEq, Int.reduceBNe, Int.reduceAdd, Int.reduceSub, Int.reduceMul, Int.reduceToNat, Int.reduceNeg, ↓reduceIte, ↓reduceDIte, h1, h2]

theorem same_ev {lim : Nat} {a b : Option Addr} {l m : List (BitVec 64)} {H : LHeap} (hs : Sl 1 H a (l.map w64)) (ht : Sl 1 H b (m.map w64)) (hn : l.length < 1000000) (hm : m.length < 1000000) :
    callE T 7 lim [.slice a l.length l.length, .slice b m.length m.length] H fun v H' => v = .bool (decide (l = m)) ∧ H' = H := by
  refine callE_pop rfl (by simp) rfl ?_
  by_cases hlen : l.length = m.length
  · simp -dsimp only [go_sem, Nat.reduceEqDiff, Nat.reduceAdd, Nat.reduceSub, Nat.reduceMul, Nat.reduceLeDiff, Nat.reduceLT, Nat.reduceBEq, Int.reduceLT, Int.reduceLE, Int.reduceGT, Int.reduceGE, Int.reduceEq, Int.reduceNe, Int.reduceBEq, Int.reduceBNe, Int.reduceAdd, Int.reduceSub, Int.reduceMul, Int.reduceToNat, Int.reduceNeg, ↓reduceIte, ↓reduceDIte, hlen]
    refine LT_of (fun i : Nat => [(0, .slice a m.length m.length), (1, .slice b m.length m.length), (5, i64 i)]) (fun _ => H) (fun i => i ≤ l.length ∧ ∀ j, j < i → l[j]? = m[j]?) (fun i => l.length - i) 0 (by simp -dsimp only [go_sem, Nat.reduceEqDiff, Nat.reduceAdd, Nat.reduceSub, Nat.reduceMul, Nat.reduceLeDiff, Nat.reduceLT, Nat.reduceBEq, Int.reduceLT, Int.reduceLE, Int.reduceGT, Int.reduceGE, Int.reduceEq, Int.reduceNe, Int.reduceBEq, Int.reduceBNe, Int.reduceAdd, Int.reduceSub, Int.reduceMul, Int.reduceToNat, Int.reduceNeg, ↓reduceIte, ↓reduceDIte]) rfl ⟨by omega, fun j hj => by omega⟩ ?_
    rintro i ⟨hi, hp⟩
    by_cases hlt : i < m.length
    · have h1 : (i : Int) < m.length := by omega
      have h2 : 0 ≤ (i : Int) := by omega
      obtain ⟨b1, o1, rfl, hb1, hg1⟩ := hs.all (by simp; omega)
      obtain ⟨b2, o2, rfl, hb2, hg2⟩ := ht.all (by simp; omega)
      have k1 : l[i]? = some (l[i]'(by omega)) := List.getElem?_eq_getElem _
      have k2 : m[i]? = some (m[i]'hlt) := List.getElem?_eq_getElem _
      generalize l[i]'(by omega) = x at k1
      generalize m[i]'hlt = y at k2
      have g1 := hg1 [] i (w64 x) (by simp [k1])
      have g2 := hg2 [] i (w64 y) (by simp [k2])
      rw [List.append_nil] at g1 g2
      have hw : IntKind.i64.wrap ((i : Int) + 1) = ((i + 1 : Nat) : Int) := by rw [wrap_i64] <;> omega
      by_cases hxy : x = y
      · subst hxy
        simp -dsimp only [go_sem, Nat.reduceEqDiff, Nat.reduceAdd, Nat.reduceSub, Nat.reduceMul, Nat.reduceLeDiff, Nat.reduceLT, Nat.reduceBEq, Int.reduceLT, Int.reduceLE, Int.reduceGT, Int.reduceGE, Int.reduceEq, Int.reduceNe, Int.reduceBEq, Int.reduceBNe, Int.reduceAdd, Int.reduceSub, Int.reduceMul, Int.reduceToNat, Int.reduceNeg, ↓reduceIte, ↓reduceDIte, h1, h2, g1, g2, hw]
        refine ⟨i + 1, rfl, ⟨by omega, fun j hj => ?_⟩, by omega⟩
        by_cases hj' : j < i
        · exact hp j hj'
        · rw [show j = i by omega, k1, k2]
      · have hxy' : (x != y) = true := by simpa using hxy
        have hne : l ≠ m := by rintro rfl; rw [k1] at k2; cases k2; exact hxy rfl
        simp -dsimp only [go_sem, Nat.reduceEqDiff, Nat.reduceAdd, Nat.reduceSub, Nat.reduceMul, Nat.reduceLeDiff, Nat.reduceLT, Nat.reduceBEq, Int.reduceLT, Int.reduceLE, Int.reduceGT, Int.reduceGE, Int.reduceEq, Int.reduceNe, Int.reduceBEq, Int.reduceBNe, Int.reduceAdd, Int.reduceSub, Int.reduceMul, Int.reduceToNat, Int.reduceNeg, ↓reduceIte, ↓reduceDIte, h1, h2, g1, g2, hw, hxy', hne]
    · have h1 : ¬ (i : Int) < m.length := by omega
      have : l = m := List.ext_getElem? fun j => by
        by_cases hj : j < i
        · exact hp j hj
        · rw [List.getElem?_eq_none (by omega), List.getElem?_eq_none (by omega)]
      simp -dsimp only [go_sem, Nat.reduceEqDiff, Nat.reduceAdd, Nat.reduceSub, Nat.reduceMul, Nat.reduceLeDiff, Nat.reduceLT, Nat.reduceBEq, Int.reduceLT, Int.reduceLE, Int.reduceGT, Int.reduceGE, Int.reduceEq, Int.reduceNe, Int.reduceBEq, Int.reduceBNe, Int.reduceAdd, Int.reduceSub, Int.reduceMul, Int.reduceToNat, Int.reduceNeg, ↓reduceIte, ↓reduceDIte, h1, this]
  · have h1 : ((l.length : Int) != (m.length : Int)) = true := by simp; omega
    have h2 : l ≠ m := fun h => hlen (by rw [h])
    simp -dsimp only [go_sem, Nat.reduceEqDiff, Nat.reduceAdd, Nat.reduceSub, Nat.reduceMul, Nat.reduceLeDiff, Nat.reduceLT, Nat.reduceBEq, Int.reduceLT, Int.reduceLE, Int.reduceGT, Int.reduceGE, Int.reduceEq, Int.reduceNe, Int.reduceBEq, Int.reduceBNe, Int.reduceAdd, Int.reduceSub, Int.reduceMul, Int.reduceToNat, Int.reduceNeg, ↓reduceIte, ↓reduceDIte, h1, h2]

/-- The words of a text that is not too long. -/
theorem payload_ev {lim : Nat} {s : List UInt8} {H : LHeap} (hl : lim ≤ H.length) (hs : s.length ≤ 56) :
    callE T 6 lim [strV s] H fun v H' => ∃ a t, v = .tuple #[.slice a (pay s).length (pay s).length, i64 0] ∧ H' = H ++ t ∧ Sl 1 (H ++ t) a ((pay s).map w64) := by
  refine callE_stay rfl (by simp) rfl ?_
  have h1 : ¬ (56 : Int) < s.length := by omega
  have hw1 : IntKind.i64.wrap ((s.length : Int) + 8) = s.length + 8 := by rw [wrap_i64] <;> omega
  have hw2 : IntKind.i64.wrap ((s.length : Int) + 8 - 1) = ((s.length + 7 : Nat) : Int) := by rw [wrap_i64] <;> omega
  have hw3 : IntKind.i64.wrap (((s.length + 7 : Nat) : Int).tdiv 8) = (((s.length + 7) / 8 : Nat) : Int) := by
    rw [show (8 : Int) = ((8 : Nat) : Int) from rfl, ← Int.ofNat_tdiv, wrap_i64] <;> omega
  have hw4 : IntKind.i64.wrap (1 + (((s.length + 7) / 8 : Nat) : Int)) = ((1 + (s.length + 7) / 8 : Nat) : Int) := by rw [wrap_i64] <;> omega
  have k1 : 8 * ((1 + (s.length + 7) / 8 : Nat) : Int) ≤ 281474976710656 := by omega
  have k2 : ((1 + (s.length + 7) / 8 : Nat) : Int) ≤ 281474976710656 := by omega
  have k3 : (0 : Int) ≤ ((1 + (s.length + 7) / 8 : Nat) : Int) := by omega
  have k4 : (0 : Int) < ((1 + (s.length + 7) / 8 : Nat) : Int) := by omega
  have k5 : 0 < 1 + (s.length + 7) / 8 := by omega
  simp -dsimp only [go_sem, Nat.reduceEqDiff, Nat.reduceAdd, Nat.reduceSub, Nat.reduceMul, Nat.reduceLeDiff, Nat.reduceLT, Nat.reduceBEq, Int.reduceLT, Int.reduceLE, Int.reduceGT, Int.reduceGE, Int.reduceEq, Int.reduceNe, Int.reduceBEq, Int.reduceBNe, Int.reduceAdd, Int.reduceSub, Int.reduceMul, Int.reduceToNat, Int.reduceNeg, ↓reduceIte, ↓reduceDIte, h1, hw1, hw2, hw3, hw4, k1, k2, k3, k4, k5, hl, Int.le_refl]
  refine LT_of (fun i : Nat => [(0, strV s), (4, .slice (some ⟨H.length, 0, none⟩) (1 + (s.length + 7) / 8) (1 + (s.length + 7) / 8)), (22, i64 s.length), (23, i64 i)]) (fun i => H ++ [.row false 1 ((payN s s.length i).map w64)]) (fun i => i ≤ s.length) (fun i => s.length - i) 0 (by simp -dsimp only [go_sem, Nat.reduceEqDiff, Nat.reduceAdd, Nat.reduceSub, Nat.reduceMul, Nat.reduceLeDiff, Nat.reduceLT, Nat.reduceBEq, Int.reduceLT, Int.reduceLE, Int.reduceGT, Int.reduceGE, Int.reduceEq, Int.reduceNe, Int.reduceBEq, Int.reduceBNe, Int.reduceAdd, Int.reduceSub, Int.reduceMul, Int.reduceToNat, Int.reduceNeg, ↓reduceIte, ↓reduceDIte]) ?_ (by omega) ?_
  · rw [pay0]
    rw [Nat.add_comm 1, List.replicate_succ]; simp
  · intro i hi
    by_cases hlt : i < s.length
    · have h1 : (i : Int) < s.length := by omega
      have h3 : 0 ≤ (i : Int) := by omega
      have h2 : s[i]? = some (s[i]'hlt) := List.getElem?_eq_getElem _
      generalize s[i]'hlt = x at h2
      have hw : IntKind.i64.wrap ((i : Int) + 1) = ((i + 1 : Nat) : Int) := by rw [wrap_i64] <;> omega
      have hw5 : IntKind.i64.wrap ((i : Int).tdiv 8) = ((i / 8 : Nat) : Int) := by
        rw [show (8 : Int) = ((8 : Nat) : Int) from rfl, ← Int.ofNat_tdiv, wrap_i64] <;> omega
      have hw6 : (i : Int).tmod 8 = ((i % 8 : Nat) : Int) := by
        rw [show (8 : Int) = ((8 : Nat) : Int) from rfl, ← Int.ofNat_tmod]
      have hw7 : IntKind.i64.wrap (1 + ((i / 8 : Nat) : Int)) = ((1 + i / 8 : Nat) : Int) := by rw [wrap_i64] <;> omega
      have hw8 : IntKind.i64.wrap (8 * ((i % 8 : Nat) : Int)) = ((8 * (i % 8) : Nat) : Int) := by rw [wrap_i64] <;> omega
      have k6 : (0 : Int) ≤ ((1 + i / 8 : Nat) : Int) := by omega
      have k7 : ((1 + i / 8 : Nat) : Int) < ((1 + (s.length + 7) / 8 : Nat) : Int) := by omega
      have k8 := payN_at (s := s) (n := s.length) (i := i) (j := i / 8) (by omega)
      have k9 : ((payN s s.length i).map w64)[1 + i / 8]? = some (w64 (wordAt (s.take i) (i / 8))) := by simp [k8]
      have hsh := fun x => lbin_shl x (k := .i64) (n := ((8 * (i % 8) : Nat) : Int)) (by omega)
      have hmi : min (8 * (i % 8)) 64 = 8 * (i % 8) := by omega
      simp only [Int.toNat_natCast, hmi] at hsh
      simp -dsimp only [go_sem, Nat.reduceEqDiff, Nat.reduceAdd, Nat.reduceSub, Nat.reduceMul, Nat.reduceLeDiff, Nat.reduceLT, Nat.reduceBEq, Int.reduceLT, Int.reduceLE, Int.reduceGT, Int.reduceGE, Int.reduceEq, Int.reduceNe, Int.reduceBEq, Int.reduceBNe, Int.reduceAdd, Int.reduceSub, Int.reduceMul, Int.reduceToNat, Int.reduceNeg, ↓reduceIte, ↓reduceDIte, h1, h2, h3, hw, hw5, hw6, hw7, hw8, k6, k7, k9, hsh, hl, lidxs_str]
      refine ⟨by rw [payN_len]; omega, i + 1, rfl, ?_, by omega, by omega⟩
      rw [← payN_step h2, List.map_set]
    · have h1 : ¬ (i : Int) < s.length := by omega
      have : i = s.length := by omega
      subst this
      simp -dsimp only [go_sem, Nat.reduceEqDiff, Nat.reduceAdd, Nat.reduceSub, Nat.reduceMul, Nat.reduceLeDiff, Nat.reduceLT, Nat.reduceBEq, Int.reduceLT, Int.reduceLE, Int.reduceGT, Int.reduceGE, Int.reduceEq, Int.reduceNe, Int.reduceBEq, Int.reduceBNe, Int.reduceAdd, Int.reduceSub, Int.reduceMul, Int.reduceToNat, Int.reduceNeg, ↓reduceIte, ↓reduceDIte, h1, hl]
      exact ⟨_, _, by rw [pay, payN_len], rfl, Sl.row (get_app0 H _)⟩
theorem payload_big {lim : Nat} {s : List UInt8} {H : LHeap} (hs : 56 < s.length) :
    callE T 6 lim [strV s] H fun v H' => v = .tuple #[.slice none 0 0, i64 3] ∧ H' = H := by
  refine callE_stay rfl (by simp) rfl ?_
  have h1 : (56 : Int) < s.length := by omega
  simp -dsimp only [go_sem, Nat.reduceEqDiff, Nat.reduceAdd, Nat.reduceSub, Nat.reduceMul, Nat.reduceLeDiff, Nat.reduceLT, Nat.reduceBEq, Int.reduceLT, Int.reduceLE, Int.reduceGT, Int.reduceGE, Int.reduceEq, Int.reduceNe, Int.reduceBEq, Int.reduceBNe, Int.reduceAdd, Int.reduceSub, Int.reduceMul, Int.reduceToNat, Int.reduceNeg, ↓reduceIte, ↓reduceDIte, h1]
/-- The document's words, the first so many. -/
def payR (s : List UInt8) (j : Nat) : List (BitVec 64) := BitVec.ofNat 64 s.length :: (List.range j).map (wordAt s)
theorem payR_len (s : List UInt8) (j : Nat) : (payR s j).length = 1 + j := by simp [payR]; omega
theorem payR_snoc (s : List UInt8) (j : Nat) : payR s (j + 1) = payR s j ++ [wordAt s j] := by simp [payR, List.range_succ]
theorem payR_all (s : List UInt8) : payR s ((s.length + 7) / 8) = pay s := by rw [payR, pay, payN, List.take_length]
theorem refpay_ev {lim : Nat} {s : List UInt8} {H : LHeap} (hl : lim ≤ H.length) (hs : s.length < 10000) :
    callE T 8 lim [strV s] H fun v H' => ∃ a t, v = .slice a (pay s).length (pay s).length ∧ H' = H ++ t ∧ Sl 1 (H ++ t) a ((pay s).map w64) := by
  refine callE_stay rfl (by simp) rfl ?_
  simp -dsimp only [go_sem, Nat.reduceEqDiff, Nat.reduceAdd, Nat.reduceSub, Nat.reduceMul, Nat.reduceLeDiff, Nat.reduceLT, Nat.reduceBEq, Int.reduceLT, Int.reduceLE, Int.reduceGT, Int.reduceGE, Int.reduceEq, Int.reduceNe, Int.reduceBEq, Int.reduceBNe, Int.reduceAdd, Int.reduceSub, Int.reduceMul, Int.reduceToNat, Int.reduceNeg, ↓reduceIte, ↓reduceDIte]
  refine LT_of (fun q : Nat × Option Addr × LHeap => [(0, strV s), (3, .slice q.2.1 (1 + q.1) (1 + q.1)), (4, i64 (8 * q.1 : Nat))]) (fun q => H ++ q.2.2) (fun q => 8 * q.1 ≤ s.length + 7 ∧ Own 1 (H ++ q.2.2) H.length q.2.1 ((payR s q.1).map w64)) (fun q => s.length + 8 - 8 * q.1) (0, some ⟨H.length, 0, none⟩, [.row false 1 ((payR s 0).map w64)]) rfl ?_ ⟨by simp, .inr ⟨_, rfl, by omega, get_app0 H _⟩⟩ ?_
  · simp [payR]
  rintro ⟨j, a, t⟩ ⟨hj, ho⟩
  simp only at hj ho ⊢
  by_cases hlt : 8 * j < s.length
  · have h1 : ((8 * j : Nat) : Int) < s.length := by omega
    simp -dsimp only [go_sem, Nat.reduceEqDiff, Nat.reduceAdd, Nat.reduceSub, Nat.reduceMul, Nat.reduceLeDiff, Nat.reduceLT, Nat.reduceBEq, Int.reduceLT, Int.reduceLE, Int.reduceGT, Int.reduceGE, Int.reduceEq, Int.reduceNe, Int.reduceBEq, Int.reduceBNe, Int.reduceAdd, Int.reduceSub, Int.reduceMul, Int.reduceToNat, Int.reduceNeg, ↓reduceIte, ↓reduceDIte, h1]
    refine LT_of (fun m : Nat => [(0, strV s), (3, .slice a (1 + j) (1 + j)), (4, i64 (8 * j : Nat)), (5, w64 (BitVec.ofNat 64 (wN ((s.drop (8 * j + m)).take (8 - m))))), (6, i64 ((m : Int) - 1))]) (fun _ => H ++ t) (fun m => m ≤ 8) (fun m => m) 8 (by simp [wN]) rfl (by omega) ?_
    intro m hm
    cases m with
    | zero =>
      have g2 := fun u news => ho.grow (k := 1 + j) (bytes := 8) (lim := lim) (by simp [payR_len]) (by omega) hl (by omega) (by omega) u news
      have hw : IntKind.i64.wrap (((8 * j : Nat) : Int) + 8) = ((8 * (j + 1) : Nat) : Int) := by rw [wrap_i64] <;> omega
      simp -dsimp only [go_sem, Nat.reduceEqDiff, Nat.reduceAdd, Nat.reduceSub, Nat.reduceMul, Nat.reduceLeDiff, Nat.reduceLT, Nat.reduceBEq, Int.reduceLT, Int.reduceLE, Int.reduceGT, Int.reduceGE, Int.reduceEq, Int.reduceNe, Int.reduceBEq, Int.reduceBNe, Int.reduceAdd, Int.reduceSub, Int.reduceMul, Int.reduceToNat, Int.reduceNeg, ↓reduceIte, ↓reduceDIte, g2, hw]
      refine ⟨(j + 1, some ⟨H.length + (t.length + 1), 0, none⟩, _), rfl, rfl, ⟨by dsimp only; omega, ?_⟩, by dsimp only; omega⟩
      dsimp only
      rw [payR_snoc, List.map_append]
      exact Own.grown (u := [_]) rfl (by simp) a
    | succ m =>
      have k0 : (0 : Int) ≤ m := by omega
      have hk : ((m + 1 : Nat) : Int) - 1 = (m : Int) := by omega
      have hw1 : IntKind.i64.wrap (((8 * j : Nat) : Int) + m) = ((8 * j + m : Nat) : Int) := by rw [wrap_i64] <;> omega
      have hw2 : IntKind.i64.wrap ((m : Int) - 1) = (m : Int) - 1 := by rw [wrap_i64] <;> omega
      have hh := horner (s := s) (8 * j) m (by omega)
      cases hx : s[8 * j + m]? with
      | none =>
        have k1 := List.getElem?_eq_none_iff.1 hx
        have k2 : ¬ (((8 * j + m : Nat) : Int) < s.length) := by omega
        rw [hx] at hh
        simp only [BitVec.add_zero] at hh
        simp -dsimp only [go_sem, Nat.reduceEqDiff, Nat.reduceAdd, Nat.reduceSub, Nat.reduceMul, Nat.reduceLeDiff, Nat.reduceLT, Nat.reduceBEq, Int.reduceLT, Int.reduceLE, Int.reduceGT, Int.reduceGE, Int.reduceEq, Int.reduceNe, Int.reduceBEq, Int.reduceBNe, Int.reduceAdd, Int.reduceSub, Int.reduceMul, Int.reduceToNat, Int.reduceNeg, ↓reduceIte, ↓reduceDIte, k0, hk, hw1, hw2, k2]
        exact ⟨m, by rw [show 8 - (m + 1) = 7 - m by omega, hh], by omega, by omega⟩
      | some x =>
        have k1 := (List.getElem?_eq_some_iff.1 hx).1
        have k2 : (((8 * j + m : Nat) : Int) < s.length) := by omega
        have k3 : 0 ≤ ((8 * j + m : Nat) : Int) := by omega
        rw [hx] at hh
        simp -dsimp only [go_sem, Nat.reduceEqDiff, Nat.reduceAdd, Nat.reduceSub, Nat.reduceMul, Nat.reduceLeDiff, Nat.reduceLT, Nat.reduceBEq, Int.reduceLT, Int.reduceLE, Int.reduceGT, Int.reduceGE, Int.reduceEq, Int.reduceNe, Int.reduceBEq, Int.reduceBNe, Int.reduceAdd, Int.reduceSub, Int.reduceMul, Int.reduceToNat, Int.reduceNeg, ↓reduceIte, ↓reduceDIte, k0, hk, hw1, hw2, k2, k3, hx, lidxs_str]
        exact ⟨m, by rw [show 8 - (m + 1) = 7 - m by omega, hh], by omega, by omega⟩
  · have h1 : ¬ (((8 * j : Nat) : Int) < s.length) := by omega
    simp -dsimp only [go_sem, Nat.reduceEqDiff, Nat.reduceAdd, Nat.reduceSub, Nat.reduceMul, Nat.reduceLeDiff, Nat.reduceLT, Nat.reduceBEq, Int.reduceLT, Int.reduceLE, Int.reduceGT, Int.reduceGE, Int.reduceEq, Int.reduceNe, Int.reduceBEq, Int.reduceBNe, Int.reduceAdd, Int.reduceSub, Int.reduceMul, Int.reduceToNat, Int.reduceNeg, ↓reduceIte, ↓reduceDIte, h1, hl]
    have e : j = (s.length + 7) / 8 := by omega
    subst e
    rw [payR_all] at ho
    exact ⟨_, _, by rw [pay, payN_len], rfl, ho.sl⟩
