/- Words of a text's bytes: the text of words, and whether words are a text's. -/
import Derived.Test.YtagpbakgjglnhaaB1
namespace Go.Proofs.Ytagpbakgjglnhaa
open Go Go.LK
set_option linter.unusedSimpArgs false
set_option linter.unusedVariables false
/-- The text that words would have. -/
def textOf (x : BitVec 64) (r : List (BitVec 64)) : List UInt8 := (bytesOfWords r).take x.toNat
theorem text_len {x : BitVec 64} {r : List (BitVec 64)} (hx : x.toNat ≤ 56) : (textOf x r).length ≤ 56 := by simp [textOf]; omega
theorem take_snoc' {α : Type} {s : List α} {i : Nat} {x : α} (hx : s[i]? = some x) : s.take (i + 1) = s.take i ++ [x] := by
  rw [List.take_add_one, hx]; rfl
theorem lslice_upto {H : LHeap} {b es n k : Nat} {cs : List Value} {kk : IntKind} (hb : H[b]? = some (.row false es cs)) (h : k ≤ n) :
    lslice H es (.slice (some ⟨b, 0, none⟩) n n) none (some (.int kk (k : Int))) none = some (.slice (some ⟨b, 0, none⟩) k n) := by
  have e : (0 : Int) ≤ (k : Int) ∧ (k : Int) ≤ (n : Int) := by omega
  simp [lslice, lbound, e, hb, h]
theorem le56 {x : BitVec 64} : ¬ 56#64 < x ↔ x.toNat ≤ 56 := by rw [BitVec.lt_def]; exact Nat.not_lt
set_option maxHeartbeats 1000000 in
theorem text_ev {lim : Nat} {a : Option Addr} {l : List (BitVec 64)} {H : LHeap} (hs : Sl 1 H a (l.map w64)) (hn : l.length ≤ 200) :
    callE T 9 lim [.slice a l.length l.length] H fun v H' => H' = H ∧ ((∃ x r, l = x :: r ∧ x.toNat ≤ 56 ∧ pay (textOf x r) = l ∧ v = .tuple #[strV (textOf x r), i64 0]) ∨
      (∀ x r, l = x :: r → ¬ (x.toNat ≤ 56 ∧ pay (textOf x r) = l)) ∧ v = .tuple #[strV [], i64 11]) := by
  refine callE_pop rfl (by simp) rfl ?_
  cases l with
  | nil =>
    simp -dsimp only [go_sem, Nat.reduceEqDiff, Nat.reduceAdd, Nat.reduceSub, Nat.reduceMul, Nat.reduceLeDiff, Nat.reduceLT, Nat.reduceBEq, Int.reduceLT, Int.reduceLE, Int.reduceGT, Int.reduceGE, Int.reduceEq, Int.reduceNe, Int.reduceBEq, Int.reduceBNe, Int.reduceAdd, Int.reduceSub, Int.reduceMul, Int.reduceToNat, Int.reduceNeg, ↓reduceIte, ↓reduceDIte]
    exact .inr (by simp)
  | cons x r =>
    obtain ⟨b, o, rfl, hb, hg⟩ := hs.all (by simp)
    have hg0 := fun t => hg t 0 (w64 x) rfl
    have k0 : (((r.length + 1 : Nat) : Int) == 0) = false := by simp; omega
    have k1 : (0 : Int) < ((r.length + 1 : Nat) : Int) := by omega
    obtain ⟨a1, g1, g2⟩ := hs.from (n := r.length + 1) (lo := 1) (lo' := 1) rfl (by omega) (by simp) (by omega) (by omega)
    have g1' := g1 []
    have hgH := hg0 []
    simp only [Nat.add_zero, Nat.add_sub_cancel, List.length_cons, List.append_nil, List.map_cons, List.drop_succ_cons, List.drop_zero, Nat.mul_one] at hg0 hgH hn g1 g1' g2 ⊢
    by_cases hx : 56#64 < x
    · simp -dsimp only [go_sem, Nat.reduceEqDiff, Nat.reduceAdd, Nat.reduceSub, Nat.reduceMul, Nat.reduceLeDiff, Nat.reduceLT, Nat.reduceBEq, Int.reduceLT, Int.reduceLE, Int.reduceGT, Int.reduceGE, Int.reduceEq, Int.reduceNe, Int.reduceBEq, Int.reduceBNe, Int.reduceAdd, Int.reduceSub, Int.reduceMul, Int.reduceToNat, Int.reduceNeg, ↓reduceIte, ↓reduceDIte, hgH, k0, k1, hx]
      refine .inr fun y q h => ?_
      cases h
      exact fun q => le56.2 q.1 hx
    · have hx56 := le56.1 hx
      simp -dsimp only [go_sem, Nat.reduceEqDiff, Nat.reduceAdd, Nat.reduceSub, Nat.reduceMul, Nat.reduceLeDiff, Nat.reduceLT, Nat.reduceBEq, Int.reduceLT, Int.reduceLE, Int.reduceGT, Int.reduceGE, Int.reduceEq, Int.reduceNe, Int.reduceBEq, Int.reduceBNe, Int.reduceAdd, Int.reduceSub, Int.reduceMul, Int.reduceToNat, Int.reduceNeg, ↓reduceIte, ↓reduceDIte, hgH, k0, k1, hx, g1']
      refine LT_of (fun q : Nat × Option Addr × LHeap => [(0, .slice (some ⟨b, o, none⟩) (r.length + 1) (r.length + 1)), (4, .slice q.2.1 (8 * q.1) (8 * q.1)), (20, .slice a1 r.length r.length), (21, i64 r.length), (22, i64 q.1)]) (fun q => H ++ q.2.2) (fun q => q.1 ≤ r.length ∧ Own 1 (H ++ q.2.2) H.length q.2.1 ((bytesOfWords (r.take q.1)).map b8)) (fun q => r.length - q.1) (0, none, []) (by simp) (by simp) ⟨by simp, .inl ⟨rfl, rfl⟩⟩ ?_
      rintro ⟨i, a2, t⟩ ⟨hi, ho⟩
      simp only at hi ho ⊢
      by_cases hlt : i < r.length
      · have h1 : (i : Int) < r.length := by omega
        have h3 : 0 ≤ (i : Int) := by omega
        have k2 : r[i]? = some (r[i]'hlt) := List.getElem?_eq_getElem _
        generalize r[i]'hlt = y at k2
        obtain ⟨b', o', rfl, hb', hg'⟩ := g2.all (by simp; omega)
        have g3 := fun t => hg' t i (w64 y) (by simp [k2])
        simp -dsimp only [go_sem, Nat.reduceEqDiff, Nat.reduceAdd, Nat.reduceSub, Nat.reduceMul, Nat.reduceLeDiff, Nat.reduceLT, Nat.reduceBEq, Int.reduceLT, Int.reduceLE, Int.reduceGT, Int.reduceGE, Int.reduceEq, Int.reduceNe, Int.reduceBEq, Int.reduceBNe, Int.reduceAdd, Int.reduceSub, Int.reduceMul, Int.reduceToNat, Int.reduceNeg, ↓reduceIte, ↓reduceDIte, h1, h3, g3]
        refine LT_of (fun q : Nat × Option Addr × LHeap => [(0, .slice (some ⟨b, o, none⟩) (r.length + 1) (r.length + 1)), (4, .slice q.2.1 (8 * i + q.1) (8 * i + q.1)), (6, w64 (y >>> (8 * q.1))), (20, .slice (some ⟨b', o', none⟩) r.length r.length), (21, i64 r.length), (22, i64 i), (26, i64 q.1)]) (fun q => H ++ q.2.2) (fun q => q.1 ≤ 8 ∧ Own 1 (H ++ q.2.2) H.length q.2.1 ((bytesOfWords (r.take i) ++ bytesN y q.1).map b8)) (fun q => 8 - q.1) (0, a2, t) (by simp) rfl ⟨by simp, by simpa [bytesN] using ho⟩ ?_
        rintro ⟨j, a3, u⟩ ⟨hj, ho2⟩
        simp only at hj ho2 ⊢
        by_cases hjt : j < 8
        · have h4 : (j : Int) < 8 := by omega
          have hw : IntKind.i64.wrap ((j : Int) + 1) = ((j + 1 : Nat) : Int) := by rw [wrap_i64] <;> omega
          have g4 := fun u news => ho2.grow (k := 8 * i + j) (bytes := 1) (lim := H.length) (by simp [bytesN_len, bytesOfWords_len]; omega) (by omega) (by omega) (by omega) (by omega) u news
          have h8 : min (8#64).toNat 64 = 8 := rfl
          simp -dsimp only [go_sem, Nat.reduceEqDiff, Nat.reduceAdd, Nat.reduceSub, Nat.reduceMul, Nat.reduceLeDiff, Nat.reduceLT, Nat.reduceBEq, Int.reduceLT, Int.reduceLE, Int.reduceGT, Int.reduceGE, Int.reduceEq, Int.reduceNe, Int.reduceBEq, Int.reduceBNe, Int.reduceAdd, Int.reduceSub, Int.reduceMul, Int.reduceToNat, Int.reduceNeg, ↓reduceIte, ↓reduceDIte, h4, g4, hw, h8, shr_eq y j]
          refine ⟨(j + 1, some ⟨H.length + (u.length + 1), 0, none⟩, _), rfl, rfl, ⟨by dsimp only; omega, ?_⟩, by dsimp only; omega⟩
          dsimp only
          rw [show (bytesOfWords (r.take i) ++ bytesN y (j + 1)).map b8 = (bytesOfWords (r.take i) ++ bytesN y j).map b8 ++ [b8 (UInt8.ofNat (y >>> (8 * j)).toNat)] by simp [bytesN_succ]]
          exact Own.grown (u := [_]) rfl (by simp) a3
        · have h4 : ¬ (j : Int) < 8 := by omega
          have hw : IntKind.i64.wrap ((i : Int) + 1) = ((i + 1 : Nat) : Int) := by rw [wrap_i64] <;> omega
          have : j = 8 := by omega
          subst this
          simp -dsimp only [go_sem, Nat.reduceEqDiff, Nat.reduceAdd, Nat.reduceSub, Nat.reduceMul, Nat.reduceLeDiff, Nat.reduceLT, Nat.reduceBEq, Int.reduceLT, Int.reduceLE, Int.reduceGT, Int.reduceGE, Int.reduceEq, Int.reduceNe, Int.reduceBEq, Int.reduceBNe, Int.reduceAdd, Int.reduceSub, Int.reduceMul, Int.reduceToNat, Int.reduceNeg, ↓reduceIte, ↓reduceDIte, h4, hw]
          refine ⟨(i + 1, a3, u), rfl, rfl, ⟨by dsimp only; omega, ?_⟩, by dsimp only; omega⟩
          dsimp only
          rw [take_snoc' k2, bytesOfWords_snoc]
          exact ho2
      · have h1 : ¬ (i : Int) < r.length := by omega
        have : i = r.length := by omega
        subst this
        rw [List.take_length] at ho
        have hti : x.toInt = (x.toNat : Int) := by rw [BitVec.toInt_eq_toNat_cond, if_pos (by omega)]
        have hmin : (if x.toInt < ((8 * r.length : Nat) : Int) then x.toInt else ((8 * r.length : Nat) : Int)) = ((min x.toNat (8 * r.length) : Nat) : Int) := by
          rw [hti]; split <;> omega
        have htx : (bytesOfWords r).take (min x.toNat (8 * r.length)) = textOf x r := by
          rw [textOf, ← bytesOfWords_len, ← List.take_eq_take_min]
        have htl : (textOf x r).length ≤ 56 := text_len hx56
        rcases ho with ⟨rfl, h0⟩ | ⟨b2, rfl, h2, h3⟩
        · have hr0 : r = [] := by
            have := congrArg List.length h0
            simp only [List.length_map, bytesOfWords_len, List.length_nil] at this
            exact List.eq_nil_of_length_eq_zero (by omega)
          subst hr0
          have hm0 : (if x.toInt < 0 then x.toInt else 0) = 0 := by rw [hti]; split <;> omega
          have hsn : lslice (H ++ t) 1 (.slice none 0 0) none (some (.int .i64 0)) none = some (.slice none 0 0) := rfl
          have hS : textOf x [] = [] := by simp [textOf, bytesOfWords]
          simp only [List.length_nil, Nat.zero_add] at hg0 k1 h1
          simp -dsimp only [go_sem, Nat.reduceEqDiff, Nat.reduceAdd, Nat.reduceSub, Nat.reduceMul, Nat.reduceLeDiff, Nat.reduceLT, Nat.reduceBEq, Int.reduceLT, Int.reduceLE, Int.reduceGT, Int.reduceGE, Int.reduceEq, Int.reduceNe, Int.reduceBEq, Int.reduceBNe, Int.reduceAdd, Int.reduceSub, Int.reduceMul, Int.reduceToNat, Int.reduceNeg, ↓reduceIte, ↓reduceDIte, h1, hg0, k1, hm0, hsn]
          refine CT_of (payload_ev (s := []) (by simp) (by first | exact htl | simp)) ?_
          rintro _ _ ⟨a3, t3, rfl, rfl, g7⟩
          simp -dsimp only [go_sem, Nat.reduceEqDiff, Nat.reduceAdd, Nat.reduceSub, Nat.reduceMul, Nat.reduceLeDiff, Nat.reduceLT, Nat.reduceBEq, Int.reduceLT, Int.reduceLE, Int.reduceGT, Int.reduceGE, Int.reduceEq, Int.reduceNe, Int.reduceBEq, Int.reduceBNe, Int.reduceAdd, Int.reduceSub, Int.reduceMul, Int.reduceToNat, Int.reduceNeg, ↓reduceIte, ↓reduceDIte, hS]
          refine CT_of (equal_ev (l := pay ([])) (m := x :: []) (g7.into (by omega) (by simp [unbox_app, unbox_cons, unboxO_box])) (hs.into (by omega) (by simp [unbox_app, unbox_cons, unboxO_box])) (by rw [pay, payN_len]; omega) (by simp)) ?_
          rintro _ _ ⟨rfl, rfl⟩
          by_cases hq : pay ([]) = x :: []
          · simp -dsimp only [go_sem, Nat.reduceEqDiff, Nat.reduceAdd, Nat.reduceSub, Nat.reduceMul, Nat.reduceLeDiff, Nat.reduceLT, Nat.reduceBEq, Int.reduceLT, Int.reduceLE, Int.reduceGT, Int.reduceGE, Int.reduceEq, Int.reduceNe, Int.reduceBEq, Int.reduceBNe, Int.reduceAdd, Int.reduceSub, Int.reduceMul, Int.reduceToNat, Int.reduceNeg, ↓reduceIte, ↓reduceDIte, hq, hS]
            exact .inl ⟨x, [], rfl, hx56, by rw [hS]; exact hq, by rw [hS]⟩
          · simp -dsimp only [go_sem, Nat.reduceEqDiff, Nat.reduceAdd, Nat.reduceSub, Nat.reduceMul, Nat.reduceLeDiff, Nat.reduceLT, Nat.reduceBEq, Int.reduceLT, Int.reduceLE, Int.reduceGT, Int.reduceGE, Int.reduceEq, Int.reduceNe, Int.reduceBEq, Int.reduceBNe, Int.reduceAdd, Int.reduceSub, Int.reduceMul, Int.reduceToNat, Int.reduceNeg, ↓reduceIte, ↓reduceDIte, hq, hS]
            refine .inr fun y q h => ?_
            cases h
            rintro ⟨_, q2⟩
            exact hq (by rw [← q2, hS])
        · have g5 := fun u => lslice_upto (kk := .i64) (n := 8 * r.length) (k := min x.toNat (8 * r.length)) (get_old h3 u) (by omega)
          have g6 : ∀ u, lcells (H ++ t ++ u) b2 0 (min x.toNat (8 * r.length)) = some ((textOf x r).map b8) := fun u => by
            have hle : min x.toNat (8 * r.length) ≤ ((bytesOfWords r).map b8).length := by simp [bytesOfWords_len]; omega
            simp only [lcells, get_old h3 u, Nat.zero_add, hle, if_true, List.drop_zero]
            rw [← List.map_take, htx]
          have g50 := g5 []
          have g60 := g6 []
          simp only [List.append_nil] at g50 g60
          have hS : textOf x r = textOf x r := rfl
          simp -dsimp only [go_sem, Nat.reduceEqDiff, Nat.reduceAdd, Nat.reduceSub, Nat.reduceMul, Nat.reduceLeDiff, Nat.reduceLT, Nat.reduceBEq, Int.reduceLT, Int.reduceLE, Int.reduceGT, Int.reduceGE, Int.reduceEq, Int.reduceNe, Int.reduceBEq, Int.reduceBNe, Int.reduceAdd, Int.reduceSub, Int.reduceMul, Int.reduceToNat, Int.reduceNeg, ↓reduceIte, ↓reduceDIte, h1, hg0, k1, hmin, g50, g60]
          refine CT_of (payload_ev (s := textOf x r) (by simp) (by first | exact htl | simp)) ?_
          rintro _ _ ⟨a3, t3, rfl, rfl, g7⟩
          simp -dsimp only [go_sem, Nat.reduceEqDiff, Nat.reduceAdd, Nat.reduceSub, Nat.reduceMul, Nat.reduceLeDiff, Nat.reduceLT, Nat.reduceBEq, Int.reduceLT, Int.reduceLE, Int.reduceGT, Int.reduceGE, Int.reduceEq, Int.reduceNe, Int.reduceBEq, Int.reduceBNe, Int.reduceAdd, Int.reduceSub, Int.reduceMul, Int.reduceToNat, Int.reduceNeg, ↓reduceIte, ↓reduceDIte]
          refine CT_of (equal_ev (l := pay (textOf x r)) (m := x :: r) (g7.into (by omega) (by simp [unbox_app, unbox_cons, unboxO_box])) (hs.into (by omega) (by simp [unbox_app, unbox_cons, unboxO_box])) (by rw [pay, payN_len]; omega) (by simp; omega)) ?_
          rintro _ _ ⟨rfl, rfl⟩
          by_cases hq : pay (textOf x r) = x :: r
          · simp -dsimp only [go_sem, Nat.reduceEqDiff, Nat.reduceAdd, Nat.reduceSub, Nat.reduceMul, Nat.reduceLeDiff, Nat.reduceLT, Nat.reduceBEq, Int.reduceLT, Int.reduceLE, Int.reduceGT, Int.reduceGE, Int.reduceEq, Int.reduceNe, Int.reduceBEq, Int.reduceBNe, Int.reduceAdd, Int.reduceSub, Int.reduceMul, Int.reduceToNat, Int.reduceNeg, ↓reduceIte, ↓reduceDIte, hq]
            exact .inl ⟨x, r, rfl, hx56, hq, rfl⟩
          · simp -dsimp only [go_sem, Nat.reduceEqDiff, Nat.reduceAdd, Nat.reduceSub, Nat.reduceMul, Nat.reduceLeDiff, Nat.reduceLT, Nat.reduceBEq, Int.reduceLT, Int.reduceLE, Int.reduceGT, Int.reduceGE, Int.reduceEq, Int.reduceNe, Int.reduceBEq, Int.reduceBNe, Int.reduceAdd, Int.reduceSub, Int.reduceMul, Int.reduceToNat, Int.reduceNeg, ↓reduceIte, ↓reduceDIte, hq]
            refine .inr fun y q h => ?_
            cases h
            rintro ⟨_, q2⟩
            exact hq (by rw [← q2, hS])
theorem one_byte (z : UInt8) : bytesOf [b8 z] = some [z] := bytesOf_b8 [z]
set_option maxHeartbeats 1000000 in
theorem fits_ev {lim : Nat} {a : Option Addr} {l : List (BitVec 64)} {H : LHeap} (hs : Sl 1 H a (l.map w64)) (hn : l.length ≤ 200) :
    callE T 10 lim [.slice a l.length l.length] H fun v H' => H' = H ∧ ∃ q, v = .bool q ∧ (q = true → ∃ x r, l = x :: r ∧ x.toNat ≤ 56 ∧ pay (textOf x r) = l) := by
  refine callE_pop rfl (by simp) rfl ?_
  cases l with
  | nil =>
    simp -dsimp only [go_sem, Nat.reduceEqDiff, Nat.reduceAdd, Nat.reduceSub, Nat.reduceMul, Nat.reduceLeDiff, Nat.reduceLT, Nat.reduceBEq, Int.reduceLT, Int.reduceLE, Int.reduceGT, Int.reduceGE, Int.reduceEq, Int.reduceNe, Int.reduceBEq, Int.reduceBNe, Int.reduceAdd, Int.reduceSub, Int.reduceMul, Int.reduceToNat, Int.reduceNeg, ↓reduceIte, ↓reduceDIte]
    exact ⟨false, rfl, fun h => by cases h⟩
  | cons x r =>
    obtain ⟨b, o, rfl, hb, hg⟩ := hs.all (by simp)
    have hg0 := fun t => hg t 0 (w64 x) rfl
    have k0 : (((r.length + 1 : Nat) : Int) == 0) = false := by simp; omega
    have k1 : (0 : Int) < ((r.length + 1 : Nat) : Int) := by omega
    have hgH := hg0 []
    simp only [Nat.add_zero, List.length_cons, List.append_nil] at hg0 hgH hn ⊢
    by_cases hx : 56#64 < x
    · simp -dsimp only [go_sem, Nat.reduceEqDiff, Nat.reduceAdd, Nat.reduceSub, Nat.reduceMul, Nat.reduceLeDiff, Nat.reduceLT, Nat.reduceBEq, Int.reduceLT, Int.reduceLE, Int.reduceGT, Int.reduceGE, Int.reduceEq, Int.reduceNe, Int.reduceBEq, Int.reduceBNe, Int.reduceAdd, Int.reduceSub, Int.reduceMul, Int.reduceToNat, Int.reduceNeg, ↓reduceIte, ↓reduceDIte, hgH, k0, k1, hx]
      exact ⟨false, rfl, fun h => by cases h⟩
    · have hx56 := le56.1 hx
      have hti : x.toInt = (x.toNat : Int) := by rw [BitVec.toInt_eq_toNat_cond, if_pos (by omega)]
      have hw1 : IntKind.i64.wrap ((x.toNat : Int) + 7) = ((x.toNat + 7 : Nat) : Int) := by rw [wrap_i64] <;> omega
      have hw3 : IntKind.i64.wrap (((x.toNat + 7 : Nat) : Int).tdiv 8) = (((x.toNat + 7) / 8 : Nat) : Int) := by
        rw [show (8 : Int) = ((8 : Nat) : Int) from rfl, ← Int.ofNat_tdiv, wrap_i64] <;> omega
      have hw4 : IntKind.i64.wrap (1 + (((x.toNat + 7) / 8 : Nat) : Int)) = ((1 + (x.toNat + 7) / 8 : Nat) : Int) := by rw [wrap_i64] <;> omega
      by_cases hq : r.length + 1 = 1 + (x.toNat + 7) / 8
      · have k3 : (((r.length + 1 : Nat) : Int) != ((1 + (x.toNat + 7) / 8 : Nat) : Int)) = false := by simp; omega
        simp -dsimp only [go_sem, Nat.reduceEqDiff, Nat.reduceAdd, Nat.reduceSub, Nat.reduceMul, Nat.reduceLeDiff, Nat.reduceLT, Nat.reduceBEq, Int.reduceLT, Int.reduceLE, Int.reduceGT, Int.reduceGE, Int.reduceEq, Int.reduceNe, Int.reduceBEq, Int.reduceBNe, Int.reduceAdd, Int.reduceSub, Int.reduceMul, Int.reduceToNat, Int.reduceNeg, ↓reduceIte, ↓reduceDIte, hgH, k0, k1, hx, hti, hw1, hw3, hw4, k3]
        refine LT_of (fun q : Nat × LHeap => [(0, .slice (some ⟨b, o, none⟩) (r.length + 1) (r.length + 1)), (3, strV (bytesOfWords (r.take q.1))), (4, i64 ((q.1 + 1 : Nat) : Int))]) (fun q => H ++ q.2) (fun q => q.1 ≤ r.length) (fun q => r.length - q.1) (0, []) (by simp [bytesOfWords]) (by simp) (by simp) ?_
        rintro ⟨i, t⟩ hi
        simp only at hi ⊢
        by_cases hlt : i < r.length
        · have h1 : ((i + 1 : Nat) : Int) < ((r.length + 1 : Nat) : Int) := by omega
          have h3 : 0 ≤ ((i + 1 : Nat) : Int) := by omega
          have k2 : r[i]? = some (r[i]'hlt) := List.getElem?_eq_getElem _
          generalize r[i]'hlt = y at k2
          have g3 := fun t => hg t (i + 1) (w64 y) (by simp [k2])
          simp -dsimp only [go_sem, Nat.reduceEqDiff, Nat.reduceAdd, Nat.reduceSub, Nat.reduceMul, Nat.reduceLeDiff, Nat.reduceLT, Nat.reduceBEq, Int.reduceLT, Int.reduceLE, Int.reduceGT, Int.reduceGE, Int.reduceEq, Int.reduceNe, Int.reduceBEq, Int.reduceBNe, Int.reduceAdd, Int.reduceSub, Int.reduceMul, Int.reduceToNat, Int.reduceNeg, ↓reduceIte, ↓reduceDIte, h1, h3, g3]
          refine LT_of (fun q : Nat × LHeap => [(0, .slice (some ⟨b, o, none⟩) (r.length + 1) (r.length + 1)), (3, strV (bytesOfWords (r.take i) ++ bytesN y q.1)), (4, i64 ((i + 1 : Nat) : Int)), (5, w64 (y >>> (8 * q.1))), (6, i64 q.1)]) (fun q => H ++ q.2) (fun q => q.1 ≤ 8) (fun q => 8 - q.1) (0, t) (by simp [bytesN]) rfl (by simp) ?_
          rintro ⟨j, u⟩ hj
          simp only at hj ⊢
          by_cases hjt : j < 8
          · have h4 : (j : Int) < 8 := by omega
            have hw : IntKind.i64.wrap ((j : Int) + 1) = ((j + 1 : Nat) : Int) := by rw [wrap_i64] <;> omega
            have ha := fun (z : UInt8) => lstr_add (l := bytesOfWords (r.take i) ++ bytesN y j) (m := [z]) (by simp only [List.length_append, bytesN_len, bytesOfWords_len, List.length_take, List.length_cons, List.length_nil]; omega)
            have hd := lbin_quo (y >>> (8 * j)) 256#64 (by decide)
            have hr := lbin_rem (y >>> (8 * j)) 256#64 (by decide)
            simp -dsimp only [go_sem, Nat.reduceEqDiff, Nat.reduceAdd, Nat.reduceSub, Nat.reduceMul, Nat.reduceLeDiff, Nat.reduceLT, Nat.reduceBEq, Int.reduceLT, Int.reduceLE, Int.reduceGT, Int.reduceGE, Int.reduceEq, Int.reduceNe, Int.reduceBEq, Int.reduceBNe, Int.reduceAdd, Int.reduceSub, Int.reduceMul, Int.reduceToNat, Int.reduceNeg, ↓reduceIte, ↓reduceDIte, h4, hw, ha, hd, hr, mod256, one_byte, div256, shr_eq y j]
            exact ⟨(j + 1, _), by simp only [bytesN_succ, List.append_assoc], rfl, by dsimp only; omega, by dsimp only; omega⟩
          · have h4 : ¬ (j : Int) < 8 := by omega
            have hw : IntKind.i64.wrap (((i + 1 : Nat) : Int) + 1) = ((i + 1 + 1 : Nat) : Int) := by rw [wrap_i64] <;> omega
            have : j = 8 := by omega
            subst this
            simp -dsimp only [go_sem, Nat.reduceEqDiff, Nat.reduceAdd, Nat.reduceSub, Nat.reduceMul, Nat.reduceLeDiff, Nat.reduceLT, Nat.reduceBEq, Int.reduceLT, Int.reduceLE, Int.reduceGT, Int.reduceGE, Int.reduceEq, Int.reduceNe, Int.reduceBEq, Int.reduceBNe, Int.reduceAdd, Int.reduceSub, Int.reduceMul, Int.reduceToNat, Int.reduceNeg, ↓reduceIte, ↓reduceDIte, h4, hw]
            exact ⟨(i + 1, u), by dsimp only; rw [take_snoc' k2, bytesOfWords_snoc], rfl, by dsimp only; omega, by dsimp only; omega⟩
        · have h1 : ¬ (((i + 1 : Nat) : Int) < ((r.length + 1 : Nat) : Int)) := by omega
          have : i = r.length := by omega
          subst this
          rw [List.take_length]
          have hbl := bytesOfWords_len r
          have kx : (0 : Int) ≤ (x.toNat : Int) ∧ (x.toNat : Int) ≤ ((bytesOfWords r).length : Int) := by omega
          have htx : (bytesOfWords r).take x.toNat = textOf x r := rfl
          have htl := text_len (r := r) hx56
          simp -dsimp only [go_sem, Nat.reduceEqDiff, Nat.reduceAdd, Nat.reduceSub, Nat.reduceMul, Nat.reduceLeDiff, Nat.reduceLT, Nat.reduceBEq, Int.reduceLT, Int.reduceLE, Int.reduceGT, Int.reduceGE, Int.reduceEq, Int.reduceNe, Int.reduceBEq, Int.reduceBNe, Int.reduceAdd, Int.reduceSub, Int.reduceMul, Int.reduceToNat, Int.reduceNeg, ↓reduceIte, ↓reduceDIte, h1, hg0, k1, hti, kx, htx]
          refine CT_of (refpay_ev (by simp) (by omega)) ?_
          rintro _ _ ⟨a3, t3, rfl, rfl, g7⟩
          simp -dsimp only [go_sem, Nat.reduceEqDiff, Nat.reduceAdd, Nat.reduceSub, Nat.reduceMul, Nat.reduceLeDiff, Nat.reduceLT, Nat.reduceBEq, Int.reduceLT, Int.reduceLE, Int.reduceGT, Int.reduceGE, Int.reduceEq, Int.reduceNe, Int.reduceBEq, Int.reduceBNe, Int.reduceAdd, Int.reduceSub, Int.reduceMul, Int.reduceToNat, Int.reduceNeg, ↓reduceIte, ↓reduceDIte]
          refine CT_of (same_ev (m := x :: r) (g7.into (by omega) (by simp [unbox_app, unbox_cons, unboxO_box])) (hs.into (by omega) (by simp [unbox_app, unbox_cons, unboxO_box])) (by rw [pay, payN_len]; omega) (by simp; omega)) ?_
          rintro _ _ ⟨rfl, rfl⟩
          simp -dsimp only [go_sem, Nat.reduceEqDiff, Nat.reduceAdd, Nat.reduceSub, Nat.reduceMul, Nat.reduceLeDiff, Nat.reduceLT, Nat.reduceBEq, Int.reduceLT, Int.reduceLE, Int.reduceGT, Int.reduceGE, Int.reduceEq, Int.reduceNe, Int.reduceBEq, Int.reduceBNe, Int.reduceAdd, Int.reduceSub, Int.reduceMul, Int.reduceToNat, Int.reduceNeg, ↓reduceIte, ↓reduceDIte]
          exact ⟨_, rfl, fun h => ⟨x, r, rfl, hx56, by simpa using h⟩⟩
      · have k3 : (((r.length + 1 : Nat) : Int) != ((1 + (x.toNat + 7) / 8 : Nat) : Int)) = true := by simp; omega
        simp -dsimp only [go_sem, Nat.reduceEqDiff, Nat.reduceAdd, Nat.reduceSub, Nat.reduceMul, Nat.reduceLeDiff, Nat.reduceLT, Nat.reduceBEq, Int.reduceLT, Int.reduceLE, Int.reduceGT, Int.reduceGE, Int.reduceEq, Int.reduceNe, Int.reduceBEq, Int.reduceBNe, Int.reduceAdd, Int.reduceSub, Int.reduceMul, Int.reduceToNat, Int.reduceNeg, ↓reduceIte, ↓reduceDIte, hgH, k0, k1, hx, hti, hw1, hw3, hw4, k3]
        exact ⟨false, rfl, fun h => by cases h⟩
theorem one_ev (lim : Nat) (H : LHeap) : callE T 11 lim [] H fun v H' => v = .bool true ∧ H' = H :=
  callE_iso (n := 100) (K := []) rfl rfl rfl (by kernel_rfl) rfl
theorem pay_len (s : List UInt8) : (pay s).length = 1 + (s.length + 7) / 8 := by rw [pay, payN_len]
set_option maxHeartbeats 1000000 in
theorem texts_ev {lim : Nat} {s : List UInt8} {a : Option Addr} {l : List (BitVec 64)} {H : LHeap} (hs : Sl 1 H a (l.map w64)) :
    callE T 3 lim [strV s, .slice a l.length l.length] H fun v H' => v = .bool true := by
  refine callE_pop rfl (by simp) rfl ?_
  by_cases h1 : s.length ≤ 2000
  · by_cases h2 : l.length ≤ 200
    · have k1 : ¬ (2000 < (s.length : Int)) := by omega
      have k2 : ¬ (200 < (l.length : Int)) := by omega
      by_cases h3 : 56 < s.length
      · have k3 : (56 < (s.length : Int)) := by omega
        simp -dsimp only [go_sem, Nat.reduceEqDiff, Nat.reduceAdd, Nat.reduceSub, Nat.reduceMul, Nat.reduceLeDiff, Nat.reduceLT, Nat.reduceBEq, Int.reduceLT, Int.reduceLE, Int.reduceGT, Int.reduceGE, Int.reduceEq, Int.reduceNe, Int.reduceBEq, Int.reduceBNe, Int.reduceAdd, Int.reduceSub, Int.reduceMul, Int.reduceToNat, Int.reduceNeg, ↓reduceIte, ↓reduceDIte, k1, k2]
        refine CT_val (payload_big h3) ?_
        simp -dsimp only [go_sem, Nat.reduceEqDiff, Nat.reduceAdd, Nat.reduceSub, Nat.reduceMul, Nat.reduceLeDiff, Nat.reduceLT, Nat.reduceBEq, Int.reduceLT, Int.reduceLE, Int.reduceGT, Int.reduceGE, Int.reduceEq, Int.reduceNe, Int.reduceBEq, Int.reduceBNe, Int.reduceAdd, Int.reduceSub, Int.reduceMul, Int.reduceToNat, Int.reduceNeg, ↓reduceIte, ↓reduceDIte, k1, k2, k3]
        refine CT_of (text_ev (hs.into (by omega) (by simp [unbox_app, unbox_cons, unboxO_box])) h2) ?_
        rintro _ _ ⟨rfl, ⟨x, r, e, hx, hp, rfl⟩ | ⟨hno, rfl⟩⟩
        · have htl := text_len (r := r) hx
          have k4 : ((textOf x r).length : Int) ≤ 56 := by omega
          simp -dsimp only [go_sem, Nat.reduceEqDiff, Nat.reduceAdd, Nat.reduceSub, Nat.reduceMul, Nat.reduceLeDiff, Nat.reduceLT, Nat.reduceBEq, Int.reduceLT, Int.reduceLE, Int.reduceGT, Int.reduceGE, Int.reduceEq, Int.reduceNe, Int.reduceBEq, Int.reduceBNe, Int.reduceAdd, Int.reduceSub, Int.reduceMul, Int.reduceToNat, Int.reduceNeg, ↓reduceIte, ↓reduceDIte, k4]
          refine CT_of (refpay_ev (by simp) (by omega)) ?_
          rintro _ _ ⟨a3, t3, rfl, rfl, g4⟩
          simp -dsimp only [go_sem, Nat.reduceEqDiff, Nat.reduceAdd, Nat.reduceSub, Nat.reduceMul, Nat.reduceLeDiff, Nat.reduceLT, Nat.reduceBEq, Int.reduceLT, Int.reduceLE, Int.reduceGT, Int.reduceGE, Int.reduceEq, Int.reduceNe, Int.reduceBEq, Int.reduceBNe, Int.reduceAdd, Int.reduceSub, Int.reduceMul, Int.reduceToNat, Int.reduceNeg, ↓reduceIte, ↓reduceDIte]
          refine CT_val (same_ev (l := pay (textOf x r)) (m := l) (g4.into (by omega) (by simp [unbox_app, unbox_cons, unboxO_box])) (hs.into (by omega) (by simp [unbox_app, unbox_cons, unboxO_box])) (by rw [pay_len]; omega) (by omega)) ?_
          simp -dsimp only [go_sem, Nat.reduceEqDiff, Nat.reduceAdd, Nat.reduceSub, Nat.reduceMul, Nat.reduceLeDiff, Nat.reduceLT, Nat.reduceBEq, Int.reduceLT, Int.reduceLE, Int.reduceGT, Int.reduceGE, Int.reduceEq, Int.reduceNe, Int.reduceBEq, Int.reduceBNe, Int.reduceAdd, Int.reduceSub, Int.reduceMul, Int.reduceToNat, Int.reduceNeg, ↓reduceIte, ↓reduceDIte, hp]
          refine CT_val (one_ev _ _) ?_
          simp -dsimp only [go_sem, Nat.reduceEqDiff, Nat.reduceAdd, Nat.reduceSub, Nat.reduceMul, Nat.reduceLeDiff, Nat.reduceLT, Nat.reduceBEq, Int.reduceLT, Int.reduceLE, Int.reduceGT, Int.reduceGE, Int.reduceEq, Int.reduceNe, Int.reduceBEq, Int.reduceBNe, Int.reduceAdd, Int.reduceSub, Int.reduceMul, Int.reduceToNat, Int.reduceNeg, ↓reduceIte, ↓reduceDIte]
        · simp -dsimp only [go_sem, Nat.reduceEqDiff, Nat.reduceAdd, Nat.reduceSub, Nat.reduceMul, Nat.reduceLeDiff, Nat.reduceLT, Nat.reduceBEq, Int.reduceLT, Int.reduceLE, Int.reduceGT, Int.reduceGE, Int.reduceEq, Int.reduceNe, Int.reduceBEq, Int.reduceBNe, Int.reduceAdd, Int.reduceSub, Int.reduceMul, Int.reduceToNat, Int.reduceNeg, ↓reduceIte, ↓reduceDIte]
          refine CT_of (fits_ev (hs.into (by omega) (by simp [unbox_app, unbox_cons, unboxO_box])) h2) ?_
          rintro _ _ ⟨rfl, q, rfl, hq⟩
          cases q with
          | true =>
            obtain ⟨x, r, e, hx, hp⟩ := hq rfl
            exact absurd ⟨hx, hp⟩ (hno x r e)
          | false =>
            simp -dsimp only [go_sem, Nat.reduceEqDiff, Nat.reduceAdd, Nat.reduceSub, Nat.reduceMul, Nat.reduceLeDiff, Nat.reduceLT, Nat.reduceBEq, Int.reduceLT, Int.reduceLE, Int.reduceGT, Int.reduceGE, Int.reduceEq, Int.reduceNe, Int.reduceBEq, Int.reduceBNe, Int.reduceAdd, Int.reduceSub, Int.reduceMul, Int.reduceToNat, Int.reduceNeg, ↓reduceIte, ↓reduceDIte]
            refine CT_val (one_ev _ _) ?_
            simp -dsimp only [go_sem, Nat.reduceEqDiff, Nat.reduceAdd, Nat.reduceSub, Nat.reduceMul, Nat.reduceLeDiff, Nat.reduceLT, Nat.reduceBEq, Int.reduceLT, Int.reduceLE, Int.reduceGT, Int.reduceGE, Int.reduceEq, Int.reduceNe, Int.reduceBEq, Int.reduceBNe, Int.reduceAdd, Int.reduceSub, Int.reduceMul, Int.reduceToNat, Int.reduceNeg, ↓reduceIte, ↓reduceDIte]
      · have k3 : ¬ (56 < (s.length : Int)) := by omega
        simp -dsimp only [go_sem, Nat.reduceEqDiff, Nat.reduceAdd, Nat.reduceSub, Nat.reduceMul, Nat.reduceLeDiff, Nat.reduceLT, Nat.reduceBEq, Int.reduceLT, Int.reduceLE, Int.reduceGT, Int.reduceGE, Int.reduceEq, Int.reduceNe, Int.reduceBEq, Int.reduceBNe, Int.reduceAdd, Int.reduceSub, Int.reduceMul, Int.reduceToNat, Int.reduceNeg, ↓reduceIte, ↓reduceDIte, k1, k2]
        refine CT_of (payload_ev (by omega) (by omega)) ?_
        rintro _ _ ⟨a1, t1, rfl, rfl, g1⟩
        simp -dsimp only [go_sem, Nat.reduceEqDiff, Nat.reduceAdd, Nat.reduceSub, Nat.reduceMul, Nat.reduceLeDiff, Nat.reduceLT, Nat.reduceBEq, Int.reduceLT, Int.reduceLE, Int.reduceGT, Int.reduceGE, Int.reduceEq, Int.reduceNe, Int.reduceBEq, Int.reduceBNe, Int.reduceAdd, Int.reduceSub, Int.reduceMul, Int.reduceToNat, Int.reduceNeg, ↓reduceIte, ↓reduceDIte, k3]
        refine CT_of (refpay_ev (by simp) (by omega)) ?_
        rintro _ _ ⟨a2, t2, rfl, rfl, g2⟩
        simp -dsimp only [go_sem, Nat.reduceEqDiff, Nat.reduceAdd, Nat.reduceSub, Nat.reduceMul, Nat.reduceLeDiff, Nat.reduceLT, Nat.reduceBEq, Int.reduceLT, Int.reduceLE, Int.reduceGT, Int.reduceGE, Int.reduceEq, Int.reduceNe, Int.reduceBEq, Int.reduceBNe, Int.reduceAdd, Int.reduceSub, Int.reduceMul, Int.reduceToNat, Int.reduceNeg, ↓reduceIte, ↓reduceDIte, k3]
        refine CT_val (same_ev (g1.into (by omega) (by simp [unbox_app, unbox_cons, unboxO_box])) (g2.into (by omega) (by simp [unbox_app, unbox_cons, unboxO_box])) (by rw [pay_len]; omega) (by rw [pay_len]; omega)) ?_
        simp -dsimp only [go_sem, Nat.reduceEqDiff, Nat.reduceAdd, Nat.reduceSub, Nat.reduceMul, Nat.reduceLeDiff, Nat.reduceLT, Nat.reduceBEq, Int.reduceLT, Int.reduceLE, Int.reduceGT, Int.reduceGE, Int.reduceEq, Int.reduceNe, Int.reduceBEq, Int.reduceBNe, Int.reduceAdd, Int.reduceSub, Int.reduceMul, Int.reduceToNat, Int.reduceNeg, ↓reduceIte, ↓reduceDIte, k3]
        refine CT_of (text_ev (hs.into (by omega) (by simp [unbox_app, unbox_cons, unboxO_box])) h2) ?_
        rintro _ _ ⟨rfl, ⟨x, r, e, hx, hp, rfl⟩ | ⟨hno, rfl⟩⟩
        · have htl := text_len (r := r) hx
          have k4 : ((textOf x r).length : Int) ≤ 56 := by omega
          simp -dsimp only [go_sem, Nat.reduceEqDiff, Nat.reduceAdd, Nat.reduceSub, Nat.reduceMul, Nat.reduceLeDiff, Nat.reduceLT, Nat.reduceBEq, Int.reduceLT, Int.reduceLE, Int.reduceGT, Int.reduceGE, Int.reduceEq, Int.reduceNe, Int.reduceBEq, Int.reduceBNe, Int.reduceAdd, Int.reduceSub, Int.reduceMul, Int.reduceToNat, Int.reduceNeg, ↓reduceIte, ↓reduceDIte, k4]
          refine CT_of (refpay_ev (by simp) (by omega)) ?_
          rintro _ _ ⟨a3, t3, rfl, rfl, g4⟩
          simp -dsimp only [go_sem, Nat.reduceEqDiff, Nat.reduceAdd, Nat.reduceSub, Nat.reduceMul, Nat.reduceLeDiff, Nat.reduceLT, Nat.reduceBEq, Int.reduceLT, Int.reduceLE, Int.reduceGT, Int.reduceGE, Int.reduceEq, Int.reduceNe, Int.reduceBEq, Int.reduceBNe, Int.reduceAdd, Int.reduceSub, Int.reduceMul, Int.reduceToNat, Int.reduceNeg, ↓reduceIte, ↓reduceDIte]
          refine CT_val (same_ev (l := pay (textOf x r)) (m := l) (g4.into (by omega) (by simp [unbox_app, unbox_cons, unboxO_box])) (hs.into (by omega) (by simp [unbox_app, unbox_cons, unboxO_box])) (by rw [pay_len]; omega) (by omega)) ?_
          simp -dsimp only [go_sem, Nat.reduceEqDiff, Nat.reduceAdd, Nat.reduceSub, Nat.reduceMul, Nat.reduceLeDiff, Nat.reduceLT, Nat.reduceBEq, Int.reduceLT, Int.reduceLE, Int.reduceGT, Int.reduceGE, Int.reduceEq, Int.reduceNe, Int.reduceBEq, Int.reduceBNe, Int.reduceAdd, Int.reduceSub, Int.reduceMul, Int.reduceToNat, Int.reduceNeg, ↓reduceIte, ↓reduceDIte, hp]
          refine CT_val (one_ev _ _) ?_
          simp -dsimp only [go_sem, Nat.reduceEqDiff, Nat.reduceAdd, Nat.reduceSub, Nat.reduceMul, Nat.reduceLeDiff, Nat.reduceLT, Nat.reduceBEq, Int.reduceLT, Int.reduceLE, Int.reduceGT, Int.reduceGE, Int.reduceEq, Int.reduceNe, Int.reduceBEq, Int.reduceBNe, Int.reduceAdd, Int.reduceSub, Int.reduceMul, Int.reduceToNat, Int.reduceNeg, ↓reduceIte, ↓reduceDIte]
        · simp -dsimp only [go_sem, Nat.reduceEqDiff, Nat.reduceAdd, Nat.reduceSub, Nat.reduceMul, Nat.reduceLeDiff, Nat.reduceLT, Nat.reduceBEq, Int.reduceLT, Int.reduceLE, Int.reduceGT, Int.reduceGE, Int.reduceEq, Int.reduceNe, Int.reduceBEq, Int.reduceBNe, Int.reduceAdd, Int.reduceSub, Int.reduceMul, Int.reduceToNat, Int.reduceNeg, ↓reduceIte, ↓reduceDIte]
          refine CT_of (fits_ev (hs.into (by omega) (by simp [unbox_app, unbox_cons, unboxO_box])) h2) ?_
          rintro _ _ ⟨rfl, q, rfl, hq⟩
          cases q with
          | true =>
            obtain ⟨x, r, e, hx, hp⟩ := hq rfl
            exact absurd ⟨hx, hp⟩ (hno x r e)
          | false =>
            simp -dsimp only [go_sem, Nat.reduceEqDiff, Nat.reduceAdd, Nat.reduceSub, Nat.reduceMul, Nat.reduceLeDiff, Nat.reduceLT, Nat.reduceBEq, Int.reduceLT, Int.reduceLE, Int.reduceGT, Int.reduceGE, Int.reduceEq, Int.reduceNe, Int.reduceBEq, Int.reduceBNe, Int.reduceAdd, Int.reduceSub, Int.reduceMul, Int.reduceToNat, Int.reduceNeg, ↓reduceIte, ↓reduceDIte]
            refine CT_val (one_ev _ _) ?_
            simp -dsimp only [go_sem, Nat.reduceEqDiff, Nat.reduceAdd, Nat.reduceSub, Nat.reduceMul, Nat.reduceLeDiff, Nat.reduceLT, Nat.reduceBEq, Int.reduceLT, Int.reduceLE, Int.reduceGT, Int.reduceGE, Int.reduceEq, Int.reduceNe, Int.reduceBEq, Int.reduceBNe, Int.reduceAdd, Int.reduceSub, Int.reduceMul, Int.reduceToNat, Int.reduceNeg, ↓reduceIte, ↓reduceDIte]
    · have k1 : (200 < (l.length : Int)) := by omega
      simp -dsimp only [go_sem, Nat.reduceEqDiff, Nat.reduceAdd, Nat.reduceSub, Nat.reduceMul, Nat.reduceLeDiff, Nat.reduceLT, Nat.reduceBEq, Int.reduceLT, Int.reduceLE, Int.reduceGT, Int.reduceGE, Int.reduceEq, Int.reduceNe, Int.reduceBEq, Int.reduceBNe, Int.reduceAdd, Int.reduceSub, Int.reduceMul, Int.reduceToNat, Int.reduceNeg, ↓reduceIte, ↓reduceDIte, k1]
      (repeat' (first | (refine BT_beq (fun hc => ?_) (fun hc hc2 => ?_) <;> simp -dsimp only [go_sem, Nat.reduceEqDiff, Nat.reduceAdd, Nat.reduceSub, Nat.reduceMul, Nat.reduceLeDiff, Nat.reduceLT, Nat.reduceBEq, Int.reduceLT, Int.reduceLE, Int.reduceGT, Int.reduceGE, Int.reduceEq, Int.reduceNe, Int.reduceBEq, Int.reduceBNe, Int.reduceAdd, Int.reduceSub, Int.reduceMul, Int.reduceToNat, Int.reduceNeg, ↓reduceIte, ↓reduceDIte, k1, *]) | (refine GT_beqT (fun hc => ?_) (fun hc hc2 => ?_) <;> simp -dsimp only [go_sem, Nat.reduceEqDiff, Nat.reduceAdd, Nat.reduceSub, Nat.reduceMul, Nat.reduceLeDiff, Nat.reduceLT, Nat.reduceBEq, Int.reduceLT, Int.reduceLE, Int.reduceGT, Int.reduceGE, Int.reduceEq, Int.reduceNe, Int.reduceBEq, Int.reduceBNe, Int.reduceAdd, Int.reduceSub, Int.reduceMul, Int.reduceToNat, Int.reduceNeg, ↓reduceIte, ↓reduceDIte, k1, *]) | (refine GT_beqF (fun hc hc2 => ?_) (fun hc => ?_) <;> simp -dsimp only [go_sem, Nat.reduceEqDiff, Nat.reduceAdd, Nat.reduceSub, Nat.reduceMul, Nat.reduceLeDiff, Nat.reduceLT, Nat.reduceBEq, Int.reduceLT, Int.reduceLE, Int.reduceGT, Int.reduceGE, Int.reduceEq, Int.reduceNe, Int.reduceBEq, Int.reduceBNe, Int.reduceAdd, Int.reduceSub, Int.reduceMul, Int.reduceToNat, Int.reduceNeg, ↓reduceIte, ↓reduceDIte, k1, *]) | (refine BT_bne (fun hc hc1 hc2 => ?_) (fun hc => ?_) <;> simp -dsimp only [go_sem, Nat.reduceEqDiff, Nat.reduceAdd, Nat.reduceSub, Nat.reduceMul, Nat.reduceLeDiff, Nat.reduceLT, Nat.reduceBEq, Int.reduceLT, Int.reduceLE, Int.reduceGT, Int.reduceGE, Int.reduceEq, Int.reduceNe, Int.reduceBEq, Int.reduceBNe, Int.reduceAdd, Int.reduceSub, Int.reduceMul, Int.reduceToNat, Int.reduceNeg, ↓reduceIte, ↓reduceDIte, k1, *]) | (refine GT_bneT (fun hc hc1 hc2 => ?_) (fun hc => ?_) <;> simp -dsimp only [go_sem, Nat.reduceEqDiff, Nat.reduceAdd, Nat.reduceSub, Nat.reduceMul, Nat.reduceLeDiff, Nat.reduceLT, Nat.reduceBEq, Int.reduceLT, Int.reduceLE, Int.reduceGT, Int.reduceGE, Int.reduceEq, Int.reduceNe, Int.reduceBEq, Int.reduceBNe, Int.reduceAdd, Int.reduceSub, Int.reduceMul, Int.reduceToNat, Int.reduceNeg, ↓reduceIte, ↓reduceDIte, k1, *]) | (refine GT_bneF (fun hc => ?_) (fun hc hc1 hc2 => ?_) <;> simp -dsimp only [go_sem, Nat.reduceEqDiff, Nat.reduceAdd, Nat.reduceSub, Nat.reduceMul, Nat.reduceLeDiff, Nat.reduceLT, Nat.reduceBEq, Int.reduceLT, Int.reduceLE, Int.reduceGT, Int.reduceGE, Int.reduceEq, Int.reduceNe, Int.reduceBEq, Int.reduceBNe, Int.reduceAdd, Int.reduceSub, Int.reduceMul, Int.reduceToNat, Int.reduceNeg, ↓reduceIte, ↓reduceDIte, k1, *]) | (refine BT_not (fun hc => ?_) (fun hc => ?_) <;> simp -dsimp only [go_sem, Nat.reduceEqDiff, Nat.reduceAdd, Nat.reduceSub, Nat.reduceMul, Nat.reduceLeDiff, Nat.reduceLT, Nat.reduceBEq, Int.reduceLT, Int.reduceLE, Int.reduceGT, Int.reduceGE, Int.reduceEq, Int.reduceNe, Int.reduceBEq, Int.reduceBNe, Int.reduceAdd, Int.reduceSub, Int.reduceMul, Int.reduceToNat, Int.reduceNeg, ↓reduceIte, ↓reduceDIte, k1, *]) | (refine GT_notT (fun hc => ?_) (fun hc => ?_) <;> simp -dsimp only [go_sem, Nat.reduceEqDiff, Nat.reduceAdd, Nat.reduceSub, Nat.reduceMul, Nat.reduceLeDiff, Nat.reduceLT, Nat.reduceBEq, Int.reduceLT, Int.reduceLE, Int.reduceGT, Int.reduceGE, Int.reduceEq, Int.reduceNe, Int.reduceBEq, Int.reduceBNe, Int.reduceAdd, Int.reduceSub, Int.reduceMul, Int.reduceToNat, Int.reduceNeg, ↓reduceIte, ↓reduceDIte, k1, *]) | (refine GT_notF (fun hc => ?_) (fun hc => ?_) <;> simp -dsimp only [go_sem, Nat.reduceEqDiff, Nat.reduceAdd, Nat.reduceSub, Nat.reduceMul, Nat.reduceLeDiff, Nat.reduceLT, Nat.reduceBEq, Int.reduceLT, Int.reduceLE, Int.reduceGT, Int.reduceGE, Int.reduceEq, Int.reduceNe, Int.reduceBEq, Int.reduceBNe, Int.reduceAdd, Int.reduceSub, Int.reduceMul, Int.reduceToNat, Int.reduceNeg, ↓reduceIte, ↓reduceDIte, k1, *]) | (refine BT_dec (fun hc => ?_) (fun hc => ?_) <;> simp -dsimp only [go_sem, Nat.reduceEqDiff, Nat.reduceAdd, Nat.reduceSub, Nat.reduceMul, Nat.reduceLeDiff, Nat.reduceLT, Nat.reduceBEq, Int.reduceLT, Int.reduceLE, Int.reduceGT, Int.reduceGE, Int.reduceEq, Int.reduceNe, Int.reduceBEq, Int.reduceBNe, Int.reduceAdd, Int.reduceSub, Int.reduceMul, Int.reduceToNat, Int.reduceNeg, ↓reduceIte, ↓reduceDIte, k1, *]) | (refine GT_decT (fun hc => ?_) (fun hc => ?_) <;> simp -dsimp only [go_sem, Nat.reduceEqDiff, Nat.reduceAdd, Nat.reduceSub, Nat.reduceMul, Nat.reduceLeDiff, Nat.reduceLT, Nat.reduceBEq, Int.reduceLT, Int.reduceLE, Int.reduceGT, Int.reduceGE, Int.reduceEq, Int.reduceNe, Int.reduceBEq, Int.reduceBNe, Int.reduceAdd, Int.reduceSub, Int.reduceMul, Int.reduceToNat, Int.reduceNeg, ↓reduceIte, ↓reduceDIte, k1, *]) | (refine GT_decF (fun hc => ?_) (fun hc => ?_) <;> simp -dsimp only [go_sem, Nat.reduceEqDiff, Nat.reduceAdd, Nat.reduceSub, Nat.reduceMul, Nat.reduceLeDiff, Nat.reduceLT, Nat.reduceBEq, Int.reduceLT, Int.reduceLE, Int.reduceGT, Int.reduceGE, Int.reduceEq, Int.reduceNe, Int.reduceBEq, Int.reduceBNe, Int.reduceAdd, Int.reduceSub, Int.reduceMul, Int.reduceToNat, Int.reduceNeg, ↓reduceIte, ↓reduceDIte, k1, *]) | (refine BT_intro (fun hc => ?_) (fun hc => ?_) <;> simp -dsimp only [go_sem, Nat.reduceEqDiff, Nat.reduceAdd, Nat.reduceSub, Nat.reduceMul, Nat.reduceLeDiff, Nat.reduceLT, Nat.reduceBEq, Int.reduceLT, Int.reduceLE, Int.reduceGT, Int.reduceGE, Int.reduceEq, Int.reduceNe, Int.reduceBEq, Int.reduceBNe, Int.reduceAdd, Int.reduceSub, Int.reduceMul, Int.reduceToNat, Int.reduceNeg, ↓reduceIte, ↓reduceDIte, k1, *]) | (refine GT_introT (fun hc => ?_) (fun hc => ?_) <;> simp -dsimp only [go_sem, Nat.reduceEqDiff, Nat.reduceAdd, Nat.reduceSub, Nat.reduceMul, Nat.reduceLeDiff, Nat.reduceLT, Nat.reduceBEq, Int.reduceLT, Int.reduceLE, Int.reduceGT, Int.reduceGE, Int.reduceEq, Int.reduceNe, Int.reduceBEq, Int.reduceBNe, Int.reduceAdd, Int.reduceSub, Int.reduceMul, Int.reduceToNat, Int.reduceNeg, ↓reduceIte, ↓reduceDIte, k1, *]) | (refine GT_introF (fun hc => ?_) (fun hc => ?_) <;> simp -dsimp only [go_sem, Nat.reduceEqDiff, Nat.reduceAdd, Nat.reduceSub, Nat.reduceMul, Nat.reduceLeDiff, Nat.reduceLT, Nat.reduceBEq, Int.reduceLT, Int.reduceLE, Int.reduceGT, Int.reduceGE, Int.reduceEq, Int.reduceNe, Int.reduceBEq, Int.reduceBNe, Int.reduceAdd, Int.reduceSub, Int.reduceMul, Int.reduceToNat, Int.reduceNeg, ↓reduceIte, ↓reduceDIte, k1, *])))
  · have k1 : (2000 < (s.length : Int)) := by omega
    simp -dsimp only [go_sem, Nat.reduceEqDiff, Nat.reduceAdd, Nat.reduceSub, Nat.reduceMul, Nat.reduceLeDiff, Nat.reduceLT, Nat.reduceBEq, Int.reduceLT, Int.reduceLE, Int.reduceGT, Int.reduceGE, Int.reduceEq, Int.reduceNe, Int.reduceBEq, Int.reduceBNe, Int.reduceAdd, Int.reduceSub, Int.reduceMul, Int.reduceToNat, Int.reduceNeg, ↓reduceIte, ↓reduceDIte, k1]
