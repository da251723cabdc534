/- The texts of calls. -/
import Derived.Test.YtlkfmeobkgglfaaH1
namespace Go.Proofs.Ytlkfmeobkgglfaa
open Go Go.LK
set_option linter.unusedSimpArgs false
set_option linter.unusedVariables false
/-- A number's digits. -/
def dec (n : Nat) : List UInt8 := if h : n < 10 then [UInt8.ofNat (48 + n)] else dec (n / 10) ++ [UInt8.ofNat (48 + n % 10)]
termination_by n
decreasing_by omega
theorem dec_lt {n : Nat} (h : n < 10) : dec n = [UInt8.ofNat (48 + n)] := by rw [dec, dif_pos h]
theorem dec_ge {n : Nat} (h : ¬ n < 10) : dec n = dec (n / 10) ++ dec (n % 10) := by
  rw [dec, dif_neg h, dec_lt (Nat.mod_lt _ (by omega))]
theorem dec_len : ∀ (k n : Nat), n < 10 ^ (k + 1) → (dec n).length ≤ k + 1
  | 0, n, h => by rw [dec_lt (by omega)]; simp
  | k + 1, n, h => by
    by_cases h10 : n < 10
    · rw [dec_lt h10]; simp
    · rw [dec_ge h10, List.length_append]
      have h1 := dec_len k (n / 10) (by rw [Nat.pow_succ] at h; omega)
      have h2 : (dec (n % 10)).length = 1 := by rw [dec_lt (Nat.mod_lt _ (by omega))]; rfl
      omega
theorem dec_small (x : BitVec 64) : (dec x.toNat).length ≤ 20 := dec_len 19 _ (Nat.lt_of_lt_of_le x.isLt (by decide))
theorem lt10 {x : BitVec 64} : (x < 10#64) ↔ x.toNat < 10 := by rw [BitVec.lt_def]; exact Iff.rfl
theorem one_byte (z : UInt8) : bytesOf [b8 z] = some [z] := bytesOf_b8 [z]
theorem toNat_div10 (x : BitVec 64) : (x / 10#64).toNat = x.toNat / 10 := by rw [BitVec.toNat_udiv]; rfl
theorem toNat_mod10 (x : BitVec 64) : (x % 10#64).toNat = x.toNat % 10 := by rw [BitVec.toNat_umod]; rfl
theorem digit_byte {x : BitVec 64} (h : x.toNat < 10) : UInt8.ofNat (48#64 + x).toNat = UInt8.ofNat (48 + x.toNat) := by
  congr 1
  rw [BitVec.toNat_add]
  have : (48#64).toNat = 48 := rfl
  omega
theorem digits_ev : ∀ (n : Nat) (x : BitVec 64) (lim : Nat) (H : LHeap), x.toNat = n → callE T 35 lim [w64 x] H fun v H' => v = strV (dec x.toNat) ∧ H' = H := by
  intro n
  induction n using Nat.strongRecOn with
  | ind n ih =>
    intro x lim H hn
    refine callE_pop rfl (by simp) rfl ?_
    by_cases h : x.toNat < 10
    · have h1 : x < 10#64 := lt10.2 h
      simp -dsimp only [go_sem, Nat.reduceEqDiff, Nat.reduceAdd, Nat.reduceSub, Nat.reduceMul, Nat.reduceLeDiff, Nat.reduceLT, Nat.reduceBEq, Int.reduceLT, Int.reduceLE, Int.reduceGT, Int.reduceGE, Int.reduceEq, Int.reduceNe, Int.reduceBEq, Int.reduceBNe, Int.reduceAdd, Int.reduceSub, Int.reduceMul, Int.reduceToNat, Int.reduceNeg, ↓reduceIte, ↓reduceDIte, h1, one_byte]
      rw [dec_lt h, digit_byte h]
    · have h1 : ¬ x < 10#64 := fun q => h (lt10.1 q)
      have hd := lbin_quo x 10#64 (by decide)
      have hr := lbin_rem x 10#64 (by decide)
      have ha := lstr_add (l := dec (x / 10#64).toNat) (m := dec (x % 10#64).toNat) (by have := dec_small (x / 10#64); have := dec_small (x % 10#64); omega)
      simp -dsimp only [go_sem, Nat.reduceEqDiff, Nat.reduceAdd, Nat.reduceSub, Nat.reduceMul, Nat.reduceLeDiff, Nat.reduceLT, Nat.reduceBEq, Int.reduceLT, Int.reduceLE, Int.reduceGT, Int.reduceGE, Int.reduceEq, Int.reduceNe, Int.reduceBEq, Int.reduceBNe, Int.reduceAdd, Int.reduceSub, Int.reduceMul, Int.reduceToNat, Int.reduceNeg, ↓reduceIte, ↓reduceDIte, h1, hd]
      refine CT_val (ih (x / 10#64).toNat (by rw [toNat_div10]; omega) (x / 10#64) _ _ rfl) ?_
      simp -dsimp only [go_sem, Nat.reduceEqDiff, Nat.reduceAdd, Nat.reduceSub, Nat.reduceMul, Nat.reduceLeDiff, Nat.reduceLT, Nat.reduceBEq, Int.reduceLT, Int.reduceLE, Int.reduceGT, Int.reduceGE, Int.reduceEq, Int.reduceNe, Int.reduceBEq, Int.reduceBNe, Int.reduceAdd, Int.reduceSub, Int.reduceMul, Int.reduceToNat, Int.reduceNeg, ↓reduceIte, ↓reduceDIte, hr]
      refine CT_val (ih (x % 10#64).toNat (by rw [toNat_mod10]; omega) (x % 10#64) _ _ rfl) ?_
      simp -dsimp only [go_sem, Nat.reduceEqDiff, Nat.reduceAdd, Nat.reduceSub, Nat.reduceMul, Nat.reduceLeDiff, Nat.reduceLT, Nat.reduceBEq, Int.reduceLT, Int.reduceLE, Int.reduceGT, Int.reduceGE, Int.reduceEq, Int.reduceNe, Int.reduceBEq, Int.reduceBNe, Int.reduceAdd, Int.reduceSub, Int.reduceMul, Int.reduceToNat, Int.reduceNeg, ↓reduceIte, ↓reduceDIte, ha]
      rw [toNat_div10, toNat_mod10, ← dec_ge h]
theorem refdigits_ev : ∀ (n : Nat) (x : BitVec 64) (lim : Nat) (H : LHeap), x.toNat = n → callE T 37 lim [w64 x] H fun v H' => v = strV (dec x.toNat) ∧ H' = H := by
  intro n
  induction n using Nat.strongRecOn with
  | ind n ih =>
    intro x lim H hn
    refine callE_pop rfl (by simp) rfl ?_
    have hd := lbin_quo x 10#64 (by decide)
    have hr := lbin_rem x 10#64 (by decide)
    have hsl : lsls (strV [48, 49, 50, 51, 52, 53, 54, 55, 56, 57]) (some (w64 (x % 10#64))) (some (w64 (x % 10#64 + 1#64))) = some (strV (dec (x.toNat % 10))) := by
      have hm : x.toNat % 10 < 10 := Nat.mod_lt _ (by omega)
      generalize hq : x.toNat % 10 = q at hm
      have e1 : x % 10#64 = BitVec.ofNat 64 q := by
        apply BitVec.eq_of_toNat_eq; rw [toNat_mod10, hq, BitVec.toNat_ofNat]; omega
      rw [e1, dec_lt hm]
      have : q = 0 ∨ q = 1 ∨ q = 2 ∨ q = 3 ∨ q = 4 ∨ q = 5 ∨ q = 6 ∨ q = 7 ∨ q = 8 ∨ q = 9 := by omega
      rcases this with rfl | rfl | rfl | rfl | rfl | rfl | rfl | rfl | rfl | rfl <;> rfl
    by_cases h : x.toNat < 10
    · have h1 : x < 10#64 := lt10.2 h
      simp -dsimp only [go_sem, Nat.reduceEqDiff, Nat.reduceAdd, Nat.reduceSub, Nat.reduceMul, Nat.reduceLeDiff, Nat.reduceLT, Nat.reduceBEq, Int.reduceLT, Int.reduceLE, Int.reduceGT, Int.reduceGE, Int.reduceEq, Int.reduceNe, Int.reduceBEq, Int.reduceBNe, Int.reduceAdd, Int.reduceSub, Int.reduceMul, Int.reduceToNat, Int.reduceNeg, ↓reduceIte, ↓reduceDIte, h1, hr, hsl]
      rw [Nat.mod_eq_of_lt h]
    · have h1 : ¬ x < 10#64 := fun q => h (lt10.1 q)
      have ha := lstr_add (l := dec (x / 10#64).toNat) (m := dec (x.toNat % 10)) (by have := dec_small (x / 10#64); have := dec_small (x % 10#64); rw [toNat_mod10] at this; omega)
      simp -dsimp only [go_sem, Nat.reduceEqDiff, Nat.reduceAdd, Nat.reduceSub, Nat.reduceMul, Nat.reduceLeDiff, Nat.reduceLT, Nat.reduceBEq, Int.reduceLT, Int.reduceLE, Int.reduceGT, Int.reduceGE, Int.reduceEq, Int.reduceNe, Int.reduceBEq, Int.reduceBNe, Int.reduceAdd, Int.reduceSub, Int.reduceMul, Int.reduceToNat, Int.reduceNeg, ↓reduceIte, ↓reduceDIte, h1, hd, hr, hsl]
      refine CT_val (ih (x / 10#64).toNat (by rw [toNat_div10]; omega) (x / 10#64) _ _ rfl) ?_
      simp -dsimp only [go_sem, Nat.reduceEqDiff, Nat.reduceAdd, Nat.reduceSub, Nat.reduceMul, Nat.reduceLeDiff, Nat.reduceLT, Nat.reduceBEq, Int.reduceLT, Int.reduceLE, Int.reduceGT, Int.reduceGE, Int.reduceEq, Int.reduceNe, Int.reduceBEq, Int.reduceBNe, Int.reduceAdd, Int.reduceSub, Int.reduceMul, Int.reduceToNat, Int.reduceNeg, ↓reduceIte, ↓reduceDIte, ha]
      rw [toNat_div10, ← dec_ge h]
/-- A number that may be below 0. -/
def num (n : Int) : List UInt8 := if n < 0 then 45 :: dec (-n).toNat else dec n.toNat
theorem num_len {n : Int} (h0 : -9223372036854775808 ≤ n) (h1 : n ≤ 9223372036854775807) : (num n).length ≤ 21 := by
  unfold num
  split
  · have := dec_len 19 (-n).toNat (Nat.lt_of_le_of_lt (m := 9223372036854775808) (by omega) (by decide))
    simp; omega
  · have := dec_len 19 n.toNat (Nat.lt_of_le_of_lt (m := 9223372036854775808) (by omega) (by decide))
    omega
theorem ofInt_nat {n : Int} (h0 : 0 ≤ n) (h1 : n ≤ 9223372036854775808) : (BitVec.ofInt 64 n).toNat = n.toNat := by
  rw [BitVec.toNat_ofInt]; omega
theorem neg_nat {n : Int} (h0 : -9223372036854775808 ≤ n) (h1 : n < 0) : (-(BitVec.ofInt 64 n)).toNat = (-n).toNat := by
  rw [← BitVec.ofInt_neg]; exact ofInt_nat (by omega) (by omega)
theorem signed_ev {lim : Nat} {n : Int} {H : LHeap} (h0 : -9223372036854775808 ≤ n) (h1 : n ≤ 9223372036854775807) : callE T 34 lim [i64 n] H fun v H' => v = strV (num n) ∧ H' = H := by
  refine callE_pop rfl (by simp) rfl ?_
  by_cases hn : n < 0
  · simp -dsimp only [go_sem, Nat.reduceEqDiff, Nat.reduceAdd, Nat.reduceSub, Nat.reduceMul, Nat.reduceLeDiff, Nat.reduceLT, Nat.reduceBEq, Int.reduceLT, Int.reduceLE, Int.reduceGT, Int.reduceGE, Int.reduceEq, Int.reduceNe, Int.reduceBEq, Int.reduceBNe, Int.reduceAdd, Int.reduceSub, Int.reduceMul, Int.reduceToNat, Int.reduceNeg, ↓reduceIte, ↓reduceDIte, hn]
    refine CT_val (digits_ev _ _ _ _ rfl) ?_
    have ha := lstr_add (l := [45]) (m := dec (-(BitVec.ofInt 64 n)).toNat) (by have := dec_small (-(BitVec.ofInt 64 n)); simp only [List.length_cons, List.length_nil]; omega)
    simp -dsimp only [go_sem, Nat.reduceEqDiff, Nat.reduceAdd, Nat.reduceSub, Nat.reduceMul, Nat.reduceLeDiff, Nat.reduceLT, Nat.reduceBEq, Int.reduceLT, Int.reduceLE, Int.reduceGT, Int.reduceGE, Int.reduceEq, Int.reduceNe, Int.reduceBEq, Int.reduceBNe, Int.reduceAdd, Int.reduceSub, Int.reduceMul, Int.reduceToNat, Int.reduceNeg, ↓reduceIte, ↓reduceDIte, ha]
    rw [num, if_pos hn, neg_nat h0 hn]
  · simp -dsimp only [go_sem, Nat.reduceEqDiff, Nat.reduceAdd, Nat.reduceSub, Nat.reduceMul, Nat.reduceLeDiff, Nat.reduceLT, Nat.reduceBEq, Int.reduceLT, Int.reduceLE, Int.reduceGT, Int.reduceGE, Int.reduceEq, Int.reduceNe, Int.reduceBEq, Int.reduceBNe, Int.reduceAdd, Int.reduceSub, Int.reduceMul, Int.reduceToNat, Int.reduceNeg, ↓reduceIte, ↓reduceDIte, hn]
    refine CT_val (digits_ev _ _ _ _ rfl) ?_
    simp -dsimp only [go_sem, Nat.reduceEqDiff, Nat.reduceAdd, Nat.reduceSub, Nat.reduceMul, Nat.reduceLeDiff, Nat.reduceLT, Nat.reduceBEq, Int.reduceLT, Int.reduceLE, Int.reduceGT, Int.reduceGE, Int.reduceEq, Int.reduceNe, Int.reduceBEq, Int.reduceBNe, Int.reduceAdd, Int.reduceSub, Int.reduceMul, Int.reduceToNat, Int.reduceNeg, ↓reduceIte, ↓reduceDIte]
    rw [num, if_neg hn, ofInt_nat (by omega) (by omega)]
theorem number_ev {lim : Nat} {n : Int} {H : LHeap} (h0 : -9223372036854775808 ≤ n) (h1 : n ≤ 9223372036854775807) : callE T 36 lim [i64 n] H fun v H' => v = strV (num n) ∧ H' = H := by
  refine callE_pop rfl (by simp) rfl ?_
  by_cases hn : n < 0
  · have hw1 : IntKind.i64.wrap (n + 1) = n + 1 := by rw [wrap_i64] <;> omega
    have hw2 : IntKind.i64.wrap (0 - (n + 1)) = 0 - (n + 1) := by rw [wrap_i64] <;> omega
    simp -dsimp only [go_sem, Nat.reduceEqDiff, Nat.reduceAdd, Nat.reduceSub, Nat.reduceMul, Nat.reduceLeDiff, Nat.reduceLT, Nat.reduceBEq, Int.reduceLT, Int.reduceLE, Int.reduceGT, Int.reduceGE, Int.reduceEq, Int.reduceNe, Int.reduceBEq, Int.reduceBNe, Int.reduceAdd, Int.reduceSub, Int.reduceMul, Int.reduceToNat, Int.reduceNeg, ↓reduceIte, ↓reduceDIte, hn, hw1, hw2]
    refine CT_val (refdigits_ev _ _ _ _ rfl) ?_
    have e : (BitVec.ofInt 64 (0 - (n + 1)) + 1#64).toNat = (-n).toNat := by
      rw [BitVec.toNat_add, ofInt_nat (by omega) (by omega)]
      have : (1#64).toNat = 1 := rfl
      omega
    have ha := lstr_add (l := [45]) (m := dec (BitVec.ofInt 64 (0 - (n + 1)) + 1#64).toNat) (by have := dec_small (BitVec.ofInt 64 (0 - (n + 1)) + 1#64); simp only [List.length_cons, List.length_nil]; omega)
    simp -dsimp only [go_sem, Nat.reduceEqDiff, Nat.reduceAdd, Nat.reduceSub, Nat.reduceMul, Nat.reduceLeDiff, Nat.reduceLT, Nat.reduceBEq, Int.reduceLT, Int.reduceLE, Int.reduceGT, Int.reduceGE, Int.reduceEq, Int.reduceNe, Int.reduceBEq, Int.reduceBNe, Int.reduceAdd, Int.reduceSub, Int.reduceMul, Int.reduceToNat, Int.reduceNeg, ↓reduceIte, ↓reduceDIte, ha]
    rw [num, if_pos hn, e]
  · simp -dsimp only [go_sem, Nat.reduceEqDiff, Nat.reduceAdd, Nat.reduceSub, Nat.reduceMul, Nat.reduceLeDiff, Nat.reduceLT, Nat.reduceBEq, Int.reduceLT, Int.reduceLE, Int.reduceGT, Int.reduceGE, Int.reduceEq, Int.reduceNe, Int.reduceBEq, Int.reduceBNe, Int.reduceAdd, Int.reduceSub, Int.reduceMul, Int.reduceToNat, Int.reduceNeg, ↓reduceIte, ↓reduceDIte, hn]
    refine CT_val (refdigits_ev _ _ _ _ rfl) ?_
    simp -dsimp only [go_sem, Nat.reduceEqDiff, Nat.reduceAdd, Nat.reduceSub, Nat.reduceMul, Nat.reduceLeDiff, Nat.reduceLT, Nat.reduceBEq, Int.reduceLT, Int.reduceLE, Int.reduceGT, Int.reduceGE, Int.reduceEq, Int.reduceNe, Int.reduceBEq, Int.reduceBNe, Int.reduceAdd, Int.reduceSub, Int.reduceMul, Int.reduceToNat, Int.reduceNeg, ↓reduceIte, ↓reduceDIte]
    rw [num, if_neg hn, ofInt_nat (by omega) (by omega)]
/-- Texts with blanks between them. -/
def jn (ws : List (List UInt8)) : Nat → List UInt8
  | 0 => []
  | i + 1 => (if 0 < i then jn ws i ++ [32] else jn ws i) ++ (ws[i]?).getD []
theorem line_ev {lim : Nat} {a : Option Addr} {ws : List (List UInt8)} {H : LHeap} (hs : Sl 1 H a (ws.map strV)) (hn : ws.length < 100) (hlen : ∀ i, i ≤ ws.length → (jn ws i).length ≤ 100000) (hw0 : ∀ w ∈ ws, w.length ≤ 100000) :
    callE T 33 lim [.slice a ws.length ws.length] H fun v H' => v = strV (jn ws ws.length) ∧ H' = H := by
  refine callE_pop rfl (by simp) rfl ?_
  simp -dsimp only [go_sem, Nat.reduceEqDiff, Nat.reduceAdd, Nat.reduceSub, Nat.reduceMul, Nat.reduceLeDiff, Nat.reduceLT, Nat.reduceBEq, Int.reduceLT, Int.reduceLE, Int.reduceGT, Int.reduceGE, Int.reduceEq, Int.reduceNe, Int.reduceBEq, Int.reduceBNe, Int.reduceAdd, Int.reduceSub, Int.reduceMul, Int.reduceToNat, Int.reduceNeg, ↓reduceIte, ↓reduceDIte]
  refine LT_of (fun i : Nat => [(3, strV (jn ws i)), (6, .slice a ws.length ws.length), (7, i64 ws.length), (8, i64 i)]) (fun _ => H) (fun i => i ≤ ws.length) (fun i => ws.length - i) 0 (by simp [jn]) rfl (by omega) ?_
  intro i hi
  by_cases hlt : i < ws.length
  · have h1 : (i : Int) < ws.length := by omega
    have h3 : 0 ≤ (i : Int) := by omega
    have k2 : ws[i]? = some (ws[i]'hlt) := List.getElem?_eq_getElem _
    have hwl := hw0 _ (List.getElem_mem hlt)
    generalize ws[i]'hlt = y at k2 hwl
    obtain ⟨b, o, rfl, hb, hg⟩ := hs.all (by simp; omega)
    have g1 := hg [] i (strV y) (by simp [k2])
    simp only [List.append_nil] at g1
    have hw : IntKind.i64.wrap ((i : Int) + 1) = ((i + 1 : Nat) : Int) := by rw [wrap_i64] <;> omega
    have hl := hlen i hi
    by_cases h0 : 0 < i
    · have p : (0 : Int) < i := by omega
      have a1 := lstr_add (l := jn ws i) (m := [32]) (by simp only [List.length_cons, List.length_nil]; omega)
      have a2 := lstr_add (l := jn ws i ++ [32]) (m := y) (by simp only [List.length_append, List.length_cons, List.length_nil]; omega)
      simp -dsimp only [go_sem, Nat.reduceEqDiff, Nat.reduceAdd, Nat.reduceSub, Nat.reduceMul, Nat.reduceLeDiff, Nat.reduceLT, Nat.reduceBEq, Int.reduceLT, Int.reduceLE, Int.reduceGT, Int.reduceGE, Int.reduceEq, Int.reduceNe, Int.reduceBEq, Int.reduceBNe, Int.reduceAdd, Int.reduceSub, Int.reduceMul, Int.reduceToNat, Int.reduceNeg, ↓reduceIte, ↓reduceDIte, h1, h3, g1, hw, p, a1, a2]
      exact ⟨i + 1, by simp [jn, h0, k2], by omega, by omega⟩
    · have p : ¬ (0 : Int) < i := by omega
      have a2 := lstr_add (l := jn ws i) (m := y) (by omega)
      simp -dsimp only [go_sem, Nat.reduceEqDiff, Nat.reduceAdd, Nat.reduceSub, Nat.reduceMul, Nat.reduceLeDiff, Nat.reduceLT, Nat.reduceBEq, Int.reduceLT, Int.reduceLE, Int.reduceGT, Int.reduceGE, Int.reduceEq, Int.reduceNe, Int.reduceBEq, Int.reduceBNe, Int.reduceAdd, Int.reduceSub, Int.reduceMul, Int.reduceToNat, Int.reduceNeg, ↓reduceIte, ↓reduceDIte, h1, h3, g1, hw, p, a2]
      exact ⟨i + 1, by simp [jn, h0, k2], by omega, by omega⟩
  · have h1 : ¬ (i : Int) < ws.length := by omega
    have : i = ws.length := by omega
    subst this
    simp -dsimp only [go_sem, Nat.reduceEqDiff, Nat.reduceAdd, Nat.reduceSub, Nat.reduceMul, Nat.reduceLeDiff, Nat.reduceLT, Nat.reduceBEq, Int.reduceLT, Int.reduceLE, Int.reduceGT, Int.reduceGE, Int.reduceEq, Int.reduceNe, Int.reduceBEq, Int.reduceBNe, Int.reduceAdd, Int.reduceSub, Int.reduceMul, Int.reduceToNat, Int.reduceNeg, ↓reduceIte, ↓reduceDIte, h1]
def textF (c : CallD) : List UInt8 :=
  let h := num c.th ++ [32] ++ num c.kind ++ [32] ++ dec c.arg.toNat ++ [32] ++ num c.fr
  if c.dn = true then h ++ [32] ++ num c.to ++ [32] ++ num c.code ++ [32] ++ dec c.ret.toNat else h
theorem jn4 (a b c d : List UInt8) : jn [a, b, c, d] 4 = a ++ [32] ++ b ++ [32] ++ c ++ [32] ++ d := by
  simp [jn]
theorem jn_le (a b c d : List UInt8) (h : a.length + b.length + c.length + d.length ≤ 1000) : ∀ i, i ≤ [a, b, c, d].length → (jn [a, b, c, d] i).length ≤ 100000 := by
  intro i hi
  have : i = 0 ∨ i = 1 ∨ i = 2 ∨ i = 3 ∨ i = 4 := by simp at hi; omega
  rcases this with rfl | rfl | rfl | rfl | rfl <;> simp [jn] <;> omega
theorem line4_ev {lim b : Nat} {p q r s : List UInt8} {H : LHeap} (hb : H[b]? = some (.row false 1 [strV p, strV q, strV r, strV s])) (hn : p.length + q.length + r.length + s.length ≤ 1000) :
    callE T 33 lim [.slice (some ⟨b, 0, none⟩) 4 4] H fun v H' => v = strV (p ++ [32] ++ q ++ [32] ++ r ++ [32] ++ s) ∧ H' = H := by
  have := line_ev (lim := lim) (ws := [p, q, r, s]) (a := some ⟨b, 0, none⟩) (H := H) (Sl.row (m := 1) hb) (by simp) (jn_le p q r s hn) (by
    intro w hw
    simp only [List.mem_cons, List.not_mem_nil, or_false] at hw
    rcases hw with rfl | rfl | rfl | rfl <;> omega)
  have e : [p, q, r, s].length = 4 := rfl
  rw [e, jn4] at this
  exact this
theorem text_ev {lim : Nat} {c : CallD} {H : LHeap} (hc : c.Ok) : callE T 23 lim [c.v] H fun v H' => v = strV (textF c) ∧ H' = H := by
  refine callE_pop rfl (by simp) rfl ?_
  obtain ⟨th, kind, arg, fr, to, dn, code, ret⟩ := c
  obtain ⟨⟨h1, h2⟩, ⟨h3, h4⟩, ⟨h5, h6⟩, ⟨h7, h8⟩, h9, h10⟩ := hc
  simp only at h1 h2 h3 h4 h5 h6 h7 h8 h9 h10
  have l1 := num_len h1 h2
  have l2 := num_len h3 h4
  have l3 := dec_small arg
  have l4 := num_len h5 h6
  have l5 := num_len h7 h8
  have l6 := num_len h9 h10
  have l7 := dec_small ret
  simp -dsimp only [go_sem, Nat.reduceEqDiff, Nat.reduceAdd, Nat.reduceSub, Nat.reduceMul, Nat.reduceLeDiff, Nat.reduceLT, Nat.reduceBEq, Int.reduceLT, Int.reduceLE, Int.reduceGT, Int.reduceGE, Int.reduceEq, Int.reduceNe, Int.reduceBEq, Int.reduceBNe, Int.reduceAdd, Int.reduceSub, Int.reduceMul, Int.reduceToNat, Int.reduceNeg, ↓reduceIte, ↓reduceDIte]
  refine CT_val (signed_ev h1 h2) ?_
  simp -dsimp only [go_sem, Nat.reduceEqDiff, Nat.reduceAdd, Nat.reduceSub, Nat.reduceMul, Nat.reduceLeDiff, Nat.reduceLT, Nat.reduceBEq, Int.reduceLT, Int.reduceLE, Int.reduceGT, Int.reduceGE, Int.reduceEq, Int.reduceNe, Int.reduceBEq, Int.reduceBNe, Int.reduceAdd, Int.reduceSub, Int.reduceMul, Int.reduceToNat, Int.reduceNeg, ↓reduceIte, ↓reduceDIte]
  refine CT_val (signed_ev h3 h4) ?_
  simp -dsimp only [go_sem, Nat.reduceEqDiff, Nat.reduceAdd, Nat.reduceSub, Nat.reduceMul, Nat.reduceLeDiff, Nat.reduceLT, Nat.reduceBEq, Int.reduceLT, Int.reduceLE, Int.reduceGT, Int.reduceGE, Int.reduceEq, Int.reduceNe, Int.reduceBEq, Int.reduceBNe, Int.reduceAdd, Int.reduceSub, Int.reduceMul, Int.reduceToNat, Int.reduceNeg, ↓reduceIte, ↓reduceDIte]
  refine CT_val (digits_ev _ _ _ _ rfl) ?_
  simp -dsimp only [go_sem, Nat.reduceEqDiff, Nat.reduceAdd, Nat.reduceSub, Nat.reduceMul, Nat.reduceLeDiff, Nat.reduceLT, Nat.reduceBEq, Int.reduceLT, Int.reduceLE, Int.reduceGT, Int.reduceGE, Int.reduceEq, Int.reduceNe, Int.reduceBEq, Int.reduceBNe, Int.reduceAdd, Int.reduceSub, Int.reduceMul, Int.reduceToNat, Int.reduceNeg, ↓reduceIte, ↓reduceDIte]
  refine CT_val (signed_ev h5 h6) ?_
  simp -dsimp only [go_sem, Nat.reduceEqDiff, Nat.reduceAdd, Nat.reduceSub, Nat.reduceMul, Nat.reduceLeDiff, Nat.reduceLT, Nat.reduceBEq, Int.reduceLT, Int.reduceLE, Int.reduceGT, Int.reduceGE, Int.reduceEq, Int.reduceNe, Int.reduceBEq, Int.reduceBNe, Int.reduceAdd, Int.reduceSub, Int.reduceMul, Int.reduceToNat, Int.reduceNeg, ↓reduceIte, ↓reduceDIte]
  refine CT_val (line4_ev (get_app H _ 1) (by omega)) ?_
  simp -dsimp only [go_sem, Nat.reduceEqDiff, Nat.reduceAdd, Nat.reduceSub, Nat.reduceMul, Nat.reduceLeDiff, Nat.reduceLT, Nat.reduceBEq, Int.reduceLT, Int.reduceLE, Int.reduceGT, Int.reduceGE, Int.reduceEq, Int.reduceNe, Int.reduceBEq, Int.reduceBNe, Int.reduceAdd, Int.reduceSub, Int.reduceMul, Int.reduceToNat, Int.reduceNeg, ↓reduceIte, ↓reduceDIte]
  cases dn
  · simp -dsimp only [go_sem, Nat.reduceEqDiff, Nat.reduceAdd, Nat.reduceSub, Nat.reduceMul, Nat.reduceLeDiff, Nat.reduceLT, Nat.reduceBEq, Int.reduceLT, Int.reduceLE, Int.reduceGT, Int.reduceGE, Int.reduceEq, Int.reduceNe, Int.reduceBEq, Int.reduceBNe, Int.reduceAdd, Int.reduceSub, Int.reduceMul, Int.reduceToNat, Int.reduceNeg, ↓reduceIte, ↓reduceDIte]
    simp [textF]
  · simp -dsimp only [go_sem, Nat.reduceEqDiff, Nat.reduceAdd, Nat.reduceSub, Nat.reduceMul, Nat.reduceLeDiff, Nat.reduceLT, Nat.reduceBEq, Int.reduceLT, Int.reduceLE, Int.reduceGT, Int.reduceGE, Int.reduceEq, Int.reduceNe, Int.reduceBEq, Int.reduceBNe, Int.reduceAdd, Int.reduceSub, Int.reduceMul, Int.reduceToNat, Int.reduceNeg, ↓reduceIte, ↓reduceDIte]
    refine CT_val (signed_ev h7 h8) ?_
    simp -dsimp only [go_sem, Nat.reduceEqDiff, Nat.reduceAdd, Nat.reduceSub, Nat.reduceMul, Nat.reduceLeDiff, Nat.reduceLT, Nat.reduceBEq, Int.reduceLT, Int.reduceLE, Int.reduceGT, Int.reduceGE, Int.reduceEq, Int.reduceNe, Int.reduceBEq, Int.reduceBNe, Int.reduceAdd, Int.reduceSub, Int.reduceMul, Int.reduceToNat, Int.reduceNeg, ↓reduceIte, ↓reduceDIte]
    refine CT_val (signed_ev h9 h10) ?_
    simp -dsimp only [go_sem, Nat.reduceEqDiff, Nat.reduceAdd, Nat.reduceSub, Nat.reduceMul, Nat.reduceLeDiff, Nat.reduceLT, Nat.reduceBEq, Int.reduceLT, Int.reduceLE, Int.reduceGT, Int.reduceGE, Int.reduceEq, Int.reduceNe, Int.reduceBEq, Int.reduceBNe, Int.reduceAdd, Int.reduceSub, Int.reduceMul, Int.reduceToNat, Int.reduceNeg, ↓reduceIte, ↓reduceDIte]
    refine CT_val (digits_ev _ _ _ _ rfl) ?_
    simp -dsimp only [go_sem, Nat.reduceEqDiff, Nat.reduceAdd, Nat.reduceSub, Nat.reduceMul, Nat.reduceLeDiff, Nat.reduceLT, Nat.reduceBEq, Int.reduceLT, Int.reduceLE, Int.reduceGT, Int.reduceGE, Int.reduceEq, Int.reduceNe, Int.reduceBEq, Int.reduceBNe, Int.reduceAdd, Int.reduceSub, Int.reduceMul, Int.reduceToNat, Int.reduceNeg, ↓reduceIte, ↓reduceDIte]
    refine CT_val (line4_ev (get_app H _ 2) (by simp only [List.length_append, List.length_cons, List.length_nil]; omega)) ?_
    simp -dsimp only [go_sem, Nat.reduceEqDiff, Nat.reduceAdd, Nat.reduceSub, Nat.reduceMul, Nat.reduceLeDiff, Nat.reduceLT, Nat.reduceBEq, Int.reduceLT, Int.reduceLE, Int.reduceGT, Int.reduceGE, Int.reduceEq, Int.reduceNe, Int.reduceBEq, Int.reduceBNe, Int.reduceAdd, Int.reduceSub, Int.reduceMul, Int.reduceToNat, Int.reduceNeg, ↓reduceIte, ↓reduceDIte]
    simp [textF]
theorem reftext_ev {lim : Nat} {c : CallD} {H : LHeap} (hc : c.Ok) : callE T 24 lim [c.v] H fun v H' => v = strV (textF c) ∧ H' = H := by
  refine callE_pop rfl (by simp) rfl ?_
  obtain ⟨th, kind, arg, fr, to, dn, code, ret⟩ := c
  obtain ⟨⟨h1, h2⟩, ⟨h3, h4⟩, ⟨h5, h6⟩, ⟨h7, h8⟩, h9, h10⟩ := hc
  simp only at h1 h2 h3 h4 h5 h6 h7 h8 h9 h10
  have l1 := num_len h1 h2
  have l2 := num_len h3 h4
  have l3 := dec_small arg
  have l4 := num_len h5 h6
  have l5 := num_len h7 h8
  have l6 := num_len h9 h10
  have l7 := dec_small ret
  have add : ∀ (p q : List UInt8), p.length ≤ 1000 → q.length ≤ 1000 → lstr .add (strV p) (strV q) = some (strV (p ++ q)) := fun p q h g => lstr_add (by omega)
  simp -dsimp only [go_sem, Nat.reduceEqDiff, Nat.reduceAdd, Nat.reduceSub, Nat.reduceMul, Nat.reduceLeDiff, Nat.reduceLT, Nat.reduceBEq, Int.reduceLT, Int.reduceLE, Int.reduceGT, Int.reduceGE, Int.reduceEq, Int.reduceNe, Int.reduceBEq, Int.reduceBNe, Int.reduceAdd, Int.reduceSub, Int.reduceMul, Int.reduceToNat, Int.reduceNeg, ↓reduceIte, ↓reduceDIte]
  refine CT_val (number_ev h1 h2) ?_
  have a1 := add (num th) [32] (by first | omega | (simp only [List.length_append, List.length_cons, List.length_nil]; omega)) (by first | omega | (simp only [List.length_append, List.length_cons, List.length_nil]; omega))
  simp -dsimp only [go_sem, Nat.reduceEqDiff, Nat.reduceAdd, Nat.reduceSub, Nat.reduceMul, Nat.reduceLeDiff, Nat.reduceLT, Nat.reduceBEq, Int.reduceLT, Int.reduceLE, Int.reduceGT, Int.reduceGE, Int.reduceEq, Int.reduceNe, Int.reduceBEq, Int.reduceBNe, Int.reduceAdd, Int.reduceSub, Int.reduceMul, Int.reduceToNat, Int.reduceNeg, ↓reduceIte, ↓reduceDIte, a1]
  refine CT_val (number_ev h3 h4) ?_
  have a2 := add (num th ++ [32]) (num kind) (by first | omega | (simp only [List.length_append, List.length_cons, List.length_nil]; omega)) (by first | omega | (simp only [List.length_append, List.length_cons, List.length_nil]; omega))
  have a3 := add (num th ++ [32] ++ num kind) [32] (by first | omega | (simp only [List.length_append, List.length_cons, List.length_nil]; omega)) (by first | omega | (simp only [List.length_append, List.length_cons, List.length_nil]; omega))
  simp only [List.append_assoc, List.cons_append, List.nil_append] at a2 a3
  simp -dsimp only [go_sem, Nat.reduceEqDiff, Nat.reduceAdd, Nat.reduceSub, Nat.reduceMul, Nat.reduceLeDiff, Nat.reduceLT, Nat.reduceBEq, Int.reduceLT, Int.reduceLE, Int.reduceGT, Int.reduceGE, Int.reduceEq, Int.reduceNe, Int.reduceBEq, Int.reduceBNe, Int.reduceAdd, Int.reduceSub, Int.reduceMul, Int.reduceToNat, Int.reduceNeg, ↓reduceIte, ↓reduceDIte, a2, a3]
  refine CT_val (refdigits_ev _ _ _ _ rfl) ?_
  have a4 := add (num th ++ [32] ++ num kind ++ [32]) (dec arg.toNat) (by first | omega | (simp only [List.length_append, List.length_cons, List.length_nil]; omega)) (by first | omega | (simp only [List.length_append, List.length_cons, List.length_nil]; omega))
  have a5 := add (num th ++ [32] ++ num kind ++ [32] ++ dec arg.toNat) [32] (by first | omega | (simp only [List.length_append, List.length_cons, List.length_nil]; omega)) (by first | omega | (simp only [List.length_append, List.length_cons, List.length_nil]; omega))
  simp only [List.append_assoc, List.cons_append, List.nil_append] at a4 a5
  simp -dsimp only [go_sem, Nat.reduceEqDiff, Nat.reduceAdd, Nat.reduceSub, Nat.reduceMul, Nat.reduceLeDiff, Nat.reduceLT, Nat.reduceBEq, Int.reduceLT, Int.reduceLE, Int.reduceGT, Int.reduceGE, Int.reduceEq, Int.reduceNe, Int.reduceBEq, Int.reduceBNe, Int.reduceAdd, Int.reduceSub, Int.reduceMul, Int.reduceToNat, Int.reduceNeg, ↓reduceIte, ↓reduceDIte, a4, a5]
  refine CT_val (number_ev h5 h6) ?_
  have a6 := add (num th ++ [32] ++ num kind ++ [32] ++ dec arg.toNat ++ [32]) (num fr) (by first | omega | (simp only [List.length_append, List.length_cons, List.length_nil]; omega)) (by first | omega | (simp only [List.length_append, List.length_cons, List.length_nil]; omega))
  simp only [List.append_assoc, List.cons_append, List.nil_append] at a6
  simp -dsimp only [go_sem, Nat.reduceEqDiff, Nat.reduceAdd, Nat.reduceSub, Nat.reduceMul, Nat.reduceLeDiff, Nat.reduceLT, Nat.reduceBEq, Int.reduceLT, Int.reduceLE, Int.reduceGT, Int.reduceGE, Int.reduceEq, Int.reduceNe, Int.reduceBEq, Int.reduceBNe, Int.reduceAdd, Int.reduceSub, Int.reduceMul, Int.reduceToNat, Int.reduceNeg, ↓reduceIte, ↓reduceDIte, a6]
  cases dn
  · simp -dsimp only [go_sem, Nat.reduceEqDiff, Nat.reduceAdd, Nat.reduceSub, Nat.reduceMul, Nat.reduceLeDiff, Nat.reduceLT, Nat.reduceBEq, Int.reduceLT, Int.reduceLE, Int.reduceGT, Int.reduceGE, Int.reduceEq, Int.reduceNe, Int.reduceBEq, Int.reduceBNe, Int.reduceAdd, Int.reduceSub, Int.reduceMul, Int.reduceToNat, Int.reduceNeg, ↓reduceIte, ↓reduceDIte]
    simp [textF]
  · have b0 := add (num th ++ [32] ++ num kind ++ [32] ++ dec arg.toNat ++ [32] ++ num fr) [32] (by first | omega | (simp only [List.length_append, List.length_cons, List.length_nil]; omega)) (by first | omega | (simp only [List.length_append, List.length_cons, List.length_nil]; omega))
    simp only [List.append_assoc, List.cons_append, List.nil_append] at b0
    simp -dsimp only [go_sem, Nat.reduceEqDiff, Nat.reduceAdd, Nat.reduceSub, Nat.reduceMul, Nat.reduceLeDiff, Nat.reduceLT, Nat.reduceBEq, Int.reduceLT, Int.reduceLE, Int.reduceGT, Int.reduceGE, Int.reduceEq, Int.reduceNe, Int.reduceBEq, Int.reduceBNe, Int.reduceAdd, Int.reduceSub, Int.reduceMul, Int.reduceToNat, Int.reduceNeg, ↓reduceIte, ↓reduceDIte, b0]
    refine CT_val (number_ev h7 h8) ?_
    have b1 := add (num th ++ [32] ++ num kind ++ [32] ++ dec arg.toNat ++ [32] ++ num fr ++ [32]) (num to) (by first | omega | (simp only [List.length_append, List.length_cons, List.length_nil]; omega)) (by first | omega | (simp only [List.length_append, List.length_cons, List.length_nil]; omega))
    have b2 := add (num th ++ [32] ++ num kind ++ [32] ++ dec arg.toNat ++ [32] ++ num fr ++ [32] ++ num to) [32] (by first | omega | (simp only [List.length_append, List.length_cons, List.length_nil]; omega)) (by first | omega | (simp only [List.length_append, List.length_cons, List.length_nil]; omega))
    simp only [List.append_assoc, List.cons_append, List.nil_append] at b1 b2
    simp -dsimp only [go_sem, Nat.reduceEqDiff, Nat.reduceAdd, Nat.reduceSub, Nat.reduceMul, Nat.reduceLeDiff, Nat.reduceLT, Nat.reduceBEq, Int.reduceLT, Int.reduceLE, Int.reduceGT, Int.reduceGE, Int.reduceEq, Int.reduceNe, Int.reduceBEq, Int.reduceBNe, Int.reduceAdd, Int.reduceSub, Int.reduceMul, Int.reduceToNat, Int.reduceNeg, ↓reduceIte, ↓reduceDIte, b1, b2]
    refine CT_val (number_ev h9 h10) ?_
    have b3 := add (num th ++ [32] ++ num kind ++ [32] ++ dec arg.toNat ++ [32] ++ num fr ++ [32] ++ num to ++ [32]) (num code) (by first | omega | (simp only [List.length_append, List.length_cons, List.length_nil]; omega)) (by first | omega | (simp only [List.length_append, List.length_cons, List.length_nil]; omega))
    have b4 := add (num th ++ [32] ++ num kind ++ [32] ++ dec arg.toNat ++ [32] ++ num fr ++ [32] ++ num to ++ [32] ++ num code) [32] (by first | omega | (simp only [List.length_append, List.length_cons, List.length_nil]; omega)) (by first | omega | (simp only [List.length_append, List.length_cons, List.length_nil]; omega))
    simp only [List.append_assoc, List.cons_append, List.nil_append] at b3 b4
    simp -dsimp only [go_sem, Nat.reduceEqDiff, Nat.reduceAdd, Nat.reduceSub, Nat.reduceMul, Nat.reduceLeDiff, Nat.reduceLT, Nat.reduceBEq, Int.reduceLT, Int.reduceLE, Int.reduceGT, Int.reduceGE, Int.reduceEq, Int.reduceNe, Int.reduceBEq, Int.reduceBNe, Int.reduceAdd, Int.reduceSub, Int.reduceMul, Int.reduceToNat, Int.reduceNeg, ↓reduceIte, ↓reduceDIte, b3, b4]
    refine CT_val (refdigits_ev _ _ _ _ rfl) ?_
    have b5 := add (num th ++ [32] ++ num kind ++ [32] ++ dec arg.toNat ++ [32] ++ num fr ++ [32] ++ num to ++ [32] ++ num code ++ [32]) (dec ret.toNat) (by first | omega | (simp only [List.length_append, List.length_cons, List.length_nil]; omega)) (by first | omega | (simp only [List.length_append, List.length_cons, List.length_nil]; omega))
    simp only [List.append_assoc, List.cons_append, List.nil_append] at b5
    simp -dsimp only [go_sem, Nat.reduceEqDiff, Nat.reduceAdd, Nat.reduceSub, Nat.reduceMul, Nat.reduceLeDiff, Nat.reduceLT, Nat.reduceBEq, Int.reduceLT, Int.reduceLE, Int.reduceGT, Int.reduceGE, Int.reduceEq, Int.reduceNe, Int.reduceBEq, Int.reduceBNe, Int.reduceAdd, Int.reduceSub, Int.reduceMul, Int.reduceToNat, Int.reduceNeg, ↓reduceIte, ↓reduceDIte, b5]
    simp [textF]
