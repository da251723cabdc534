/- DROP The document's operations of a ring that may be closed: they do what the program's do. -/
import Derived.Test.YtopjhhcncjleaaaV3
import Derived.Test.YtopjhhcncjleaaaWK
import Derived.Test.YtopjhhcncjleaaaM3
namespace Go.Proofs.Ytopjhhcncjleaaa
open Go Go.LK
set_option linter.unusedSimpArgs false
set_option linter.unusedVariables false
theorem st_lit (q s : BitVec 64) : stW q s = 2#64 * q + s % 2#64 := by
  apply BitVec.eq_of_toNat_eq
  have h1 := q.isLt
  have h2 := s.isLt
  have e1 : (2 * q.toNat) % 18446744073709551616 = 2 * (q.toNat % 9223372036854775808) := by omega
  have e2 := Nat.two_pow_add_eq_or_of_lt (i := 1) (b := s.toNat % 2) (by omega) (q.toNat % 9223372036854775808)
  simp only [stW, BitVec.toNat_or, BitVec.toNat_shiftLeft, BitVec.toNat_and, Nat.shiftLeft_eq, BitVec.toNat_add, BitVec.toNat_mul, BitVec.toNat_umod]
  show (q.toNat * 2 ^ 1) % 18446744073709551616 ||| (s.toNat &&& 1) = ((2 * q.toNat) % 18446744073709551616 + s.toNat % 2) % 18446744073709551616
  rw [Nat.and_one_is_mod, show q.toNat * 2 ^ 1 = 2 * q.toNat by omega, e1]
  have e3 : 2 ^ 1 * (q.toNat % 9223372036854775808) = 2 * (q.toNat % 9223372036854775808) := by omega
  rw [e3] at e2
  rw [← e2]
  omega
theorem po_lit (s : BitVec 64) : poW s = s / 2#64 := by
  apply BitVec.eq_of_toNat_eq
  rw [poW, BitVec.toNat_ushiftRight, BitVec.toNat_udiv, Nat.shiftRight_eq_div_pow]
  rfl
theorem st_one (p : BitVec 64) : 2#64 * p + 1#64 = stW p 1#64 := by
  rw [st_lit]; rfl
theorem st_un (s : BitVec 64) : s - s % 2#64 = stW (s / 2#64) 0#64 := by
  rw [st_lit]
  apply BitVec.eq_of_toNat_eq
  have h2 := s.isLt
  simp only [BitVec.toNat_sub, BitVec.toNat_add, BitVec.toNat_mul, BitVec.toNat_umod, BitVec.toNat_udiv]
  show (18446744073709551616 - s.toNat % 2 + s.toNat) % 18446744073709551616 = ((2 * (s.toNat / 2)) % 18446744073709551616 + 0 % 2) % 18446744073709551616
  omega
theorem odd_lit (s : BitVec 64) : (s % 2#64 == 1#64) = (s &&& 1#64 != 0#64) := by
  have e : s &&& 1#64 = s % 2#64 := by
    apply BitVec.eq_of_toNat_eq
    rw [BitVec.toNat_and, BitVec.toNat_umod]
    exact Nat.and_one_is_mod _
  rw [e]
  have h : s % 2#64 = 0#64 ∨ s % 2#64 = 1#64 := by
    have : s.toNat % 2 = 0 ∨ s.toNat % 2 = 1 := by omega
    rcases this with h | h
    · exact .inl (BitVec.eq_of_toNat_eq (by rw [BitVec.toNat_umod]; exact h))
    · exact .inr (BitVec.eq_of_toNat_eq (by rw [BitVec.toNat_umod]; exact h))
  rcases h with h | h <;> rw [h] <;> rfl
theorem clo_mod (t : BitVec 64) : t % clo = t &&& ~~~clo := by
  apply BitVec.eq_of_toNat_eq
  rw [BitVec.toNat_and, BitVec.toNat_umod]
  show t.toNat % 9223372036854775808 = t.toNat &&& 9223372036854775807
  have := Nat.and_two_pow_sub_one_eq_mod t.toNat 63
  exact this.symm
theorem and_top (n : Nat) (h : n < 18446744073709551616) : n &&& 9223372036854775808 = if 9223372036854775808 ≤ n then 9223372036854775808 else 0 := by
  have e2 := Nat.two_pow_add_eq_or_of_lt (i := 63) (b := n % 9223372036854775808) (by omega) (n / 9223372036854775808)
  have e3 : (n % 9223372036854775808) &&& 9223372036854775808 = 0 := by
    have := Nat.and_two_pow_sub_one_eq_mod n 63
    have e4 : n % 9223372036854775808 = n &&& 9223372036854775807 := this.symm
    rw [e4, Nat.and_assoc]
    have : (9223372036854775807 : Nat) &&& 9223372036854775808 = 0 := by decide
    rw [this, Nat.and_zero]
  have e5 : n &&& 9223372036854775808 = (2 ^ 63 * (n / 9223372036854775808)) &&& 9223372036854775808 := by
    have e6 : n &&& 9223372036854775808 = (2 ^ 63 * (n / 9223372036854775808) ||| n % 9223372036854775808) &&& 9223372036854775808 := by
      rw [← e2]
      congr 1
      omega
    rw [e6, Nat.and_or_distrib_right, e3, Nat.or_zero]
  rw [e5]
  have hd : n / 9223372036854775808 = 0 ∨ n / 9223372036854775808 = 1 := by omega
  rcases hd with hd | hd
  · rw [hd, if_neg (by omega)]; rfl
  · rw [hd, if_pos (by omega)]; rfl
theorem clo_ge (t : BitVec 64) : (t &&& clo != 0#64) = decide (clo ≤ t) := by
  have h := t.isLt
  have e : (t &&& clo).toNat = if 9223372036854775808 ≤ t.toNat then 9223372036854775808 else 0 := by
    rw [BitVec.toNat_and]
    exact and_top _ h
  by_cases hc : 9223372036854775808 ≤ t.toNat
  · rw [if_pos hc] at e
    have : t &&& clo = clo := BitVec.eq_of_toNat_eq e
    rw [this, decide_eq_true (show clo ≤ t from hc)]; rfl
  · rw [if_neg hc] at e
    have : t &&& clo = 0#64 := BitVec.eq_of_toNat_eq e
    rw [this, decide_eq_false (show ¬ clo ≤ t from hc)]; rfl
end Go.Proofs.Ytopjhhcncjleaaa
/- DROP Rings that may be closed: laid. -/
namespace Go.Proofs.Ytopjhhcncjleaaa
open Go Go.LK
set_option linter.unusedSimpArgs false
set_option linter.unusedVariables false
abbrev rro (r : RV) : LObj := .row false 0 [i64 r.a, i64 r.s]
/-- The words of a ring of which some cells are laid. -/
def clay (n a : Nat) : Nat → List (BitVec 64)
  | 0 => List.replicate n 0#64
  | k + 1 => (clay n a k).set (a + 4 + 2 * k) (stW (BitVec.ofNat 64 k) 1#64)
theorem clay_len (n a : Nat) : ∀ k, (clay n a k).length = n
  | 0 => by simp [clay]
  | k + 1 => by rw [clay, List.length_set, clay_len n a k]
theorem clay_get (n a : Nat) : ∀ (k j : Nat), j < n → (clay n a k)[j]? = some (if a + 4 ≤ j ∧ (j - a - 4) % 2 = 0 ∧ (j - a - 4) / 2 < k then stW (BitVec.ofNat 64 ((j - a - 4) / 2)) 1#64 else 0#64)
  | 0, j, h => by simp [clay, h]
  | k + 1, j, h => by
    rw [clay]
    have ih := clay_get n a k j h
    by_cases e : a + 4 + 2 * k = j
    · subst e
      rw [List.getElem?_set_self (by rw [clay_len]; exact h), if_pos (by omega), show (a + 4 + 2 * k - a - 4) / 2 = k by omega]
    · rw [List.getElem?_set_ne e, ih]
      congr 1
      by_cases c : a + 4 ≤ j ∧ (j - a - 4) % 2 = 0 ∧ (j - a - 4) / 2 < k
      · rw [if_pos c, if_pos (by omega)]
      · rw [if_neg c, if_neg (by omega)]
theorem set_zero {w : List (BitVec 64)} {i : Nat} (h : w[i]? = some 0#64) : w.set i 0#64 = w := by
  apply List.ext_getElem?
  intro j
  by_cases e : i = j
  · subst e
    rw [List.getElem?_set_self (List.getElem?_eq_some_iff.1 h).1, h]
  · rw [List.getElem?_set_ne e]
section
variable {lim o b pw_ pb : Nat} {H : LHeap} {r : RV} {m : MV} {w : List (BitVec 64)}
theorem bv_lt_nat {a b : Nat} (ha : a < 10000) (hb : b < 10000) : (BitVec.ofNat 64 a < BitVec.ofNat 64 b) ↔ a < b := by
  rw [BitVec.lt_def, BitVec.toNat_ofNat, BitVec.toNat_ofNat, Nat.mod_eq_of_lt (by omega), Nat.mod_eq_of_lt (by omega)]
set_option maxHeartbeats 1000000 in
theorem setup_ev {n a s : Nat} (h : MemAt H b pw_ pb m) (c : Clean m (List.replicate n 0#64)) (hr : r.right = true) (ha : r.a = a) (hs : r.s = s) (hn : a + 4 + 2 * s ≤ n) :
    callE T 11 lim [r.v, ptr b] H fun v H' => ∃ m', Clean m' (clay n a s) ∧ v = i64 0 ∧ H' = memPut H b pw_ pb m' := by
  refine callE_pop rfl (by simp) rfl ?_
  obtain ⟨a0, a1, a2, s0, s1⟩ := RV.right_of hr
  have hlen : m.w.length = n := by rw [c.ws]; simp
  have hle := h.le
  have hpos : ((m.w.length : Int) == 0) = false := by rw [beq_eq_false_iff_ne]; have := h.pos; omega
  have hsub : IntKind.i64.wrap ((m.w.length : Int) - r.a) = m.w.length - r.a := by rw [wrap_i64] <;> omega
  have hgt : ¬ (m.w.length : Int) - r.a < 4 + 2 * r.s := by omega
  have lH : ∀ m, (memPut H b pw_ pb m).length = H.length := fun m => memPut_len _ _ _ _ _
  simp -dsimp only [go_sem, Nat.reduceEqDiff, Nat.reduceAdd, Nat.reduceSub, Nat.reduceMul, Nat.reduceLeDiff, Nat.reduceLT, Nat.reduceBEq, Int.reduceLT, Int.reduceLE, Int.reduceGT, Int.reduceGE, Int.reduceEq, Int.reduceNe, Int.reduceBEq, Int.reduceBNe, Int.reduceAdd, Int.reduceSub, Int.reduceMul, Int.reduceToNat, Int.reduceNeg, ↓reduceIte, ↓reduceDIte]
  refine CT_val (len_ev (h.app _)) ?_
  simp -dsimp only [go_sem, Nat.reduceEqDiff, Nat.reduceAdd, Nat.reduceSub, Nat.reduceMul, Nat.reduceLeDiff, Nat.reduceLT, Nat.reduceBEq, Int.reduceLT, Int.reduceLE, Int.reduceGT, Int.reduceGE, Int.reduceEq, Int.reduceNe, Int.reduceBEq, Int.reduceBNe, Int.reduceAdd, Int.reduceSub, Int.reduceMul, Int.reduceToNat, Int.reduceNeg, ↓reduceIte, ↓reduceDIte, hpos]
  refine CT_val right_ev ?_
  simp -dsimp only [go_sem, Nat.reduceEqDiff, Nat.reduceAdd, Nat.reduceSub, Nat.reduceMul, Nat.reduceLeDiff, Nat.reduceLT, Nat.reduceBEq, Int.reduceLT, Int.reduceLE, Int.reduceGT, Int.reduceGE, Int.reduceEq, Int.reduceNe, Int.reduceBEq, Int.reduceBNe, Int.reduceAdd, Int.reduceSub, Int.reduceMul, Int.reduceToNat, Int.reduceNeg, ↓reduceIte, ↓reduceDIte, hr]
  refine CT_val words_ev ?_
  rw [if_pos hr]
  simp -dsimp only [go_sem, Nat.reduceEqDiff, Nat.reduceAdd, Nat.reduceSub, Nat.reduceMul, Nat.reduceLeDiff, Nat.reduceLT, Nat.reduceBEq, Int.reduceLT, Int.reduceLE, Int.reduceGT, Int.reduceGE, Int.reduceEq, Int.reduceNe, Int.reduceBEq, Int.reduceBNe, Int.reduceAdd, Int.reduceSub, Int.reduceMul, Int.reduceToNat, Int.reduceNeg, ↓reduceIte, ↓reduceDIte]
  refine CT_val (len_ev (h.app _)) ?_
  simp -dsimp only [go_sem, Nat.reduceEqDiff, Nat.reduceAdd, Nat.reduceSub, Nat.reduceMul, Nat.reduceLeDiff, Nat.reduceLT, Nat.reduceBEq, Int.reduceLT, Int.reduceLE, Int.reduceGT, Int.reduceGE, Int.reduceEq, Int.reduceNe, Int.reduceBEq, Int.reduceBNe, Int.reduceAdd, Int.reduceSub, Int.reduceMul, Int.reduceToNat, Int.reduceNeg, ↓reduceIte, ↓reduceDIte, hsub, hgt]
  refine LT_of (fun q : Nat × MV => [(1, ptr b), (2, ptr H.length), (25, i64 q.1)]) (fun q => memPut H b pw_ pb q.2 ++ [.row false 0 [i64 r.a, i64 r.s]]) (fun q => q.1 ≤ 4 ∧ Clean q.2 (List.replicate n 0#64)) (fun q => 4 - q.1) (0, m) rfl (by rw [memPut_same h]) ⟨by omega, c⟩ ?_
  rintro ⟨i, m3⟩ ⟨hi, c3⟩
  simp only at hi c3 ⊢
  have h3 : MemAt (memPut H b pw_ pb m3) b pw_ pb m3 := h.put (by rw [c3.ws, c.ws]) (by rw [c3.len, c.ws])
  by_cases hlt : i < 4
  · have q1 : (i : Int) < 4 := by omega
    have q3 : IntKind.i64.wrap ((i : Int) + 1) = ((i + 1 : Nat) : Int) := by rw [wrap_i64] <;> omega
    have q4 : IntKind.i64.wrap (r.a + (i : Int)) = r.a + i := by rw [wrap_i64] <;> omega
    simp -dsimp only [go_sem, Nat.reduceEqDiff, Nat.reduceAdd, Nat.reduceSub, Nat.reduceMul, Nat.reduceLeDiff, Nat.reduceLT, Nat.reduceBEq, Int.reduceLT, Int.reduceLE, Int.reduceGT, Int.reduceGE, Int.reduceEq, Int.reduceNe, Int.reduceBEq, Int.reduceBNe, Int.reduceAdd, Int.reduceSub, Int.reduceMul, Int.reduceToNat, Int.reduceNeg, ↓reduceIte, ↓reduceDIte, q1, lget_app_n0 (lH m3), q4]
    refine CT_of (store_c (h3.app _) c3 (by omega) (by simp; omega)) ?_
    rintro _ _ ⟨m4, c4, rfl⟩
    rw [set_zero (by rw [List.getElem?_replicate, if_pos (by omega)])] at c4
    rw [memPut_app h3, memPut_put h]
    simp -dsimp only [go_sem, Nat.reduceEqDiff, Nat.reduceAdd, Nat.reduceSub, Nat.reduceMul, Nat.reduceLeDiff, Nat.reduceLT, Nat.reduceBEq, Int.reduceLT, Int.reduceLE, Int.reduceGT, Int.reduceGE, Int.reduceEq, Int.reduceNe, Int.reduceBEq, Int.reduceBNe, Int.reduceAdd, Int.reduceSub, Int.reduceMul, Int.reduceToNat, Int.reduceNeg, ↓reduceIte, ↓reduceDIte, q3]
    exact ⟨(i + 1, m4), rfl, rfl, ⟨by simp only; omega, c4⟩, by simp only; omega⟩
  have q1 : ¬ (i : Int) < 4 := by omega
  simp -dsimp only [go_sem, Nat.reduceEqDiff, Nat.reduceAdd, Nat.reduceSub, Nat.reduceMul, Nat.reduceLeDiff, Nat.reduceLT, Nat.reduceBEq, Int.reduceLT, Int.reduceLE, Int.reduceGT, Int.reduceGE, Int.reduceEq, Int.reduceNe, Int.reduceBEq, Int.reduceBNe, Int.reduceAdd, Int.reduceSub, Int.reduceMul, Int.reduceToNat, Int.reduceNeg, ↓reduceIte, ↓reduceDIte, q1, lget_app_n0 (lH m3)]
  rw [hs, BitVec.ofInt_natCast]
  refine LT_of (fun q : Nat × MV => [(1, ptr b), (2, ptr H.length), (37, w64 (BitVec.ofNat 64 s)), (38, w64 (BitVec.ofNat 64 q.1))]) (fun q => memPut H b pw_ pb q.2 ++ [.row false 0 [i64 r.a, i64 s]]) (fun q => q.1 ≤ s ∧ Clean q.2 (clay n a q.1)) (fun q => s - q.1) (0, m3) rfl (by rw [← hs]) ⟨by omega, c3⟩ ?_
  clear c3 h3
  rintro ⟨k, m3⟩ ⟨hk, c3⟩
  simp only at hk c3 ⊢
  have h3 : MemAt (memPut H b pw_ pb m3) b pw_ pb m3 := h.put (by rw [c3.ws, c.ws, clay_len]; simp) (by rw [c3.len, c.ws, clay_len]; simp)
  by_cases hlt : k < s
  · have q1 := (bv_lt_nat (a := k) (b := s) (by omega) (by omega)).2 hlt
    have q3 : BitVec.ofNat 64 k + 1#64 = BitVec.ofNat 64 (k + 1) := by rw [BitVec.ofNat_add]
    have hcell : r.cell (BitVec.ofNat 64 k) = a + 4 + 2 * k := by
      have : (BitVec.ofNat 64 k).toNat = k := by rw [BitVec.toNat_ofNat, Nat.mod_eq_of_lt]; omega
      rw [RV.cell, this, hs, ha, Int.toNat_natCast, Nat.mod_eq_of_lt hlt]
    have wc : IntKind.i64.wrap ((a : Int) + 4 + 2 * k + 1) = a + 4 + 2 * k + 1 := by rw [wrap_i64] <;> omega
    have hcc : lcells [LObj.row false 0 [i64 r.a, i64 (s : Int)]] 0 0 2 = some [i64 r.a, i64 s] := rfl
    have ce := fun lim H => cell_ev (lim := lim) (H := H) (p := BitVec.ofNat 64 k) hr
    rw [hcell] at ce
    have rv : r.v = .agg #[i64 r.a, i64 (s : Int)] := by rw [RV.v, hs]
    rw [rv] at ce
    simp -dsimp only [go_sem, Nat.reduceEqDiff, Nat.reduceAdd, Nat.reduceSub, Nat.reduceMul, Nat.reduceLeDiff, Nat.reduceLT, Nat.reduceBEq, Int.reduceLT, Int.reduceLE, Int.reduceGT, Int.reduceGE, Int.reduceEq, Int.reduceNe, Int.reduceBEq, Int.reduceBNe, Int.reduceAdd, Int.reduceSub, Int.reduceMul, Int.reduceToNat, Int.reduceNeg, ↓reduceIte, ↓reduceDIte, q1, lcells_app_n0 (lH m3), hcc]
    refine CT_val (ce _ _) ?_
    simp -dsimp only [go_sem, Nat.reduceEqDiff, Nat.reduceAdd, Nat.reduceSub, Nat.reduceMul, Nat.reduceLeDiff, Nat.reduceLT, Nat.reduceBEq, Int.reduceLT, Int.reduceLE, Int.reduceGT, Int.reduceGE, Int.reduceEq, Int.reduceNe, Int.reduceBEq, Int.reduceBNe, Int.reduceAdd, Int.reduceSub, Int.reduceMul, Int.reduceToNat, Int.reduceNeg, ↓reduceIte, ↓reduceDIte]
    refine CT_val state_ev ?_
    simp -dsimp only [go_sem, Nat.reduceEqDiff, Nat.reduceAdd, Nat.reduceSub, Nat.reduceMul, Nat.reduceLeDiff, Nat.reduceLT, Nat.reduceBEq, Int.reduceLT, Int.reduceLE, Int.reduceGT, Int.reduceGE, Int.reduceEq, Int.reduceNe, Int.reduceBEq, Int.reduceBNe, Int.reduceAdd, Int.reduceSub, Int.reduceMul, Int.reduceToNat, Int.reduceNeg, ↓reduceIte, ↓reduceDIte]
    refine CT_of (store_c (h3.app _) c3 (by omega) (by rw [clay_len]; omega)) ?_
    rintro _ _ ⟨m4, c4, rfl⟩
    rw [show ((a : Int) + 4 + 2 * k).toNat = a + 4 + 2 * k by omega] at c4
    have c4 : Clean m4 (clay n a (k + 1)) := c4
    rw [memPut_app h3, memPut_put h]
    have h4 : MemAt (memPut H b pw_ pb m4) b pw_ pb m4 := h.put (by rw [c4.ws, c.ws, clay_len]; simp) (by rw [c4.len, c.ws, clay_len]; simp)
    simp -dsimp only [go_sem, Nat.reduceEqDiff, Nat.reduceAdd, Nat.reduceSub, Nat.reduceMul, Nat.reduceLeDiff, Nat.reduceLT, Nat.reduceBEq, Int.reduceLT, Int.reduceLE, Int.reduceGT, Int.reduceGE, Int.reduceEq, Int.reduceNe, Int.reduceBEq, Int.reduceBNe, Int.reduceAdd, Int.reduceSub, Int.reduceMul, Int.reduceToNat, Int.reduceNeg, ↓reduceIte, ↓reduceDIte, lcells_app_n0 (lH m4), hcc]
    refine CT_val (ce _ _) ?_
    simp -dsimp only [go_sem, Nat.reduceEqDiff, Nat.reduceAdd, Nat.reduceSub, Nat.reduceMul, Nat.reduceLeDiff, Nat.reduceLT, Nat.reduceBEq, Int.reduceLT, Int.reduceLE, Int.reduceGT, Int.reduceGE, Int.reduceEq, Int.reduceNe, Int.reduceBEq, Int.reduceBNe, Int.reduceAdd, Int.reduceSub, Int.reduceMul, Int.reduceToNat, Int.reduceNeg, ↓reduceIte, ↓reduceDIte, wc]
    refine CT_of (store_c (h4.app _) c4 (by omega) (by rw [clay_len]; omega)) ?_
    rintro _ _ ⟨m5, c5, rfl⟩
    rw [show ((a : Int) + 4 + 2 * k + 1).toNat = a + 4 + 2 * k + 1 by omega, set_zero (by rw [clay_get _ _ _ _ (by omega), if_neg (by omega)])] at c5
    rw [memPut_app h4, memPut_put h]
    simp -dsimp only [go_sem, Nat.reduceEqDiff, Nat.reduceAdd, Nat.reduceSub, Nat.reduceMul, Nat.reduceLeDiff, Nat.reduceLT, Nat.reduceBEq, Int.reduceLT, Int.reduceLE, Int.reduceGT, Int.reduceGE, Int.reduceEq, Int.reduceNe, Int.reduceBEq, Int.reduceBNe, Int.reduceAdd, Int.reduceSub, Int.reduceMul, Int.reduceToNat, Int.reduceNeg, ↓reduceIte, ↓reduceDIte, q3]
    exact ⟨(k + 1, m5), rfl, rfl, ⟨by simp only; omega, c5⟩, by simp only; omega⟩
  · have q1 : ¬ BitVec.ofNat 64 k < BitVec.ofNat 64 s := fun q => hlt ((bv_lt_nat (by omega) (by omega)).1 q)
    obtain rfl : k = s := by omega
    simp -dsimp only [go_sem, Nat.reduceEqDiff, Nat.reduceAdd, Nat.reduceSub, Nat.reduceMul, Nat.reduceLeDiff, Nat.reduceLT, Nat.reduceBEq, Int.reduceLT, Int.reduceLE, Int.reduceGT, Int.reduceGE, Int.reduceEq, Int.reduceNe, Int.reduceBEq, Int.reduceBNe, Int.reduceAdd, Int.reduceSub, Int.reduceMul, Int.reduceToNat, Int.reduceNeg, ↓reduceIte, ↓reduceDIte, q1]
    exact ⟨m3, c3, take_app_n (lH m3)⟩
/-- How many numbers are in the cells. -/
def keptN (a s : Nat) (w : List (BitVec 64)) : Nat := ((List.range s).filter fun k => w.getD (a + 5 + 2 * k) 0 != 0#64).length
theorem keptN_succ (a s : Nat) (w : List (BitVec 64)) : keptN a (s + 1) w = keptN a s w + (if (w.getD (a + 5 + 2 * s) 0 != 0#64) = true then 1 else 0) := by
  rw [keptN, keptN, List.range_succ, List.filter_append, List.length_append]
  congr 1
  simp only [List.filter_cons, List.filter_nil]
  split <;> rfl
/-- The operation that is asked for. -/
theorem beg_ev (hl : lim ≤ H.length) (hr : r.right = true) {k : Int} {v : BitVec 64} (hk : k = 0 ∨ k = 1 ∨ k = 2) (h0 : k = 0 → v >>> 62 = 0#64) (h1 : k ≠ 0 → v = 0#64) :
    callE T 13 lim [r.v, i64 k, w64 v] H fun v' H' => ∃ u u2 u3, v' = ptr (H.length + 3) ∧ H' = H ++ [u, u2, u3, crw (c0 r k v)] := by
  refine callE_stay rfl (by simp) rfl ?_
  rcases hk with rfl | rfl | rfl
  · simp -dsimp only [go_sem, Nat.reduceEqDiff, Nat.reduceAdd, Nat.reduceSub, Nat.reduceMul, Nat.reduceLeDiff, Nat.reduceLT, Nat.reduceBEq, Int.reduceLT, Int.reduceLE, Int.reduceGT, Int.reduceGE, Int.reduceEq, Int.reduceNe, Int.reduceBEq, Int.reduceBNe, Int.reduceAdd, Int.reduceSub, Int.reduceMul, Int.reduceToNat, Int.reduceNeg, ↓reduceIte, ↓reduceDIte]
    refine CT_of (cput_ev (by simp; omega)) ?_
    rintro _ _ ⟨u, u2, rfl, rfl⟩
    rw [if_pos ⟨hr, h0 rfl⟩]
    simp -dsimp only [go_sem, Nat.reduceEqDiff, Nat.reduceAdd, Nat.reduceSub, Nat.reduceMul, Nat.reduceLeDiff, Nat.reduceLT, Nat.reduceBEq, Int.reduceLT, Int.reduceLE, Int.reduceGT, Int.reduceGE, Int.reduceEq, Int.reduceNe, Int.reduceBEq, Int.reduceBNe, Int.reduceAdd, Int.reduceSub, Int.reduceMul, Int.reduceToNat, Int.reduceNeg, ↓reduceIte, ↓reduceDIte, Nat.add_assoc]
    exact ⟨_, _, _, rfl⟩
  · simp -dsimp only [go_sem, Nat.reduceEqDiff, Nat.reduceAdd, Nat.reduceSub, Nat.reduceMul, Nat.reduceLeDiff, Nat.reduceLT, Nat.reduceBEq, Int.reduceLT, Int.reduceLE, Int.reduceGT, Int.reduceGE, Int.reduceEq, Int.reduceNe, Int.reduceBEq, Int.reduceBNe, Int.reduceAdd, Int.reduceSub, Int.reduceMul, Int.reduceToNat, Int.reduceNeg, ↓reduceIte, ↓reduceDIte]
    refine CT_of (ctake_ev (by simp; omega)) ?_
    rintro _ _ ⟨u, u2, rfl, rfl⟩
    rw [if_pos hr, h1 (by decide)]
    simp -dsimp only [go_sem, Nat.reduceEqDiff, Nat.reduceAdd, Nat.reduceSub, Nat.reduceMul, Nat.reduceLeDiff, Nat.reduceLT, Nat.reduceBEq, Int.reduceLT, Int.reduceLE, Int.reduceGT, Int.reduceGE, Int.reduceEq, Int.reduceNe, Int.reduceBEq, Int.reduceBNe, Int.reduceAdd, Int.reduceSub, Int.reduceMul, Int.reduceToNat, Int.reduceNeg, ↓reduceIte, ↓reduceDIte, Nat.add_assoc]
    exact ⟨_, _, _, rfl⟩
  · simp -dsimp only [go_sem, Nat.reduceEqDiff, Nat.reduceAdd, Nat.reduceSub, Nat.reduceMul, Nat.reduceLeDiff, Nat.reduceLT, Nat.reduceBEq, Int.reduceLT, Int.reduceLE, Int.reduceGT, Int.reduceGE, Int.reduceEq, Int.reduceNe, Int.reduceBEq, Int.reduceBNe, Int.reduceAdd, Int.reduceSub, Int.reduceMul, Int.reduceToNat, Int.reduceNeg, ↓reduceIte, ↓reduceDIte]
    refine CT_of (cclose_ev (by simp; omega)) ?_
    rintro _ _ ⟨u, u2, rfl, rfl⟩
    rw [if_pos hr, h1 (by decide)]
    simp -dsimp only [go_sem, Nat.reduceEqDiff, Nat.reduceAdd, Nat.reduceSub, Nat.reduceMul, Nat.reduceLeDiff, Nat.reduceLT, Nat.reduceBEq, Int.reduceLT, Int.reduceLE, Int.reduceGT, Int.reduceGE, Int.reduceEq, Int.reduceNe, Int.reduceBEq, Int.reduceBNe, Int.reduceAdd, Int.reduceSub, Int.reduceMul, Int.reduceToNat, Int.reduceNeg, ↓reduceIte, ↓reduceDIte, Nat.add_assoc]
    exact ⟨_, _, _, rfl⟩
end
structure Ask where
  th : Int
  kind : Int
  arg : BitVec 64
def Ask.cells (c : Ask) : List Value := [.int .i64 c.th, .int .i64 c.kind, w64 c.arg]
theorem Ask.len (c : Ask) : c.cells.length = 3 := rfl
def Ask.Ok (c : Ask) : Prop := (-9223372036854775808 ≤ c.th ∧ c.th ≤ 9223372036854775807) ∧ (-9223372036854775808 ≤ c.kind ∧ c.kind ≤ 9223372036854775807)
theorem Ask.row (r : List Value) (h_0 : Row2 CellIs [.int .i64, .int .i64, .int .u64] r) : ∃ x, r = Ask.cells x ∧ Ask.Ok x := by
  obtain ⟨_, _, rfl, k0, h_1⟩ := row_cons h_0
  obtain ⟨x0, rfl, y0⟩ := is_i64 k0
  obtain ⟨_, _, rfl, k1, h_2⟩ := row_cons h_1
  obtain ⟨x1, rfl, y1⟩ := is_i64 k1
  obtain ⟨_, _, rfl, k2, h_3⟩ := row_cons h_2
  obtain ⟨x2, rfl⟩ := is_u64 k2
  obtain rfl := row_nil h_3
  exact ⟨⟨x0, x1, x2⟩, rfl, ⟨y0, y1⟩⟩

theorem size_ev (lim : Nat) (H : LHeap) (n : Int) : ∃ s : Nat, (s = 1 ∨ s = 2 ∨ s = 4 ∨ s = 8) ∧ callE T 8 lim [i64 n] H fun v H' => v = i64 s ∧ H' = H := by
  obtain ⟨d, hd, d0, d3⟩ := andK n 3 (by decide)
  have d3 : d ≤ 3 := d3
  have : d = 0 ∨ d = 1 ∨ d = 2 ∨ d = 3 := by omega
  rcases this with rfl | rfl | rfl | rfl
  · refine ⟨1, .inl rfl, ?_⟩
    refine callE_pop rfl (by simp) rfl ?_
    have e2 : lbin .shl (i64 1) (w64 (BitVec.ofInt 64 0)) = some (i64 1) := by rfl
    simp -dsimp only [go_sem, Nat.reduceEqDiff, Nat.reduceAdd, Nat.reduceSub, Nat.reduceMul, Nat.reduceLeDiff, Nat.reduceLT, Nat.reduceBEq, Int.reduceLT, Int.reduceLE, Int.reduceGT, Int.reduceGE, Int.reduceEq, Int.reduceNe, Int.reduceBEq, Int.reduceBNe, Int.reduceAdd, Int.reduceSub, Int.reduceMul, Int.reduceToNat, Int.reduceNeg, ↓reduceIte, ↓reduceDIte, hd, e2]
  · refine ⟨2, .inr (.inl rfl), ?_⟩
    refine callE_pop rfl (by simp) rfl ?_
    have e2 : lbin .shl (i64 1) (w64 (BitVec.ofInt 64 1)) = some (i64 2) := by rfl
    simp -dsimp only [go_sem, Nat.reduceEqDiff, Nat.reduceAdd, Nat.reduceSub, Nat.reduceMul, Nat.reduceLeDiff, Nat.reduceLT, Nat.reduceBEq, Int.reduceLT, Int.reduceLE, Int.reduceGT, Int.reduceGE, Int.reduceEq, Int.reduceNe, Int.reduceBEq, Int.reduceBNe, Int.reduceAdd, Int.reduceSub, Int.reduceMul, Int.reduceToNat, Int.reduceNeg, ↓reduceIte, ↓reduceDIte, hd, e2]
  · refine ⟨4, .inr (.inr (.inl rfl)), ?_⟩
    refine callE_pop rfl (by simp) rfl ?_
    have e2 : lbin .shl (i64 1) (w64 (BitVec.ofInt 64 2)) = some (i64 4) := by rfl
    simp -dsimp only [go_sem, Nat.reduceEqDiff, Nat.reduceAdd, Nat.reduceSub, Nat.reduceMul, Nat.reduceLeDiff, Nat.reduceLT, Nat.reduceBEq, Int.reduceLT, Int.reduceLE, Int.reduceGT, Int.reduceGE, Int.reduceEq, Int.reduceNe, Int.reduceBEq, Int.reduceBNe, Int.reduceAdd, Int.reduceSub, Int.reduceMul, Int.reduceToNat, Int.reduceNeg, ↓reduceIte, ↓reduceDIte, hd, e2]
  · refine ⟨8, .inr (.inr (.inr rfl)), ?_⟩
    refine callE_pop rfl (by simp) rfl ?_
    have e2 : lbin .shl (i64 1) (w64 (BitVec.ofInt 64 3)) = some (i64 8) := by rfl
    simp -dsimp only [go_sem, Nat.reduceEqDiff, Nat.reduceAdd, Nat.reduceSub, Nat.reduceMul, Nat.reduceLeDiff, Nat.reduceLT, Nat.reduceBEq, Int.reduceLT, Int.reduceLE, Int.reduceGT, Int.reduceGE, Int.reduceEq, Int.reduceNe, Int.reduceBEq, Int.reduceBNe, Int.reduceAdd, Int.reduceSub, Int.reduceMul, Int.reduceToNat, Int.reduceNeg, ↓reduceIte, ↓reduceDIte, hd, e2]
end Go.Proofs.Ytopjhhcncjleaaa
