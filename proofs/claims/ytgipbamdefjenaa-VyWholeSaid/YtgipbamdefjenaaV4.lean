/- A ring that is laid. -/
import Derived.Test.YtgipbamdefjenaaV3
namespace Go.Proofs.Ytgipbamdefjenaa
open Go Go.LK
set_option linter.unusedSimpArgs false
set_option linter.unusedVariables false
/-- The words of a ring of which some cells are laid. -/
def vlay (n a : Nat) : Nat → List (BitVec 64)
  | 0 => List.replicate n 0#64
  | k + 1 => (vlay n a k).set (a + 2 + 2 * k) (BitVec.ofNat 64 k)
theorem vlay_len (n a : Nat) : ∀ k, (vlay n a k).length = n
  | 0 => by simp [vlay]
  | k + 1 => by rw [vlay, List.length_set, vlay_len n a k]
theorem vlay_get (n a : Nat) : ∀ (k j : Nat), j < n → (vlay n a k)[j]? = some (if a + 2 ≤ j ∧ (j - a - 2) % 2 = 0 ∧ (j - a - 2) / 2 < k then BitVec.ofNat 64 ((j - a - 2) / 2) else 0#64)
  | 0, j, h => by simp [vlay, h]
  | k + 1, j, h => by
    rw [vlay]
    have ih := vlay_get n a k j h
    by_cases e : a + 2 + 2 * k = j
    · subst e
      rw [List.getElem?_set_self (by rw [vlay_len]; exact h), if_pos (by omega), show (a + 2 + 2 * k - a - 2) / 2 = k by omega]
    · rw [List.getElem?_set_ne e, ih]
      congr 1
      by_cases c : a + 2 ≤ j ∧ (j - a - 2) % 2 = 0 ∧ (j - a - 2) / 2 < k
      · rw [if_pos c, if_pos (by omega)]
      · rw [if_neg c, if_neg (by omega)]
theorem set_zero {w : List (BitVec 64)} {i : Nat} (h : w[i]? = some 0#64) : w.set i 0#64 = w := by
  apply List.ext_getElem?
  intro j
  by_cases e : i = j
  · subst e
    rw [List.getElem?_set_self (List.getElem?_eq_some_iff.1 h).1, h]
  · rw [List.getElem?_set_ne e]
section
variable {lim o b pw_ pb : Nat} {H : LHeap} {r : RV} {m : MV}
theorem store_d {w : List (BitVec 64)} (h : MemAt H b pw_ pb m) (c : Clean m w) {a : Int} {x : BitVec 64} (h0 : 0 ≤ a) (h1 : a < w.length) {q : Nat} (f : m.Few q) (hq : q < 1000000) :
    callE T 34 lim [ptr b, i64 a, w64 x] H fun v H' => ∃ m', Clean m' (w.set a.toNat x) ∧ m'.Few (q + 1) ∧ H' = memPut H b pw_ pb m' :=
  (store_ev h).mono fun v H' e => ⟨_, c.use h0 h1 1 _, f.use (by omega) _ _ _, e⟩
theorem setup_ev {n a s q0 : Nat} (h : MemAt H b pw_ pb m) (c : Clean m (List.replicate n 0#64)) (few : m.Few q0) (hq0 : q0 < 1000) (hr : r.right = true) (ha : r.a = a) (hs : r.s = s) (hn : a + 2 + 2 * s ≤ n) :
    callE T 10 lim [r.v, ptr b] H fun v H' => ∃ m', Clean m' (vlay n a s) ∧ m'.Few (q0 + 2 + 2 * s) ∧ v = i64 0 ∧ H' = memPut H b pw_ pb m' := by
  refine callE_pop rfl (by simp) rfl ?_
  obtain ⟨a0, a1, s0, s1⟩ := RV.right_of hr
  have hlen : m.w.length = n := by rw [c.ws]; simp
  have hle := h.le
  have hpos : ((m.w.length : Int) == 0) = false := by rw [beq_eq_false_iff_ne]; have := h.pos; omega
  have hsub : IntKind.i64.wrap ((m.w.length : Int) - r.a) = m.w.length - r.a := by rw [wrap_i64] <;> omega
  have hgt : ¬ (m.w.length : Int) - r.a < 2 + 2 * r.s := by omega
  have wa1 : IntKind.i64.wrap (r.a + 1) = r.a + 1 := by rw [wrap_i64] <;> omega
  simp -dsimp only [go_sem, Nat.reduceEqDiff, Nat.reduceAdd, Nat.reduceSub, Nat.reduceMul, Nat.reduceLeDiff, Nat.reduceLT, Nat.reduceBEq, Int.reduceLT, Int.reduceLE, Int.reduceGT, Int.reduceGE, Int.reduceEq, Int.reduceNe, Int.reduceBEq, Int.reduceBNe, Int.reduceAdd, Int.reduceSub, Int.reduceMul, Int.reduceToNat, Int.reduceNeg, ↓reduceIte, ↓reduceDIte]
  refine CT_val (len_ev (h.app _)) ?_
  simp -dsimp only [go_sem, Nat.reduceEqDiff, Nat.reduceAdd, Nat.reduceSub, Nat.reduceMul, Nat.reduceLeDiff, Nat.reduceLT, Nat.reduceBEq, Int.reduceLT, Int.reduceLE, Int.reduceGT, Int.reduceGE, Int.reduceEq, Int.reduceNe, Int.reduceBEq, Int.reduceBNe, Int.reduceAdd, Int.reduceSub, Int.reduceMul, Int.reduceToNat, Int.reduceNeg, ↓reduceIte, ↓reduceDIte, hpos]
  refine CT_val right_ev ?_
  simp -dsimp only [go_sem, Nat.reduceEqDiff, Nat.reduceAdd, Nat.reduceSub, Nat.reduceMul, Nat.reduceLeDiff, Nat.reduceLT, Nat.reduceBEq, Int.reduceLT, Int.reduceLE, Int.reduceGT, Int.reduceGE, Int.reduceEq, Int.reduceNe, Int.reduceBEq, Int.reduceBNe, Int.reduceAdd, Int.reduceSub, Int.reduceMul, Int.reduceToNat, Int.reduceNeg, ↓reduceIte, ↓reduceDIte, hr]
  refine CT_val words_ev ?_
  rw [if_pos hr]
  simp -dsimp only [go_sem, Nat.reduceEqDiff, Nat.reduceAdd, Nat.reduceSub, Nat.reduceMul, Nat.reduceLeDiff, Nat.reduceLT, Nat.reduceBEq, Int.reduceLT, Int.reduceLE, Int.reduceGT, Int.reduceGE, Int.reduceEq, Int.reduceNe, Int.reduceBEq, Int.reduceBNe, Int.reduceAdd, Int.reduceSub, Int.reduceMul, Int.reduceToNat, Int.reduceNeg, ↓reduceIte, ↓reduceDIte]
  refine CT_val (len_ev (h.app _)) ?_
  simp -dsimp only [go_sem, Nat.reduceEqDiff, Nat.reduceAdd, Nat.reduceSub, Nat.reduceMul, Nat.reduceLeDiff, Nat.reduceLT, Nat.reduceBEq, Int.reduceLT, Int.reduceLE, Int.reduceGT, Int.reduceGE, Int.reduceEq, Int.reduceNe, Int.reduceBEq, Int.reduceBNe, Int.reduceAdd, Int.reduceSub, Int.reduceMul, Int.reduceToNat, Int.reduceNeg, ↓reduceIte, ↓reduceDIte, hsub, hgt]
  refine CT_of (store_d (h.app _) c (by omega) (by simp; omega) few (by omega)) ?_
  rintro _ _ ⟨m1, c1, f1, rfl⟩
  rw [set_zero (by rw [List.getElem?_replicate, if_pos (by omega)])] at c1
  have h1 : MemAt (memPut H b pw_ pb m1) b pw_ pb m1 := h.put (by rw [c1.ws, c.ws]) (by rw [c1.len, c.ws])
  have lH : ∀ m, (memPut H b pw_ pb m).length = H.length := fun m => memPut_len _ _ _ _ _
  rw [memPut_app h]
  simp -dsimp only [go_sem, Nat.reduceEqDiff, Nat.reduceAdd, Nat.reduceSub, Nat.reduceMul, Nat.reduceLeDiff, Nat.reduceLT, Nat.reduceBEq, Int.reduceLT, Int.reduceLE, Int.reduceGT, Int.reduceGE, Int.reduceEq, Int.reduceNe, Int.reduceBEq, Int.reduceBNe, Int.reduceAdd, Int.reduceSub, Int.reduceMul, Int.reduceToNat, Int.reduceNeg, ↓reduceIte, ↓reduceDIte, lget_app_n0 (lH m1), wa1]
  refine CT_of (store_d (h1.app _) c1 (by omega) (by simp; omega) f1 (by omega)) ?_
  rintro _ _ ⟨m2, c2, f2, rfl⟩
  rw [set_zero (by rw [List.getElem?_replicate, if_pos (by omega)])] at c2
  rw [memPut_app h1, memPut_put h]
  simp -dsimp only [go_sem, Nat.reduceEqDiff, Nat.reduceAdd, Nat.reduceSub, Nat.reduceMul, Nat.reduceLeDiff, Nat.reduceLT, Nat.reduceBEq, Int.reduceLT, Int.reduceLE, Int.reduceGT, Int.reduceGE, Int.reduceEq, Int.reduceNe, Int.reduceBEq, Int.reduceBNe, Int.reduceAdd, Int.reduceSub, Int.reduceMul, Int.reduceToNat, Int.reduceNeg, ↓reduceIte, ↓reduceDIte, lget_app_n0 (lH m2)]
  rw [hs]
  refine LT_of (fun q : Nat × MV => [(1, ptr b), (2, ptr H.length), (35, i64 s), (36, i64 q.1)]) (fun q => memPut H b pw_ pb q.2 ++ [.row false 0 [i64 r.a, i64 s]]) (fun q => q.1 ≤ s ∧ Clean q.2 (vlay n a q.1) ∧ q.2.Few (q0 + 2 + 2 * q.1)) (fun q => s - q.1) (0, m2) rfl (by rw [← hs]) ⟨by omega, c2, f2⟩ ?_
  rintro ⟨k, m3⟩ ⟨hk, c3, f3⟩
  simp only at hk c3 f3 ⊢
  have h3 : MemAt (memPut H b pw_ pb m3) b pw_ pb m3 := h.put (by rw [c3.ws, c.ws, vlay_len]; simp) (by rw [c3.len, c.ws, vlay_len]; simp)
  by_cases hlt : k < s
  · have q1 : (k : Int) < s := by omega
    have q3 : IntKind.i64.wrap ((k : Int) + 1) = ((k + 1 : Nat) : Int) := by rw [wrap_i64] <;> omega
    have hcell : r.cell (BitVec.ofNat 64 k) = a + 2 + 2 * k := by
      have : (BitVec.ofNat 64 k).toNat = k := by rw [BitVec.toNat_ofNat, Nat.mod_eq_of_lt]; omega
      rw [RV.cell, this, hs, ha, Int.toNat_natCast, Nat.mod_eq_of_lt hlt]
    have wc : IntKind.i64.wrap ((a : Int) + 2 + 2 * k + 1) = a + 2 + 2 * k + 1 := by rw [wrap_i64] <;> omega
    have hcc : lcells [LObj.row false 0 [i64 r.a, i64 (s : Int)]] 0 0 2 = some [i64 r.a, i64 s] := rfl
    have ce := fun lim H => cell_ev (lim := lim) (H := H) (p := BitVec.ofNat 64 k) hr
    rw [hcell] at ce
    have rv : r.v = .agg #[i64 r.a, i64 (s : Int)] := by rw [RV.v, hs]
    rw [rv] at ce
    simp -dsimp only [go_sem, Nat.reduceEqDiff, Nat.reduceAdd, Nat.reduceSub, Nat.reduceMul, Nat.reduceLeDiff, Nat.reduceLT, Nat.reduceBEq, Int.reduceLT, Int.reduceLE, Int.reduceGT, Int.reduceGE, Int.reduceEq, Int.reduceNe, Int.reduceBEq, Int.reduceBNe, Int.reduceAdd, Int.reduceSub, Int.reduceMul, Int.reduceToNat, Int.reduceNeg, ↓reduceIte, ↓reduceDIte, q1, lcells_app_n0 (lH m3), hcc, BitVec.ofInt_natCast]
    refine CT_val (ce _ _) ?_
    simp -dsimp only [go_sem, Nat.reduceEqDiff, Nat.reduceAdd, Nat.reduceSub, Nat.reduceMul, Nat.reduceLeDiff, Nat.reduceLT, Nat.reduceBEq, Int.reduceLT, Int.reduceLE, Int.reduceGT, Int.reduceGE, Int.reduceEq, Int.reduceNe, Int.reduceBEq, Int.reduceBNe, Int.reduceAdd, Int.reduceSub, Int.reduceMul, Int.reduceToNat, Int.reduceNeg, ↓reduceIte, ↓reduceDIte, BitVec.ofInt_natCast]
    refine CT_of (store_d (h3.app _) c3 (by omega) (by rw [vlay_len]; omega) f3 (by omega)) ?_
    rintro _ _ ⟨m4, c4, f4, rfl⟩
    rw [show ((a : Int) + 2 + 2 * k).toNat = a + 2 + 2 * k by omega] at c4
    have c4 : Clean m4 (vlay n a (k + 1)) := c4
    rw [memPut_app h3, memPut_put h]
    have h4 : MemAt (memPut H b pw_ pb m4) b pw_ pb m4 := h.put (by rw [c4.ws, c.ws, vlay_len]; simp) (by rw [c4.len, c.ws, vlay_len]; simp)
    simp -dsimp only [go_sem, Nat.reduceEqDiff, Nat.reduceAdd, Nat.reduceSub, Nat.reduceMul, Nat.reduceLeDiff, Nat.reduceLT, Nat.reduceBEq, Int.reduceLT, Int.reduceLE, Int.reduceGT, Int.reduceGE, Int.reduceEq, Int.reduceNe, Int.reduceBEq, Int.reduceBNe, Int.reduceAdd, Int.reduceSub, Int.reduceMul, Int.reduceToNat, Int.reduceNeg, ↓reduceIte, ↓reduceDIte, wc]
    refine CT_of (store_d (h4.app _) c4 (by omega) (by rw [vlay_len]; omega) f4 (by omega)) ?_
    rintro _ _ ⟨m5, c5, f5, rfl⟩
    rw [show ((a : Int) + 2 + 2 * k + 1).toNat = a + 2 + 2 * k + 1 by omega, set_zero (by rw [vlay_get _ _ _ _ (by omega), if_neg (by omega)])] at c5
    rw [memPut_app h4, memPut_put h]
    simp -dsimp only [go_sem, Nat.reduceEqDiff, Nat.reduceAdd, Nat.reduceSub, Nat.reduceMul, Nat.reduceLeDiff, Nat.reduceLT, Nat.reduceBEq, Int.reduceLT, Int.reduceLE, Int.reduceGT, Int.reduceGE, Int.reduceEq, Int.reduceNe, Int.reduceBEq, Int.reduceBNe, Int.reduceAdd, Int.reduceSub, Int.reduceMul, Int.reduceToNat, Int.reduceNeg, ↓reduceIte, ↓reduceDIte, q3]
    exact ⟨(k + 1, m5), rfl, rfl, ⟨by simp only; omega, c5, f5⟩, by simp only; omega⟩
  · have q1 : ¬ (k : Int) < s := by omega
    obtain rfl : k = s := by omega
    simp -dsimp only [go_sem, Nat.reduceEqDiff, Nat.reduceAdd, Nat.reduceSub, Nat.reduceMul, Nat.reduceLeDiff, Nat.reduceLT, Nat.reduceBEq, Int.reduceLT, Int.reduceLE, Int.reduceGT, Int.reduceGE, Int.reduceEq, Int.reduceNe, Int.reduceBEq, Int.reduceBNe, Int.reduceAdd, Int.reduceSub, Int.reduceMul, Int.reduceToNat, Int.reduceNeg, ↓reduceIte, ↓reduceDIte, q1]
    exact ⟨m3, c3, f3, take_app_n (lH m3)⟩
end
end Go.Proofs.Ytgipbamdefjenaa
