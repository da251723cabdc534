/- Rings that may be closed, used by one alone: plain. -/
import Derived.Test.YtopjhhcncjleaaaP1
namespace Go.Proofs.Ytopjhhcncjleaaa
open Go Go.LK
set_option linter.unusedSimpArgs false
set_option linter.unusedVariables false
theorem nat64 {n : Nat} (h : n < 18446744073709551616) : (BitVec.ofNat 64 n).toNat = n := by
  rw [BitVec.toNat_ofNat, Nat.mod_eq_of_lt h]
theorem one64 (n : Nat) : BitVec.ofNat 64 n + 1#64 = BitVec.ofNat 64 (n + 1) := by
  rw [BitVec.ofNat_add]
theorem set_getD {w : List (BitVec 64)} {i j : Nat} {v : BitVec 64} (h : i ≠ j) : (w.set i v).getD j 0 = w.getD j 0 := by
  simp only [List.getD]; rw [List.getElem?_set_ne h]
theorem set_getD_self {w : List (BitVec 64)} {i : Nat} {v : BitVec 64} (h : i < w.length) : (w.set i v).getD i 0 = v := by
  simp only [List.getD]; rw [List.getElem?_set_self h]; rfl
theorem mod_ne {s p q t : Nat} (hs : 0 < s) (h1 : t ≤ p) (h2 : p < t + s) (h3 : t ≤ q) (h4 : q < t + s) (h : p ≠ q) : p % s ≠ q % s := by
  intro e
  have d1 := Nat.div_add_mod p s
  have d2 := Nat.div_add_mod q s
  rw [e] at d1
  have : s * (p / s) - s * (q / s) = p - q := by omega
  rcases Nat.lt_or_ge p q with g | g
  · have : s * (q / s) = s * (p / s) + (q - p) := by omega
    have h5 : p / s < q / s := by
      refine Nat.lt_of_mul_lt_mul_left (a := s) ?_
      omega
    have h6 : s * (p / s + 1) ≤ s * (q / s) := Nat.mul_le_mul_left _ h5
    rw [Nat.mul_add, Nat.mul_one] at h6
    omega
  · have g : q < p := by omega
    have : s * (p / s) = s * (q / s) + (p - q) := by omega
    have h5 : q / s < p / s := by
      refine Nat.lt_of_mul_lt_mul_left (a := s) ?_
      omega
    have h6 : s * (q / s + 1) ≤ s * (p / s) := Nat.mul_le_mul_left _ h5
    rw [Nat.mul_add, Nat.mul_one] at h6
    omega
/-- The tail's word. -/
def tw (T : Nat) (cl : Bool) : BitVec 64 := BitVec.ofNat 64 (T + if cl = true then 9223372036854775808 else 0)
theorem tw_succ (T : Nat) (cl : Bool) : tw T cl + 1#64 = tw (T + 1) cl := by
  rw [tw, tw, one64]; congr 1; omega
theorem tw_toNat {T : Nat} {cl : Bool} (h : T < 1000000) : (tw T cl).toNat = T + if cl = true then 9223372036854775808 else 0 := by
  rw [tw, nat64]
  split <;> omega
theorem tw_clo {T : Nat} {cl : Bool} (h : T < 1000000) : (tw T cl &&& clo != 0#64) = cl := by
  rw [clo_ge, Bool.eq_iff_iff, decide_eq_true_eq, BitVec.le_def, tw_toNat h]
  show 9223372036854775808 ≤ _ ↔ _
  cases cl <;> simp <;> omega
theorem tw_low {T : Nat} {cl : Bool} (h : T < 1000000) : tw T cl &&& ~~~clo = BitVec.ofNat 64 T := by
  rw [← clo_mod]
  apply BitVec.eq_of_toNat_eq
  rw [BitVec.toNat_umod, tw_toNat h, nat64 (by omega)]
  show _ % 9223372036854775808 = _
  cases cl <;> simp <;> omega
theorem or_clo {T : Nat} (h : T < 1000000) : BitVec.ofNat 64 T ||| clo = tw T true := by
  apply BitVec.eq_of_toNat_eq
  rw [tw_toNat h, BitVec.toNat_or, nat64 (by omega)]
  show T ||| 9223372036854775808 = T + 9223372036854775808
  have := Nat.two_pow_add_eq_or_of_lt (i := 63) (b := T) (by omega) 1
  rw [show 2 ^ 63 * 1 = 9223372036854775808 from rfl] at this
  rw [Nat.or_comm]
  omega
theorem tw_or {T : Nat} {cl : Bool} (h : T < 1000000) : tw T cl ||| clo = tw T true := by
  have e := or_clo h
  cases cl
  · rw [show tw T false = BitVec.ofNat 64 T from rfl]; exact e
  · rw [← e, BitVec.or_assoc, BitVec.or_self]
theorem tw_and {T : Nat} {cl : Bool} (h : T < 1000000) : tw T cl &&& clo = if cl = true then clo else 0#64 := by
  have hz := tw_clo (cl := cl) h
  cases cl
  · simpa using hz
  · apply BitVec.eq_of_toNat_eq
    rw [BitVec.toNat_and, tw_toNat h]
    show (T + 9223372036854775808) &&& 9223372036854775808 = 9223372036854775808
    rw [and_top _ (by omega), if_pos (by omega)]
theorem head_or {h T : Nat} {cl : Bool} (hT : T < 1000000) (hh : h < 1000000) : BitVec.ofNat 64 h ||| tw T cl &&& clo = tw h cl := by
  rw [tw_and hT]
  cases cl
  · simp [tw]
  · exact or_clo hh
theorem st_of {q : Nat} (h : q < 1000000) : stW (BitVec.ofNat 64 q) 1#64 = BitVec.ofNat 64 (2 * q + 1) := by
  rw [← st_one]
  apply BitVec.eq_of_toNat_eq
  rw [BitVec.toNat_add, BitVec.toNat_mul, nat64 (n := q) (by omega), nat64 (n := 2 * q + 1) (by omega)]
  show ((2 * q) % 18446744073709551616 + 1) % 18446744073709551616 = _
  omega
theorem po_of {q : Nat} (h : q < 1000000) : poW (BitVec.ofNat 64 (2 * q + 1)) = BitVec.ofNat 64 q := by
  rw [po_lit]
  apply BitVec.eq_of_toNat_eq
  rw [BitVec.toNat_udiv, nat64 (n := q) (by omega), nat64 (n := 2 * q + 1) (by omega)]
  show (2 * q + 1) / 2 = q
  omega
theorem odd_of {q : Nat} (h : q < 1000000) : (BitVec.ofNat 64 (2 * q + 1) &&& 1#64 != 0#64) = true := by
  rw [← odd_lit, beq_iff_eq]
  apply BitVec.eq_of_toNat_eq
  rw [BitVec.toNat_umod, nat64 (by omega)]
  show (2 * q + 1) % 2 = 1
  omega
theorem st_st {q p : Nat} (hq : q < 1000000) (hp : p < 1000000) : stW (BitVec.ofNat 64 q) (BitVec.ofNat 64 (2 * p + 1)) = BitVec.ofNat 64 (2 * q + 1) := by
  rw [st_lit]
  apply BitVec.eq_of_toNat_eq
  rw [BitVec.toNat_add, BitVec.toNat_mul, BitVec.toNat_umod, nat64 (n := q) (by omega), nat64 (n := 2 * q + 1) (by omega), nat64 (n := 2 * p + 1) (by omega)]
  show ((2 * q) % 18446744073709551616 + (2 * p + 1) % 2) % 18446744073709551616 = _
  omega
theorem lt_of64 {a b : Nat} (ha : a < 10000000) (hb : b < 10000000) : (BitVec.ofNat 64 a < BitVec.ofNat 64 b) ↔ a < b := by
  rw [BitVec.lt_def, nat64 (by omega), nat64 (by omega)]
theorem le_of64 {a b : Nat} (ha : a < 10000000) (hb : b < 10000000) : (BitVec.ofNat 64 a ≤ BitVec.ofNat 64 b) ↔ a ≤ b := by
  rw [BitVec.le_def, nat64 (by omega), nat64 (by omega)]
theorem sub64 {a b : Nat} (h : b ≤ a) (ha : a < 10000000) : BitVec.ofNat 64 a - BitVec.ofNat 64 b = BitVec.ofNat 64 (a - b) := by
  apply BitVec.eq_of_toNat_eq
  rw [BitVec.toNat_sub, nat64 (by omega), nat64 (by omega), nat64 (by omega)]
  omega
theorem cell_of {s n : Nat} (h : n < 18446744073709551616) : RV.cell ⟨0, s⟩ (BitVec.ofNat 64 n) = ((4 + 2 * (n % s) : Nat) : Int) := by
  rw [RV.cell, nat64 h]
  simp only [Int.toNat_natCast]
  omega
theorem kept_same {s : Nat} {w w' : List (BitVec 64)} (h : ∀ k, k < s → w'.getD (5 + 2 * k) 0 = w.getD (5 + 2 * k) 0) : keptN 0 s w' = keptN 0 s w := by
  unfold keptN
  congr 1
  apply List.filter_congr
  intro k hk
  have := h k (by simpa using hk)
  rw [show 0 + 5 + 2 * k = 5 + 2 * k by omega, this]
abbrev bz (x : BitVec 64) : Nat := if (x != 0#64) = true then 1 else 0
theorem kept_set {w w' : List (BitVec 64)} {j : Nat} : ∀ {s : Nat}, j < s → (∀ k, k < s → k ≠ j → w'.getD (5 + 2 * k) 0 = w.getD (5 + 2 * k) 0) → keptN 0 s w' + bz (w.getD (5 + 2 * j) 0) = keptN 0 s w + bz (w'.getD (5 + 2 * j) 0)
  | 0, h, _ => by omega
  | s + 1, h, hs => by
    rw [keptN_succ, keptN_succ, show 0 + 5 + 2 * s = 5 + 2 * s by omega]
    by_cases e : j = s
    · subst e
      have := kept_same (s := j) (w := w) (w' := w') (fun k hk => hs k (by omega) (by omega))
      simp only [bz]
      omega
    · have ih := kept_set (s := s) (w := w) (w' := w') (j := j) (by omega) (fun k hk hne => hs k (by omega) hne)
      have := hs s (by omega) (fun q => e q.symm)
      rw [this]
      simp only [bz] at ih ⊢
      omega
/-- A ring that nobody uses just now holds numbers. -/
structure CSeq (s h T : Nat) (l : List (BitVec 64)) (cl : Bool) (w : List (BitVec 64)) : Prop where
  s1 : 1 ≤ s
  s8 : s ≤ 1024
  len : w.length = 4 + 2 * s
  le : l.length ≤ s
  hT : h + l.length ≤ T
  op : cl = false → T = h + l.length
  few : T < 100000
  w0 : w.getD 0 0 = BitVec.ofNat 64 h
  w1 : w.getD 1 0 = tw T cl
  st : ∀ q, h ≤ q → q < h + s → w.getD (4 + 2 * (q % s)) 0 = BitVec.ofNat 64 (2 * q + 1)
  dt : ∀ q, h ≤ q → q < h + s → w.getD (5 + 2 * (q % s)) 0 = if q < h + l.length then l.getD (q - h) 0 + 1#64 else 0#64
  nz : ∀ v ∈ l, v + 1#64 ≠ 0#64
  kp : keptN 0 s w = l.length
section
variable {s h T : Nat} {l w : List (BitVec 64)} {cl : Bool} {v : BitVec 64}
/-- Only the tail's word is another one. -/
theorem CSeq.tail (g : CSeq s h T l cl w) {T' : Nat} {cl' : Bool} (hT : h + l.length ≤ T') (op : cl' = false → T' = h + l.length) (few : T' < 100000) : CSeq s h T' l cl' (w.set 1 (tw T' cl')) := by
  have hl := g.len
  have s1 := g.s1
  refine ⟨g.s1, g.s8, by simpa using hl, g.le, hT, op, few, by rw [set_getD (by omega)]; exact g.w0, set_getD_self (by omega), fun q q1 q2 => ?_, fun q q1 q2 => ?_, g.nz, by rw [kept_same (w := w) fun k hk => by rw [set_getD (by omega)]]; exact g.kp⟩
  · rw [set_getD (by omega)]; exact g.st q q1 q2
  · rw [set_getD (by omega)]; exact g.dt q q1 q2
theorem CSeq.put (g : CSeq s h T l false w) (hl : l.length < s) (hf : T + 1 < 100000) (hv : v + 1#64 ≠ 0#64) :
    CSeq s h (T + 1) (l ++ [v]) false (((w.set 1 (tw (T + 1) false)).set (4 + 2 * (T % s)) (BitVec.ofNat 64 (2 * T + 1))).set (5 + 2 * (T % s)) (v + 1#64)) := by
  have s1 := g.s1
  have hm : T % s < s := Nat.mod_lt _ (by omega)
  have hlen := g.len
  have hop := g.op rfl
  refine ⟨g.s1, g.s8, by simp [hlen], by simp; omega, by simp; omega, fun _ => by simp; omega, hf, ?_, ?_, ?_, ?_, ?_, ?_⟩
  · rw [set_getD (by omega), set_getD (by omega), set_getD (by omega)]; exact g.w0
  · rw [set_getD (by omega), set_getD (by omega), set_getD_self (by omega)]
  · intro q q1 q2
    by_cases e : q = T
    · subst e
      rw [set_getD (by omega), set_getD_self (by simp; omega)]
    · have hne := mod_ne (by omega) q1 q2 (show h ≤ T by omega) (by omega) e
      rw [set_getD (by omega), set_getD (by omega), set_getD (by omega)]
      exact g.st q q1 q2
  · intro q q1 q2
    rw [List.length_append, List.length_singleton]
    by_cases e : q = T
    · subst e
      rw [set_getD_self (by simp; omega), if_pos (by omega), List.getD, List.getElem?_append_right (by omega), show q - h - l.length = 0 by omega]
      rfl
    · have hne := mod_ne (by omega) q1 q2 (show h ≤ T by omega) (by omega) e
      rw [set_getD (by omega), set_getD (by omega), set_getD (by omega), g.dt q q1 q2]
      by_cases c : q < h + l.length
      · rw [if_pos c, if_pos (by omega), List.getD, List.getD, List.getElem?_append_left (by omega)]
      · rw [if_neg c, if_neg (by omega)]
  · intro x hx
    rcases List.mem_append.1 hx with hx | hx
    · exact g.nz x hx
    · rw [List.mem_singleton.1 hx]; exact hv
  · have kk := kept_set (s := s) (w := w) (w' := ((w.set 1 (tw (T + 1) false)).set (4 + 2 * (T % s)) (BitVec.ofNat 64 (2 * T + 1))).set (5 + 2 * (T % s)) (v + 1#64)) (j := T % s) hm (fun k hk hne => by rw [set_getD (by omega), set_getD (by omega), set_getD (by omega)])
    rw [set_getD_self (by simp; omega), g.dt T (by omega) (by omega), if_neg (by omega), g.kp] at kk
    have b1 : bz (v + 1#64) = 1 := by simp [bz, hv]
    have b0 : bz 0#64 = 0 := by simp [bz]
    rw [b1, b0] at kk
    rw [List.length_append, List.length_singleton]
    omega
theorem CSeq.take {l' : List (BitVec 64)} {T' : Nat} (g : CSeq s h T l cl w) (h1 : l' = l.tail) (h2 : h + 1 + l'.length ≤ T') (h3 : cl = false → T' = h + 1 + l'.length) (h4 : T' < 100000) :
    CSeq s (h + 1) T' l' cl ((((w.set 0 (BitVec.ofNat 64 (h + 1))).set (4 + 2 * (h % s)) (BitVec.ofNat 64 (2 * (h + s) + 1))).set (5 + 2 * (h % s)) 0#64).set 1 (tw T' cl)) := by
  have s1 := g.s1
  have hm : h % s < s := Nat.mod_lt _ (by omega)
  have hlen := g.len
  have hle := g.le
  have ht : l'.length = l.length - 1 := by rw [h1]; simp
  refine ⟨g.s1, g.s8, by simp [hlen], by omega, by omega, h3, h4, ?_, ?_, ?_, ?_, ?_, ?_⟩
  · rw [set_getD (by omega), set_getD (by omega), set_getD (by omega), set_getD_self (by omega)]
  · rw [set_getD_self (by simp; omega)]
  · intro q q1 q2
    by_cases e : q = h + s
    · subst e
      rw [Nat.add_mod_right, set_getD (by omega), set_getD (by omega), set_getD_self (by simp; omega)]
    · have hne := mod_ne (s := s) (p := q) (q := h) (t := h) (by omega) (by omega) (by omega) (by omega) (by omega) (by omega)
      rw [set_getD (by omega), set_getD (by omega), set_getD (by omega), set_getD (by omega)]
      exact g.st q (by omega) (by omega)
  · intro q q1 q2
    by_cases e : q = h + s
    · subst e
      rw [Nat.add_mod_right, set_getD (by omega), set_getD_self (by simp; omega), if_neg (by omega)]
    · have hne := mod_ne (s := s) (p := q) (q := h) (t := h) (by omega) (by omega) (by omega) (by omega) (by omega) (by omega)
      rw [set_getD (by omega), set_getD (by omega), set_getD (by omega), set_getD (by omega), g.dt q (by omega) (by omega)]
      by_cases c : q < h + l.length
      · rw [if_pos c, if_pos (by omega), h1, List.getD, List.getD, List.getElem?_tail, show q - (h + 1) + 1 = q - h by omega]
      · rw [if_neg c, if_neg (by omega)]
  · intro x hx
    rw [h1] at hx
    exact g.nz x (List.mem_of_mem_tail hx)
  · have kk := kept_set (s := s) (w := w) (w' := (((w.set 0 (BitVec.ofNat 64 (h + 1))).set (4 + 2 * (h % s)) (BitVec.ofNat 64 (2 * (h + s) + 1))).set (5 + 2 * (h % s)) 0#64).set 1 (tw T' cl)) (j := h % s) hm (fun k hk hne => by rw [set_getD (by omega), set_getD (by omega), set_getD (by omega), set_getD (by omega)])
    rw [set_getD (by omega), set_getD_self (by simp; omega), g.dt h (by omega) (by omega), g.kp, Nat.sub_self] at kk
    have b0 : bz 0#64 = 0 := by simp [bz]
    rw [b0] at kk
    cases l with
    | nil =>
      rw [if_neg (by simp), b0] at kk
      simp only [List.length_nil] at kk ht ⊢
      omega
    | cons a l =>
      have hnz := g.nz a (by simp)
      have b1 : bz (a + 1#64) = 1 := by simp [bz, hnz]
      rw [if_pos (by simp)] at kk
      have e0 : (a :: l).getD 0 0 = a := rfl
      rw [e0, b1] at kk
      simp only [List.length_cons] at kk ht ⊢
      omega
theorem set_getD_id {w : List (BitVec 64)} {i : Nat} {v : BitVec 64} (hi : i < w.length) (h : w.getD i 0 = v) : w.set i v = w := by
  apply List.ext_getElem?
  intro j
  by_cases e : i = j
  · subst e
    rw [List.getElem?_set_self hi, List.getElem?_eq_getElem hi, ← h, List.getD, List.getElem?_eq_getElem hi]
    rfl
  · rw [List.getElem?_set_ne e]
theorem CSeq.zero (h1 : 1 ≤ s) (h8 : s ≤ 1024) : CSeq s 0 0 [] false (clay (4 + 2 * s) 0 s) := by
  have g := fun j (hj : j < 4 + 2 * s) => clay_get (4 + 2 * s) 0 s j hj
  refine ⟨h1, h8, clay_len _ _ _, by simp, by simp, fun _ => by simp, by omega, ?_, ?_, ?_, ?_, fun v hv => by simp at hv, ?_⟩
  · rw [List.getD, g 0 (by omega), if_neg (by omega)]; rfl
  · rw [List.getD, g 1 (by omega), if_neg (by omega)]; rfl
  · intro q q1 q2
    have hm : q % s = q := Nat.mod_eq_of_lt (by omega)
    rw [hm, List.getD, g _ (by omega), if_pos (by omega), show (4 + 2 * q - 0 - 4) / 2 = q by omega, st_of (by omega)]
    rfl
  · intro q q1 q2
    have hm : q % s = q := Nat.mod_eq_of_lt (by omega)
    rw [hm, List.getD, g _ (by omega), if_neg (by omega), if_neg (by simp)]
    rfl
  · rw [keptN]
    have : (List.range s).filter (fun k => (clay (4 + 2 * s) 0 s).getD (0 + 5 + 2 * k) 0 != 0#64) = [] := by
      rw [List.filter_eq_nil_iff]
      intro k hk
      have hk : k < s := by simpa using hk
      rw [List.getD, g _ (by omega), if_neg (by omega)]
      simp
    rw [this]; rfl
end
end Go.Proofs.Ytopjhhcncjleaaa
