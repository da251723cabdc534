/- Rings that may be closed, used by one alone: steps over words. -/
import Derived.Test.YtopjhhcncjleaaaV5
namespace Go.Proofs.Ytopjhhcncjleaaa
open Go Go.LK
set_option linter.unusedSimpArgs false
set_option linter.unusedVariables false
/-- A step of a memory of which nothing is barred, over its words. -/
def wuse (w : List (BitVec 64)) (u : UseC) : List (BitVec 64) × BitVec 64 × Bool :=
  if u.k = 0 then (w, w.getD u.a.toNat 0, false)
  else if u.k = 2 then (if w.getD u.a.toNat 0 = u.v0 then w.set u.a.toNat u.v1 else w, 0#64, w.getD u.a.toNat 0 == u.v0)
  else if u.k = 3 then (w.set u.a.toNat (w.getD u.a.toNat 0 + u.v0), w.getD u.a.toNat 0, false)
  else if u.k = 4 then (w.set u.a.toNat (w.getD u.a.toNat 0 ||| u.v0), w.getD u.a.toNat 0, false)
  else if u.k = 5 then (if w.getD u.a.toNat 0 = u.v0 ∧ w.getD (u.a + 1).toNat 0 = u.v1 then (w.set u.a.toNat u.v2).set (u.a + 1).toNat u.v3 else w, 0#64, w.getD u.a.toNat 0 == u.v0 && w.getD (u.a + 1).toNat 0 == u.v1)
  else (w, 0#64, false)
theorem wuse_len (w : List (BitVec 64)) (u : UseC) : (wuse w u).1.length = w.length := by
  unfold wuse
  repeat' split
  all_goals simp
theorem wuse_ok {m : MV} {w : List (BitVec 64)} {u : UseC} (c : Clean m w) (h1 : u.k ≠ 1) (h0 : 0 ≤ u.a) (hl : u.a < w.length) (h5 : u.k = 5 → u.a + 1 < w.length ∧ u.a.tmod 2 = 0) :
    (m.step u.k u.a u.v0 u.v1 u.v2 u.v3).2 = (wuse w u).2 ∧ Clean (m.step u.k u.a u.v0 u.v1 u.v2 u.v3).1 (wuse w u).1 := by
  unfold MV.step wuse
  split
  · exact ⟨by rw [load_cln c h0 hl], c.use_id h0 hl 0⟩
  split
  · refine ⟨by rw [swaps_cln c h0 hl], ?_⟩
    have := c.use h0 hl 2 (fun w => if w = u.v0 then u.v1 else w)
    have e : w.set u.a.toNat (if w.getD u.a.toNat 0 = u.v0 then u.v1 else w.getD u.a.toNat 0) = if w.getD u.a.toNat 0 = u.v0 then w.set u.a.toNat u.v1 else w := by
      split
      · rfl
      · have e1 := MV.set_at (c.bad h0 hl)
        rwa [c.at, c.ws] at e1
    rw [e] at this
    exact this
  split
  · exact ⟨by rw [load_cln c h0 hl], c.use h0 hl 3 (· + u.v0)⟩
  split
  · exact ⟨by rw [load_cln c h0 hl], c.use h0 hl 4 (· ||| u.v0)⟩
  split
  · rename_i k5
    obtain ⟨h3, h4⟩ := h5 k5
    exact ⟨by rw [pairs_cln c h0 h3 h4], c.pair h0 h3 h4 _ _ _ _⟩
  · exact ⟨rfl, c⟩
/-- Where operations use the memory. -/
theorem use_range {s n : Nat} {x : COp} (hr : x.r = ⟨0, s⟩) (h : x.r.right = true) (hn : n = 4 + 2 * s) : x.use.k ≠ 1 ∧ 0 ≤ x.use.a ∧ x.use.a < n ∧ (x.use.k = 5 → x.use.a + 1 < n ∧ x.use.a.tmod 2 = 0) := by
  obtain ⟨c1, c2, c3⟩ := cell_in (p := x.p) h
  rw [hr] at c1 c2 c3
  unfold COp.use
  rw [hr]
  simp only at c2 ⊢
  repeat' split
  all_goals (simp only; refine ⟨by decide, by omega, by omega, fun q => ?_⟩)
  all_goals first | (exact absurd q (by decide)) | (exact ⟨by omega, c3⟩)
/-- A step, over words. -/
def wst (z : COp × List (BitVec 64)) : COp × List (BitVec 64) :=
  if z.1.at_ = 9 then z else (z.1.next (wuse z.2 z.1.use).2.1 (wuse z.2 z.1.use).2.2, (wuse z.2 z.1.use).1)
theorem next_rr (x : COp) (told : BitVec 64) (ok : Bool) : (x.next told ok).r = x.r := by
  have key : ∀ (c : Prop) [Decidable c] (a b : COp), a.r = x.r → b.r = x.r → (if c then a else b).r = x.r := by
    intro c _ a b h1 h2
    split
    · exact h1
    · exact h2
  unfold COp.next COp.fin
  repeat' (first | rfl | (refine key _ _ _ ?_ ?_))
theorem next_tried (x : COp) (told : BitVec 64) (ok : Bool) : x.tried ≤ (x.next told ok).tried ∧ (x.next told ok).tried ≤ x.tried + 1 := by
  have key : ∀ (c : Prop) [Decidable c] (a b : COp), (x.tried ≤ a.tried ∧ a.tried ≤ x.tried + 1) → (x.tried ≤ b.tried ∧ b.tried ≤ x.tried + 1) → x.tried ≤ (if c then a else b).tried ∧ (if c then a else b).tried ≤ x.tried + 1 := by
    intro c _ a b h1 h2
    split
    · exact h1
    · exact h2
  unfold COp.next COp.fin
  repeat' (first | (refine key _ _ _ ?_ ?_) | omega | (dsimp only; omega))
def wruns : Nat → COp × List (BitVec 64) → COp × List (BitVec 64)
  | 0, z => z
  | k + 1, z => wst (wruns k z)
theorem wruns_add (j : Nat) : ∀ (k : Nat) (z : COp × List (BitVec 64)), wruns (j + k) z = wruns k (wruns j z)
  | 0, z => rfl
  | k + 1, z => by
    show wst (wruns (j + k) z) = wst (wruns k (wruns j z))
    rw [wruns_add j k z]
theorem wruns_done {k : Nat} {z y : COp × List (BitVec 64)} (h : wruns k z = y) (h9 : y.1.at_ = 9) : ∀ j, wruns (k + j) z = y
  | 0 => h
  | j + 1 => by
    show wst (wruns (k + j) z) = y
    rw [wruns_done h h9 j, wst, if_pos h9]
theorem wruns_inv {s : Nat} {z : COp × List (BitVec 64)} (hr : z.1.r = ⟨0, s⟩) (hl : z.2.length = 4 + 2 * s) (ht : z.1.tried = 0) : ∀ k, (wruns k z).1.r = ⟨0, s⟩ ∧ (wruns k z).2.length = 4 + 2 * s ∧ 0 ≤ (wruns k z).1.tried ∧ (wruns k z).1.tried ≤ k
  | 0 => ⟨hr, hl, by simp only [wruns]; omega, by simp only [wruns]; omega⟩
  | k + 1 => by
    obtain ⟨h1, h2, h3, h4⟩ := wruns_inv hr hl ht k
    show (wst (wruns k z)).1.r = _ ∧ (wst (wruns k z)).2.length = _ ∧ 0 ≤ (wst (wruns k z)).1.tried ∧ (wst (wruns k z)).1.tried ≤ _
    unfold wst
    split
    · exact ⟨h1, h2, h3, by omega⟩
    · have := next_tried (wruns k z).1 (wuse (wruns k z).2 (wruns k z).1.use).2.1 (wuse (wruns k z).2 (wruns k z).1.use).2.2
      exact ⟨by rw [next_rr]; exact h1, by rw [wuse_len]; exact h2, by dsimp only; omega, by dsimp only; omega⟩
/-- A step of the program's, over words. -/
theorem step_wst {s : Nat} {x : COp} {m : MV} {w : List (BitVec 64)} (c : Clean m w) (hr : x.r = ⟨0, s⟩) (h : x.r.right = true) (hw : w.length = 4 + 2 * s) : (x.step m).1 = (wst (x, w)).1 ∧ Clean (x.step m).2 (wst (x, w)).2 := by
  unfold COp.step wst
  by_cases p9 : x.at_ = 9
  · rw [if_pos p9, if_pos p9]
    exact ⟨rfl, c⟩
  · rw [if_neg p9, if_neg p9]
    obtain ⟨u1, u2, u3, u4⟩ := use_range hr h rfl
    obtain ⟨e1, e2⟩ := wuse_ok (u := x.use) c u1 u2 (by omega) (fun q => by rw [hw]; exact u4 q)
    exact ⟨by rw [e1], e2⟩
end Go.Proofs.Ytopjhhcncjleaaa
/- Rings that may be closed, used by one alone: plain. -/
namespace Go.Proofs.Ytopjhhcncjleaaa
open Go Go.LK
set_option linter.unusedSimpArgs false
set_option linter.unusedVariables false
theorem nat64 {n : Nat} (h : n < 18446744073709551616) : (BitVec.ofNat 64 n).toNat = n := by
  rw [BitVec.toNat_ofNat, Nat.mod_eq_of_lt h]
theorem one64 (n : Nat) : BitVec.ofNat 64 n + 1#64 = BitVec.ofNat 64 (n + 1) := by
  rw [BitVec.ofNat_add]
theorem set_getD {w : List (BitVec 64)} {i j : Nat} {v : BitVec 64} (h : i ≠ j) : (w.set i v).getD j 0 = w.getD j 0 := by
  simp only [List.getD]; rw [List.getElem?_set_ne h]
theorem set_getD_self {w : List (BitVec 64)} {i : Nat} {v : BitVec 64} (h : i < w.length) : (w.set i v).getD i 0 = v := by
  simp only [List.getD]; rw [List.getElem?_set_self h]; rfl
theorem mod_ne {s p q t : Nat} (hs : 0 < s) (h1 : t ≤ p) (h2 : p < t + s) (h3 : t ≤ q) (h4 : q < t + s) (h : p ≠ q) : p % s ≠ q % s := by
  intro e
  have d1 := Nat.div_add_mod p s
  have d2 := Nat.div_add_mod q s
  rw [e] at d1
  have : s * (p / s) - s * (q / s) = p - q := by omega
  rcases Nat.lt_or_ge p q with g | g
  · have : s * (q / s) = s * (p / s) + (q - p) := by omega
    have h5 : p / s < q / s := by
      refine Nat.lt_of_mul_lt_mul_left (a := s) ?_
      omega
    have h6 : s * (p / s + 1) ≤ s * (q / s) := Nat.mul_le_mul_left _ h5
    rw [Nat.mul_add, Nat.mul_one] at h6
    omega
  · have g : q < p := by omega
    have : s * (p / s) = s * (q / s) + (p - q) := by omega
    have h5 : q / s < p / s := by
      refine Nat.lt_of_mul_lt_mul_left (a := s) ?_
      omega
    have h6 : s * (q / s + 1) ≤ s * (p / s) := Nat.mul_le_mul_left _ h5
    rw [Nat.mul_add, Nat.mul_one] at h6
    omega
/-- The tail's word. -/
def tw (T : Nat) (cl : Bool) : BitVec 64 := BitVec.ofNat 64 (T + if cl = true then 9223372036854775808 else 0)
theorem tw_succ (T : Nat) (cl : Bool) : tw T cl + 1#64 = tw (T + 1) cl := by
  rw [tw, tw, one64]; congr 1; omega
theorem tw_toNat {T : Nat} {cl : Bool} (h : T < 1000000) : (tw T cl).toNat = T + if cl = true then 9223372036854775808 else 0 := by
  rw [tw, nat64]
  split <;> omega
theorem tw_clo {T : Nat} {cl : Bool} (h : T < 1000000) : (tw T cl &&& clo != 0#64) = cl := by
  rw [clo_ge, Bool.eq_iff_iff, decide_eq_true_eq, BitVec.le_def, tw_toNat h]
  show 9223372036854775808 ≤ _ ↔ _
  cases cl <;> simp <;> omega
theorem tw_low {T : Nat} {cl : Bool} (h : T < 1000000) : tw T cl &&& ~~~clo = BitVec.ofNat 64 T := by
  rw [← clo_mod]
  apply BitVec.eq_of_toNat_eq
  rw [BitVec.toNat_umod, tw_toNat h, nat64 (by omega)]
  show _ % 9223372036854775808 = _
  cases cl <;> simp <;> omega
theorem or_clo {T : Nat} (h : T < 1000000) : BitVec.ofNat 64 T ||| clo = tw T true := by
  apply BitVec.eq_of_toNat_eq
  rw [tw_toNat h, BitVec.toNat_or, nat64 (by omega)]
  show T ||| 9223372036854775808 = T + 9223372036854775808
  have := Nat.two_pow_add_eq_or_of_lt (i := 63) (b := T) (by omega) 1
  rw [show 2 ^ 63 * 1 = 9223372036854775808 from rfl] at this
  rw [Nat.or_comm]
  omega
theorem tw_or {T : Nat} {cl : Bool} (h : T < 1000000) : tw T cl ||| clo = tw T true := by
  have e := or_clo h
  cases cl
  · rw [show tw T false = BitVec.ofNat 64 T from rfl]; exact e
  · rw [← e, BitVec.or_assoc, BitVec.or_self]
theorem tw_and {T : Nat} {cl : Bool} (h : T < 1000000) : tw T cl &&& clo = if cl = true then clo else 0#64 := by
  have hz := tw_clo (cl := cl) h
  cases cl
  · simpa using hz
  · apply BitVec.eq_of_toNat_eq
    rw [BitVec.toNat_and, tw_toNat h]
    show (T + 9223372036854775808) &&& 9223372036854775808 = 9223372036854775808
    rw [and_top _ (by omega), if_pos (by omega)]
theorem head_or {h T : Nat} {cl : Bool} (hT : T < 1000000) (hh : h < 1000000) : BitVec.ofNat 64 h ||| tw T cl &&& clo = tw h cl := by
  rw [tw_and hT]
  cases cl
  · simp [tw]
  · exact or_clo hh
theorem st_of {q : Nat} (h : q < 1000000) : stW (BitVec.ofNat 64 q) 1#64 = BitVec.ofNat 64 (2 * q + 1) := by
  rw [← st_one]
  apply BitVec.eq_of_toNat_eq
  rw [BitVec.toNat_add, BitVec.toNat_mul, nat64 (n := q) (by omega), nat64 (n := 2 * q + 1) (by omega)]
  show ((2 * q) % 18446744073709551616 + 1) % 18446744073709551616 = _
  omega
theorem po_of {q : Nat} (h : q < 1000000) : poW (BitVec.ofNat 64 (2 * q + 1)) = BitVec.ofNat 64 q := by
  rw [po_lit]
  apply BitVec.eq_of_toNat_eq
  rw [BitVec.toNat_udiv, nat64 (n := q) (by omega), nat64 (n := 2 * q + 1) (by omega)]
  show (2 * q + 1) / 2 = q
  omega
theorem odd_of {q : Nat} (h : q < 1000000) : (BitVec.ofNat 64 (2 * q + 1) &&& 1#64 != 0#64) = true := by
  rw [← odd_lit, beq_iff_eq]
  apply BitVec.eq_of_toNat_eq
  rw [BitVec.toNat_umod, nat64 (by omega)]
  show (2 * q + 1) % 2 = 1
  omega
theorem st_st {q p : Nat} (hq : q < 1000000) (hp : p < 1000000) : stW (BitVec.ofNat 64 q) (BitVec.ofNat 64 (2 * p + 1)) = BitVec.ofNat 64 (2 * q + 1) := by
  rw [st_lit]
  apply BitVec.eq_of_toNat_eq
  rw [BitVec.toNat_add, BitVec.toNat_mul, BitVec.toNat_umod, nat64 (n := q) (by omega), nat64 (n := 2 * q + 1) (by omega), nat64 (n := 2 * p + 1) (by omega)]
  show ((2 * q) % 18446744073709551616 + (2 * p + 1) % 2) % 18446744073709551616 = _
  omega
theorem lt_of64 {a b : Nat} (ha : a < 10000000) (hb : b < 10000000) : (BitVec.ofNat 64 a < BitVec.ofNat 64 b) ↔ a < b := by
  rw [BitVec.lt_def, nat64 (by omega), nat64 (by omega)]
theorem le_of64 {a b : Nat} (ha : a < 10000000) (hb : b < 10000000) : (BitVec.ofNat 64 a ≤ BitVec.ofNat 64 b) ↔ a ≤ b := by
  rw [BitVec.le_def, nat64 (by omega), nat64 (by omega)]
theorem sub64 {a b : Nat} (h : b ≤ a) (ha : a < 10000000) : BitVec.ofNat 64 a - BitVec.ofNat 64 b = BitVec.ofNat 64 (a - b) := by
  apply BitVec.eq_of_toNat_eq
  rw [BitVec.toNat_sub, nat64 (by omega), nat64 (by omega), nat64 (by omega)]
  omega
theorem cell_of {s n : Nat} (h : n < 18446744073709551616) : RV.cell ⟨0, s⟩ (BitVec.ofNat 64 n) = ((4 + 2 * (n % s) : Nat) : Int) := by
  rw [RV.cell, nat64 h]
  simp only [Int.toNat_natCast]
  omega
theorem kept_same {s : Nat} {w w' : List (BitVec 64)} (h : ∀ k, k < s → w'.getD (5 + 2 * k) 0 = w.getD (5 + 2 * k) 0) : keptN 0 s w' = keptN 0 s w := by
  unfold keptN
  congr 1
  apply List.filter_congr
  intro k hk
  have := h k (by simpa using hk)
  rw [show 0 + 5 + 2 * k = 5 + 2 * k by omega, this]
abbrev bz (x : BitVec 64) : Nat := if (x != 0#64) = true then 1 else 0
theorem kept_set {w w' : List (BitVec 64)} {j : Nat} : ∀ {s : Nat}, j < s → (∀ k, k < s → k ≠ j → w'.getD (5 + 2 * k) 0 = w.getD (5 + 2 * k) 0) → keptN 0 s w' + bz (w.getD (5 + 2 * j) 0) = keptN 0 s w + bz (w'.getD (5 + 2 * j) 0)
  | 0, h, _ => by omega
  | s + 1, h, hs => by
    rw [keptN_succ, keptN_succ, show 0 + 5 + 2 * s = 5 + 2 * s by omega]
    by_cases e : j = s
    · subst e
      have := kept_same (s := j) (w := w) (w' := w') (fun k hk => hs k (by omega) (by omega))
      simp only [bz]
      omega
    · have ih := kept_set (s := s) (w := w) (w' := w') (j := j) (by omega) (fun k hk hne => hs k (by omega) hne)
      have := hs s (by omega) (fun q => e q.symm)
      rw [this]
      simp only [bz] at ih ⊢
      omega
/-- A ring that nobody uses just now holds numbers. -/
structure CSeq (s h T : Nat) (l : List (BitVec 64)) (cl : Bool) (w : List (BitVec 64)) : Prop where
  s1 : 1 ≤ s
  s8 : s ≤ 1024
  len : w.length = 4 + 2 * s
  le : l.length ≤ s
  hT : h + l.length ≤ T
  op : cl = false → T = h + l.length
  few : T < 100000
  w0 : w.getD 0 0 = BitVec.ofNat 64 h
  w1 : w.getD 1 0 = tw T cl
  st : ∀ q, h ≤ q → q < h + s → w.getD (4 + 2 * (q % s)) 0 = BitVec.ofNat 64 (2 * q + 1)
  dt : ∀ q, h ≤ q → q < h + s → w.getD (5 + 2 * (q % s)) 0 = if q < h + l.length then l.getD (q - h) 0 + 1#64 else 0#64
  nz : ∀ v ∈ l, v + 1#64 ≠ 0#64
  kp : keptN 0 s w = l.length
section
variable {s h T : Nat} {l w : List (BitVec 64)} {cl : Bool} {v : BitVec 64}
/-- Only the tail's word is another one. -/
theorem CSeq.tail (g : CSeq s h T l cl w) {T' : Nat} {cl' : Bool} (hT : h + l.length ≤ T') (op : cl' = false → T' = h + l.length) (few : T' < 100000) : CSeq s h T' l cl' (w.set 1 (tw T' cl')) := by
  have hl := g.len
  have s1 := g.s1
  refine ⟨g.s1, g.s8, by simpa using hl, g.le, hT, op, few, by rw [set_getD (by omega)]; exact g.w0, set_getD_self (by omega), fun q q1 q2 => ?_, fun q q1 q2 => ?_, g.nz, by rw [kept_same (w := w) fun k hk => by rw [set_getD (by omega)]]; exact g.kp⟩
  · rw [set_getD (by omega)]; exact g.st q q1 q2
  · rw [set_getD (by omega)]; exact g.dt q q1 q2
theorem CSeq.put (g : CSeq s h T l false w) (hl : l.length < s) (hf : T + 1 < 100000) (hv : v + 1#64 ≠ 0#64) :
    CSeq s h (T + 1) (l ++ [v]) false (((w.set 1 (tw (T + 1) false)).set (4 + 2 * (T % s)) (BitVec.ofNat 64 (2 * T + 1))).set (5 + 2 * (T % s)) (v + 1#64)) := by
  have s1 := g.s1
  have hm : T % s < s := Nat.mod_lt _ (by omega)
  have hlen := g.len
  have hop := g.op rfl
  refine ⟨g.s1, g.s8, by simp [hlen], by simp; omega, by simp; omega, fun _ => by simp; omega, hf, ?_, ?_, ?_, ?_, ?_, ?_⟩
  · rw [set_getD (by omega), set_getD (by omega), set_getD (by omega)]; exact g.w0
  · rw [set_getD (by omega), set_getD (by omega), set_getD_self (by omega)]
  · intro q q1 q2
    by_cases e : q = T
    · subst e
      rw [set_getD (by omega), set_getD_self (by simp; omega)]
    · have hne := mod_ne (by omega) q1 q2 (show h ≤ T by omega) (by omega) e
      rw [set_getD (by omega), set_getD (by omega), set_getD (by omega)]
      exact g.st q q1 q2
  · intro q q1 q2
    rw [List.length_append, List.length_singleton]
    by_cases e : q = T
    · subst e
      rw [set_getD_self (by simp; omega), if_pos (by omega), List.getD, List.getElem?_append_right (by omega), show q - h - l.length = 0 by omega]
      rfl
    · have hne := mod_ne (by omega) q1 q2 (show h ≤ T by omega) (by omega) e
      rw [set_getD (by omega), set_getD (by omega), set_getD (by omega), g.dt q q1 q2]
      by_cases c : q < h + l.length
      · rw [if_pos c, if_pos (by omega), List.getD, List.getD, List.getElem?_append_left (by omega)]
      · rw [if_neg c, if_neg (by omega)]
  · intro x hx
    rcases List.mem_append.1 hx with hx | hx
    · exact g.nz x hx
    · rw [List.mem_singleton.1 hx]; exact hv
  · have kk := kept_set (s := s) (w := w) (w' := ((w.set 1 (tw (T + 1) false)).set (4 + 2 * (T % s)) (BitVec.ofNat 64 (2 * T + 1))).set (5 + 2 * (T % s)) (v + 1#64)) (j := T % s) hm (fun k hk hne => by rw [set_getD (by omega), set_getD (by omega), set_getD (by omega)])
    rw [set_getD_self (by simp; omega), g.dt T (by omega) (by omega), if_neg (by omega), g.kp] at kk
    have b1 : bz (v + 1#64) = 1 := by simp [bz, hv]
    have b0 : bz 0#64 = 0 := by simp [bz]
    rw [b1, b0] at kk
    rw [List.length_append, List.length_singleton]
    omega
theorem CSeq.take {l' : List (BitVec 64)} {T' : Nat} (g : CSeq s h T l cl w) (h1 : l' = l.tail) (h2 : h + 1 + l'.length ≤ T') (h3 : cl = false → T' = h + 1 + l'.length) (h4 : T' < 100000) :
    CSeq s (h + 1) T' l' cl ((((w.set 0 (BitVec.ofNat 64 (h + 1))).set (4 + 2 * (h % s)) (BitVec.ofNat 64 (2 * (h + s) + 1))).set (5 + 2 * (h % s)) 0#64).set 1 (tw T' cl)) := by
  have s1 := g.s1
  have hm : h % s < s := Nat.mod_lt _ (by omega)
  have hlen := g.len
  have hle := g.le
  have ht : l'.length = l.length - 1 := by rw [h1]; simp
  refine ⟨g.s1, g.s8, by simp [hlen], by omega, by omega, h3, h4, ?_, ?_, ?_, ?_, ?_, ?_⟩
  · rw [set_getD (by omega), set_getD (by omega), set_getD (by omega), set_getD_self (by omega)]
  · rw [set_getD_self (by simp; omega)]
  · intro q q1 q2
    by_cases e : q = h + s
    · subst e
      rw [Nat.add_mod_right, set_getD (by omega), set_getD (by omega), set_getD_self (by simp; omega)]
    · have hne := mod_ne (s := s) (p := q) (q := h) (t := h) (by omega) (by omega) (by omega) (by omega) (by omega) (by omega)
      rw [set_getD (by omega), set_getD (by omega), set_getD (by omega), set_getD (by omega)]
      exact g.st q (by omega) (by omega)
  · intro q q1 q2
    by_cases e : q = h + s
    · subst e
      rw [Nat.add_mod_right, set_getD (by omega), set_getD_self (by simp; omega), if_neg (by omega)]
    · have hne := mod_ne (s := s) (p := q) (q := h) (t := h) (by omega) (by omega) (by omega) (by omega) (by omega) (by omega)
      rw [set_getD (by omega), set_getD (by omega), set_getD (by omega), set_getD (by omega), g.dt q (by omega) (by omega)]
      by_cases c : q < h + l.length
      · rw [if_pos c, if_pos (by omega), h1, List.getD, List.getD, List.getElem?_tail, show q - (h + 1) + 1 = q - h by omega]
      · rw [if_neg c, if_neg (by omega)]
  · intro x hx
    rw [h1] at hx
    exact g.nz x (List.mem_of_mem_tail hx)
  · have kk := kept_set (s := s) (w := w) (w' := (((w.set 0 (BitVec.ofNat 64 (h + 1))).set (4 + 2 * (h % s)) (BitVec.ofNat 64 (2 * (h + s) + 1))).set (5 + 2 * (h % s)) 0#64).set 1 (tw T' cl)) (j := h % s) hm (fun k hk hne => by rw [set_getD (by omega), set_getD (by omega), set_getD (by omega), set_getD (by omega)])
    rw [set_getD (by omega), set_getD_self (by simp; omega), g.dt h (by omega) (by omega), g.kp, Nat.sub_self] at kk
    have b0 : bz 0#64 = 0 := by simp [bz]
    rw [b0] at kk
    cases l with
    | nil =>
      rw [if_neg (by simp), b0] at kk
      simp only [List.length_nil] at kk ht ⊢
      omega
    | cons a l =>
      have hnz := g.nz a (by simp)
      have b1 : bz (a + 1#64) = 1 := by simp [bz, hnz]
      rw [if_pos (by simp)] at kk
      have e0 : (a :: l).getD 0 0 = a := rfl
      rw [e0, b1] at kk
      simp only [List.length_cons] at kk ht ⊢
      omega
theorem set_getD_id {w : List (BitVec 64)} {i : Nat} {v : BitVec 64} (hi : i < w.length) (h : w.getD i 0 = v) : w.set i v = w := by
  apply List.ext_getElem?
  intro j
  by_cases e : i = j
  · subst e
    rw [List.getElem?_set_self hi, List.getElem?_eq_getElem hi, ← h, List.getD, List.getElem?_eq_getElem hi]
    rfl
  · rw [List.getElem?_set_ne e]
theorem CSeq.zero (h1 : 1 ≤ s) (h8 : s ≤ 1024) : CSeq s 0 0 [] false (clay (4 + 2 * s) 0 s) := by
  have g := fun j (hj : j < 4 + 2 * s) => clay_get (4 + 2 * s) 0 s j hj
  refine ⟨h1, h8, clay_len _ _ _, by simp, by simp, fun _ => by simp, by omega, ?_, ?_, ?_, ?_, fun v hv => by simp at hv, ?_⟩
  · rw [List.getD, g 0 (by omega), if_neg (by omega)]; rfl
  · rw [List.getD, g 1 (by omega), if_neg (by omega)]; rfl
  · intro q q1 q2
    have hm : q % s = q := Nat.mod_eq_of_lt (by omega)
    rw [hm, List.getD, g _ (by omega), if_pos (by omega), show (4 + 2 * q - 0 - 4) / 2 = q by omega, st_of (by omega)]
    rfl
  · intro q q1 q2
    have hm : q % s = q := Nat.mod_eq_of_lt (by omega)
    rw [hm, List.getD, g _ (by omega), if_neg (by omega), if_neg (by simp)]
    rfl
  · rw [keptN]
    have : (List.range s).filter (fun k => (clay (4 + 2 * s) 0 s).getD (0 + 5 + 2 * k) 0 != 0#64) = [] := by
      rw [List.filter_eq_nil_iff]
      intro k hk
      have hk : k < s := by simpa using hk
      rw [List.getD, g _ (by omega), if_neg (by omega)]
      simp
    rw [this]; rfl
end
end Go.Proofs.Ytopjhhcncjleaaa
/- Rings that may be closed, used by one alone: whole operations. -/
namespace Go.Proofs.Ytopjhhcncjleaaa
open Go Go.LK
set_option linter.unusedSimpArgs false
set_option linter.unusedVariables false
section
variable {s h T : Nat} {l w : List (BitVec 64)} {cl : Bool} {v d st tl hd rt : BitVec 64} {tr c : Int} {q : Nat} {k : Int}
theorem cellN (hq : q < 1000000) : (RV.cell ⟨0, s⟩ (BitVec.ofNat 64 q)).toNat = 4 + 2 * (q % s) ∧ (RV.cell ⟨0, s⟩ (BitVec.ofNat 64 q) + 1).toNat = 5 + 2 * (q % s) := by
  rw [cell_of (by omega)]
  omega
/-- The number of a position's cell is read. -/
theorem e_data (hk : k = 0 ∨ k = 1) (hq : q < 1000000) : wst (⟨⟨0, s⟩, k, v, 1, BitVec.ofNat 64 q, d, st, tl, hd, tr, c, rt⟩, w) = (⟨⟨0, s⟩, k, v, 2, BitVec.ofNat 64 q, w.getD (5 + 2 * (q % s)) 0, st, tl, hd, tr, c, rt⟩, w) := by
  obtain ⟨c1, c2⟩ := cellN (s := s) hq
  rcases hk with rfl | rfl
  · simp [wst, COp.use, wuse, COp.next, c2]
  · simp [wst, COp.use, wuse, COp.next, c2]
/-- Then its state; for a Put. -/
theorem e_state0 (hq : q < 1000000) {q' : Nat} (hq' : q' < 1000000) (hs : w.getD (4 + 2 * (q % s)) 0 = BitVec.ofNat 64 (2 * q' + 1)) :
    wst (⟨⟨0, s⟩, 0, v, 2, BitVec.ofNat 64 q, d, st, tl, hd, tr, c, rt⟩, w) = (⟨⟨0, s⟩, 0, v, if d ≠ 0#64 ∨ q < q' then 5 else 4, BitVec.ofNat 64 q, d, BitVec.ofNat 64 (2 * q' + 1), tl, hd, tr, c, rt⟩, w) := by
  obtain ⟨c1, c2⟩ := cellN (s := s) hq
  have o := odd_of hq'
  have p := po_of hq'
  have lt := lt_of64 (a := q) (b := q') (by omega) (by omega)
  simp only [wst, COp.use, wuse, COp.next, c1, hs, Int.reduceEq, if_true, if_false, o, p]
  by_cases hd : d = 0#64
  · have hd1 : (d != 0#64) = false := by simp [hd]
    by_cases hl : q < q'
    · have := lt.2 hl
      simp [hd1, hl, this]
    · have := mt lt.1 hl
      simp [hd1, hd, hl, this]
  · have hd1 : (d != 0#64) = true := by simp [hd]
    simp [hd1, hd]
/-- For a Take. -/
theorem e_state1 (hq : q < 1000000) {q' : Nat} (hq' : q' < 1000000) (hs : w.getD (4 + 2 * (q % s)) 0 = BitVec.ofNat 64 (2 * q' + 1)) :
    wst (⟨⟨0, s⟩, 1, v, 2, BitVec.ofNat 64 q, d, st, tl, hd, tr, c, rt⟩, w) = (⟨⟨0, s⟩, 1, v, if q < q' then 5 else 3, BitVec.ofNat 64 q, d, BitVec.ofNat 64 (2 * q' + 1), tl, hd, tr, c, rt⟩, w) := by
  obtain ⟨c1, c2⟩ := cellN (s := s) hq
  have p := po_of hq'
  have lt := lt_of64 (a := q) (b := q') (by omega) (by omega)
  simp only [wst, COp.use, wuse, COp.next, c1, hs, Int.reduceEq, if_true, if_false, p]
  by_cases hl : q < q'
  · have := lt.2 hl
    simp [hl, this]
  · have := mt lt.1 hl
    simp [hl, this]
theorem e_claim0 (g : w.getD 1 0 = tw T false) (hT : T < 1000000) {p : BitVec 64} : wst (⟨⟨0, s⟩, 0, v, 0, p, d, st, tl, hd, tr, c, rt⟩, w) = (⟨⟨0, s⟩, 0, v, 1, BitVec.ofNat 64 T, d, st, tl, hd, tr, c, rt⟩, w.set 1 (tw (T + 1) false)) := by
  have hc := tw_clo (cl := false) hT
  simp only [wst, COp.use, wuse, COp.next, Int.reduceEq, if_true, if_false]
  rw [show ((0 : Int) + 1).toNat = 1 from rfl, g, hc, tw_succ]
  simp [tw]
theorem e_claim0c (g : w.getD 1 0 = tw T true) (hT : T < 1000000) {p : BitVec 64} : wst (⟨⟨0, s⟩, 0, v, 0, p, d, st, tl, hd, tr, c, rt⟩, w) = (⟨⟨0, s⟩, 0, v, 9, tw T true, d, st, tl, hd, tr, 16, 0#64⟩, w.set 1 (tw (T + 1) true)) := by
  have hc := tw_clo (cl := true) hT
  simp only [wst, COp.use, wuse, COp.next, Int.reduceEq, if_true, if_false]
  rw [show ((0 : Int) + 1).toNat = 1 from rfl, g, hc, tw_succ]
  simp [COp.fin]
theorem e_claim1 (g : w.getD 0 0 = BitVec.ofNat 64 h) {p : BitVec 64} : wst (⟨⟨0, s⟩, 1, v, 0, p, d, st, tl, hd, tr, c, rt⟩, w) = (⟨⟨0, s⟩, 1, v, 1, BitVec.ofNat 64 h, d, st, tl, hd, tr, c, rt⟩, w.set 0 (BitVec.ofNat 64 (h + 1))) := by
  simp only [wst, COp.use, wuse, COp.next, Int.reduceEq, if_true, if_false]
  rw [show (0 : Int).toNat = 0 from rfl, g, one64]
theorem put_ok (g : CSeq s h T l false w) (hl : l.length < s) (hf : T + 1 < 100000) (hv : v + 1#64 ≠ 0#64) : ∃ y w', wruns 4 (c0 ⟨0, s⟩ 0 v, w) = (y, w') ∧ y.at_ = 9 ∧ y.code = 0 ∧ y.ret = 0#64 ∧ CSeq s h (T + 1) (l ++ [v]) false w' := by
  have s1 := g.s1
  have hop := g.op rfl
  have hlen := g.len
  have hm : T % s < s := Nat.mod_lt _ (by omega)
  have g2 := g.dt T (by omega) (by omega)
  rw [if_neg (by omega)] at g2
  have g3 := g.st T (by omega) (by omega)
  obtain ⟨c1, c2⟩ := cellN (s := s) (q := T) (by omega)
  have e1 := e_claim0 (s := s) (v := v) (d := 0#64) (st := 0#64) (tl := 0#64) (hd := 0#64) (tr := 0) (c := 0) (rt := 0#64) (p := 0#64) g.w1 (by omega)
  have e2 := e_data (s := s) (k := 0) (v := v) (d := 0#64) (st := 0#64) (tl := 0#64) (hd := 0#64) (tr := 0) (c := 0) (rt := 0#64) (q := T) (w := w.set 1 (tw (T + 1) false)) (.inl rfl) (by omega)
  rw [set_getD (by omega), g2] at e2
  have e3 := e_state0 (s := s) (v := v) (d := 0#64) (st := 0#64) (tl := 0#64) (hd := 0#64) (tr := 0) (c := 0) (rt := 0#64) (q := T) (q' := T) (w := w.set 1 (tw (T + 1) false)) (by omega) (by omega) (by rw [set_getD (by omega)]; exact g3)
  rw [if_neg (by simp)] at e3
  have e4 : wst (⟨⟨0, s⟩, 0, v, 4, BitVec.ofNat 64 T, 0#64, BitVec.ofNat 64 (2 * T + 1), 0#64, 0#64, 0, 0, 0#64⟩, w.set 1 (tw (T + 1) false)) = (⟨⟨0, s⟩, 0, v, 9, BitVec.ofNat 64 T, 0#64, BitVec.ofNat 64 (2 * T + 1), 0#64, 0#64, 0, 0, 0#64⟩, ((w.set 1 (tw (T + 1) false)).set (4 + 2 * (T % s)) (BitVec.ofNat 64 (2 * T + 1))).set (5 + 2 * (T % s)) (v + 1#64)) := by
    have r1 : (w.set 1 (tw (T + 1) false)).getD (4 + 2 * (T % s)) 0 = BitVec.ofNat 64 (2 * T + 1) := by rw [set_getD (by omega)]; exact g3
    have r2 : (w.set 1 (tw (T + 1) false)).getD (5 + 2 * (T % s)) 0 = 0#64 := by rw [set_getD (by omega)]; exact g2
    simp only [wst, COp.use, wuse, COp.next, Int.reduceEq, if_true, if_false, c1, c2, r1, r2, and_self, beq_self_eq_true, Bool.and_self, st_of (show T < 1000000 by omega), COp.fin]
  have er : wruns 4 (c0 ⟨0, s⟩ 0 v, w) = _ := (congrArg wst ((congrArg wst ((congrArg wst e1).trans e2)).trans e3)).trans e4
  exact ⟨_, _, er, rfl, rfl, rfl, g.put hl hf hv⟩
theorem put_full (g : CSeq s h T l false w) (hl : l.length = s) (hf : T + 1 < 100000) : ∃ y w', wruns 5 (c0 ⟨0, s⟩ 0 v, w) = (y, w') ∧ y.at_ = 9 ∧ y.code = 16 ∧ y.ret = 0#64 ∧ CSeq s h (T + 1) l true w' := by
  have s1 := g.s1
  have s8 := g.s8
  have hop := g.op rfl
  have hlen := g.len
  have hTs : T = h + s := by omega
  have hms : T % s = h % s := by rw [hTs, Nat.add_mod_right]
  have hm : h % s < s := Nat.mod_lt _ (by omega)
  have g2 := g.dt h (by omega) (by omega)
  rw [if_pos (by omega), Nat.sub_self] at g2
  have g3 := g.st h (by omega) (by omega)
  have hnz : l.getD 0 0 + 1#64 ≠ 0#64 := by
    refine g.nz _ ?_
    cases l with
    | nil => simp at hl; omega
    | cons a l => simp [List.getD]
  obtain ⟨c1, c2⟩ := cellN (s := s) (q := T) (by omega)
  have e1 := e_claim0 (s := s) (v := v) (d := 0#64) (st := 0#64) (tl := 0#64) (hd := 0#64) (tr := 0) (c := 0) (rt := 0#64) (p := 0#64) g.w1 (by omega)
  have e2 := e_data (s := s) (k := 0) (v := v) (d := 0#64) (st := 0#64) (tl := 0#64) (hd := 0#64) (tr := 0) (c := 0) (rt := 0#64) (q := T) (w := w.set 1 (tw (T + 1) false)) (.inl rfl) (by omega)
  rw [set_getD (by omega), hms, g2] at e2
  have e3 := e_state0 (s := s) (v := v) (d := l.getD 0 0 + 1#64) (st := 0#64) (tl := 0#64) (hd := 0#64) (tr := 0) (c := 0) (rt := 0#64) (q := T) (q' := h) (w := w.set 1 (tw (T + 1) false)) (by omega) (by omega) (by rw [set_getD (by omega), hms]; exact g3)
  rw [if_pos (.inl hnz)] at e3
  have e4 : wst (⟨⟨0, s⟩, 0, v, 5, BitVec.ofNat 64 T, l.getD 0 0 + 1#64, BitVec.ofNat 64 (2 * h + 1), 0#64, 0#64, 0, 0, 0#64⟩, w.set 1 (tw (T + 1) false)) = (⟨⟨0, s⟩, 0, v, 6, BitVec.ofNat 64 T, l.getD 0 0 + 1#64, BitVec.ofNat 64 (2 * h + 1), 0#64, 0#64, 1, 0, 0#64⟩, w.set 1 (tw (T + 1) false)) := by
    have r1 : (w.set 1 (tw (T + 1) false)).getD 0 0 = BitVec.ofNat 64 h := by rw [set_getD (by omega)]; exact g.w0
    have b1 : BitVec.ofNat 64 h ≤ BitVec.ofNat 64 T := (le_of64 (by omega) (by omega)).2 (by omega)
    have b2 : BitVec.ofInt 64 (s : Int) ≤ BitVec.ofNat 64 T - BitVec.ofNat 64 h := by
      rw [sub64 (by omega) (by omega), BitVec.ofInt_natCast]
      exact (le_of64 (by omega) (by omega)).2 (by omega)
    simp only [wst, COp.use, wuse, COp.next, Int.reduceEq, if_true, if_false]
    rw [show (0 : Int).toNat = 0 from rfl, r1, if_pos (.inl ⟨b1, b2⟩)]
    rfl
  have e5 : wst (⟨⟨0, s⟩, 0, v, 6, BitVec.ofNat 64 T, l.getD 0 0 + 1#64, BitVec.ofNat 64 (2 * h + 1), 0#64, 0#64, 1, 0, 0#64⟩, w.set 1 (tw (T + 1) false)) = (⟨⟨0, s⟩, 0, v, 9, BitVec.ofNat 64 T, l.getD 0 0 + 1#64, BitVec.ofNat 64 (2 * h + 1), 0#64, 0#64, 1, 16, 0#64⟩, w.set 1 (tw (T + 1) true)) := by
    simp only [wst, COp.use, wuse, COp.next, Int.reduceEq, if_true, if_false, COp.fin]
    rw [show ((0 : Int) + 1).toNat = 1 from rfl, set_getD_self (by omega), tw_or (by omega), List.set_set]
  have er : wruns 5 (c0 ⟨0, s⟩ 0 v, w) = _ := (congrArg wst ((congrArg wst ((congrArg wst ((congrArg wst e1).trans e2)).trans e3)).trans e4)).trans e5
  exact ⟨_, _, er, rfl, rfl, rfl, g.tail (by omega) (fun q => by cases q) (by omega)⟩
theorem put_shut (g : CSeq s h T l true w) (hf : T + 1 < 100000) : ∃ y w', wruns 1 (c0 ⟨0, s⟩ 0 v, w) = (y, w') ∧ y.at_ = 9 ∧ y.code = 16 ∧ y.ret = 0#64 ∧ CSeq s h (T + 1) l true w' := by
  have hT := g.hT
  have e1 := e_claim0c (s := s) (v := v) (d := 0#64) (st := 0#64) (tl := 0#64) (hd := 0#64) (tr := 0) (c := 0) (rt := 0#64) (p := 0#64) g.w1 (by omega)
  have er : wruns 1 (c0 ⟨0, s⟩ 0 v, w) = _ := e1
  exact ⟨_, _, er, rfl, rfl, rfl, g.tail (by omega) (fun q => by cases q) (by omega)⟩
theorem close_ok (g : CSeq s h T l cl w) : ∃ y w', wruns 1 (c0 ⟨0, s⟩ 2 v, w) = (y, w') ∧ y.at_ = 9 ∧ y.code = 0 ∧ y.ret = 0#64 ∧ CSeq s h T l true w' := by
  have hT := g.hT
  have hf := g.few
  have e1 : wst (c0 ⟨0, s⟩ 2 v, w) = (⟨⟨0, s⟩, 2, v, 9, 0#64, 0#64, 0#64, 0#64, 0#64, 0, 0, 0#64⟩, w.set 1 (tw T true)) := by
    simp only [wst, COp.use, wuse, COp.next, Int.reduceEq, if_true, if_false, COp.fin]
    rw [show ((0 : Int) + 1).toNat = 1 from rfl, g.w1, tw_or (by omega)]
  have er : wruns 1 (c0 ⟨0, s⟩ 2 v, w) = _ := e1
  exact ⟨_, _, er, rfl, rfl, rfl, g.tail (by omega) (fun q => by cases q) (by omega)⟩
/-- The words behind the turn of the head's cell. -/
abbrev tcell (s h : Nat) (w : List (BitVec 64)) : List (BitVec 64) := ((w.set 0 (BitVec.ofNat 64 (h + 1))).set (4 + 2 * (h % s)) (BitVec.ofNat 64 (2 * (h + s) + 1))).set (5 + 2 * (h % s)) 0#64
theorem take_turn (g : CSeq s h T l cl w) {p : BitVec 64} {D : BitVec 64} (hD : D = if 0 < l.length then l.getD 0 0 + 1#64 else 0#64) :
    wruns 4 (⟨⟨0, s⟩, 1, v, 0, p, d, st, tl, hd, tr, c, rt⟩, w) = (if D ≠ 0#64 then ⟨⟨0, s⟩, 1, v, 9, BitVec.ofNat 64 h, D, BitVec.ofNat 64 (2 * h + 1), tl, hd, tr, 0, D - 1#64⟩ else ⟨⟨0, s⟩, 1, v, 5, BitVec.ofNat 64 h, D, BitVec.ofNat 64 (2 * h + 1), tl, hd, tr, c, rt⟩, tcell s h w) := by
  have s1 := g.s1
  have s8 := g.s8
  have hlen := g.len
  have hT := g.hT
  have hf := g.few
  have hm : h % s < s := Nat.mod_lt _ (by omega)
  have g2 := g.dt h (by omega) (by omega)
  have g2' : w.getD (5 + 2 * (h % s)) 0 = D := by
    rw [g2, hD, Nat.sub_self]
    by_cases q : 0 < l.length
    · rw [if_pos q, if_pos (by omega)]
    · rw [if_neg q, if_neg (by omega)]
  have g3 := g.st h (by omega) (by omega)
  obtain ⟨c1, c2⟩ := cellN (s := s) (q := h) (by omega)
  have e1 := e_claim1 (s := s) (v := v) (d := d) (st := st) (tl := tl) (hd := hd) (tr := tr) (c := c) (rt := rt) (p := p) g.w0
  have e2 := e_data (s := s) (k := 1) (v := v) (d := d) (st := st) (tl := tl) (hd := hd) (tr := tr) (c := c) (rt := rt) (q := h) (w := w.set 0 (BitVec.ofNat 64 (h + 1))) (.inr rfl) (by omega)
  rw [set_getD (by omega), g2'] at e2
  have e3 := e_state1 (s := s) (v := v) (d := D) (st := st) (tl := tl) (hd := hd) (tr := tr) (c := c) (rt := rt) (q := h) (q' := h) (w := w.set 0 (BitVec.ofNat 64 (h + 1))) (by omega) (by omega) (by rw [set_getD (by omega)]; exact g3)
  rw [if_neg (by omega)] at e3
  have e4 : wst (⟨⟨0, s⟩, 1, v, 3, BitVec.ofNat 64 h, D, BitVec.ofNat 64 (2 * h + 1), tl, hd, tr, c, rt⟩, w.set 0 (BitVec.ofNat 64 (h + 1))) = (if D ≠ 0#64 then ⟨⟨0, s⟩, 1, v, 9, BitVec.ofNat 64 h, D, BitVec.ofNat 64 (2 * h + 1), tl, hd, tr, 0, D - 1#64⟩ else ⟨⟨0, s⟩, 1, v, 5, BitVec.ofNat 64 h, D, BitVec.ofNat 64 (2 * h + 1), tl, hd, tr, c, rt⟩, tcell s h w) := by
    have r1 : (w.set 0 (BitVec.ofNat 64 (h + 1))).getD (4 + 2 * (h % s)) 0 = BitVec.ofNat 64 (2 * h + 1) := by rw [set_getD (by omega)]; exact g3
    have r2 : (w.set 0 (BitVec.ofNat 64 (h + 1))).getD (5 + 2 * (h % s)) 0 = D := by rw [set_getD (by omega)]; exact g2'
    have po := po_of (q := h) (by omega)
    have sum : BitVec.ofNat 64 h + BitVec.ofInt 64 (s : Int) = BitVec.ofNat 64 (h + s) := by rw [BitVec.ofInt_natCast, BitVec.ofNat_add]
    have ss := st_st (q := h + s) (p := h) (by omega) (by omega)
    by_cases hz : D = 0#64
    · have hz1 : (D != 0#64) = false := by simp [hz]
      simp only [wst, COp.use, wuse, COp.next, COp.now, COp.own, Int.reduceEq, if_true, if_false, c1, c2, r1, r2, and_self, beq_self_eq_true, Bool.and_self, hz1, Bool.false_and, Bool.false_eq_true, sum, ss]
      rw [if_neg (by simp [hz])]
    · have hz1 : (D != 0#64) = true := by simp [hz]
      simp only [wst, COp.use, wuse, COp.next, COp.now, COp.own, Int.reduceEq, if_true, if_false, c1, c2, r1, r2, and_self, beq_self_eq_true, Bool.and_self, hz1, Bool.true_and, po, Bool.not_true, Bool.false_eq_true, sum, ss, COp.fin]
      rw [if_pos hz]
  exact (congrArg wst ((congrArg wst ((congrArg wst e1).trans e2)).trans e3)).trans e4
theorem take_ok {a : BitVec 64} {l' : List (BitVec 64)} (g : CSeq s h T (a :: l') cl w) : ∃ y w', wruns 4 (c0 ⟨0, s⟩ 1 v, w) = (y, w') ∧ y.at_ = 9 ∧ y.code = 0 ∧ y.ret = a ∧ CSeq s (h + 1) T l' cl w' := by
  have hT := g.hT
  have hf := g.few
  have hlen := g.len
  have s1 := g.s1
  have hm : h % s < s := Nat.mod_lt _ (by omega)
  simp only [List.length_cons] at hT
  have hnz := g.nz a (by simp)
  have e := take_turn (v := v) (d := 0#64) (st := 0#64) (tl := 0#64) (hd := 0#64) (tr := 0) (c := 0) (rt := 0#64) g (p := 0#64) (D := a + 1#64) (by simp [List.getD])
  rw [if_pos hnz] at e
  have g' := g.take (l' := l') (T' := T) rfl (by omega) (fun q => by have := g.op q; simp only [List.length_cons] at this; omega) hf
  rw [set_getD_id (by simp; omega) (by rw [set_getD (by omega), set_getD (by omega), set_getD (by omega)]; exact g.w1)] at g'
  refine ⟨_, _, e, rfl, rfl, ?_, g'⟩
  show a + 1#64 - 1#64 = a
  rw [BitVec.add_sub_cancel]
theorem take_asks (g : w.getD 1 0 = tw T cl) (hT : T < 100000) (hh : h < 100000) : wst (⟨⟨0, s⟩, 1, v, 5, BitVec.ofNat 64 h, d, st, tl, hd, tr, c, rt⟩, w) = (⟨⟨0, s⟩, 1, v, if T ≤ h + 1 then 6 else 0, BitVec.ofNat 64 h, d, st, tl, hd, tr, c, rt⟩, w) := by
  simp only [wst, COp.use, wuse, COp.next, Int.reduceEq, if_true, if_false]
  rw [show ((0 : Int) + 1).toNat = 1 from rfl, g, tw_low (by omega), one64]
  have le := le_of64 (a := T) (b := h + 1) (by omega) (by omega)
  by_cases q : T ≤ h + 1
  · rw [if_pos q, if_pos (le.2 q)]
  · rw [if_neg q, if_neg (mt le.1 q)]
theorem take_none_last (g : CSeq s h T [] cl w) (hlt : T ≤ h + 1) (hh : h < 90000) {p : BitVec 64} : ∃ k y w' h', k ≤ 5 * (T - h) + 8 ∧ wruns k (⟨⟨0, s⟩, 1, v, 0, p, d, st, tl, hd, tr, c, rt⟩, w) = (y, w') ∧ y.at_ = 9 ∧ y.code = 13 ∧ y.ret = 0#64 ∧ h' ≤ max T (h + 1) ∧ h + 1 ≤ h' ∧ CSeq s h' h' [] cl w' := by
  have hT := g.hT
  have hf := g.few
  have hlen := g.len
  have s1 := g.s1
  simp only [List.length_nil, Nat.add_zero] at hT
  have hm : h % s < s := Nat.mod_lt _ (by omega)
  have e := take_turn (v := v) (d := d) (st := st) (tl := tl) (hd := hd) (tr := tr) (c := c) (rt := rt) g (p := p) (D := 0#64) (by simp)
  rw [if_neg (by simp)] at e
  have tail1 : (tcell s h w).getD 1 0 = tw T cl := by rw [set_getD (by omega), set_getD (by omega), set_getD (by omega)]; exact g.w1
  have head1 : (tcell s h w).getD 0 0 = BitVec.ofNat 64 (h + 1) := by rw [set_getD (by omega), set_getD (by omega), set_getD_self (by omega)]
  have e5 := take_asks (s := s) (v := v) (d := 0#64) (st := BitVec.ofNat 64 (2 * h + 1)) (tl := tl) (hd := hd) (tr := tr) (c := c) (rt := rt) (h := h) tail1 hf (by omega)
  rw [if_pos hlt] at e5
  have e6 : wst (⟨⟨0, s⟩, 1, v, 6, BitVec.ofNat 64 h, 0#64, BitVec.ofNat 64 (2 * h + 1), tl, hd, tr, c, rt⟩, tcell s h w) = (⟨⟨0, s⟩, 1, v, 7, BitVec.ofNat 64 h, 0#64, BitVec.ofNat 64 (2 * h + 1), tw T cl, hd, tr, c, rt⟩, tcell s h w) := by
    simp only [wst, COp.use, wuse, COp.next, Int.reduceEq, if_true, if_false]
    rw [show ((0 : Int) + 1).toNat = 1 from rfl, tail1]
  have le := le_of64 (a := h + 1) (b := T) (by omega) (by omega)
  have g' := g.take (l' := []) (T' := h + 1) rfl (by simp) (fun _ => by simp) (by omega)
  by_cases q : h + 1 ≤ T
  · obtain rfl : T = h + 1 := by omega
    have e7 : wst (⟨⟨0, s⟩, 1, v, 7, BitVec.ofNat 64 h, 0#64, BitVec.ofNat 64 (2 * h + 1), tw (h + 1) cl, hd, tr, c, rt⟩, tcell s h w) = (⟨⟨0, s⟩, 1, v, 9, BitVec.ofNat 64 h, 0#64, BitVec.ofNat 64 (2 * h + 1), tw (h + 1) cl, BitVec.ofNat 64 (h + 1), tr, 13, 0#64⟩, tcell s h w) := by
      simp only [wst, COp.use, wuse, COp.next, Int.reduceEq, if_true, if_false, COp.fin]
      rw [show (0 : Int).toNat = 0 from rfl, head1, tw_low (by omega), if_pos (le.2 q)]
    rw [set_getD_id (by simp; omega) tail1] at g'
    have er : wruns 7 (⟨⟨0, s⟩, 1, v, 0, p, d, st, tl, hd, tr, c, rt⟩, w) = _ := (congrArg wst ((congrArg wst ((congrArg wst e).trans e5)).trans e6)).trans e7
    exact ⟨7, _, _, h + 1, by omega, er, rfl, rfl, rfl, by omega, by omega, g'⟩
  · have e7 : wst (⟨⟨0, s⟩, 1, v, 7, BitVec.ofNat 64 h, 0#64, BitVec.ofNat 64 (2 * h + 1), tw T cl, hd, tr, c, rt⟩, tcell s h w) = (⟨⟨0, s⟩, 1, v, 8, BitVec.ofNat 64 h, 0#64, BitVec.ofNat 64 (2 * h + 1), tw T cl, BitVec.ofNat 64 (h + 1), tr, c, rt⟩, tcell s h w) := by
      simp only [wst, COp.use, wuse, COp.next, Int.reduceEq, if_true, if_false, COp.fin]
      rw [show (0 : Int).toNat = 0 from rfl, head1, tw_low (by omega), if_neg (mt le.1 q)]
    have e8 : wst (⟨⟨0, s⟩, 1, v, 8, BitVec.ofNat 64 h, 0#64, BitVec.ofNat 64 (2 * h + 1), tw T cl, BitVec.ofNat 64 (h + 1), tr, c, rt⟩, tcell s h w) = (⟨⟨0, s⟩, 1, v, 9, BitVec.ofNat 64 h, 0#64, BitVec.ofNat 64 (2 * h + 1), tw T cl, BitVec.ofNat 64 (h + 1), tr, 13, 0#64⟩, (tcell s h w).set 1 (tw (h + 1) cl)) := by
      simp only [wst, COp.use, wuse, COp.next, Int.reduceEq, if_true, if_false, COp.fin]
      rw [show ((0 : Int) + 1).toNat = 1 from rfl, tail1, head_or (by omega) (by omega)]
      simp
    have er : wruns 8 (⟨⟨0, s⟩, 1, v, 0, p, d, st, tl, hd, tr, c, rt⟩, w) = _ := (congrArg wst ((congrArg wst ((congrArg wst ((congrArg wst e).trans e5)).trans e6)).trans e7)).trans e8
    exact ⟨8, _, _, h + 1, by omega, er, rfl, rfl, rfl, by omega, by omega, g'⟩
/-- A Take of a ring in which there is no number: until the head is not below the tail. -/
theorem take_none : ∀ (f : Nat) {h T : Nat} {cl : Bool} {w : List (BitVec 64)} {v p d st tl hd rt : BitVec 64} {tr c : Int}, CSeq s h T [] cl w → T - h ≤ f → h < 90000 → T < 90000 →
    ∃ k y w' h', k ≤ 5 * (T - h) + 8 ∧ wruns k (⟨⟨0, s⟩, 1, v, 0, p, d, st, tl, hd, tr, c, rt⟩, w) = (y, w') ∧ y.at_ = 9 ∧ y.code = 13 ∧ y.ret = 0#64 ∧ h' ≤ max T (h + 1) ∧ h + 1 ≤ h' ∧ CSeq s h' h' [] cl w' := by
  intro f
  induction f with
  | zero => exact fun g hf hh _ => take_none_last g (by omega) hh
  | succ f ih =>
    intro h T cl w v p d st tl hd rt tr c g hf hh hTT
    by_cases hlt : T ≤ h + 1
    · exact take_none_last g hlt hh
    · have hT := g.hT
      have hff := g.few
      have hlen := g.len
      have s1 := g.s1
      simp only [List.length_nil, Nat.add_zero] at hT
      have hm : h % s < s := Nat.mod_lt _ (by omega)
      obtain rfl : cl = true := by
        cases cl
        · have := g.op rfl
          simp only [List.length_nil, Nat.add_zero] at this
          omega
        · rfl
      have e := take_turn (v := v) (d := d) (st := st) (tl := tl) (hd := hd) (tr := tr) (c := c) (rt := rt) g (p := p) (D := 0#64) (by simp)
      rw [if_neg (by simp)] at e
      have tail1 : (tcell s h w).getD 1 0 = tw T true := by rw [set_getD (by omega), set_getD (by omega), set_getD (by omega)]; exact g.w1
      have e5 := take_asks (s := s) (v := v) (d := 0#64) (st := BitVec.ofNat 64 (2 * h + 1)) (tl := tl) (hd := hd) (tr := tr) (c := c) (rt := rt) (h := h) tail1 hff (by omega)
      rw [if_neg hlt] at e5
      have g' := g.take (l' := []) (T' := T) rfl (by simp; omega) (fun q => by cases q) hff
      rw [set_getD_id (by simp; omega) tail1] at g'
      have er : wruns 5 (⟨⟨0, s⟩, 1, v, 0, p, d, st, tl, hd, tr, c, rt⟩, w) = _ := (congrArg wst e).trans e5
      obtain ⟨k, y, w', h', k1, k2, k3, k4, k5, k6, k7, k8⟩ := ih (v := v) (p := BitVec.ofNat 64 h) (d := 0#64) (st := BitVec.ofNat 64 (2 * h + 1)) (tl := tl) (hd := hd) (tr := tr) (c := c) (rt := rt) g' (by omega) (by omega) hTT
      refine ⟨5 + k, y, w', h', by omega, ?_, k3, k4, k5, by omega, by omega, k8⟩
      rw [wruns_add, er]
      exact k2
end
end Go.Proofs.Ytopjhhcncjleaaa
