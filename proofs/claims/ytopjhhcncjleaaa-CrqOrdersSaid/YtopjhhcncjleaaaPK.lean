/- DROP Rings that may be closed: steps over words. -/
import Derived.Test.YtopjhhcncjleaaaVK
namespace Go.Proofs.Ytopjhhcncjleaaa
open Go Go.LK
set_option linter.unusedSimpArgs false
set_option linter.unusedVariables false
/-- A step of a memory of which nothing is barred, over its words. -/
def wuse (w : List (BitVec 64)) (u : UseC) : List (BitVec 64) × BitVec 64 × Bool :=
  if u.k = 0 then (w, w.getD u.a.toNat 0, false)
  else if u.k = 2 then (if w.getD u.a.toNat 0 = u.v0 then w.set u.a.toNat u.v1 else w, 0#64, w.getD u.a.toNat 0 == u.v0)
  else if u.k = 3 then (w.set u.a.toNat (w.getD u.a.toNat 0 + u.v0), w.getD u.a.toNat 0, false)
  else if u.k = 4 then (w.set u.a.toNat (w.getD u.a.toNat 0 ||| u.v0), w.getD u.a.toNat 0, false)
  else if u.k = 5 then (if w.getD u.a.toNat 0 = u.v0 ∧ w.getD (u.a + 1).toNat 0 = u.v1 then (w.set u.a.toNat u.v2).set (u.a + 1).toNat u.v3 else w, 0#64, w.getD u.a.toNat 0 == u.v0 && w.getD (u.a + 1).toNat 0 == u.v1)
  else (w, 0#64, false)
theorem wuse_len (w : List (BitVec 64)) (u : UseC) : (wuse w u).1.length = w.length := by
  unfold wuse
  repeat' split
  all_goals simp
theorem wuse_ok {m : MV} {w : List (BitVec 64)} {u : UseC} (c : Clean m w) (h1 : u.k ≠ 1) (h0 : 0 ≤ u.a) (hl : u.a < w.length) (h5 : u.k = 5 → u.a + 1 < w.length ∧ u.a.tmod 2 = 0) :
    (m.step u.k u.a u.v0 u.v1 u.v2 u.v3).2 = (wuse w u).2 ∧ Clean (m.step u.k u.a u.v0 u.v1 u.v2 u.v3).1 (wuse w u).1 := by
  unfold MV.step wuse
  split
  · exact ⟨by rw [load_cln c h0 hl], c.use_id h0 hl 0⟩
  split
  · refine ⟨by rw [swaps_cln c h0 hl], ?_⟩
    have := c.use h0 hl 2 (fun w => if w = u.v0 then u.v1 else w)
    have e : w.set u.a.toNat (if w.getD u.a.toNat 0 = u.v0 then u.v1 else w.getD u.a.toNat 0) = if w.getD u.a.toNat 0 = u.v0 then w.set u.a.toNat u.v1 else w := by
      split
      · rfl
      · have e1 := MV.set_at (c.bad h0 hl)
        rwa [c.at, c.ws] at e1
    rw [e] at this
    exact this
  split
  · exact ⟨by rw [load_cln c h0 hl], c.use h0 hl 3 (· + u.v0)⟩
  split
  · exact ⟨by rw [load_cln c h0 hl], c.use h0 hl 4 (· ||| u.v0)⟩
  split
  · rename_i k5
    obtain ⟨h3, h4⟩ := h5 k5
    exact ⟨by rw [pairs_cln c h0 h3 h4], c.pair h0 h3 h4 _ _ _ _⟩
  · exact ⟨rfl, c⟩
/-- Where operations use the memory. -/
theorem use_range {s n : Nat} {x : COp} (hr : x.r = ⟨0, s⟩) (h : x.r.right = true) (hn : n = 4 + 2 * s) : x.use.k ≠ 1 ∧ 0 ≤ x.use.a ∧ x.use.a < n ∧ (x.use.k = 5 → x.use.a + 1 < n ∧ x.use.a.tmod 2 = 0) := by
  obtain ⟨c1, c2, c3⟩ := cell_in (p := x.p) h
  rw [hr] at c1 c2 c3
  unfold COp.use
  rw [hr]
  simp only at c2 ⊢
  repeat' split
  all_goals (simp only; refine ⟨by decide, by omega, by omega, fun q => ?_⟩)
  all_goals first | (exact absurd q (by decide)) | (exact ⟨by omega, c3⟩)
/-- A step, over words. -/
def wst (z : COp × List (BitVec 64)) : COp × List (BitVec 64) :=
  if z.1.at_ = 9 then z else (z.1.next (wuse z.2 z.1.use).2.1 (wuse z.2 z.1.use).2.2, (wuse z.2 z.1.use).1)
theorem next_rr (x : COp) (told : BitVec 64) (ok : Bool) : (x.next told ok).r = x.r := by
  have key : ∀ (c : Prop) [Decidable c] (a b : COp), a.r = x.r → b.r = x.r → (if c then a else b).r = x.r := by
    intro c _ a b h1 h2
    split
    · exact h1
    · exact h2
  unfold COp.next COp.fin
  repeat' (first | rfl | (refine key _ _ _ ?_ ?_))
theorem next_tried (x : COp) (told : BitVec 64) (ok : Bool) : x.tried ≤ (x.next told ok).tried ∧ (x.next told ok).tried ≤ x.tried + 1 := by
  have key : ∀ (c : Prop) [Decidable c] (a b : COp), (x.tried ≤ a.tried ∧ a.tried ≤ x.tried + 1) → (x.tried ≤ b.tried ∧ b.tried ≤ x.tried + 1) → x.tried ≤ (if c then a else b).tried ∧ (if c then a else b).tried ≤ x.tried + 1 := by
    intro c _ a b h1 h2
    split
    · exact h1
    · exact h2
  unfold COp.next COp.fin
  repeat' (first | (refine key _ _ _ ?_ ?_) | omega | (dsimp only; omega))
/-- A step of the program's, over words. -/
theorem step_wst {s : Nat} {x : COp} {m : MV} {w : List (BitVec 64)} (c : Clean m w) (hr : x.r = ⟨0, s⟩) (h : x.r.right = true) (hw : w.length = 4 + 2 * s) : (x.step m).1 = (wst (x, w)).1 ∧ Clean (x.step m).2 (wst (x, w)).2 := by
  unfold COp.step wst
  by_cases p9 : x.at_ = 9
  · rw [if_pos p9, if_pos p9]
    exact ⟨rfl, c⟩
  · rw [if_neg p9, if_neg p9]
    obtain ⟨u1, u2, u3, u4⟩ := use_range hr h rfl
    obtain ⟨e1, e2⟩ := wuse_ok (u := x.use) c u1 u2 (by omega) (fun q => by rw [hw]; exact u4 q)
    exact ⟨by rw [e1], e2⟩
theorem nat64 {n : Nat} (h : n < 18446744073709551616) : (BitVec.ofNat 64 n).toNat = n := by
  rw [BitVec.toNat_ofNat, Nat.mod_eq_of_lt h]
theorem one64 (n : Nat) : BitVec.ofNat 64 n + 1#64 = BitVec.ofNat 64 (n + 1) := by
  rw [BitVec.ofNat_add]
theorem set_getD {w : List (BitVec 64)} {i j : Nat} {v : BitVec 64} (h : i ≠ j) : (w.set i v).getD j 0 = w.getD j 0 := by
  simp only [List.getD]; rw [List.getElem?_set_ne h]
theorem set_getD_self {w : List (BitVec 64)} {i : Nat} {v : BitVec 64} (h : i < w.length) : (w.set i v).getD i 0 = v := by
  simp only [List.getD]; rw [List.getElem?_set_self h]; rfl
/-- The tail's word. -/
def tw (T : Nat) (cl : Bool) : BitVec 64 := BitVec.ofNat 64 (T + if cl = true then 9223372036854775808 else 0)
theorem tw_succ (T : Nat) (cl : Bool) : tw T cl + 1#64 = tw (T + 1) cl := by
  rw [tw, tw, one64]; congr 1; omega
theorem tw_toNat {T : Nat} {cl : Bool} (h : T < 1000000) : (tw T cl).toNat = T + if cl = true then 9223372036854775808 else 0 := by
  rw [tw, nat64]
  split <;> omega
theorem tw_clo {T : Nat} {cl : Bool} (h : T < 1000000) : (tw T cl &&& clo != 0#64) = cl := by
  rw [clo_ge, Bool.eq_iff_iff, decide_eq_true_eq, BitVec.le_def, tw_toNat h]
  show 9223372036854775808 ≤ _ ↔ _
  cases cl <;> simp <;> omega
theorem tw_low {T : Nat} {cl : Bool} (h : T < 1000000) : tw T cl &&& ~~~clo = BitVec.ofNat 64 T := by
  rw [← clo_mod]
  apply BitVec.eq_of_toNat_eq
  rw [BitVec.toNat_umod, tw_toNat h, nat64 (by omega)]
  show _ % 9223372036854775808 = _
  cases cl <;> simp <;> omega
theorem or_clo {T : Nat} (h : T < 1000000) : BitVec.ofNat 64 T ||| clo = tw T true := by
  apply BitVec.eq_of_toNat_eq
  rw [tw_toNat h, BitVec.toNat_or, nat64 (by omega)]
  show T ||| 9223372036854775808 = T + 9223372036854775808
  have := Nat.two_pow_add_eq_or_of_lt (i := 63) (b := T) (by omega) 1
  rw [show 2 ^ 63 * 1 = 9223372036854775808 from rfl] at this
  rw [Nat.or_comm]
  omega
theorem tw_or {T : Nat} {cl : Bool} (h : T < 1000000) : tw T cl ||| clo = tw T true := by
  have e := or_clo h
  cases cl
  · rw [show tw T false = BitVec.ofNat 64 T from rfl]; exact e
  · rw [← e, BitVec.or_assoc, BitVec.or_self]
theorem tw_and {T : Nat} {cl : Bool} (h : T < 1000000) : tw T cl &&& clo = if cl = true then clo else 0#64 := by
  have hz := tw_clo (cl := cl) h
  cases cl
  · simpa using hz
  · apply BitVec.eq_of_toNat_eq
    rw [BitVec.toNat_and, tw_toNat h]
    show (T + 9223372036854775808) &&& 9223372036854775808 = 9223372036854775808
    rw [and_top _ (by omega), if_pos (by omega)]
theorem head_or {h T : Nat} {cl : Bool} (hT : T < 1000000) (hh : h < 1000000) : BitVec.ofNat 64 h ||| tw T cl &&& clo = tw h cl := by
  rw [tw_and hT]
  cases cl
  · simp [tw]
  · exact or_clo hh
theorem st_of {q : Nat} (h : q < 1000000) : stW (BitVec.ofNat 64 q) 1#64 = BitVec.ofNat 64 (2 * q + 1) := by
  rw [← st_one]
  apply BitVec.eq_of_toNat_eq
  rw [BitVec.toNat_add, BitVec.toNat_mul, nat64 (n := q) (by omega), nat64 (n := 2 * q + 1) (by omega)]
  show ((2 * q) % 18446744073709551616 + 1) % 18446744073709551616 = _
  omega
theorem po_of {q : Nat} (h : q < 1000000) : poW (BitVec.ofNat 64 (2 * q + 1)) = BitVec.ofNat 64 q := by
  rw [po_lit]
  apply BitVec.eq_of_toNat_eq
  rw [BitVec.toNat_udiv, nat64 (n := q) (by omega), nat64 (n := 2 * q + 1) (by omega)]
  show (2 * q + 1) / 2 = q
  omega
theorem odd_of {q : Nat} (h : q < 1000000) : (BitVec.ofNat 64 (2 * q + 1) &&& 1#64 != 0#64) = true := by
  rw [← odd_lit, beq_iff_eq]
  apply BitVec.eq_of_toNat_eq
  rw [BitVec.toNat_umod, nat64 (by omega)]
  show (2 * q + 1) % 2 = 1
  omega
theorem st_st {q p : Nat} (hq : q < 1000000) (hp : p < 1000000) : stW (BitVec.ofNat 64 q) (BitVec.ofNat 64 (2 * p + 1)) = BitVec.ofNat 64 (2 * q + 1) := by
  rw [st_lit]
  apply BitVec.eq_of_toNat_eq
  rw [BitVec.toNat_add, BitVec.toNat_mul, BitVec.toNat_umod, nat64 (n := q) (by omega), nat64 (n := 2 * q + 1) (by omega), nat64 (n := 2 * p + 1) (by omega)]
  show ((2 * q) % 18446744073709551616 + (2 * p + 1) % 2) % 18446744073709551616 = _
  omega
theorem lt_of64 {a b : Nat} (ha : a < 10000000) (hb : b < 10000000) : (BitVec.ofNat 64 a < BitVec.ofNat 64 b) ↔ a < b := by
  rw [BitVec.lt_def, nat64 (by omega), nat64 (by omega)]
theorem le_of64 {a b : Nat} (ha : a < 10000000) (hb : b < 10000000) : (BitVec.ofNat 64 a ≤ BitVec.ofNat 64 b) ↔ a ≤ b := by
  rw [BitVec.le_def, nat64 (by omega), nat64 (by omega)]
theorem sub64 {a b : Nat} (h : b ≤ a) (ha : a < 10000000) : BitVec.ofNat 64 a - BitVec.ofNat 64 b = BitVec.ofNat 64 (a - b) := by
  apply BitVec.eq_of_toNat_eq
  rw [BitVec.toNat_sub, nat64 (by omega), nat64 (by omega), nat64 (by omega)]
  omega
theorem cell_of {s n : Nat} (h : n < 18446744073709551616) : RV.cell ⟨0, s⟩ (BitVec.ofNat 64 n) = ((4 + 2 * (n % s) : Nat) : Int) := by
  rw [RV.cell, nat64 h]
  simp only [Int.toNat_natCast]
  omega
section
variable {s h T : Nat} {l w : List (BitVec 64)} {cl : Bool} {v d st tl hd rt : BitVec 64} {tr c : Int} {q : Nat} {k : Int}
theorem cellN (hq : q < 1000000) : (RV.cell ⟨0, s⟩ (BitVec.ofNat 64 q)).toNat = 4 + 2 * (q % s) ∧ (RV.cell ⟨0, s⟩ (BitVec.ofNat 64 q) + 1).toNat = 5 + 2 * (q % s) := by
  rw [cell_of (by omega)]
  omega
theorem e_data (hk : k = 0 ∨ k = 1) (hq : q < 1000000) : wst (⟨⟨0, s⟩, k, v, 1, BitVec.ofNat 64 q, d, st, tl, hd, tr, c, rt⟩, w) = (⟨⟨0, s⟩, k, v, 2, BitVec.ofNat 64 q, w.getD (5 + 2 * (q % s)) 0, st, tl, hd, tr, c, rt⟩, w) := by
  obtain ⟨c1, c2⟩ := cellN (s := s) hq
  rcases hk with rfl | rfl
  · simp [wst, COp.use, wuse, COp.next, c2]
  · simp [wst, COp.use, wuse, COp.next, c2]
theorem e_claim0 (g : w.getD 1 0 = tw T false) (hT : T < 1000000) {p : BitVec 64} : wst (⟨⟨0, s⟩, 0, v, 0, p, d, st, tl, hd, tr, c, rt⟩, w) = (⟨⟨0, s⟩, 0, v, 1, BitVec.ofNat 64 T, d, st, tl, hd, tr, c, rt⟩, w.set 1 (tw (T + 1) false)) := by
  have hc := tw_clo (cl := false) hT
  simp only [wst, COp.use, wuse, COp.next, Int.reduceEq, if_true, if_false]
  rw [show ((0 : Int) + 1).toNat = 1 from rfl, g, hc, tw_succ]
  simp [tw]
theorem e_claim0c (g : w.getD 1 0 = tw T true) (hT : T < 1000000) {p : BitVec 64} : wst (⟨⟨0, s⟩, 0, v, 0, p, d, st, tl, hd, tr, c, rt⟩, w) = (⟨⟨0, s⟩, 0, v, 9, tw T true, d, st, tl, hd, tr, 16, 0#64⟩, w.set 1 (tw (T + 1) true)) := by
  have hc := tw_clo (cl := true) hT
  simp only [wst, COp.use, wuse, COp.next, Int.reduceEq, if_true, if_false]
  rw [show ((0 : Int) + 1).toNat = 1 from rfl, g, hc, tw_succ]
  simp [COp.fin]
theorem e_claim1 (g : w.getD 0 0 = BitVec.ofNat 64 h) {p : BitVec 64} : wst (⟨⟨0, s⟩, 1, v, 0, p, d, st, tl, hd, tr, c, rt⟩, w) = (⟨⟨0, s⟩, 1, v, 1, BitVec.ofNat 64 h, d, st, tl, hd, tr, c, rt⟩, w.set 0 (BitVec.ofNat 64 (h + 1))) := by
  simp only [wst, COp.use, wuse, COp.next, Int.reduceEq, if_true, if_false]
  rw [show (0 : Int).toNat = 0 from rfl, g, one64]
end
end Go.Proofs.Ytopjhhcncjleaaa
