/- Rings that may be closed, used by one alone: steps over words. -/
import Derived.Test.YtopjhhcncjleaaaV5
namespace Go.Proofs.Ytopjhhcncjleaaa
open Go Go.LK
set_option linter.unusedSimpArgs false
set_option linter.unusedVariables false
/-- A step of a memory of which nothing is barred, over its words. -/
def wuse (w : List (BitVec 64)) (u : UseC) : List (BitVec 64) × BitVec 64 × Bool :=
  if u.k = 0 then (w, w.getD u.a.toNat 0, false)
  else if u.k = 2 then (if w.getD u.a.toNat 0 = u.v0 then w.set u.a.toNat u.v1 else w, 0#64, w.getD u.a.toNat 0 == u.v0)
  else if u.k = 3 then (w.set u.a.toNat (w.getD u.a.toNat 0 + u.v0), w.getD u.a.toNat 0, false)
  else if u.k = 4 then (w.set u.a.toNat (w.getD u.a.toNat 0 ||| u.v0), w.getD u.a.toNat 0, false)
  else if u.k = 5 then (if w.getD u.a.toNat 0 = u.v0 ∧ w.getD (u.a + 1).toNat 0 = u.v1 then (w.set u.a.toNat u.v2).set (u.a + 1).toNat u.v3 else w, 0#64, w.getD u.a.toNat 0 == u.v0 && w.getD (u.a + 1).toNat 0 == u.v1)
  else (w, 0#64, false)
theorem wuse_len (w : List (BitVec 64)) (u : UseC) : (wuse w u).1.length = w.length := by
  unfold wuse
  repeat' split
  all_goals simp
theorem wuse_ok {m : MV} {w : List (BitVec 64)} {u : UseC} (c : Clean m w) (h1 : u.k ≠ 1) (h0 : 0 ≤ u.a) (hl : u.a < w.length) (h5 : u.k = 5 → u.a + 1 < w.length ∧ u.a.tmod 2 = 0) :
    (m.step u.k u.a u.v0 u.v1 u.v2 u.v3).2 = (wuse w u).2 ∧ Clean (m.step u.k u.a u.v0 u.v1 u.v2 u.v3).1 (wuse w u).1 := by
  unfold MV.step wuse
  split
  · exact ⟨by rw [load_cln c h0 hl], c.use_id h0 hl 0⟩
  split
  · refine ⟨by rw [swaps_cln c h0 hl], ?_⟩
    have := c.use h0 hl 2 (fun w => if w = u.v0 then u.v1 else w)
    have e : w.set u.a.toNat (if w.getD u.a.toNat 0 = u.v0 then u.v1 else w.getD u.a.toNat 0) = if w.getD u.a.toNat 0 = u.v0 then w.set u.a.toNat u.v1 else w := by
      split
      · rfl
      · have e1 := MV.set_at (c.bad h0 hl)
        rwa [c.at, c.ws] at e1
    rw [e] at this
    exact this
  split
  · exact ⟨by rw [load_cln c h0 hl], c.use h0 hl 3 (· + u.v0)⟩
  split
  · exact ⟨by rw [load_cln c h0 hl], c.use h0 hl 4 (· ||| u.v0)⟩
  split
  · rename_i k5
    obtain ⟨h3, h4⟩ := h5 k5
    exact ⟨by rw [pairs_cln c h0 h3 h4], c.pair h0 h3 h4 _ _ _ _⟩
  · exact ⟨rfl, c⟩
/-- Where operations use the memory. -/
theorem use_range {s n : Nat} {x : COp} (hr : x.r = ⟨0, s⟩) (h : x.r.right = true) (hn : n = 4 + 2 * s) : x.use.k ≠ 1 ∧ 0 ≤ x.use.a ∧ x.use.a < n ∧ (x.use.k = 5 → x.use.a + 1 < n ∧ x.use.a.tmod 2 = 0) := by
  obtain ⟨c1, c2, c3⟩ := cell_in (p := x.p) h
  rw [hr] at c1 c2 c3
  unfold COp.use
  rw [hr]
  simp only at c2 ⊢
  repeat' split
  all_goals (simp only; refine ⟨by decide, by omega, by omega, fun q => ?_⟩)
  all_goals first | (exact absurd q (by decide)) | (exact ⟨by omega, c3⟩)
/-- A step, over words. -/
def wst (z : COp × List (BitVec 64)) : COp × List (BitVec 64) :=
  if z.1.at_ = 9 then z else (z.1.next (wuse z.2 z.1.use).2.1 (wuse z.2 z.1.use).2.2, (wuse z.2 z.1.use).1)
theorem next_rr (x : COp) (told : BitVec 64) (ok : Bool) : (x.next told ok).r = x.r := by
  have key : ∀ (c : Prop) [Decidable c] (a b : COp), a.r = x.r → b.r = x.r → (if c then a else b).r = x.r := by
    intro c _ a b h1 h2
    split
    · exact h1
    · exact h2
  unfold COp.next COp.fin
  repeat' (first | rfl | (refine key _ _ _ ?_ ?_))
theorem next_tried (x : COp) (told : BitVec 64) (ok : Bool) : x.tried ≤ (x.next told ok).tried ∧ (x.next told ok).tried ≤ x.tried + 1 := by
  have key : ∀ (c : Prop) [Decidable c] (a b : COp), (x.tried ≤ a.tried ∧ a.tried ≤ x.tried + 1) → (x.tried ≤ b.tried ∧ b.tried ≤ x.tried + 1) → x.tried ≤ (if c then a else b).tried ∧ (if c then a else b).tried ≤ x.tried + 1 := by
    intro c _ a b h1 h2
    split
    · exact h1
    · exact h2
  unfold COp.next COp.fin
  repeat' (first | (refine key _ _ _ ?_ ?_) | omega | (dsimp only; omega))
def wruns : Nat → COp × List (BitVec 64) → COp × List (BitVec 64)
  | 0, z => z
  | k + 1, z => wst (wruns k z)
theorem wruns_add (j : Nat) : ∀ (k : Nat) (z : COp × List (BitVec 64)), wruns (j + k) z = wruns k (wruns j z)
  | 0, z => rfl
  | k + 1, z => by
    show wst (wruns (j + k) z) = wst (wruns k (wruns j z))
    rw [wruns_add j k z]
theorem wruns_done {k : Nat} {z y : COp × List (BitVec 64)} (h : wruns k z = y) (h9 : y.1.at_ = 9) : ∀ j, wruns (k + j) z = y
  | 0 => h
  | j + 1 => by
    show wst (wruns (k + j) z) = y
    rw [wruns_done h h9 j, wst, if_pos h9]
theorem wruns_inv {s : Nat} {z : COp × List (BitVec 64)} (hr : z.1.r = ⟨0, s⟩) (hl : z.2.length = 4 + 2 * s) (ht : z.1.tried = 0) : ∀ k, (wruns k z).1.r = ⟨0, s⟩ ∧ (wruns k z).2.length = 4 + 2 * s ∧ 0 ≤ (wruns k z).1.tried ∧ (wruns k z).1.tried ≤ k
  | 0 => ⟨hr, hl, by simp only [wruns]; omega, by simp only [wruns]; omega⟩
  | k + 1 => by
    obtain ⟨h1, h2, h3, h4⟩ := wruns_inv hr hl ht k
    show (wst (wruns k z)).1.r = _ ∧ (wst (wruns k z)).2.length = _ ∧ 0 ≤ (wst (wruns k z)).1.tried ∧ (wst (wruns k z)).1.tried ≤ _
    unfold wst
    split
    · exact ⟨h1, h2, h3, by omega⟩
    · have := next_tried (wruns k z).1 (wuse (wruns k z).2 (wruns k z).1.use).2.1 (wuse (wruns k z).2 (wruns k z).1.use).2.2
      exact ⟨by rw [next_rr]; exact h1, by rw [wuse_len]; exact h2, by dsimp only; omega, by dsimp only; omega⟩
/-- A step of the program's, over words. -/
theorem step_wst {s : Nat} {x : COp} {m : MV} {w : List (BitVec 64)} (c : Clean m w) (hr : x.r = ⟨0, s⟩) (h : x.r.right = true) (hw : w.length = 4 + 2 * s) : (x.step m).1 = (wst (x, w)).1 ∧ Clean (x.step m).2 (wst (x, w)).2 := by
  unfold COp.step wst
  by_cases p9 : x.at_ = 9
  · rw [if_pos p9, if_pos p9]
    exact ⟨rfl, c⟩
  · rw [if_neg p9, if_neg p9]
    obtain ⟨u1, u2, u3, u4⟩ := use_range hr h rfl
    obtain ⟨e1, e2⟩ := wuse_ok (u := x.use) c u1 u2 (by omega) (fun q => by rw [hw]; exact u4 q)
    exact ⟨by rw [e1], e2⟩
end Go.Proofs.Ytopjhhcncjleaaa
