/- Positions that are passed, groups that are dropped: plain. -/
import Derived.Test.YtcoejlhlcpkmkaaT6
import Derived.Test.YtcoejlhlcpkmkaaC2
namespace Go.Proofs.Ytcoejlhlcpkmkaa
open Go Go.LK
set_option linter.unusedSimpArgs false
set_option linter.unusedVariables false
theorem pack_of (w : BitVec 64) : (hdOf w).w = w := by
  apply BitVec.eq_of_getLsbD_eq
  intro j hj
  rw [hdOf_eq]
  show (packW (getW 0 40 w) (getW 40 16 w) (getW 56 8 w)).getLsbD j = _
  rw [packW_get _ _ _ _ hj, getW_get _ _ _ _ (by decide), getW_get _ _ _ _ (by decide), getW_get _ _ _ _ (by decide)]
  by_cases h1 : j < 40
  · simp [h1]
  · by_cases h2 : j < 56
    · have e : 40 + (j - 40) = j := by omega
      rw [if_neg h1, if_pos h2, e, decide_eq_true (by omega), Bool.and_true]
    · have e : 56 + (j - 56) = j := by omega
      rw [if_neg h1, if_neg h2, e, decide_eq_true (by omega), Bool.and_true]
theorem hdOf_small (w : BitVec 64) : (hdOf w).n.toNat < 1099511627776 ∧ (hdOf w).t.toNat < 65536 ∧ (hdOf w).i.toNat < 256 := by
  rw [hdOf_eq]
  exact ⟨get_small 0 40 w (by decide), get_small 40 16 w (by decide), get_small 56 8 w (by decide)⟩
theorem of_pack {h : HD} (hn : h.n.toNat < 1099511627776) (ht : h.t.toNat < 65536) (hi : h.i.toNat < 256) : hdOf h.w = h := by
  obtain ⟨n, t, i⟩ := h
  rw [hdOf_eq]
  show HD.mk (getW 0 40 (packW n t i)) (getW 40 16 (packW n t i)) (getW 56 8 (packW n t i)) = _
  rw [pack_next, pack_turn, pack_in, show 1099511627776#64 = BitVec.ofNat 64 1099511627776 from rfl, show 65536#64 = BitVec.ofNat 64 65536 from rfl, show 256#64 = BitVec.ofNat 64 256 from rfl,
    mod_small n _ (by decide) hn, mod_small t _ (by decide) ht, mod_small i _ (by decide) hi]
theorem of_on {h : HD} (hn : h.n.toNat < 1099511627775) (ht : h.t.toNat < 65536) (hi : h.i.toNat < 256) : hdOf h.on.w = ⟨upN h.n, h.t, h.i⟩ :=
  of_pack (h := h.on) (by show (upN h.n).toNat < _; rw [upN_nat]; omega) ht hi
theorem of_wout {h : HD} {k : Int} (hk : isK k = true) (hn : h.n.toNat < 1099511627776) (ht : h.t.toNat < 65536) (hi : h.i.toNat < 256) : hdOf (h.wout k).w = ⟨h.n, upT h.t, h.i &&& ~~~bitW k⟩ := by
  have e : h.wout k = ⟨h.n, upT h.t, h.i &&& ~~~bitW k⟩ := by simp [HD.wout, hk]
  rw [e]
  refine of_pack hn ?_ ?_
  · show (upT h.t).toNat < _
    rw [upT_nat]; omega
  · show (h.i &&& ~~~bitW k).toNat < _
    rw [BitVec.toNat_and]
    exact Nat.lt_of_le_of_lt Nat.and_le_left hi
theorem less_bit {i : BitVec 64} {k : Int} (h0 : 0 ≤ k) (h8 : k < 8) (h : i.getLsbD k.toNat = true) : i &&& ~~~bitW k < i := by
  have hne : i &&& ~~~bitW k ≠ i := by
    intro e
    have := congrArg (fun x => x.getLsbD k.toNat) e
    simp [BitVec.getLsbD_and, BitVec.getLsbD_not, bitW_get _ _ (show k < 64 by omega), h] at this
  have hle : (i &&& ~~~bitW k).toNat ≤ i.toNat := by rw [BitVec.toNat_and]; exact Nat.and_le_left
  rw [BitVec.lt_def]
  rcases Nat.lt_or_ge (i &&& ~~~bitW k).toNat i.toNat with g | g
  · exact g
  · exact absurd (BitVec.eq_of_toNat_eq (Nat.le_antisymm hle g)) hne
/-- What is held of an operation that goes on. -/
structure Live (n : Nat) (x : TOp) (p by_ : BitVec 64) (d : Bool) : Prop where
  a : x.at_ = 0
  pn : p.toNat ≤ n
  dr : d = true → x.pc = 0 ∧ x.seen = hdOf by_ ∧ hasF x.seen.i x.k = true
  pa : d = false → x.p = p ∧ (x.pc = 1 ∨ x.pc = 2 ∧ x.seen = hdOf x.seen.w ∧ x.seen.n = p)
/-- What is held of one that is done. -/
structure Ended (W W' p by_ : BitVec 64) (d did : Bool) : Prop where
  lt : decide ((hdOf W').n < (hdOf W).n) = false
  gt : decide ((hdOf W).n + 1#64 < (hdOf W').n) = false
  dd : d = true → did = (W == by_)
  di : d = true → did = true → decide ((hdOf W).i ≤ (hdOf W').i) = false ∧ ((hdOf W').n != (hdOf W).n) = false
  pn : d = false → decide ((hdOf W').n ≤ p) = false
  nn : (hdOf W').n.toNat = (hdOf W).n.toNat + if d = false ∧ did = true then 1 else 0
  pp : d = false → did = true → p = (hdOf W).n
theorem lt_self (x : BitVec 64) : decide (x < x) = false := by
  rw [decide_eq_false_iff_not, BitVec.lt_def]; omega
theorem lt_succ {x : BitVec 64} (h : x.toNat < 1099511627776) : decide (x + 1#64 < x) = false := by
  rw [decide_eq_false_iff_not, BitVec.lt_def, BitVec.toNat_add]
  show ¬ (x.toNat + 1) % 18446744073709551616 < x.toNat
  omega
/-- A step of one. -/
theorem live_step {m : MV} {W p by_ : BitVec 64} {d : Bool} {x : TOp} (c : Clean m [W]) (hn : (hdOf W).n.toNat < 1099511627775) (h : Live (hdOf W).n.toNat x p by_ d) :
    ((x.step m).1.pc ≠ 3 ∧ Clean (x.step m).2 [W] ∧ Live (hdOf W).n.toNat (x.step m).1 p by_ d) ∨
    ((x.step m).1.pc = 3 ∧ (x.step m).1.code = 0 ∧ ∃ W', Clean (x.step m).2 [W'] ∧ Ended W W' p by_ d (x.step m).1.did) := by
  have hl : m.load 0 = W := by rw [MV.load, c.bad (by decide) (by simp), c.at]; rfl
  have hu : Clean (m.use 0 0 id) [W] := c.use_id (by decide) (by simp) 0
  have hs : ∀ w, m.swaps 0 w = (W == w) := fun w => by rw [MV.swaps, c.bad (by decide) (by simp), c.at]; rfl
  have hv : ∀ f, Clean (m.use 2 0 f) [f W] := fun f => c.use (a := 0) (by decide) (by simp) 2 f
  obtain ⟨b1, b2, b3⟩ := hdOf_small W
  have same : ∀ did, (d = true → did = (W == by_)) → (d = true → did = false) → (d = false → p.toNat < (hdOf W).n.toNat ∧ did = false) → Ended W W p by_ d did := by
    intro did g1 g2 g3
    refine ⟨lt_self _, lt_succ b1, g1, fun a b => ?_, fun a => ?_, ?_, fun a b => ?_⟩
    · rw [g2 a] at b; cases b
    · rw [decide_eq_false_iff_not, BitVec.le_def]; have := g3 a; omega
    · rw [if_neg (fun q => by rw [(g3 q.1).2] at q; exact absurd q.2 (by simp))]; rfl
    · rw [(g3 a).2] at b; cases b
  cases d with
  | true =>
    obtain ⟨p0, e1, e2⟩ := h.dr rfl
    have es : x.step m = (x.fin 0 (m.swaps x.at_ x.seen.w), m.use 2 x.at_ (fun w => if w = x.seen.w then (x.seen.wout x.k).w else w)) := by
      simp only [TOp.step, p0]; rfl
    rw [h.a] at es
    rw [es]
    refine .inr ⟨rfl, rfl, if W = x.seen.w then (x.seen.wout x.k).w else W, hv (fun w => if w = x.seen.w then (x.seen.wout x.k).w else w), ?_⟩
    show Ended W _ p by_ true (m.swaps 0 x.seen.w)
    rw [hs, e1, pack_of]
    by_cases hw : W = by_
    · subst hw
      rw [if_pos rfl]
      rw [e1] at e2
      have hk : isK x.k = true := by simp only [hasF, Bool.and_eq_true] at e2; exact e2.1
      have hb : (hdOf W).i.getLsbD x.k.toNat = true := by simp only [hasF, Bool.and_eq_true] at e2; exact e2.2
      obtain ⟨k0, k8⟩ := is01 hk
      have ew := of_wout (h := hdOf W) hk b1 b2 b3
      refine ⟨?_, ?_, fun _ => rfl, fun _ _ => ⟨?_, ?_⟩, fun a => (by cases a), ?_, fun a => (by cases a)⟩
      · rw [ew]; exact lt_self _
      · rw [ew]; exact lt_succ b1
      · rw [ew, decide_eq_false_iff_not]
        have := less_bit k0 k8 hb
        rw [BitVec.lt_def] at this
        rw [BitVec.le_def]; show ¬ (hdOf W).i.toNat ≤ ((hdOf W).i &&& ~~~bitW x.k).toNat
        omega
      · rw [ew]; simp
      · rw [ew]; simp
    · rw [if_neg hw]
      have hb : (W == by_) = false := by simpa using hw
      refine same _ (fun _ => rfl) (fun _ => hb) (fun a => (by cases a))
  | false =>
    obtain ⟨e1, e2⟩ := h.pa rfl
    have hpn := h.pn
    rcases e2 with p1 | ⟨p2, e2, e3⟩
    · have es : x.step m = (if (hdOf (m.load x.at_)).n = x.p then { x with pc := 2, seen := hdOf (m.load x.at_) } else { x with pc := 3, seen := hdOf (m.load x.at_), code := 0, did := false }, m.use 0 x.at_ id) := by
        simp only [TOp.step, p1]; rfl
      rw [h.a, hl, e1] at es
      rw [es]
      by_cases hq : (hdOf W).n = p
      · rw [if_pos hq]
        refine .inl ⟨by simp, hu, ⟨rfl, hpn, fun a => (by cases a), fun _ => ⟨rfl, .inr ⟨rfl, ?_, hq⟩⟩⟩⟩
        rw [pack_of]
      · rw [if_neg hq]
        refine .inr ⟨rfl, rfl, W, hu, same _ (fun a => (by cases a)) (fun _ => rfl) (fun _ => ⟨?_, rfl⟩)⟩
        have : p.toNat ≠ (hdOf W).n.toNat := fun q => hq (BitVec.eq_of_toNat_eq q.symm)
        omega
    · have es : x.step m = (if m.swaps x.at_ x.seen.w = true then { x with pc := 3, code := 0, did := true } else { x with pc := 1 }, m.use 2 x.at_ (fun w => if w = x.seen.w then x.seen.on.w else w)) := by
        simp only [TOp.step, p2]; rfl
      rw [h.a, hs] at es
      rw [es]
      by_cases hw : W = x.seen.w
      · have hb : (W == x.seen.w) = true := by simpa using hw
        rw [if_pos hb]
        have hsee : hdOf W = x.seen := by rw [hw]; exact e2.symm
        refine .inr ⟨rfl, rfl, if W = x.seen.w then x.seen.on.w else W, hv (fun w => if w = x.seen.w then x.seen.on.w else w), ?_⟩
        rw [if_pos hw, ← hsee]
        have ew := of_on (h := hdOf W) hn b2 b3
        have hp : p = (hdOf W).n := by rw [hsee]; exact e3.symm
        have hnat : (upN (hdOf W).n).toNat = (hdOf W).n.toNat + 1 := by rw [upN_nat]; omega
        refine ⟨?_, ?_, fun a => (by cases a), fun a => (by cases a), fun _ => ?_, ?_, fun _ _ => hp⟩
        · rw [ew, decide_eq_false_iff_not, BitVec.lt_def]; show ¬ (upN (hdOf W).n).toNat < _; omega
        · rw [ew, decide_eq_false_iff_not, BitVec.lt_def, BitVec.toNat_add]
          show ¬ ((hdOf W).n.toNat + 1) % 18446744073709551616 < (upN (hdOf W).n).toNat
          omega
        · rw [ew, decide_eq_false_iff_not, BitVec.le_def, hp]; show ¬ (upN (hdOf W).n).toNat ≤ _; omega
        · rw [ew]; simp [hnat]
      · have hb : ¬ (W == x.seen.w) = true := by simpa using hw
        rw [if_neg hb]
        refine .inl ⟨by simp, ?_, ⟨rfl, hpn, fun a => (by cases a), fun _ => ⟨e1, .inl rfl⟩⟩⟩
        have := hv (fun w => if w = x.seen.w then x.seen.on.w else w)
        rw [if_neg hw] at this
        exact this
theorem Live.mono {n n' : Nat} {x : TOp} {p by_ : BitVec 64} {d : Bool} (h : Live n x p by_ d) (g : n ≤ n') : Live n' x p by_ d := ⟨h.a, Nat.le_trans h.pn g, h.dr, h.pa⟩
end Go.Proofs.Ytcoejlhlcpkmkaa
