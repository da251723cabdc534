/- Puts of four threads, in whatever order: plain. -/
import Derived.Test.YtgipbamdefjenaaV10
namespace Go.Proofs.Ytgipbamdefjenaa
open Go Go.LK
set_option linter.unusedSimpArgs false
set_option linter.unusedVariables false
/-- Where a Put stands. -/
def POk (s T : Nat) (own : Nat → Nat) (i : Nat) (x : VOp) : Prop :=
  x.r = ⟨0, s⟩ ∧ x.takes = false ∧ (x.at_ ≠ 5 → x.v = BitVec.ofNat 64 (100 + i) ∧ x.code = 0) ∧
  ((x.at_ = 0) ∨ (x.at_ = 1 ∧ ∃ p, p ≤ T ∧ x.p = BitVec.ofNat 64 p) ∨ (x.at_ = 2 ∧ ∃ p, p ≤ T ∧ p < s ∧ x.p = BitVec.ofNat 64 p) ∨
    ((x.at_ = 3 ∨ x.at_ = 4 ∨ (x.at_ = 5 ∧ x.code = 0)) ∧ ∃ p, p < T ∧ own p = i ∧ x.p = BitVec.ofNat 64 p) ∨ (x.at_ = 5 ∧ x.code = 15 ∧ T = s))
structure WI (s T : Nat) (w : List (BitVec 64)) (L : List VOp) (own : Nat → Nat) : Prop where
  hs : s = 2 ∨ s = 4
  len : w.length = 2 + 2 * s
  ll : L.length = 4
  ts : T ≤ s
  w0 : w.getD 0 0 = BitVec.ofNat 64 T
  w1 : w.getD 1 0 = 0#64
  ops : ∀ i x, L[i]? = some x → POk s T own i x
  cl : ∀ p, p < T → ∃ x, L[own p]? = some x ∧ x.p = BitVec.ofNat 64 p ∧
    ((x.at_ = 3 ∧ w.getD (2 + 2 * p) 0 = BitVec.ofNat 64 p) ∨ (x.at_ = 4 ∧ w.getD (2 + 2 * p) 0 = BitVec.ofNat 64 p ∧ w.getD (3 + 2 * p) 0 = BitVec.ofNat 64 (100 + own p)) ∨
      (x.at_ = 5 ∧ x.code = 0 ∧ w.getD (2 + 2 * p) 0 = BitVec.ofNat 64 (p + 1) ∧ w.getD (3 + 2 * p) 0 = BitVec.ofNat 64 (100 + own p)))
  un : ∀ p, T ≤ p → p < s → w.getD (2 + 2 * p) 0 = BitVec.ofNat 64 p
def mu (T : Nat) (x : VOp) : Nat :=
  if x.at_ = 5 then 0 else if x.at_ = 4 then 1 else if x.at_ = 3 then 2
  else if x.at_ = 2 then (if x.p = BitVec.ofNat 64 T then 3 else 6)
  else if x.at_ = 1 then (if x.p = BitVec.ofNat 64 T then 4 else 7) else 5
theorem ofNat_inj {a b : Nat} (h : BitVec.ofNat 64 a = BitVec.ofNat 64 b) (ha : a < 100) (hb : b < 100) : a = b := by
  have := congrArg BitVec.toNat h
  rwa [nat64 (by omega), nat64 (by omega)] at this
/-- Another operation stands where it stood. -/
theorem POk.mono {s T T' : Nat} {own own' : Nat → Nat} {i : Nat} {x : VOp} (h : POk s T own i x) (hT : T ≤ T') (ho : ∀ p, p < T → own' p = own p) (hs : T = s → T' = s) : POk s T' own' i x := by
  obtain ⟨h1, h2, h3, h4⟩ := h
  refine ⟨h1, h2, h3, ?_⟩
  rcases h4 with h | ⟨h, p, q1, q2⟩ | ⟨h, p, q1, q2, q3⟩ | ⟨h, p, q1, q2, q3⟩ | ⟨h, h', h''⟩
  · exact .inl h
  · exact .inr (.inl ⟨h, p, by omega, q2⟩)
  · exact .inr (.inr (.inl ⟨h, p, by omega, q2, q3⟩))
  · exact .inr (.inr (.inr (.inl ⟨h, p, by omega, by rw [ho p q1, q2], q3⟩)))
  · exact .inr (.inr (.inr (.inr ⟨h, h', hs h''⟩)))
section
variable {s T : Nat} {w : List (BitVec 64)} {L : List VOp} {own : Nat → Nat} {i : Nat} {x : VOp} {m : MV}
/-- A step that claims nothing, and touches no cell. -/
theorem WI.idle (h : WI s T w L own) (hx : L[i]? = some x) {x' : VOp} (hp : POk s T own i x') (hb : x.at_ = 0 ∨ x.at_ = 1 ∨ x.at_ = 2) : WI s T w (L.set i x') own := by
  refine ⟨h.hs, h.len, by simpa using h.ll, h.ts, h.w0, h.w1, ?_, ?_, h.un⟩
  · intro j y hy
    by_cases e : i = j
    · subst e
      rw [List.getElem?_set_self (List.getElem?_eq_some_iff.1 hx).1] at hy
      cases hy; exact hp
    · rw [List.getElem?_set_ne e] at hy
      exact h.ops j y hy
  · intro p hp
    obtain ⟨y, g1, g2, g3⟩ := h.cl p hp
    have e : i ≠ own p := by
      rintro rfl
      rw [hx] at g1
      cases g1
      rcases g3 with g | g | g <;> omega
    exact ⟨y, by rw [List.getElem?_set_ne e]; exact g1, g2, g3⟩
theorem wcell {p : Nat} (h : p < 100) (hs : s = 2 ∨ s = 4) (hp : p < s) : RV.cell ⟨0, s⟩ (BitVec.ofNat 64 p) = ((2 + 2 * p : Nat) : Int) := by
  rw [cell_of (by omega), Nat.mod_eq_of_lt hp]
theorem diff_one (n : Nat) (h : n < 100) : (BitVec.ofNat 64 (n + 1) - BitVec.ofNat 64 n).toInt = 1 := by
  have : BitVec.ofNat 64 (n + 1) - BitVec.ofNat 64 n = 1#64 := by
    rw [← one64]
    apply BitVec.eq_of_toNat_eq
    rw [BitVec.toNat_sub, BitVec.toNat_add, nat64 (by omega)]
    simp; omega
  rw [this]; rfl
theorem WI.step (h : WI s T w L own) (hx : L[i]? = some x) (c : Clean m w) : ∃ T' w' own', Clean (x.step m).2 w' ∧ WI s T' w' (L.set i (x.step m).1) own' ∧ (x.at_ ≠ 5 → mu T' (x.step m).1 < mu T x) := by
  have hil : i < L.length := (List.getElem?_eq_some_iff.1 hx).1
  have hi4 : i < 4 := by rw [← h.ll]; exact hil
  have hs := h.hs
  have hlen := h.len
  have hts := h.ts
  have hT : T < 100 := by omega
  obtain ⟨xr, xt, xv, xa, xp, xc⟩ := x
  obtain ⟨r1, r2, r3, r4⟩ := h.ops i _ hx
  simp only at r1 r2 r3 r4
  subst r1 r2
  by_cases p5 : xa = 5
  · subst p5
    have es : VOp.step ⟨⟨0, s⟩, false, xv, 5, xp, xc⟩ m = (⟨⟨0, s⟩, false, xv, 5, xp, xc⟩, m) := rfl
    rw [es]
    have e : L.set i ⟨⟨0, s⟩, false, xv, 5, xp, xc⟩ = L := by
      apply List.ext_getElem?
      intro j
      by_cases e : i = j
      · subst e; rw [List.getElem?_set_self hil, hx]
      · rw [List.getElem?_set_ne e]
    rw [e]
    exact ⟨T, w, own, c, h, fun q => absurd rfl q⟩
  obtain ⟨rfl, rfl⟩ := r3 p5
  have l0 : m.load 0 = BitVec.ofNat 64 T := by rw [load_cl c (by omega) (by omega)]; exact h.w0
  rcases r4 with rfl | ⟨rfl, p, q1, rfl⟩ | ⟨rfl, p, q1, q2, rfl⟩ | ⟨g, p, q1, q2, rfl⟩ | ⟨g, _⟩
  · have es : VOp.step ⟨⟨0, s⟩, false, BitVec.ofNat 64 (100 + i), 0, xp, 0⟩ m = (⟨⟨0, s⟩, false, BitVec.ofNat 64 (100 + i), 1, BitVec.ofNat 64 T, 0⟩, m.use 0 0 id) := by
      rw [← l0]; rfl
    rw [es]
    refine ⟨T, w, own, c.use_id (by omega) (by omega) 0, h.idle hx ⟨rfl, rfl, fun _ => ⟨rfl, rfl⟩, .inr (.inl ⟨rfl, T, Nat.le_refl _, rfl⟩)⟩ (.inl rfl), fun _ => ?_⟩
    simp [mu]
  · have hm : p % s < s := Nat.mod_lt _ (by omega)
    have hc1 : Clean (m.use 0 (RV.cell ⟨0, s⟩ (BitVec.ofNat 64 p)) id) w := by
      rw [cell_of (by omega)]
      exact c.use_id (by omega) (by omega) 0
    by_cases hps : p < s
    · have hld : m.load (RV.cell ⟨0, s⟩ (BitVec.ofNat 64 p)) = w.getD (2 + 2 * p) 0 := by
        rw [wcell (by omega) hs hps, load_cl c (by omega) (by omega), Int.toNat_natCast]
      by_cases hv : w.getD (2 + 2 * p) 0 = BitVec.ofNat 64 p
      · have es : VOp.step ⟨⟨0, s⟩, false, BitVec.ofNat 64 (100 + i), 1, BitVec.ofNat 64 p, 0⟩ m = (⟨⟨0, s⟩, false, BitVec.ofNat 64 (100 + i), 2, BitVec.ofNat 64 p, 0⟩, m.use 0 (RV.cell ⟨0, s⟩ (BitVec.ofNat 64 p)) id) := by
          simp only [VOp.step, hld, hv, Bool.false_eq_true, if_false, diff_self]; rfl
        rw [es]
        refine ⟨T, w, own, hc1, h.idle hx ⟨rfl, rfl, fun _ => ⟨rfl, rfl⟩, .inr (.inr (.inl ⟨rfl, p, q1, hps, rfl⟩))⟩ (.inr (.inl rfl)), fun _ => ?_⟩
        by_cases q : BitVec.ofNat 64 p = BitVec.ofNat 64 T <;> simp [mu, q]
      · have hpT : p < T := by
          rcases Nat.lt_or_ge p T with q | q
          · exact q
          · exact absurd (h.un p q hps) hv
        obtain ⟨y, g1, g2, g3⟩ := h.cl p hpT
        have hv1 : w.getD (2 + 2 * p) 0 = BitVec.ofNat 64 (p + 1) := by
          rcases g3 with ⟨_, g⟩ | ⟨_, g, _⟩ | ⟨_, _, g, _⟩
          · exact absurd g hv
          · exact absurd g hv
          · exact g
        have d1 := diff_one p (by omega)
        have es : VOp.step ⟨⟨0, s⟩, false, BitVec.ofNat 64 (100 + i), 1, BitVec.ofNat 64 p, 0⟩ m = (⟨⟨0, s⟩, false, BitVec.ofNat 64 (100 + i), 0, BitVec.ofNat 64 p, 0⟩, m.use 0 (RV.cell ⟨0, s⟩ (BitVec.ofNat 64 p)) id) := by
          simp only [VOp.step, hld, hv1, Bool.false_eq_true, if_false, d1]; rfl
        rw [es]
        refine ⟨T, w, own, hc1, h.idle hx ⟨rfl, rfl, fun _ => ⟨rfl, rfl⟩, .inl rfl⟩ (.inr (.inl rfl)), fun _ => ?_⟩
        have : ¬ BitVec.ofNat 64 p = BitVec.ofNat 64 T := fun q => by have := ofNat_inj q (by omega) (by omega); omega
        simp [mu, this]
    · have hps : p = s := by omega
      have hTs : T = s := by omega
      subst hps
      have hld : m.load (RV.cell ⟨0, p⟩ (BitVec.ofNat 64 p)) = w.getD 2 0 := by
        rw [cell_of (by omega), Nat.mod_self, load_cl c (by omega) (by omega), Int.toNat_natCast]
      obtain ⟨y, g1, g2, g3⟩ := h.cl 0 (by omega)
      have hv : ∃ k, k < 2 ∧ w.getD 2 0 = BitVec.ofNat 64 k := by
        rcases g3 with ⟨_, g⟩ | ⟨_, g, _⟩ | ⟨_, _, g, _⟩
        · exact ⟨0, by omega, g⟩
        · exact ⟨0, by omega, g⟩
        · exact ⟨1, by omega, g⟩
      obtain ⟨k, hk, hv⟩ := hv
      obtain ⟨d1, d2⟩ := diff_neg (a := k) (b := p) (by omega) (by omega)
      have es : VOp.step ⟨⟨0, p⟩, false, BitVec.ofNat 64 (100 + i), 1, BitVec.ofNat 64 p, 0⟩ m = (⟨⟨0, p⟩, false, 0#64, 5, BitVec.ofNat 64 p, 15⟩, m.use 0 (RV.cell ⟨0, p⟩ (BitVec.ofNat 64 p)) id) := by
        simp only [VOp.step, hld, hv, Bool.false_eq_true, if_false]
        generalize (BitVec.ofNat 64 k - BitVec.ofNat 64 p).toInt = z at d1 d2 ⊢
        simp [VOp.fin, d1, d2]
      rw [es]
      refine ⟨T, w, own, hc1, h.idle hx ⟨rfl, rfl, fun q => absurd rfl q, .inr (.inr (.inr (.inr ⟨rfl, rfl, hTs⟩)))⟩ (.inr (.inl rfl)), fun _ => ?_⟩
      simp [mu]
      split <;> omega
  · have hsw : m.swaps 0 (BitVec.ofNat 64 p) = decide (T = p) := by
      rw [MV.swaps, c.bad (by omega) (by omega), c.at]
      show (!false && (w.getD 0 0 == _)) = _
      rw [h.w0]
      by_cases e : T = p
      · subst e; simp
      · have : ¬ BitVec.ofNat 64 T = BitVec.ofNat 64 p := fun q => e (ofNat_inj q (by omega) (by omega))
        simp [e, this]
    have hc1 := c.use (a := 0) (by omega) (by omega) 2 (fun w => if w = BitVec.ofNat 64 p then BitVec.ofNat 64 p + 1#64 else w)
    have e0 : w.getD (0 : Int).toNat 0 = BitVec.ofNat 64 T := h.w0
    rw [e0] at hc1
    by_cases e : T = p
    · subst e
      rw [if_pos rfl] at hc1
      have hc1 : Clean (m.use 2 0 (fun w => if w = BitVec.ofNat 64 T then BitVec.ofNat 64 T + 1#64 else w)) (w.set 0 (BitVec.ofNat 64 (T + 1))) := by rw [← one64 T]; exact hc1
      have es : VOp.step ⟨⟨0, s⟩, false, BitVec.ofNat 64 (100 + i), 2, BitVec.ofNat 64 T, 0⟩ m = (⟨⟨0, s⟩, false, BitVec.ofNat 64 (100 + i), 3, BitVec.ofNat 64 T, 0⟩, m.use 2 0 (fun w => if w = BitVec.ofNat 64 T then BitVec.ofNat 64 T + 1#64 else w)) := by
        have e2 : VOp.head ⟨⟨0, s⟩, false, BitVec.ofNat 64 (100 + i), 2, BitVec.ofNat 64 T, 0⟩ = 0 := rfl
        simp [VOp.step, e2, hsw]
      rw [es]
      refine ⟨T + 1, w.set 0 (BitVec.ofNat 64 (T + 1)), fun q => if q = T then i else own q, hc1, ⟨hs, by simpa using hlen, by simpa using h.ll, by omega, set_getD_self (by omega), by rw [set_getD (by omega)]; exact h.w1, ?_, ?_, ?_⟩, fun _ => ?_⟩
      · intro j y hy
        by_cases e : i = j
        · subst e
          rw [List.getElem?_set_self hil] at hy
          cases hy
          exact ⟨rfl, rfl, fun _ => ⟨rfl, rfl⟩, .inr (.inr (.inr (.inl ⟨.inl rfl, T, by omega, if_pos rfl, rfl⟩)))⟩
        · rw [List.getElem?_set_ne e] at hy
          exact (h.ops j y hy).mono (by omega) (fun q hq => if_neg (by omega)) (by omega)
      · intro q hq
        by_cases e : q = T
        · subst e
          refine ⟨⟨⟨0, s⟩, false, BitVec.ofNat 64 (100 + i), 3, BitVec.ofNat 64 q, 0⟩, by simp only [if_true]; exact List.getElem?_set_self hil, rfl, .inl ⟨rfl, ?_⟩⟩
          rw [set_getD (by omega)]; exact h.un q (by omega) q2
        · obtain ⟨y, g1, g2, g3⟩ := h.cl q (by omega)
          have ne : i ≠ own q := by
            intro e2
            rw [← e2, hx] at g1
            cases g1
            rcases g3 with ⟨g, _⟩ | ⟨g, _⟩ | ⟨g, _⟩ <;> exact absurd g (by simp)
          refine ⟨y, ?_, g2, ?_⟩
          · simp only [if_neg e]
            rw [List.getElem?_set_ne ne]; exact g1
          · simp only [if_neg e]
            rw [set_getD (by omega), set_getD (by omega)]; exact g3
      · intro q hq1 hq2
        rw [set_getD (by omega)]; exact h.un q (by omega) hq2
      · simp [mu]
    · have hne : ¬ BitVec.ofNat 64 T = BitVec.ofNat 64 p := fun q => e (ofNat_inj q (by omega) (by omega))
      rw [if_neg hne] at hc1
      have ew : w.set (0 : Int).toNat (BitVec.ofNat 64 T) = w := by
        have e1 := MV.set_at (c.bad (a := 0) (by omega) (by omega))
        rw [c.at, e0, c.ws] at e1; exact e1
      rw [ew] at hc1
      have es : VOp.step ⟨⟨0, s⟩, false, BitVec.ofNat 64 (100 + i), 2, BitVec.ofNat 64 p, 0⟩ m = (⟨⟨0, s⟩, false, BitVec.ofNat 64 (100 + i), 0, BitVec.ofNat 64 p, 0⟩, m.use 2 0 (fun w => if w = BitVec.ofNat 64 p then BitVec.ofNat 64 p + 1#64 else w)) := by
        have e2 : VOp.head ⟨⟨0, s⟩, false, BitVec.ofNat 64 (100 + i), 2, BitVec.ofNat 64 p, 0⟩ = 0 := rfl
        simp [VOp.step, e2, hsw, e]
      rw [es]
      refine ⟨T, w, own, hc1, h.idle hx ⟨rfl, rfl, fun _ => ⟨rfl, rfl⟩, .inl rfl⟩ (.inr (.inr rfl)), fun _ => ?_⟩
      have : ¬ BitVec.ofNat 64 p = BitVec.ofNat 64 T := fun q => hne q.symm
      simp [mu, this]
  · have hps : p < s := by omega
    have hcell := wcell (s := s) (p := p) (by omega) hs hps
    obtain ⟨y, g1, g2, g3⟩ := h.cl p q1
    rw [q2, hx] at g1
    cases g1
    have others : ∀ q, q < T → q ≠ p → own q ≠ i := by
      intro q hq hne e
      obtain ⟨y, f1, f2, _⟩ := h.cl q hq
      rw [e, hx] at f1
      cases f1
      exact hne (ofNat_inj f2 (by omega) (by omega)).symm
    rcases g with rfl | rfl | ⟨rfl, _⟩
    · have gc : w.getD (2 + 2 * p) 0 = BitVec.ofNat 64 p := by
        rcases g3 with ⟨_, g⟩ | ⟨g, _⟩ | ⟨g, _⟩
        · exact g
        · exact absurd g (by simp)
        · exact absurd g (by simp)
      have es : VOp.step ⟨⟨0, s⟩, false, BitVec.ofNat 64 (100 + i), 3, BitVec.ofNat 64 p, 0⟩ m = (⟨⟨0, s⟩, false, BitVec.ofNat 64 (100 + i), 4, BitVec.ofNat 64 p, 0⟩, m.use 1 (RV.cell ⟨0, s⟩ (BitVec.ofNat 64 p) + 1) (fun _ => BitVec.ofNat 64 (100 + i))) := rfl
      rw [es, hcell]
      have hc1 := c.use (a := ((2 + 2 * p : Nat) : Int) + 1) (by omega) (by omega) 1 (fun _ => BitVec.ofNat 64 (100 + i))
      rw [show (((2 + 2 * p : Nat) : Int) + 1).toNat = 3 + 2 * p by omega] at hc1
      refine ⟨T, _, own, hc1, ⟨hs, by simpa using hlen, by simpa using h.ll, h.ts, by rw [set_getD (by omega)]; exact h.w0, by rw [set_getD (by omega)]; exact h.w1, ?_, ?_, ?_⟩, fun _ => ?_⟩
      · intro j y hy
        by_cases e : i = j
        · subst e
          rw [List.getElem?_set_self hil] at hy
          cases hy
          exact ⟨rfl, rfl, fun _ => ⟨rfl, rfl⟩, .inr (.inr (.inr (.inl ⟨.inr (.inl rfl), p, q1, q2, rfl⟩)))⟩
        · rw [List.getElem?_set_ne e] at hy
          exact h.ops j y hy
      · intro q hq
        by_cases e : q = p
        · subst e
          refine ⟨_, by rw [q2]; exact List.getElem?_set_self hil, rfl, .inr (.inl ⟨rfl, ?_, ?_⟩)⟩
          · rw [set_getD (by omega)]; exact gc
          · rw [set_getD_self (by omega), q2]
        · obtain ⟨y, f1, f2, f3⟩ := h.cl q hq
          refine ⟨y, by rw [List.getElem?_set_ne (fun z => others q hq e z.symm)]; exact f1, f2, ?_⟩
          rw [set_getD (by omega), set_getD (by omega)]; exact f3
      · intro q hq1 hq2
        rw [set_getD (by omega)]; exact h.un q hq1 hq2
      · simp [mu]
    · obtain ⟨gc, gd⟩ : w.getD (2 + 2 * p) 0 = BitVec.ofNat 64 p ∧ w.getD (3 + 2 * p) 0 = BitVec.ofNat 64 (100 + own p) := by
        rcases g3 with ⟨g, _⟩ | ⟨_, g⟩ | ⟨g, _⟩
        · exact absurd g (by simp)
        · exact g
        · exact absurd g (by simp)
      have es : VOp.step ⟨⟨0, s⟩, false, BitVec.ofNat 64 (100 + i), 4, BitVec.ofNat 64 p, 0⟩ m = (⟨⟨0, s⟩, false, 0#64, 5, BitVec.ofNat 64 p, 0⟩, m.use 1 (RV.cell ⟨0, s⟩ (BitVec.ofNat 64 p)) (fun _ => BitVec.ofNat 64 p + 1#64)) := rfl
      rw [es, hcell, one64]
      have hc1 := c.use (a := ((2 + 2 * p : Nat) : Int)) (by omega) (by omega) 1 (fun _ => BitVec.ofNat 64 (p + 1))
      rw [Int.toNat_natCast] at hc1
      refine ⟨T, _, own, hc1, ⟨hs, by simpa using hlen, by simpa using h.ll, h.ts, by rw [set_getD (by omega)]; exact h.w0, by rw [set_getD (by omega)]; exact h.w1, ?_, ?_, ?_⟩, fun _ => ?_⟩
      · intro j y hy
        by_cases e : i = j
        · subst e
          rw [List.getElem?_set_self hil] at hy
          cases hy
          exact ⟨rfl, rfl, fun q => absurd rfl q, .inr (.inr (.inr (.inl ⟨.inr (.inr ⟨rfl, rfl⟩), p, q1, q2, rfl⟩)))⟩
        · rw [List.getElem?_set_ne e] at hy
          exact h.ops j y hy
      · intro q hq
        by_cases e : q = p
        · subst e
          refine ⟨_, by rw [q2]; exact List.getElem?_set_self hil, rfl, .inr (.inr ⟨rfl, rfl, ?_, ?_⟩)⟩
          · rw [set_getD_self (by omega)]
          · rw [set_getD (by omega)]; exact gd
        · obtain ⟨y, f1, f2, f3⟩ := h.cl q hq
          refine ⟨y, by rw [List.getElem?_set_ne (fun z => others q hq e z.symm)]; exact f1, f2, ?_⟩
          rw [set_getD (by omega), set_getD (by omega)]; exact f3
      · intro q hq1 hq2
        rw [set_getD (by omega)]; exact h.un q hq1 hq2
      · simp [mu]
    · exact absurd rfl p5
  · exact absurd g p5
end
end Go.Proofs.Ytgipbamdefjenaa
