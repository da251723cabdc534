/- A ring of numbers, and threads that put in and take out step by step: plain. -/
import Derived.Test.YtgipbamdefjenaaS0
namespace Go.Proofs.Ytgipbamdefjenaa
set_option linter.unusedSimpArgs false
set_option linter.unusedVariables false
/-- An operation: does it take, where it stands, its position, its number. -/
structure LOp where
  tk : Bool
  st : Nat
  p : Nat
  v : BitVec 64
/-- A ring: cells, the words in and out, the cells' numbers and data, and what was put in at each position. -/
structure RS where
  s : Nat
  T : Nat
  O : Nat
  sq : Nat → Nat
  dat : Nat → BitVec 64
  vals : Nat → BitVec 64
abbrev LL := Nat → Option LOp
def upd {α : Type} (f : Nat → α) (i : Nat) (x : α) : Nat → α := fun j => if j = i then x else f j
theorem upd_same {α : Type} (f : Nat → α) (i : Nat) (x : α) : upd f i x i = x := by simp [upd]
theorem upd_ne {α : Type} {f : Nat → α} {i j : Nat} {x : α} (h : j ≠ i) : upd f i x j = f j := by simp [upd, h]
def OpI (R : RS) (o : LOp) : Prop :=
  (o.st = 0) ∨ (o.st = 1 ∧ o.p ≤ if o.tk = true then R.O else R.T) ∨
  (o.st = 2 ∧ o.tk = false ∧ o.p ≤ R.T ∧ (o.p = R.T → R.sq (o.p % R.s) = o.p)) ∨
  (o.st = 2 ∧ o.tk = true ∧ o.p ≤ R.O ∧ (o.p = R.O → R.sq (o.p % R.s) = o.p + 1)) ∨
  (o.st = 3 ∧ o.tk = false ∧ o.p < R.T ∧ R.sq (o.p % R.s) = o.p ∧ o.v = R.vals o.p) ∨
  (o.st = 4 ∧ o.tk = false ∧ o.p < R.T ∧ R.sq (o.p % R.s) = o.p ∧ o.v = R.vals o.p ∧ R.dat (o.p % R.s) = R.vals o.p) ∨
  (o.st = 3 ∧ o.tk = true ∧ o.p < R.O ∧ R.sq (o.p % R.s) = o.p + 1 ∧ R.dat (o.p % R.s) = R.vals o.p) ∨
  (o.st = 4 ∧ o.tk = true ∧ o.p < R.O ∧ R.sq (o.p % R.s) = o.p + 1 ∧ R.dat (o.p % R.s) = R.vals o.p ∧ o.v = R.vals o.p)
structure RI (R : RS) (L : LL) : Prop where
  s2 : 2 ≤ R.s
  ot : R.O ≤ R.T
  ts : R.T ≤ R.O + R.s
  op : ∀ i o, L i = some o → OpI R o
  un : ∀ i j o o', L i = some o → L j = some o' → 3 ≤ o.st → 3 ≤ o'.st → o.tk = o'.tk → o.p = o'.p → i = j
  inn : ∀ p, R.O ≤ p → p < R.T → (R.sq (p % R.s) = p ∧ ∃ i o, L i = some o ∧ o.tk = false ∧ 3 ≤ o.st ∧ o.p = p) ∨ (R.sq (p % R.s) = p + 1 ∧ R.dat (p % R.s) = R.vals p)
  out : ∀ p, p < R.O → (R.sq (p % R.s) = p + 1 ∧ ∃ i o, L i = some o ∧ o.tk = true ∧ 3 ≤ o.st ∧ o.p = p) ∨ p + R.s ≤ R.sq (p % R.s)
  lo : ∀ j, j < R.s → j ≤ R.sq j
  hi : ∀ p, R.T ≤ p → R.sq (p % R.s) ≤ p
/-- Positions of one cell are a whole ring apart. -/
theorem apart {s p q : Nat} (h2 : 2 ≤ s) (h : p % s = q % s) (h1 : q = p + 1) : False := by
  subst h1
  rw [Nat.add_mod] at h
  have := Nat.mod_lt p (show 0 < s by omega)
  rw [Nat.mod_eq_of_lt (show 1 < s by omega)] at h
  rcases Nat.lt_or_ge (p % s + 1) s with g | g
  · rw [Nat.mod_eq_of_lt g] at h; omega
  · have : p % s + 1 = s := by omega
    rw [this, Nat.mod_self] at h; omega
theorem jump {s p q : Nat} (h2 : 2 ≤ s) (h : p % s = q % s) (h1 : p < q) : p + s ≤ q := by
  have h3 := Nat.div_add_mod p s
  have h4 := Nat.div_add_mod q s
  have h5 : p / s < q / s := by
    refine Nat.lt_of_not_le fun g => ?_
    have := Nat.mul_le_mul_left s g
    omega
  have h6 := Nat.mul_le_mul_left s (show p / s + 1 ≤ q / s from h5)
  rw [Nat.mul_add, Nat.mul_one] at h6
  omega
section
variable {R : RS} {L : LL} {i : Nat} {o : LOp}
/-- A step that touches no word of the ring. -/
theorem RI.idle (h : RI R L) (hi : L i = some o) (hb : o.st < 3) {o' : LOp} (hp : OpI R o') (hb' : o'.st < 3) : RI R (upd L i (some o')) := by
  have key : ∀ j x, upd L i (some o') j = some x → 3 ≤ x.st → L j = some x := by
    intro j x hx h3
    by_cases e : j = i
    · subst e; rw [upd_same] at hx; cases hx; omega
    · rw [upd_ne e] at hx; exact hx
  have back : ∀ j x, L j = some x → 3 ≤ x.st → upd L i (some o') j = some x := by
    intro j x hx h3
    by_cases e : j = i
    · subst e; rw [hi] at hx; cases hx; omega
    · rw [upd_ne e]; exact hx
  refine ⟨h.s2, h.ot, h.ts, fun j x hx => ?_, fun j k x y hx hy h1 h2 => h.un j k x y (key j x hx h1) (key k y hy h2) h1 h2, fun p h1 h2 => ?_, fun p h1 => ?_, h.lo, h.hi⟩
  · by_cases e : j = i
    · subst e; rw [upd_same] at hx; cases hx; exact hp
    · rw [upd_ne e] at hx; exact h.op j x hx
  · rcases h.inn p h1 h2 with ⟨a, j, x, b, c, d, e⟩ | g
    · exact .inl ⟨a, j, x, back j x b d, c, d, e⟩
    · exact .inr g
  · rcases h.out p h1 with ⟨a, j, x, b, c, d, e⟩ | g
    · exact .inl ⟨a, j, x, back j x b d, c, d, e⟩
    · exact .inr g
/-- A Put's cell is not free: the ring is full, or who takes there has not done so. -/
theorem RI.full (h : RI R L) {p : Nat} (hp : p ≤ R.T) (hq : R.sq (p % R.s) < p) : R.T = R.O + R.s ∨ ∃ j x, L j = some x ∧ x.tk = true ∧ 3 ≤ x.st := by
  have h2 := h.s2
  have hts := h.ts
  by_cases hps : p < R.s
  · have := h.lo p hps
    rw [Nat.mod_eq_of_lt hps] at hq; omega
  · have e : (p - R.s) % R.s = p % R.s := by rw [← Nat.mod_eq_sub_mod (by omega)]
    by_cases ho : p - R.s < R.O
    · rcases h.out _ ho with ⟨_, j, x, b, c, d, _⟩ | g
      · exact .inr ⟨j, x, b, c, d⟩
      · rw [e] at g; omega
    · exact .inl (by omega)
/-- A Take's cell has nothing: the ring is empty, or who puts there has not done so. -/
theorem RI.empty (h : RI R L) {p : Nat} (hp : p ≤ R.O) (hq : R.sq (p % R.s) < p + 1) : R.T = R.O ∨ ∃ j x, L j = some x ∧ x.tk = false ∧ 3 ≤ x.st := by
  have h2 := h.s2
  have hot := h.ot
  by_cases ht : p < R.T
  · by_cases ho : p < R.O
    · rcases h.out _ ho with ⟨g, _⟩ | g <;> omega
    · rcases h.inn p (by omega) ht with ⟨_, j, x, b, c, d, _⟩ | ⟨g, _⟩
      · exact .inr ⟨j, x, b, c, d⟩
      · omega
  · exact .inl (by omega)
end
end Go.Proofs.Ytgipbamdefjenaa
/- A ring of numbers: what each step does. -/
namespace Go.Proofs.Ytgipbamdefjenaa
set_option linter.unusedSimpArgs false
set_option linter.unusedVariables false
section
variable {R : RS} {L : LL} {i : Nat} {o : LOp}
/-- Who stands behind a claim. -/
theorem RI.put3 (h : RI R L) {j : Nat} {x : LOp} (hj : L j = some x) (h3 : 3 ≤ x.st) (ht : x.tk = false) : x.p < R.T ∧ R.sq (x.p % R.s) = x.p := by
  rcases h.op j x hj with g | g | g | g | g | g | g | g <;> first | (exfalso; omega) | exact ⟨g.2.2.1, g.2.2.2.1⟩ | (rw [g.2.1] at ht; cases ht)
theorem RI.take3 (h : RI R L) {j : Nat} {x : LOp} (hj : L j = some x) (h3 : 3 ≤ x.st) (ht : x.tk = true) : x.p < R.O ∧ R.sq (x.p % R.s) = x.p + 1 := by
  rcases h.op j x hj with g | g | g | g | g | g | g | g <;> first | (exfalso; omega) | exact ⟨g.2.2.1, g.2.2.2.1⟩ | (rw [g.2.1] at ht; cases ht)
theorem RI.room (h : RI R L) (hp : R.sq (R.T % R.s) = R.T) : R.T < R.O + R.s := by
  have h2 := h.s2
  refine Nat.lt_of_not_le fun g => ?_
  have e : R.T = R.O + R.s := by have := h.ts; omega
  have e2 : R.O % R.s = R.T % R.s := by rw [e]; simp
  rcases h.inn R.O (Nat.le_refl _) (by omega) with ⟨g, _⟩ | ⟨g, _⟩ <;> rw [e2, hp] at g <;> omega
theorem RI.some_ (h : RI R L) (hp : R.sq (R.O % R.s) = R.O + 1) : R.O < R.T := by
  refine Nat.lt_of_not_le fun g => ?_
  have := h.hi R.O g
  omega
/-- A Put takes its position. -/
theorem RI.claimPut (h : RI R L) (hi : L i = some o) (hs : o.st = 2) (ht : o.tk = false) (hp : o.p = R.T) :
    RI { R with T := R.T + 1, vals := upd R.vals R.T o.v } (upd L i (some { o with st := 3 })) := by
  have h2 := h.s2
  have hsq : R.sq (o.p % R.s) = o.p := by
    rcases h.op i o hi with g | g | g | g | g | g | g | g <;> first | (exfalso; omega) | exact g.2.2.2 hp | (rw [g.2.1] at ht; cases ht)
  have hrm := h.room (by rw [← hp]; exact hsq)
  have hot := h.ot
  have key : ∀ j x, upd L i (some { o with st := 3 }) j = some x → (j = i ∧ x = { o with st := 3 }) ∨ (j ≠ i ∧ L j = some x) := by
    intro j x hx
    by_cases e : j = i
    · subst e; rw [upd_same] at hx; cases hx; exact .inl ⟨rfl, rfl⟩
    · rw [upd_ne e] at hx; exact .inr ⟨e, hx⟩
  have back : ∀ j x, L j = some x → 3 ≤ x.st → upd L i (some { o with st := 3 }) j = some x := by
    intro j x hx h3
    by_cases e : j = i
    · subst e; rw [hi] at hx; cases hx; omega
    · rw [upd_ne e]; exact hx
  have vne : ∀ q, q < R.T → upd R.vals R.T o.v q = R.vals q := fun q hq => upd_ne (by omega)
  refine ⟨h2, by show R.O ≤ R.T + 1; omega, by show R.T + 1 ≤ R.O + R.s; omega, fun j x hx => ?_, ?_, ?_, ?_, h.lo, ?_⟩
  · rcases key j x hx with ⟨rfl, rfl⟩ | ⟨e, hx⟩
    · refine .inr (.inr (.inr (.inr (.inl ⟨rfl, ht, ?_, hsq, ?_⟩))))
      · show o.p < R.T + 1; omega
      · show o.v = upd R.vals R.T o.v o.p
        rw [hp, upd_same]
    · unfold OpI
      simp only
      rcases h.op j x hx with g | g | g | g | g | g | g | g
      · exact .inl g
      · refine .inr (.inl ⟨g.1, ?_⟩)
        have := g.2
        split at this <;> simp_all <;> omega
      · exact .inr (.inr (.inl ⟨g.1, g.2.1, by omega, fun q => by omega⟩))
      · exact .inr (.inr (.inr (.inl g)))
      · exact .inr (.inr (.inr (.inr (.inl ⟨g.1, g.2.1, by omega, g.2.2.2.1, by rw [vne _ g.2.2.1]; exact g.2.2.2.2⟩))))
      · exact .inr (.inr (.inr (.inr (.inr (.inl ⟨g.1, g.2.1, by omega, g.2.2.2.1, by rw [vne _ g.2.2.1]; exact g.2.2.2.2.1, by rw [vne _ g.2.2.1]; exact g.2.2.2.2.2⟩)))))
      · exact .inr (.inr (.inr (.inr (.inr (.inr (.inl ⟨g.1, g.2.1, g.2.2.1, g.2.2.2.1, by rw [vne _ (by omega)]; exact g.2.2.2.2⟩))))))
      · exact .inr (.inr (.inr (.inr (.inr (.inr (.inr ⟨g.1, g.2.1, g.2.2.1, g.2.2.2.1, by rw [vne _ (by omega)]; exact g.2.2.2.2.1, by rw [vne _ (by omega)]; exact g.2.2.2.2.2⟩))))))
  · intro j k x y hx hy h3 h4 h5 h6
    rcases key j x hx with ⟨rfl, rfl⟩ | ⟨e, gx⟩ <;> rcases key k y hy with ⟨rfl, rfl⟩ | ⟨e', gy⟩
    · rfl
    · have := (h.put3 gy h4 (by rw [← h5]; exact ht)).1
      simp only at h6; omega
    · have := (h.put3 gx h3 (by rw [h5]; exact ht)).1
      simp only at h6; omega
    · exact h.un j k x y gx gy h3 h4 h5 h6
  · intro q h3 h4
    simp only at h3 h4 ⊢
    by_cases e : q = R.T
    · subst e
      exact .inl ⟨by rw [← hp]; exact hsq, i, _, upd_same _ _ _, ht, Nat.le_refl 3, hp⟩
    · rcases h.inn q h3 (by omega) with ⟨a, j, x, b, c, d, f⟩ | g
      · exact .inl ⟨a, j, x, back j x b d, c, d, f⟩
      · exact .inr ⟨g.1, by rw [vne _ (by omega)]; exact g.2⟩
  · intro q h3
    simp only at h3 ⊢
    rcases h.out q h3 with ⟨a, j, x, b, c, d, f⟩ | g
    · exact .inl ⟨a, j, x, back j x b d, c, d, f⟩
    · exact .inr g
  · intro q hq
    simp only at hq ⊢
    exact h.hi q (by omega)
/-- A Take takes its position. -/
theorem RI.claimTake (h : RI R L) (hi : L i = some o) (hs : o.st = 2) (ht : o.tk = true) (hp : o.p = R.O) :
    R.O < R.T ∧ RI { R with O := R.O + 1 } (upd L i (some { o with st := 3 })) := by
  have h2 := h.s2
  have hsq : R.sq (o.p % R.s) = o.p + 1 := by
    rcases h.op i o hi with g | g | g | g | g | g | g | g <;> first | (exfalso; omega) | exact g.2.2.2 hp | (rw [g.2.1] at ht; cases ht)
  have hsm := h.some_ (by rw [← hp]; exact hsq)
  have hts := h.ts
  have hdat : R.dat (o.p % R.s) = R.vals o.p := by
    rcases h.inn o.p (by omega) (by omega) with ⟨g, _⟩ | ⟨_, g⟩
    · omega
    · exact g
  have key : ∀ j x, upd L i (some { o with st := 3 }) j = some x → (j = i ∧ x = { o with st := 3 }) ∨ (j ≠ i ∧ L j = some x) := by
    intro j x hx
    by_cases e : j = i
    · subst e; rw [upd_same] at hx; cases hx; exact .inl ⟨rfl, rfl⟩
    · rw [upd_ne e] at hx; exact .inr ⟨e, hx⟩
  have back : ∀ j x, L j = some x → 3 ≤ x.st → upd L i (some { o with st := 3 }) j = some x := by
    intro j x hx h3
    by_cases e : j = i
    · subst e; rw [hi] at hx; cases hx; omega
    · rw [upd_ne e]; exact hx
  refine ⟨hsm, h2, by show R.O + 1 ≤ R.T; omega, by show R.T ≤ R.O + 1 + R.s; omega, fun j x hx => ?_, ?_, ?_, ?_, h.lo, h.hi⟩
  · rcases key j x hx with ⟨rfl, rfl⟩ | ⟨e, hx⟩
    · exact .inr (.inr (.inr (.inr (.inr (.inr (.inl ⟨rfl, ht, by show o.p < R.O + 1; omega, hsq, hdat⟩))))))
    · unfold OpI
      simp only
      rcases h.op j x hx with g | g | g | g | g | g | g | g
      · exact .inl g
      · refine .inr (.inl ⟨g.1, ?_⟩)
        have := g.2
        split at this <;> simp_all <;> omega
      · exact .inr (.inr (.inl g))
      · exact .inr (.inr (.inr (.inl ⟨g.1, g.2.1, by omega, fun q => by omega⟩)))
      · exact .inr (.inr (.inr (.inr (.inl g))))
      · exact .inr (.inr (.inr (.inr (.inr (.inl g)))))
      · exact .inr (.inr (.inr (.inr (.inr (.inr (.inl ⟨g.1, g.2.1, by omega, g.2.2.2.1, g.2.2.2.2⟩))))))
      · exact .inr (.inr (.inr (.inr (.inr (.inr (.inr ⟨g.1, g.2.1, by omega, g.2.2.2.1, g.2.2.2.2⟩))))))
  · intro j k x y hx hy h3 h4 h5 h6
    rcases key j x hx with ⟨rfl, rfl⟩ | ⟨e, gx⟩ <;> rcases key k y hy with ⟨rfl, rfl⟩ | ⟨e', gy⟩
    · rfl
    · have := (h.take3 gy h4 (by rw [← h5]; exact ht)).1
      simp only at h6; omega
    · have := (h.take3 gx h3 (by rw [h5]; exact ht)).1
      simp only at h6; omega
    · exact h.un j k x y gx gy h3 h4 h5 h6
  · intro q h3 h4
    simp only at h3 h4 ⊢
    rcases h.inn q (by omega) h4 with ⟨a, j, x, b, c, d, f⟩ | g
    · exact .inl ⟨a, j, x, back j x b d, c, d, f⟩
    · exact .inr g
  · intro q h3
    simp only at h3 ⊢
    by_cases e : q = R.O
    · subst e
      exact .inl ⟨by rw [← hp]; exact hsq, i, _, upd_same _ _ _, ht, Nat.le_refl 3, hp⟩
    · rcases h.out q (by omega) with ⟨a, j, x, b, c, d, f⟩ | g
      · exact .inl ⟨a, j, x, back j x b d, c, d, f⟩
      · exact .inr g
end
end Go.Proofs.Ytgipbamdefjenaa
/- A ring of numbers: moves, and what is let go. -/
namespace Go.Proofs.Ytgipbamdefjenaa
set_option linter.unusedSimpArgs false
set_option linter.unusedVariables false
section
variable {R : RS} {L : LL} {i : Nat} {o : LOp}
/-- Who stands behind a claim has its cell alone. -/
theorem RI.alone (h : RI R L) (hi : L i = some o) (h3 : 3 ≤ o.st) {j : Nat} {x : LOp} (hj : L j = some x) (g3 : 3 ≤ x.st) (he : x.p % R.s = o.p % R.s) : j = i := by
  have h2 := h.s2
  cases ht : o.tk
  · have a := h.put3 hi h3 ht
    cases hx : x.tk
    · have b := h.put3 hj g3 hx
      exact h.un j i x o hj hi g3 h3 (by rw [ht, hx]) (by rw [he] at b; omega)
    · have b := h.take3 hj g3 hx
      rw [he] at b
      exact (apart h2 he (by omega)).elim
  · have a := h.take3 hi h3 ht
    cases hx : x.tk
    · have b := h.put3 hj g3 hx
      rw [he] at b
      exact (apart h2 he.symm (by omega)).elim
    · have b := h.take3 hj g3 hx
      exact h.un j i x o hj hi g3 h3 (by rw [ht, hx]) (by rw [he] at b; omega)
/-- A Put lays its number down. -/
theorem RI.movePut (h : RI R L) (hi : L i = some o) (hs : o.st = 3) (ht : o.tk = false) :
    RI { R with dat := upd R.dat (o.p % R.s) o.v } (upd L i (some { o with st := 4 })) := by
  have h2 := h.s2
  have hp3 := h.put3 hi (by omega) ht
  have hv : o.v = R.vals o.p := by
    rcases h.op i o hi with g | g | g | g | g | g | g | g <;> first | (exfalso; omega) | exact g.2.2.2.2 | (rw [g.2.1] at ht; cases ht)
  have key : ∀ j x, upd L i (some { o with st := 4 }) j = some x → (j = i ∧ x = { o with st := 4 }) ∨ (j ≠ i ∧ L j = some x) := by
    intro j x hx
    by_cases e : j = i
    · subst e; rw [upd_same] at hx; cases hx; exact .inl ⟨rfl, rfl⟩
    · rw [upd_ne e] at hx; exact .inr ⟨e, hx⟩
  have back : ∀ j x, L j = some x → 3 ≤ x.st → ∃ y, upd L i (some { o with st := 4 }) j = some y ∧ y.tk = x.tk ∧ 3 ≤ y.st ∧ y.p = x.p := by
    intro j x hx h3
    by_cases e : j = i
    · subst e; rw [hi] at hx; cases hx
      exact ⟨_, upd_same _ _ _, rfl, by show 3 ≤ 4; omega, rfl⟩
    · exact ⟨x, by rw [upd_ne e]; exact hx, rfl, h3, rfl⟩
  have dne : ∀ j x, j ≠ i → L j = some x → 3 ≤ x.st → upd R.dat (o.p % R.s) o.v (x.p % R.s) = R.dat (x.p % R.s) := by
    intro j x e hx h3
    exact upd_ne fun q => e (h.alone hi (by omega) hx h3 q)
  refine ⟨h2, h.ot, h.ts, fun j x hx => ?_, ?_, ?_, ?_, h.lo, h.hi⟩
  · rcases key j x hx with ⟨rfl, rfl⟩ | ⟨e, gx⟩
    · exact .inr (.inr (.inr (.inr (.inr (.inl ⟨rfl, ht, hp3.1, hp3.2, hv, by show upd R.dat (o.p % R.s) o.v (o.p % R.s) = R.vals o.p; rw [upd_same]; exact hv⟩)))))
    · unfold OpI
      simp only
      rcases h.op j x gx with g | g | g | g | g | g | g | g
      · exact .inl g
      · exact .inr (.inl g)
      · exact .inr (.inr (.inl g))
      · exact .inr (.inr (.inr (.inl g)))
      · exact .inr (.inr (.inr (.inr (.inl g))))
      · exact .inr (.inr (.inr (.inr (.inr (.inl ⟨g.1, g.2.1, g.2.2.1, g.2.2.2.1, g.2.2.2.2.1, by rw [dne j x e gx (by omega)]; exact g.2.2.2.2.2⟩)))))
      · exact .inr (.inr (.inr (.inr (.inr (.inr (.inl ⟨g.1, g.2.1, g.2.2.1, g.2.2.2.1, by rw [dne j x e gx (by omega)]; exact g.2.2.2.2⟩))))))
      · exact .inr (.inr (.inr (.inr (.inr (.inr (.inr ⟨g.1, g.2.1, g.2.2.1, g.2.2.2.1, by rw [dne j x e gx (by omega)]; exact g.2.2.2.2.1, g.2.2.2.2.2⟩))))))
  · intro j k x y hx hy h3 h4 h5 h6
    rcases key j x hx with ⟨e1, rfl⟩ | ⟨e, gx⟩ <;> rcases key k y hy with ⟨e2, rfl⟩ | ⟨e', gy⟩
    · rw [e1, e2]
    · subst e1; exact h.un j k o y hi gy (by omega) h4 h5 h6
    · subst e2; exact h.un j k x o gx hi h3 (by omega) h5 h6
    · exact h.un j k x y gx gy h3 h4 h5 h6
  · intro q h3 h4
    simp only at h3 h4 ⊢
    rcases h.inn q h3 h4 with ⟨a, j, x, b, c, d, f⟩ | g
    · obtain ⟨y, y1, y2, y3, y4⟩ := back j x b d
      exact .inl ⟨a, j, y, y1, y2.trans c, y3, y4.trans f⟩
    · refine .inr ⟨g.1, ?_⟩
      rw [upd_ne fun e => ?_]
      · exact g.2
      · rw [e, hp3.2] at g
        exact apart h2 e g.1
  · intro q h3
    simp only at h3 ⊢
    rcases h.out q h3 with ⟨a, j, x, b, c, d, f⟩ | g
    · obtain ⟨y, y1, y2, y3, y4⟩ := back j x b d
      exact .inl ⟨a, j, y, y1, y2.trans c, y3, y4.trans f⟩
    · exact .inr g
/-- A Take takes its number up. -/
theorem RI.moveTake (h : RI R L) (hi : L i = some o) (hs : o.st = 3) (ht : o.tk = true) :
    RI R (upd L i (some { o with st := 4, v := R.dat (o.p % R.s) })) := by
  have h2 := h.s2
  have hp3 := h.take3 hi (by omega) ht
  have hd : R.dat (o.p % R.s) = R.vals o.p := by
    rcases h.op i o hi with g | g | g | g | g | g | g | g <;> first | (exfalso; omega) | exact g.2.2.2.2 | (rw [g.2.1] at ht; cases ht)
  have key : ∀ j x, upd L i (some { o with st := 4, v := R.dat (o.p % R.s) }) j = some x → (j = i ∧ x = { o with st := 4, v := R.dat (o.p % R.s) }) ∨ (j ≠ i ∧ L j = some x) := by
    intro j x hx
    by_cases e : j = i
    · subst e; rw [upd_same] at hx; cases hx; exact .inl ⟨rfl, rfl⟩
    · rw [upd_ne e] at hx; exact .inr ⟨e, hx⟩
  have back : ∀ j x, L j = some x → 3 ≤ x.st → ∃ y, upd L i (some { o with st := 4, v := R.dat (o.p % R.s) }) j = some y ∧ y.tk = x.tk ∧ 3 ≤ y.st ∧ y.p = x.p := by
    intro j x hx h3
    by_cases e : j = i
    · subst e; rw [hi] at hx; cases hx
      exact ⟨_, upd_same _ _ _, rfl, by show 3 ≤ 4; omega, rfl⟩
    · exact ⟨x, by rw [upd_ne e]; exact hx, rfl, h3, rfl⟩
  refine ⟨h2, h.ot, h.ts, fun j x hx => ?_, ?_, ?_, ?_, h.lo, h.hi⟩
  · rcases key j x hx with ⟨rfl, rfl⟩ | ⟨e, gx⟩
    · exact .inr (.inr (.inr (.inr (.inr (.inr (.inr ⟨rfl, ht, hp3.1, hp3.2, hd, hd⟩))))))
    · exact h.op j x gx
  · intro j k x y hx hy h3 h4 h5 h6
    rcases key j x hx with ⟨e1, rfl⟩ | ⟨e, gx⟩ <;> rcases key k y hy with ⟨e2, rfl⟩ | ⟨e', gy⟩
    · rw [e1, e2]
    · subst e1; exact h.un j k o y hi gy (by omega) h4 h5 h6
    · subst e2; exact h.un j k x o gx hi h3 (by omega) h5 h6
    · exact h.un j k x y gx gy h3 h4 h5 h6
  · intro q h3 h4
    rcases h.inn q h3 h4 with ⟨a, j, x, b, c, d, f⟩ | g
    · obtain ⟨y, y1, y2, y3, y4⟩ := back j x b d
      exact .inl ⟨a, j, y, y1, y2.trans c, y3, y4.trans f⟩
    · exact .inr g
  · intro q h3
    rcases h.out q h3 with ⟨a, j, x, b, c, d, f⟩ | g
    · obtain ⟨y, y1, y2, y3, y4⟩ := back j x b d
      exact .inl ⟨a, j, y, y1, y2.trans c, y3, y4.trans f⟩
    · exact .inr g
end
end Go.Proofs.Ytgipbamdefjenaa
/- A ring of numbers: cells that are let go. -/
namespace Go.Proofs.Ytgipbamdefjenaa
set_option linter.unusedSimpArgs false
set_option linter.unusedVariables false
section
variable {R : RS} {L : LL} {i : Nat} {o : LOp}
theorem gone {j : Nat} {x : LOp} (hx : upd L i none j = some x) : j ≠ i ∧ L j = some x := by
  by_cases e : j = i
  · subst e; rw [upd_same] at hx; cases hx
  · rw [upd_ne e] at hx; exact ⟨e, hx⟩
theorem stays {j : Nat} {x : LOp} (e : j ≠ i) (hx : L j = some x) : upd L i none j = some x := by rw [upd_ne e]; exact hx
/-- A Put lets its cell go. -/
theorem RI.freePut (h : RI R L) (hi : L i = some o) (hs : o.st = 4) (ht : o.tk = false) :
    RI { R with sq := upd R.sq (o.p % R.s) (o.p + 1) } (upd L i none) := by
  have h2 := h.s2
  have hot := h.ot
  have hp3 := h.put3 hi (by omega) ht
  have hd : R.dat (o.p % R.s) = R.vals o.p := by
    rcases h.op i o hi with g | g | g | g | g | g | g | g <;> first | (exfalso; omega) | exact g.2.2.2.2.2 | (rw [g.2.1] at ht; cases ht)
  refine ⟨h2, h.ot, h.ts, fun j x hx => ?_, ?_, ?_, ?_, ?_, ?_⟩
  · obtain ⟨e, gx⟩ := gone hx
    have ne3 : 3 ≤ x.st → upd R.sq (o.p % R.s) (o.p + 1) (x.p % R.s) = R.sq (x.p % R.s) := fun g3 => upd_ne fun q => e (h.alone hi (by omega) gx g3 q)
    unfold OpI
    simp only
    rcases h.op j x gx with g | g | g | g | g | g | g | g
    · exact .inl g
    · exact .inr (.inl g)
    · refine .inr (.inr (.inl ⟨g.1, g.2.1, g.2.2.1, fun q => ?_⟩))
      have g4 := g.2.2.2 q
      rw [upd_ne fun e2 => ?_]
      · exact g4
      · rw [e2] at g4; omega
    · refine .inr (.inr (.inr (.inl ⟨g.1, g.2.1, g.2.2.1, fun q => ?_⟩)))
      have g4 := g.2.2.2 q
      rw [upd_ne fun e2 => ?_]
      · exact g4
      · rw [e2] at g4
        exact apart h2 e2 (by omega)
    · exact .inr (.inr (.inr (.inr (.inl ⟨g.1, g.2.1, g.2.2.1, by rw [ne3 (by omega)]; exact g.2.2.2.1, g.2.2.2.2⟩))))
    · exact .inr (.inr (.inr (.inr (.inr (.inl ⟨g.1, g.2.1, g.2.2.1, by rw [ne3 (by omega)]; exact g.2.2.2.1, g.2.2.2.2⟩)))))
    · exact .inr (.inr (.inr (.inr (.inr (.inr (.inl ⟨g.1, g.2.1, g.2.2.1, by rw [ne3 (by omega)]; exact g.2.2.2.1, g.2.2.2.2⟩))))))
    · exact .inr (.inr (.inr (.inr (.inr (.inr (.inr ⟨g.1, g.2.1, g.2.2.1, by rw [ne3 (by omega)]; exact g.2.2.2.1, g.2.2.2.2⟩))))))
  · intro j k x y hx hy h3 h4 h5 h6
    exact h.un j k x y (gone hx).2 (gone hy).2 h3 h4 h5 h6
  · intro q h3 h4
    simp only at h3 h4 ⊢
    by_cases e : q % R.s = o.p % R.s
    · rcases h.inn q h3 h4 with ⟨a, _⟩ | ⟨a, _⟩
      · rw [e] at a
        have eq : q = o.p := by omega
        subst eq
        exact .inr ⟨upd_same _ _ _, hd⟩
      · rw [e] at a
        exact (apart h2 e (by omega)).elim
    · rw [upd_ne e]
      rcases h.inn q h3 h4 with ⟨a, j, x, b, c, d, f⟩ | g
      · exact .inl ⟨a, j, x, stays (fun e2 => by subst e2; rw [hi] at b; cases b; exact e (by rw [f])) b, c, d, f⟩
      · exact .inr g
  · intro q h3
    simp only at h3 ⊢
    by_cases e : q % R.s = o.p % R.s
    · rw [e, upd_same]
      rcases h.out q h3 with ⟨a, _⟩ | g
      · rw [e] at a
        exact (apart h2 e (by omega)).elim
      · rw [e] at g; exact .inr (by omega)
    · rw [upd_ne e]
      rcases h.out q h3 with ⟨a, j, x, b, c, d, f⟩ | g
      · exact .inl ⟨a, j, x, stays (fun e2 => by subst e2; rw [hi] at b; cases b; rw [ht] at c; cases c) b, c, d, f⟩
      · exact .inr g
  · intro j hj
    show j ≤ upd R.sq (o.p % R.s) (o.p + 1) j
    by_cases e : j = o.p % R.s
    · rw [e, upd_same]
      have := Nat.mod_le o.p R.s
      omega
    · rw [upd_ne e]; exact h.lo j hj
  · intro q hq
    show upd R.sq (o.p % R.s) (o.p + 1) (q % R.s) ≤ q
    change R.T ≤ q at hq
    by_cases e : q % R.s = o.p % R.s
    · rw [e, upd_same]; omega
    · rw [upd_ne e]; exact h.hi q hq
/-- A Take lets its cell go. -/
theorem RI.freeTake (h : RI R L) (hi : L i = some o) (hs : o.st = 4) (ht : o.tk = true) :
    o.v = R.vals o.p ∧ RI { R with sq := upd R.sq (o.p % R.s) (o.p + R.s) } (upd L i none) := by
  have h2 := h.s2
  have hot := h.ot
  have hp3 := h.take3 hi (by omega) ht
  have hv : o.v = R.vals o.p := by
    rcases h.op i o hi with g | g | g | g | g | g | g | g <;> first | (exfalso; omega) | exact g.2.2.2.2.2 | (rw [g.2.1] at ht; cases ht)
  refine ⟨hv, h2, h.ot, h.ts, fun j x hx => ?_, ?_, ?_, ?_, ?_, ?_⟩
  · obtain ⟨e, gx⟩ := gone hx
    have ne3 : 3 ≤ x.st → upd R.sq (o.p % R.s) (o.p + R.s) (x.p % R.s) = R.sq (x.p % R.s) := fun g3 => upd_ne fun q => e (h.alone hi (by omega) gx g3 q)
    unfold OpI
    simp only
    rcases h.op j x gx with g | g | g | g | g | g | g | g
    · exact .inl g
    · exact .inr (.inl g)
    · refine .inr (.inr (.inl ⟨g.1, g.2.1, g.2.2.1, fun q => ?_⟩))
      have g4 := g.2.2.2 q
      rw [upd_ne fun e2 => ?_]
      · exact g4
      · rw [e2] at g4
        exact apart h2 e2.symm (by omega)
    · refine .inr (.inr (.inr (.inl ⟨g.1, g.2.1, g.2.2.1, fun q => ?_⟩)))
      have g4 := g.2.2.2 q
      rw [upd_ne fun e2 => ?_]
      · exact g4
      · rw [e2] at g4; omega
    · exact .inr (.inr (.inr (.inr (.inl ⟨g.1, g.2.1, g.2.2.1, by rw [ne3 (by omega)]; exact g.2.2.2.1, g.2.2.2.2⟩))))
    · exact .inr (.inr (.inr (.inr (.inr (.inl ⟨g.1, g.2.1, g.2.2.1, by rw [ne3 (by omega)]; exact g.2.2.2.1, g.2.2.2.2⟩)))))
    · exact .inr (.inr (.inr (.inr (.inr (.inr (.inl ⟨g.1, g.2.1, g.2.2.1, by rw [ne3 (by omega)]; exact g.2.2.2.1, g.2.2.2.2⟩))))))
    · exact .inr (.inr (.inr (.inr (.inr (.inr (.inr ⟨g.1, g.2.1, g.2.2.1, by rw [ne3 (by omega)]; exact g.2.2.2.1, g.2.2.2.2⟩))))))
  · intro j k x y hx hy h3 h4 h5 h6
    exact h.un j k x y (gone hx).2 (gone hy).2 h3 h4 h5 h6
  · intro q h3 h4
    simp only at h3 h4 ⊢
    by_cases e : q % R.s = o.p % R.s
    · exfalso
      rcases h.inn q h3 h4 with ⟨a, _⟩ | ⟨a, _⟩
      · rw [e] at a
        exact apart h2 e.symm (by omega)
      · rw [e] at a; omega
    · rw [upd_ne e]
      rcases h.inn q h3 h4 with ⟨a, j, x, b, c, d, f⟩ | g
      · exact .inl ⟨a, j, x, stays (fun e2 => by subst e2; rw [hi] at b; cases b; rw [ht] at c; cases c) b, c, d, f⟩
      · exact .inr g
  · intro q h3
    simp only at h3 ⊢
    by_cases e : q % R.s = o.p % R.s
    · rw [e, upd_same]
      rcases h.out q h3 with ⟨a, _⟩ | g
      · rw [e] at a
        exact .inr (by omega)
      · rw [e] at g; exact .inr (by omega)
    · rw [upd_ne e]
      rcases h.out q h3 with ⟨a, j, x, b, c, d, f⟩ | g
      · exact .inl ⟨a, j, x, stays (fun e2 => by subst e2; rw [hi] at b; cases b; exact e (by rw [f])) b, c, d, f⟩
      · exact .inr g
  · intro j hj
    show j ≤ upd R.sq (o.p % R.s) (o.p + R.s) j
    by_cases e : j = o.p % R.s
    · rw [e, upd_same]
      have := Nat.mod_le o.p R.s
      omega
    · rw [upd_ne e]; exact h.lo j hj
  · intro q hq
    show upd R.sq (o.p % R.s) (o.p + R.s) (q % R.s) ≤ q
    change R.T ≤ q at hq
    by_cases e : q % R.s = o.p % R.s
    · rw [e, upd_same]; exact jump h2 e.symm (by omega)
    · rw [upd_ne e]; exact h.hi q hq
end
end Go.Proofs.Ytgipbamdefjenaa
