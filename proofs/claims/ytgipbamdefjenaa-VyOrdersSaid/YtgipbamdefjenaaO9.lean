/- A ring of numbers: operations that begin, or are refused; what is in it, as a queue. -/
import Derived.Test.YtgipbamdefjenaaO4
namespace Go.Proofs.Ytgipbamdefjenaa
set_option linter.unusedSimpArgs false
set_option linter.unusedVariables false
section
variable {R : RS} {L : LL} {i : Nat} {o : LOp}
/-- An operation begins. -/
theorem RI.begin (h : RI R L) (hi : L i = none) {o : LOp} (ho : o.st = 0) : RI R (upd L i (some o)) := by
  have key : ∀ j x, upd L i (some o) j = some x → 3 ≤ x.st → L j = some x := by
    intro j x hx h3
    by_cases e : j = i
    · subst e; rw [upd_same] at hx; cases hx; omega
    · rw [upd_ne e] at hx; exact hx
  have back : ∀ j x, L j = some x → upd L i (some o) j = some x := by
    intro j x hx
    by_cases e : j = i
    · subst e; rw [hi] at hx; cases hx
    · rw [upd_ne e]; exact hx
  refine ⟨h.s2, h.ot, h.ts, fun j x hx => ?_, fun j k x y hx hy h1 h2 => h.un j k x y (key j x hx h1) (key k y hy h2) h1 h2, fun p h1 h2 => ?_, fun p h1 => ?_, h.lo, h.hi⟩
  · by_cases e : j = i
    · subst e; rw [upd_same] at hx; cases hx; exact .inl ho
    · rw [upd_ne e] at hx; exact h.op j x hx
  · rcases h.inn p h1 h2 with ⟨a, j, x, b, c, d, e⟩ | g
    · exact .inl ⟨a, j, x, back j x b, c, d, e⟩
    · exact .inr g
  · rcases h.out p h1 with ⟨a, j, x, b, c, d, e⟩ | g
    · exact .inl ⟨a, j, x, back j x b, c, d, e⟩
    · exact .inr g
/-- An operation that has no place is refused. -/
theorem RI.drop (h : RI R L) (hi : L i = some o) (hb : o.st < 3) : RI R (upd L i none) := by
  have back : ∀ j x, L j = some x → 3 ≤ x.st → upd L i none j = some x := by
    intro j x hx h3
    refine stays ?_ hx
    rintro rfl
    rw [hi] at hx; cases hx; omega
  refine ⟨h.s2, h.ot, h.ts, fun j x hx => h.op j x (gone hx).2, fun j k x y hx hy => h.un j k x y (gone hx).2 (gone hy).2, fun p h1 h2 => ?_, fun p h1 => ?_, h.lo, h.hi⟩
  · rcases h.inn p h1 h2 with ⟨a, j, x, b, c, d, e⟩ | g
    · exact .inl ⟨a, j, x, back j x b d, c, d, e⟩
    · exact .inr g
  · rcases h.out p h1 with ⟨a, j, x, b, c, d, e⟩ | g
    · exact .inl ⟨a, j, x, back j x b d, c, d, e⟩
    · exact .inr g
/-- An empty ring. -/
theorem RI.new {s : Nat} (h2 : 2 ≤ s) (dat vals : Nat → BitVec 64) : RI ⟨s, 0, 0, fun j => j, dat, vals⟩ (fun _ => none) := by
  exact ⟨h2, Nat.le_refl _, Nat.zero_le _, (fun i o h => by simp at h), (fun i j o o' h => by simp at h), (fun p _ h => absurd h (Nat.not_lt_zero _)), (fun p h => absurd h (Nat.not_lt_zero _)), (fun j _ => Nat.le_refl _), (fun p _ => Nat.mod_le _ _)⟩
end
/-- What is in a ring. -/
def RS.q (R : RS) : List (BitVec 64) := (List.range (R.T - R.O)).map fun k => R.vals (R.O + k)
theorem RS.q_len (R : RS) : R.q.length = R.T - R.O := by simp [RS.q]
theorem q_put {R : RS} (h : R.O ≤ R.T) (v : BitVec 64) : ({ R with T := R.T + 1, vals := upd R.vals R.T v } : RS).q = R.q ++ [v] := by
  unfold RS.q
  simp only
  rw [show R.T + 1 - R.O = (R.T - R.O) + 1 by omega, List.range_succ, List.map_append, List.map_singleton]
  congr 1
  · apply List.map_congr_left
    intro k hk
    have := List.mem_range.1 hk
    exact upd_ne (by omega)
  · rw [show R.O + (R.T - R.O) = R.T by omega, upd_same]
theorem q_take {R : RS} (h : R.O < R.T) : R.q = R.vals R.O :: ({ R with O := R.O + 1 } : RS).q := by
  unfold RS.q
  simp only
  rw [show R.T - R.O = (R.T - (R.O + 1)) + 1 by omega, List.range_succ_eq_map, List.map_cons, List.map_map]
  congr 1
  apply List.map_congr_left
  intro k _
  show R.vals _ = R.vals _
  congr 1
  show R.O + (k + 1) = R.O + 1 + k
  omega
theorem q_none {R : RS} (h : R.T ≤ R.O) : R.q = [] := by
  unfold RS.q
  rw [show R.T - R.O = 0 by omega]; rfl
theorem q_eq {R R' : RS} (h1 : R'.T = R.T) (h2 : R'.O = R.O) (h3 : R'.vals = R.vals) : R'.q = R.q := by
  unfold RS.q; rw [h1, h2, h3]
end Go.Proofs.Ytgipbamdefjenaa
