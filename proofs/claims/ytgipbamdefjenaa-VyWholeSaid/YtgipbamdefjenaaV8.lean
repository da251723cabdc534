/- A ring alone: how many steps. -/
import Derived.Test.YtgipbamdefjenaaV7
import Derived.Test.YtgipbamdefjenaaD1
namespace Go.Proofs.Ytgipbamdefjenaa
open Go Go.LK
set_option linter.unusedSimpArgs false
set_option linter.unusedVariables false
theorem step_few {x : VOp} {m : MV} {n : Nat} (h : m.Few n) (hn : n < 1000000000) : ∃ n', n' ≤ n + 1 ∧ (x.step m).2.Few n' := by
  unfold VOp.step
  split
  · exact ⟨n, by omega, h⟩
  split
  · exact ⟨n + 1, Nat.le_refl _, by dsimp only; exact h.use hn _ _ _⟩
  split
  · exact ⟨n + 1, Nat.le_refl _, by dsimp only; exact h.use hn _ _ _⟩
  split
  · split
    · exact ⟨n + 1, Nat.le_refl _, by dsimp only; exact h.use hn _ _ _⟩
    · exact ⟨n + 1, Nat.le_refl _, by dsimp only; exact h.use hn _ _ _⟩
  split
  · exact ⟨n + 1, Nat.le_refl _, by dsimp only; exact h.use hn _ _ _⟩
  · exact ⟨n + 1, Nat.le_refl _, by dsimp only; exact h.use hn _ _ _⟩
theorem runs_few : ∀ (k : Nat) {z : VOp × MV} {n : Nat}, z.2.Few n → n + k < 1000000000 → ∃ n', n' ≤ n + k ∧ (runs k z).2.Few n'
  | 0, z, n, h, _ => ⟨n, by omega, h⟩
  | k + 1, z, n, h, hn => by
    obtain ⟨n1, h1, f1⟩ := step_few (x := z.1) h (by omega)
    obtain ⟨n2, h2, f2⟩ := runs_few k (z := z.1.step z.2) f1 (by omega)
    exact ⟨n2, by omega, f2⟩
theorem runs_succ : ∀ (k : Nat) (z : VOp × MV), runs (k + 1) z = ((runs k z).1.step (runs k z).2)
  | 0, z => rfl
  | k + 1, z => by
    show runs (k + 1) (z.1.step z.2) = _
    rw [runs_succ k]; rfl
theorem step_r (x : VOp) (m : MV) : (x.step m).1.r = x.r := by
  unfold VOp.step VOp.fin
  dsimp only
  repeat' (first | rfl | split)
theorem step_len (x : VOp) (m : MV) : (x.step m).2.w.length = m.w.length ∧ (x.step m).2.bar = m.bar := by
  unfold VOp.step
  split; · exact ⟨rfl, rfl⟩
  split; · exact MV.use_len _ _ _ _
  split; · exact MV.use_len _ _ _ _
  split
  · split <;> exact MV.use_len _ _ _ _
  split <;> exact MV.use_len _ _ _ _
theorem runs_r : ∀ (k : Nat) (z : VOp × MV), (runs k z).1.r = z.1.r
  | 0, z => rfl
  | k + 1, z => by rw [runs_succ, step_r, runs_r k z]
theorem runs_len : ∀ (k : Nat) (z : VOp × MV), (runs k z).2.w.length = z.2.w.length ∧ (runs k z).2.bar = z.2.bar
  | 0, z => ⟨rfl, rfl⟩
  | k + 1, z => by
    rw [runs_succ]
    have h1 := step_len (runs k z).1 (runs k z).2
    have h2 := runs_len k z
    exact ⟨h1.1.trans h2.1, h1.2.trans h2.2⟩
end Go.Proofs.Ytgipbamdefjenaa
