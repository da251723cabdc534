/- Valid, worked out. -/
import Derived.Test.YtfobpjjpaehhpaaM0
namespace Go.Proofs.Ytfobpjjpaehhpaa
open Go Go.LK
set_option linter.unusedSimpArgs false
set_option linter.unusedVariables false
theorem aheadTo_bit {l : List CallD} {c : CallD} {i k : Nat} (hk : k < 64) : ∀ n, n ≤ 64 → ((aheadTo l c i n).getLsbD k = true ↔ k < n ∧ k ≠ i ∧ ∃ o, l[k]? = some o ∧ aheadF o c = true) := by
  intro n
  induction n with
  | zero => intro _; simp [aheadTo]
  | succ n ih =>
    intro hn
    have ih := ih (by omega)
    have split1 : ∀ p : Prop, (k < n + 1 ∧ p) ↔ (k < n ∧ p) ∨ (k = n ∧ p) := by
      intro p
      constructor
      · rintro ⟨h1, h2⟩
        by_cases e : k = n
        · exact .inr ⟨e, h2⟩
        · exact .inl ⟨by omega, h2⟩
      · rintro (⟨h1, h2⟩ | ⟨h1, h2⟩)
        · exact ⟨by omega, h2⟩
        · exact ⟨by omega, h2⟩
    rw [split1, ← ih, aheadTo]
    cases hq : l[n]? with
    | none =>
      simp only
      constructor
      · exact .inl
      · rintro (h | ⟨rfl, _, o, h2, _⟩)
        · exact h
        · rw [hq] at h2; cases h2
    | some d =>
      simp only
      by_cases hc : n ≠ i ∧ aheadF d c = true
      · rw [if_pos hc, get_with hk, Bool.or_eq_true, decide_eq_true_eq]
        constructor
        · rintro (h | rfl)
          · exact .inl h
          · exact .inr ⟨rfl, hc.1, d, hq, hc.2⟩
        · rintro (h | ⟨rfl, _⟩)
          · exact .inl h
          · exact .inr rfl
      · rw [if_neg hc]
        constructor
        · exact .inl
        · rintro (h | ⟨rfl, h1, o, h2, h3⟩)
          · exact h
          · rw [hq] at h2; cases h2
            exact absurd ⟨h1, h3⟩ hc
theorem ahB_bit {l : List CallD} {i k : Nat} {c : CallD} (hl : l.length ≤ 64) (hi : l[i]? = some c) (hk : k < 64) : (ahB l i).getLsbD k = true ↔ k ≠ i ∧ ∃ o, l[k]? = some o ∧ aheadF o c = true := by
  unfold ahB
  rw [hi]
  simp only
  rw [aheadTo_bit hk _ hl]
  constructor
  · exact fun h => h.2
  · rintro ⟨h1, o, h2, h3⟩
    exact ⟨(List.getElem?_eq_some_iff.1 h2).1, h1, o, h2, h3⟩
theorem doneTo_bit {l : List CallD} {k : Nat} (hk : k < 64) : ∀ n, n ≤ 64 → ((doneTo l n).getLsbD k = true ↔ k < n ∧ ∃ o, l[k]? = some o ∧ o.dn = true) := by
  intro n
  induction n with
  | zero => intro _; simp [doneTo]
  | succ n ih =>
    intro hn
    have ih := ih (by omega)
    have split1 : ∀ p : Prop, (k < n + 1 ∧ p) ↔ (k < n ∧ p) ∨ (k = n ∧ p) := by
      intro p
      constructor
      · rintro ⟨h1, h2⟩
        by_cases e : k = n
        · exact .inr ⟨e, h2⟩
        · exact .inl ⟨by omega, h2⟩
      · rintro (⟨h1, h2⟩ | ⟨h1, h2⟩)
        · exact ⟨by omega, h2⟩
        · exact ⟨by omega, h2⟩
    rw [split1, ← ih, doneTo]
    cases hq : l[n]? with
    | none =>
      simp only
      constructor
      · exact .inl
      · rintro (h | ⟨rfl, o, h2, _⟩)
        · exact h
        · rw [hq] at h2; cases h2
    | some d =>
      simp only
      by_cases hc : d.dn = true
      · rw [if_pos hc, get_with hk, Bool.or_eq_true, decide_eq_true_eq]
        constructor
        · rintro (h | rfl)
          · exact .inl h
          · exact .inr ⟨rfl, d, hq, hc⟩
        · rintro (h | ⟨rfl, _⟩)
          · exact .inl h
          · exact .inr rfl
      · rw [if_neg hc]
        constructor
        · exact .inl
        · rintro (h | ⟨rfl, o, h2, h3⟩)
          · exact h
          · rw [hq] at h2; cases h2
            exact absurd h3 hc
theorem done_bit {l : List CallD} {k : Nat} (hl : l.length ≤ 64) (hk : k < 64) : (doneTo l l.length).getLsbD k = true ↔ ∃ o, l[k]? = some o ∧ o.dn = true := by
  rw [doneTo_bit hk _ hl]
  constructor
  · exact fun h => h.2
  · rintro ⟨o, h2, h3⟩
    exact ⟨(List.getElem?_eq_some_iff.1 h2).1, o, h2, h3⟩
theorem ah_sub {l : List CallD} {i : Nat} {c : CallD} {u : BitVec 64} (hl : l.length ≤ 64) (hi : l[i]? = some c) : ahB l i &&& ~~~u = 0#64 ↔ ∀ k o, l[k]? = some o → k ≠ i → u.getLsbD k = false → aheadF o c = false := by
  rw [sub_iff]
  constructor
  · intro h k o h1 h2 h3
    have hk : k < 64 := by have := (List.getElem?_eq_some_iff.1 h1).1; omega
    cases hq : aheadF o c
    · rfl
    · have := h k hk ((ahB_bit hl hi hk).2 ⟨h2, o, h1, hq⟩)
      rw [h3] at this; cases this
  · intro h j hj h1
    obtain ⟨h2, o, h3, h4⟩ := (ahB_bit hl hi hj).1 h1
    cases hq : u.getLsbD j
    · rw [h j o h3 h2 hq] at h4; cases h4
    · rfl
theorem done_sub {l : List CallD} {u : BitVec 64} (hl : l.length ≤ 64) : doneTo l l.length &&& ~~~u = 0#64 ↔ ∀ k o, l[k]? = some o → u.getLsbD k = false → o.dn = false := by
  rw [sub_iff]
  constructor
  · intro h k o h1 h3
    have hk : k < 64 := by have := (List.getElem?_eq_some_iff.1 h1).1; omega
    cases hq : o.dn
    · rfl
    · have := h k hk ((done_bit hl hk).2 ⟨o, h1, hq⟩)
      rw [h3] at this; cases this
  · intro h j hj h1
    obtain ⟨o, h3, h4⟩ := (done_bit hl hj).1 h1
    cases hq : u.getLsbD j
    · rw [h j o h3 hq] at h4; cases h4
    · rfl
/-- Which are left. -/
def leftC (n : Nat) (u : BitVec 64) : List Value := (List.range n).map fun k => Value.bool (!u.getLsbD k)
theorem leftC_len (n : Nat) (u : BitVec 64) : (leftC n u).length = n := by simp [leftC]
theorem leftC_at {n k : Nat} {u : BitVec 64} (h : k < n) : (leftC n u)[k]? = some (.bool (!u.getLsbD k)) := by simp [leftC, h]
theorem leftC_set {n i : Nat} {u : BitVec 64} (hn : n ≤ 64) (hi : i < n) : (leftC n u).set i (.bool false) = leftC n (withB u i) := by
  refine List.ext_getElem? fun k => ?_
  rw [List.getElem?_set]
  by_cases hk : k < n
  · rw [leftC_at hk, leftC_at hk, get_with (by omega)]
    by_cases e : i = k
    · subst e; simp [leftC_len, hi]
    · simp [e]
  · have e : ¬ i = k := by omega
    rw [if_neg e, List.getElem?_eq_none (by rw [leftC_len]; omega), List.getElem?_eq_none (by rw [leftC_len]; omega)]
theorem leftC_all (n : Nat) : List.replicate n (Value.bool true) = leftC n 0#64 := by
  refine List.ext_getElem? fun k => ?_
  by_cases hk : k < n
  · rw [leftC_at hk]; simp [hk]
  · rw [List.getElem?_eq_none (by simp; omega), List.getElem?_eq_none (by rw [leftC_len]; omega)]
end Go.Proofs.Ytfobpjjpaehhpaa
