/- Orders that are ones: plain. -/
import Derived.Test.YtfobpjjpaehhpaaL7
namespace Go.Proofs.Ytfobpjjpaehhpaa
open Go Go.LK
set_option linter.unusedSimpArgs false
set_option linter.unusedVariables false
variable {σ : Type}
/-- Is this an order, from there on? -/
def Prob.vrun (P : Prob σ) : List Nat → BitVec 64 → σ → Bool
  | [], u, _ => decide (P.done &&& ~~~u = 0#64)
  | i :: r, u, s => if i < P.n ∧ u.getLsbD i = false ∧ P.ah i &&& ~~~u = 0#64 then match P.step s i with
      | some t => P.vrun r (withB u i) t
      | none => false
    else false
theorem Prob.fnd_sound (P : Prob σ) (hn : P.n ≤ 64) : ∀ (k : Nat) (u : BitVec 64) (s : σ) (r : List Nat), leftN P.n u = k → P.fnd u s = some r → P.vrun r u s = true := by
  intro k
  induction k using Nat.strongRecOn with
  | ind k ih =>
  intro u s r hk h
  rw [P.fnd_eq hn] at h
  split at h
  · rename_i hd
    cases h
    simp [Prob.vrun, hd]
  · obtain ⟨i, hi, h2, _⟩ := findSome_some h
    unfold Prob.tryAt at h2
    split at h2
    · cases h2
    · rename_i hc
      split at h2
      · cases h2
      · rename_i t ht
        obtain ⟨r', h3, rfl⟩ := Option.map_eq_some_iff.1 h2
        have hu : u.getLsbD i = false := by
          cases hq : u.getLsbD i
          · rfl
          · exact absurd (.inl hq) hc
        have ha : P.ah i &&& ~~~u = 0#64 := by
          refine Decidable.byContradiction fun q => hc (.inr q)
        have hl := left_with hn hi hu
        rw [Prob.vrun, if_pos ⟨hi, hu, ha⟩, ht]
        exact ih _ (by omega) _ _ _ rfl h3
theorem Prob.fnd_complete (P : Prob σ) (hn : P.n ≤ 64) : ∀ (r : List Nat) (u : BitVec 64) (s : σ), P.vrun r u s = true → (P.fnd u s).isSome = true
  | [], u, s, h => by
    rw [P.fnd_eq hn, if_pos (by simpa [Prob.vrun] using h)]; rfl
  | i :: r, u, s, h => by
    rw [Prob.vrun] at h
    split at h
    · rename_i hc
      obtain ⟨hi, hu, ha⟩ := hc
      split at h
      · rename_i t ht
        have h1 := P.fnd_complete hn r _ _ h
        rw [P.fnd_eq hn]
        split
        · rfl
        · cases hq : (List.range P.n).findSome? (P.tryAt P.fnd u s) with
          | some x => rfl
          | none =>
            rw [List.findSome?_eq_none_iff] at hq
            have := hq i (List.mem_range.2 hi)
            rw [Prob.tryAt, if_neg (by rw [hu]; simp [ha]), ht] at this
            simp only [Option.map_eq_none_iff] at this
            rw [this] at h1; cases h1
      · cases h
    · cases h
theorem Prob.vrun_mono {P Q : Prob σ} (h1 : P.n = Q.n) (h2 : P.ah = Q.ah) (h3 : P.done = Q.done) (h4 : ∀ s i t, P.step s i = some t → Q.step s i = some t) : ∀ (r : List Nat) (u : BitVec 64) (s : σ), P.vrun r u s = true → Q.vrun r u s = true
  | [], u, s, h => by rw [Prob.vrun, ← h3]; exact h
  | i :: r, u, s, h => by
    rw [Prob.vrun] at h
    split at h
    · rename_i hc
      rw [h1, h2] at hc
      split at h
      · rename_i t ht
        rw [Prob.vrun, if_pos hc, h4 _ _ _ ht]
        exact Prob.vrun_mono h1 h2 h3 h4 r _ _ h
      · cases h
    · cases h
theorem mayF_mode {cap : Int} {s t : Queue} {c : CallD} {p q p' q' mode : Int} (h : mayF cap s c 0 p q = some t) : mayF cap s c mode p' q' = some t := by
  unfold mayF at h ⊢
  split at h
  · rename_i h1; rw [if_pos h1]; exact h
  · rename_i h1
    rw [if_neg h1]
    split at h
    · rename_i h2; rw [if_pos h2]; exact h
    · rw [show letF cap s.length c.kind c.code c.ret 0 p q = false by simp [letF]] at h
      cases h
theorem stepM_mode {cap : Int} {l : List CallD} {s t : Queue} {i : Nat} {mode : Int} (h : stepM cap l 0 s i = some t) : stepM cap l mode s i = some t := by
  unfold stepM at h ⊢
  split at h
  · exact mayF_mode h
  · cases h
theorem search_vrun {l : List CallD} {stp : Queue → Nat → Option Queue} {r : List Nat} (h : searchF l stp = some r) : l.length ≤ 62 ∧ rightL l = true ∧ (prob l stp).vrun r 0#64 [] = true := by
  unfold searchF at h
  split at h
  · rename_i hc
    refine ⟨hc.1, hc.2, Prob.fnd_sound _ ?_ _ _ _ _ rfl h⟩
    show l.length ≤ 64
    omega
  · cases h
theorem vrun_search {l : List CallD} {stp : Queue → Nat → Option Queue} {r : List Nat} (h1 : l.length ≤ 62) (h2 : rightL l = true) (h : (prob l stp).vrun r 0#64 [] = true) : (searchF l stp).isSome = true := by
  unfold searchF
  rw [if_pos ⟨h1, h2⟩]
  exact Prob.fnd_complete _ (show l.length ≤ 64 by omega) r _ _ h
end Go.Proofs.Ytfobpjjpaehhpaa
