/- Orders of calls, looked for step by step: plain. -/
import Derived.Test.YtfobpjjpaehhpaaA0
namespace Go.Proofs.Ytfobpjjpaehhpaa
open Go Go.LK
set_option linter.unusedSimpArgs false
set_option linter.unusedVariables false
/-- A set of places, with one more. -/
def withB (u : BitVec 64) (i : Nat) : BitVec 64 := u ||| (1#64 <<< i)
theorem get_with {u : BitVec 64} {i j : Nat} (hj : j < 64) : (withB u i).getLsbD j = (u.getLsbD j || decide (i = j)) := by
  unfold withB
  rw [BitVec.getLsbD_or, BitVec.getLsbD_shiftLeft]
  by_cases h : i = j
  · subst h; simp [hj]
  · by_cases h2 : j < i
    · simp [hj, h, h2]
    · have h3 : ¬ j - i = 0 := by omega
      have : (1#64).getLsbD (j - i) = false := by
        rw [BitVec.getLsbD_one]; simp [h3]
      simp [hj, h, h2, this]
theorem sub_iff {a u : BitVec 64} : a &&& ~~~u = 0#64 ↔ ∀ j, j < 64 → a.getLsbD j = true → u.getLsbD j = true := by
  constructor
  · intro h j hj ha
    have := congrArg (fun x => x.getLsbD j) h
    simp only [BitVec.getLsbD_and, BitVec.getLsbD_not, ha, hj, decide_true, Bool.true_and, BitVec.getLsbD_zero] at this
    simpa using this
  · intro h
    refine BitVec.eq_of_getLsbD_eq fun j hj => ?_
    simp only [BitVec.getLsbD_and, BitVec.getLsbD_not, hj, decide_true, Bool.true_and, BitVec.getLsbD_zero]
    cases ha : a.getLsbD j
    · rfl
    · rw [h j hj ha]; rfl
/-- What is looked for: so many places, what is ahead of each, which are to be used, and what each does. -/
structure Prob (σ : Type) where
  n : Nat
  ah : Nat → BitVec 64
  done : BitVec 64
  step : σ → Nat → Option σ
variable {σ : Type}
def leftN (n : Nat) (u : BitVec 64) : Nat := (List.range n).countP fun i => !u.getLsbD i
theorem left_with {n : Nat} {u : BitVec 64} {i : Nat} (hn : n ≤ 64) (hi : i < n) (hu : u.getLsbD i = false) : leftN n (withB u i) + 1 = leftN n u := by
  unfold leftN
  induction n with
  | zero => omega
  | succ n ih =>
    rw [List.range_succ, List.countP_append, List.countP_append]
    simp only [List.countP_singleton, get_with (u := u) (i := i) (show n < 64 by omega)]
    by_cases h : i = n
    · subst h
      have : (List.range i).countP (fun j => !(withB u i).getLsbD j) = (List.range i).countP (fun j => !u.getLsbD j) := by
        refine List.countP_congr fun j hj => ?_
        have := List.mem_range.1 hj
        rw [get_with (by omega)]
        simp; omega
      rw [this]; simp [hu]
    · have := ih (by omega) (by omega)
      simp [h]; omega
def Prob.tryAt (P : Prob σ) (rec : BitVec 64 → σ → Option (List Nat)) (u : BitVec 64) (s : σ) (i : Nat) : Option (List Nat) :=
  if u.getLsbD i = true ∨ P.ah i &&& ~~~u ≠ 0#64 then none
  else match P.step s i with
    | none => none
    | some t => (rec (withB u i) t).map (i :: ·)
def Prob.dfs (P : Prob σ) : Nat → BitVec 64 → σ → Option (List Nat)
  | 0, u, s => if P.done &&& ~~~u = 0#64 then some [] else none
  | k + 1, u, s => if P.done &&& ~~~u = 0#64 then some [] else (List.range P.n).findSome? (P.tryAt (P.dfs k) u s)
/-- The first order that goes on from there. -/
def Prob.fnd (P : Prob σ) (u : BitVec 64) (s : σ) : Option (List Nat) := P.dfs (leftN P.n u) u s
theorem findSome_none {n : Nat} {g : Nat → Option (List Nat)} (h : ∀ i, i < n → g i = none) : (List.range n).findSome? g = none := by
  rw [List.findSome?_eq_none_iff]
  intro i hi
  exact h i (List.mem_range.1 hi)
theorem findSome_congr {n : Nat} {g f : Nat → Option (List Nat)} (h : ∀ i, i < n → g i = f i) : (List.range n).findSome? g = (List.range n).findSome? f := by
  induction n with
  | zero => rfl
  | succ n ih =>
    rw [List.range_succ, List.findSome?_append, List.findSome?_append, ih fun i hi => h i (by omega)]
    simp [h n (by omega)]
theorem findSome_at {n i : Nat} {g : Nat → Option (List Nat)} {x : List Nat} (hi : i < n) (h : ∀ j, j < i → g j = none) (hx : g i = some x) : (List.range n).findSome? g = some x := by
  induction n with
  | zero => omega
  | succ n ih =>
    rw [List.range_succ, List.findSome?_append]
    by_cases e : i = n
    · subst e; rw [findSome_none h]; simp [hx]
    · rw [ih (by omega)]; rfl
theorem findSome_some {n : Nat} {g : Nat → Option (List Nat)} {x : List Nat} (h : (List.range n).findSome? g = some x) : ∃ i, i < n ∧ g i = some x ∧ ∀ j, j < i → g j = none := by
  induction n with
  | zero => simp at h
  | succ n ih =>
    rw [List.range_succ, List.findSome?_append] at h
    cases hq : (List.range n).findSome? g with
    | some y =>
      rw [hq] at h
      obtain ⟨i, h1, h2⟩ := ih (by rw [hq]; exact h)
      exact ⟨i, by omega, h2⟩
    | none =>
      rw [hq] at h
      rw [List.findSome?_eq_none_iff] at hq
      exact ⟨n, by omega, by simpa using h, fun j hj => hq j (List.mem_range.2 hj)⟩
theorem Prob.fnd_eq (P : Prob σ) (hn : P.n ≤ 64) (u : BitVec 64) (s : σ) :
    P.fnd u s = if P.done &&& ~~~u = 0#64 then some [] else (List.range P.n).findSome? (P.tryAt P.fnd u s) := by
  unfold Prob.fnd
  cases hk : leftN P.n u with
  | zero =>
    rw [Prob.dfs]
    split
    · rfl
    · rw [findSome_none]
      intro i hi
      unfold leftN at hk
      rw [List.countP_eq_zero] at hk
      have := hk i (List.mem_range.2 hi)
      simp only [Bool.not_eq_true, Bool.not_eq_false', Bool.not_eq_eq_eq_not] at this
      rw [Prob.tryAt, if_pos (.inl (by simpa using this))]
  | succ k =>
    rw [Prob.dfs]
    split
    · rfl
    · refine findSome_congr fun i hi => ?_
      unfold Prob.tryAt
      split
      · rfl
      · rename_i h
        have hu : u.getLsbD i = false := by
          cases hq : u.getLsbD i
          · rfl
          · exact absurd (.inl hq) h
        have := left_with hn hi hu
        have e : leftN P.n (withB u i) = k := by omega
        simp only [e]
theorem shr_zero {v : BitVec 64} {k : Nat} : v >>> (8 * k) = 0#64 ↔ v.toNat < 256 ^ k := by
  rw [← BitVec.toNat_inj, BitVec.toNat_ushiftRight, Nat.shiftRight_eq_div_pow, BitVec.toNat_ofNat, Nat.zero_mod, Nat.pow_mul, Nat.div_eq_zero_iff]
  have := Nat.pow_pos (n := k) (show 0 < 2 ^ 8 by decide)
  simp
theorem bytesN_low {v : BitVec 64} {k : Nat} (hk : v >>> (8 * k) = 0#64) : ∀ m, k ≤ m → bytesN v m = bytesN v k ++ List.replicate (m - k) 0 := by
  intro m hm
  induction m with
  | zero => obtain rfl : k = 0 := by omega
            simp
  | succ m ih =>
    by_cases e : k = m + 1
    · subst e; simp
    · rw [bytesN_succ, ih (by omega), show m + 1 - k = (m - k) + 1 by omega, List.replicate_succ']
      have : v >>> (8 * m) = 0#64 := by
        rw [shr_zero] at hk ⊢
        exact Nat.lt_of_lt_of_le hk (Nat.pow_le_pow_right (by decide) (by omega))
      rw [this]; simp
/-- A name: of a set, and a queue. -/
def nameN (k : Nat) (cap : Int) (u : BitVec 64) (s : List (BitVec 64)) : List UInt8 := UInt8.ofNat k :: bytesN u k ++ keyN cap s
theorem name_inj {k m : Nat} {cap : Int} {u v : BitVec 64} {s t : List (BitVec 64)} (hk : k ≤ 8) (hm : m ≤ 8) (hu : u >>> (8 * k) = 0#64) (hv : v >>> (8 * m) = 0#64) (h : nameN k cap u s = nameN m cap v t) : u = v ∧ s = t := by
  simp only [nameN, List.cons_append, List.cons.injEq] at h
  obtain ⟨h1, h2⟩ := h
  have e : k = m := by
    have := congrArg UInt8.toNat h1
    simp only [UInt8.toNat_ofNat'] at this
    omega
  subst e
  obtain ⟨h3, h4⟩ := List.append_inj h2 (by simp [bytesN_len])
  obtain ⟨_, h5⟩ := List.append_inj h4 (by simp [bytesN_len])
  refine ⟨bytesN_inj ?_, keys_inj h5⟩
  rw [bytesN_low hu 8 hk, bytesN_low hv 8 hk, h3]
end Go.Proofs.Ytfobpjjpaehhpaa
