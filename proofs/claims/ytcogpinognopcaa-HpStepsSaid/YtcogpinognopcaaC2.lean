/- Maps whose keys are words. -/
import Derived.Test.YtcogpinognopcaaC1
namespace Go.Proofs.Ytcogpinognopcaa
open Go Go.LK
set_option linter.unusedSimpArgs false
set_option linter.unusedVariables false
def wfind {α : Type} (k : BitVec 64) : List (BitVec 64 × α) → Option (Nat × α)
  | [] => none
  | (x, v) :: r => if k = x then some (0, v) else (wfind k r).map fun p => (p.1 + 1, p.2)
abbrev went {α : Type} (f : α → Value) (l : List (BitVec 64 × α)) : List (Value × Value) := l.map fun q => (w64 q.1, f q.2)
theorem lfind_went {α : Type} (f : α → Value) (k : BitVec 64) : ∀ l : List (BitVec 64 × α), lfind false (w64 k) (went f l) = some ((wfind k l).map fun p => (p.1, f p.2))
  | [] => rfl
  | (x, v) :: r => by
    simp only [went, List.map_cons, lfind, sameKey_w, wfind]
    by_cases h : k = x
    · subst h; simp
    · have h1 : (k == x) = false := by simpa using h
      have := lfind_went f k r
      simp only [went] at this
      simp [h1, h, this]
      cases wfind k r <;> rfl
def wget (k : BitVec 64) (l : List (BitVec 64 × Bool)) : Bool := ((wfind k l).map (·.2)).getD false
def wput {α : Type} (k : BitVec 64) (v : α) (l : List (BitVec 64 × α)) : List (BitVec 64 × α) :=
  match wfind k l with
  | some (i, _) => l.set i (k, v)
  | none => l ++ [(k, v)]
theorem wfind_put {α : Type} (k : BitVec 64) (v : α) (k' : BitVec 64) : ∀ l : List (BitVec 64 × α), (wfind k' (wput k v l)).map (·.2) = if k' = k then some v else (wfind k' l).map (·.2)
  | [] => by
    simp only [wput, wfind, List.nil_append]
    by_cases h : k' = k <;> simp [h]
  | (x, u) :: r => by
    have ih := wfind_put k v k' r
    by_cases h : k = x
    · subst h
      simp only [wput, wfind, if_true, List.set_cons_zero]
      by_cases h' : k' = k
      · simp [h']
      · simp [h']
    · have e : wput k v ((x, u) :: r) = (x, u) :: wput k v r := by
        simp only [wput, wfind, if_neg h]
        cases wfind k r with
        | none => simp
        | some p => simp
      rw [e]
      simp only [wfind]
      by_cases h' : k' = x
      · subst h'
        have : ¬ k' = k := fun q => h q.symm
        simp [this]
      · simp only [if_neg h', Option.map_map]
        have e2 : ∀ o : Option (Nat × α), o.map ((fun x => x.2) ∘ fun p => (p.1 + 1, p.2)) = o.map (·.2) := fun o => by cases o <;> rfl
        rw [e2, ih, e2]
theorem wget_put (k : BitVec 64) (v : Bool) (k' : BitVec 64) (l : List (BitVec 64 × Bool)) : wget k' (wput k v l) = if k' = k then v else wget k' l := by
  unfold wget
  rw [wfind_put]
  split <;> rfl
/-- A look into such a map. -/
theorem wlook (k : BitVec 64) (l : List (BitVec 64 × Bool)) : (((wfind k l).map fun p => (p.1, Value.bool p.2)).map (·.2)).getD (.bool false) = .bool (wget k l) := by
  unfold wget
  cases wfind k l <;> rfl
theorem wlook2 (k : BitVec 64) (l : List (BitVec 64 × Bool)) : ((((wfind k l).map fun p => (p.1, Value.bool p.2))).map (fun x => x.snd)).getD (.bool false) = .bool (wget k l) := wlook k l
theorem wput_ents (k : BitVec 64) (v : Bool) (l : List (BitVec 64 × Bool)) : went Value.bool (wput k v l) = match wfind k l with
    | some (i, _) => (went Value.bool l).set i (w64 k, .bool v)
    | none => went Value.bool l ++ [(w64 k, .bool v)] := by
  unfold wput
  cases wfind k l with
  | none => simp
  | some p => simp [List.map_set]
theorem lbin_shr_iw (k : IntKind) (a : Int) (y : BitVec 64) : lbin .shr (.int k a) (w64 y) = some (.int k (a.fdiv (2 ^ (min y.toNat k.bits)))) := by
  show (if (y.toNat : Int) < 0 then none else some (Value.int k (a.fdiv (2 ^ (min (y.toNat : Int).toNat k.bits))))) = _
  rw [if_neg (by omega)]; rfl
end Go.Proofs.Ytcogpinognopcaa
