/- Each operation that touches no memory: the whole, by the model's operation. -/
import Derived.Test.YtopjhhcncjleaaaLD
namespace Go.LK
open Go Go.RowKit
set_option linter.unusedVariables false
set_option linter.unusedSimpArgs false

section
variable {P : Program} {i : Inj} {w : World}

theorem run_val {s : Sem Value} {x : Value} {w w' : World} (h : s.run P w = .ok x w') : (do pure (Go.Next.value (← s)) : Sem Go.Next).run P w = .ok (.value x) w' := by
  simp [h]

theorem lbound_inv {r r' : Operand → Value} {x : Operand} (hr : VR i (r x) (r' x)) {top : Nat} {d n : Nat} (h : lbound (some (r x)) top d = some n) :
    ∃ k q, r' x = .int k q ∧ 0 ≤ q ∧ q ≤ top ∧ n = q.toNat := by
  cases hx : r x with
  | int k q =>
    rw [hx] at h hr
    simp only [lbound] at h
    split at h
    · rename_i hq; cases h; exact ⟨k, q, int_inv hr, hq.1, hq.2, rfl⟩
    · cases h
  | _ => rw [hx] at h; simp [lbound] at h
theorem run_sliceBound {k : IntKind} {q : Int} {y : Nat} {code : BoundsCode} (h0 : 0 ≤ q) (h1 : q ≤ y) : (Instr.sliceBound (.int k q) y code).run P w = .ok q.toNat w := by
  unfold Instr.sliceBound
  rw [Sem.run_bind]
  simp only [asIntOf, Sem.run_pure, Result.andThen_ok]
  rw [if_pos ⟨h0, h1⟩]; rfl
/-- The three bounds of a slice expression; the model's own capacity may be greater. -/
theorem run_bounds {r r' : Operand → Value} {lo hi mx : Option Operand} (hlo : ∀ x, lo = some x → VR i (r x) (r' x)) (hhi : ∀ x, hi = some x → VR i (r x) (r' x)) (hmx : ∀ x, mx = some x → VR i (r x) (r' x))
    {len cap cap' m h l : Nat} (hc : cap ≤ cap') (hm : lbound (mx.map r) cap cap = some m) (hh : lbound (hi.map r) m len = some h) (hl : lbound (lo.map r) h 0 = some l) (hpair : mx.isSome = true → hi.isSome = true) (b : Bool) :
    (Instr.sliceBounds b len cap' (lo.map r') (hi.map r') (mx.map r')).run P w = .ok (l, h, if mx.isSome then m else cap') w := by
  have hlow : (lo = none ∧ l = 0) ∨ ∃ x k q, lo = some x ∧ r' x = .int k q ∧ 0 ≤ q ∧ q ≤ h ∧ l = q.toNat := by
    cases lo with
    | none => simp only [Option.map_none, lbound] at hl; cases hl; exact .inl ⟨rfl, rfl⟩
    | some x =>
      simp only [Option.map_some] at hl
      obtain ⟨k, q, e, h0, h1, rfl⟩ := lbound_inv (hlo x rfl) hl
      exact .inr ⟨x, k, q, rfl, e, h0, h1, rfl⟩
  cases mx with
  | none =>
    simp only [Option.map_none, lbound] at hm
    cases hm
    cases hi with
    | none =>
      simp only [Option.map_none, lbound] at hh
      cases hh
      unfold Instr.sliceBounds
      simp only [Option.map_none, Sem.run_bind, Sem.run_pure, Result.andThen_ok, Option.isSome_none, Bool.false_eq_true, if_false]
      rcases hlow with ⟨rfl, rfl⟩ | ⟨x, k, q, rfl, e, h0, h1, rfl⟩
      · rfl
      · simp only [Option.map_some, e]; rw [Sem.run_bind, run_sliceBound h0 h1]; rfl
    | some x =>
      simp only [Option.map_some] at hh
      obtain ⟨k, q, e, h0, h1, rfl⟩ := lbound_inv (hhi x rfl) hh
      unfold Instr.sliceBounds
      simp only [Option.map_none, Option.map_some, Sem.run_bind, Sem.run_pure, Result.andThen_ok, Option.isSome_none, Bool.false_eq_true, if_false, e]
      rw [run_sliceBound h0 (by omega), Result.andThen_ok]
      rcases hlow with ⟨rfl, rfl⟩ | ⟨x, k, q, rfl, e, h0, h1, rfl⟩
      · rfl
      · simp only [Option.map_some, e]; rw [Sem.run_bind, run_sliceBound h0 h1]; rfl
  | some y =>
    simp only [Option.map_some] at hm
    obtain ⟨k, q, e, h0, h1, rfl⟩ := lbound_inv (hmx y rfl) hm
    cases hi with
    | none => simp at hpair
    | some x =>
      simp only [Option.map_some] at hh
      obtain ⟨k2, q2, e2, h02, h12, rfl⟩ := lbound_inv (hhi x rfl) hh
      unfold Instr.sliceBounds
      simp only [Option.map_some, Sem.run_bind, Option.isSome_some, if_true, e, e2]
      rw [run_sliceBound h0 (by omega), Result.andThen_ok, run_sliceBound h02 h12, Result.andThen_ok]
      rcases hlow with ⟨rfl, rfl⟩ | ⟨x, k, q, rfl, e, h0, h1, rfl⟩
      · rfl
      · simp only [Option.map_some, e]; rw [Sem.run_bind, run_sliceBound h0 h1]; rfl

theorem lidx_sim {size len b o : Nat} {n : Int} {v : Value} {p : Place} (hp : i b = some p) (h : lidx size len b o n = some v) :
    0 ≤ n ∧ n < len ∧ VR i v (.pointer (some ⟨p.pb, p.sh + o + n.toNat * size, none⟩)) := by
  unfold lidx at h
  split at h
  · rename_i hn; cases h
    refine ⟨hn.1, hn.2, ?_⟩
    have := VR.ptr (i := i) b (o + n.toNat * size) p hp
    rwa [← Nat.add_assoc] at this
  · cases h
theorem add_lit (b o n : Nat) : Addr.add ⟨b, o, none⟩ n = ⟨b, o + n, none⟩ := Addr.add_lit b o n

theorem sim_minmax {isMax : Bool} : ∀ {xs xs' : List Value} {k : IntKind} {n : Int} {v : Value}, VRs i xs xs' → lfold isMax (.int k n) xs = some v →
    (List.foldlM (if isMax then Builtin.max2 else Builtin.min2) (.int k n) xs').run P w = .ok v w ∧ ∃ k' m, v = .int k' m
  | _, _, k, n, v, .nil, h => by cases h; exact ⟨rfl, k, n, rfl⟩
  | x :: xs, _, k, n, v, .cons hx t, h => by
    cases x with
    | int k2 y =>
      obtain rfl := int_inv hx
      simp only [lfold] at h
      obtain ⟨h1, h2⟩ := sim_minmax t (by simpa [lminmax] using h)
      refine ⟨?_, h2⟩
      rw [List.foldlM_cons, Sem.run_bind]
      cases isMax
      · simp only [Bool.false_eq_true, if_false, Builtin.min2, Sem.run_pure, Result.andThen_ok, lminmax] at h1 ⊢
        exact h1
      · simp only [if_true, Builtin.max2, Sem.run_pure, Result.andThen_ok, lminmax] at h1 ⊢
        exact h1
    | _ => simp [lfold] at h
end
end Go.LK
