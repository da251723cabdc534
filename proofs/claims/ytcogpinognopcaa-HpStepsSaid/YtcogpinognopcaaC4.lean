/- Slices that stand while single boxes are turned. -/
import Derived.Test.YtcogpinognopcaaC1
namespace Go.Proofs.Ytcogpinognopcaa
open Go Go.LK
set_option linter.unusedSimpArgs false
set_option linter.unusedVariables false
theorem unboxO_eq {o : LObj} {ro : Bool} {es : Nat} {c : List Value} (he : ro = true ∨ 0 < es) (h : unboxO o = .row ro es c) : o = .row ro es c := by
  cases o with
  | map es => simp [unboxO] at h
  | dead => simp [unboxO] at h
  | row r e q =>
    cases r with
    | true => simp only [unboxO] at h; exact h
    | false =>
      cases e with
      | zero =>
        simp only [unboxO, LObj.row.injEq] at h
        obtain ⟨rfl, rfl, rfl⟩ := h
        rcases he with he | he
        · cases he
        · omega
      | succ n => simp only [unboxO] at h; exact h
theorem row_into {H H' : LHeap} (hu : unbox H <+: unbox H') {b : Nat} {ro : Bool} {es : Nat} {c : List Value} (h : H[b]? = some (.row ro es c)) (he : ro = true ∨ 0 < es) : H'[b]? = some (.row ro es c) := by
  obtain ⟨t, ht⟩ := hu
  have e1 : (unbox H)[b]? = some (unboxO (.row ro es c)) := by simp [unbox, h]
  have e2 : unboxO (.row ro es c) = .row ro es c := by
    rcases he with rfl | he
    · rfl
    · cases es with
      | zero => omega
      | succ n => cases ro <;> rfl
  rw [e2] at e1
  have e3 : (unbox H')[b]? = some (.row ro es c) := by rw [← ht]; exact get_old e1 t
  simp only [unbox, List.getElem?_map, Option.map_eq_some_iff] at e3
  obtain ⟨x, hx, hy⟩ := e3
  rw [hx, unboxO_eq he hy]
theorem Own.into {m n n' : Nat} {H H' : LHeap} {a : Option Addr} {c : List Value} (h : Own m H n a c) (hm : 0 < m) (hn : n' ≤ n) (hu : unbox H <+: unbox H') : Own m H' n' a c := by
  rcases h with h | ⟨b, h1, h2, h3⟩
  · exact .inl h
  · exact .inr ⟨b, h1, by omega, row_into hu h3 (.inr hm)⟩
end Go.Proofs.Ytcogpinognopcaa
