/- DROP A growing slice of pointers to objects. -/
import Derived.Test.YtopjhhcncjleaaaC1
namespace Go.Proofs.Ytopjhhcncjleaaa
open Go Go.LK
set_option linter.unusedSimpArgs false
set_option linter.unusedVariables false
section
variable {α : Type} {row : α → LObj} {lo : Nat} {H : LHeap}
theorem OpsAt.same {L : List (Option (Nat × α))} {H' : LHeap} (h : OpsAt row lo H L) (hp : ∀ (j q : Nat) (x : α), L[j]? = some (some (q, x)) → H'[q]? = H[q]?) : OpsAt row lo H' L :=
  ⟨fun j q x g => ⟨(h.at_ j q x g).1, by rw [hp j q x g]; exact (h.at_ j q x g).2⟩, h.ne⟩
theorem OpsAt.snoc {L : List (Option (Nat × α))} {t : LHeap} {q : Nat} {x : α} (h : OpsAt row lo H L) (hq : H.length ≤ q) (hlo : lo ≤ q) (hx : (H ++ t)[q]? = some (row x)) : OpsAt row lo (H ++ t) (L ++ [some (q, x)]) := by
  have h' := h.app t
  have key : ∀ (i p : Nat) (y : α), (L ++ [some (q, x)])[i]? = some (some (p, y)) → (i = L.length ∧ p = q ∧ y = x) ∨ (i < L.length ∧ L[i]? = some (some (p, y))) := by
    intro i p y g
    rcases Nat.lt_or_ge i L.length with hi | hi
    · rw [List.getElem?_append_left hi] at g; exact .inr ⟨hi, g⟩
    · rw [List.getElem?_append_right hi] at g
      by_cases e : i = L.length
      · subst e
        simp at g
        exact .inl ⟨rfl, g.1.symm, g.2.symm⟩
      · rw [List.getElem?_eq_none (by simp; omega)] at g; cases g
  refine ⟨fun i p y g => ?_, fun i i' p y y' g g' => ?_⟩
  · rcases key i p y g with ⟨_, rfl, rfl⟩ | ⟨_, g⟩
    · exact ⟨hlo, hx⟩
    · exact h'.at_ i p y g
  · rcases key i p y g with ⟨rfl, rfl, rfl⟩ | ⟨_, k1⟩
    · rcases key i' p y' g' with ⟨e1, _, _⟩ | ⟨_, k'⟩
      · exact e1.symm
      · have := h.lt k'; omega
    · rcases key i' p y' g' with ⟨e1, e2, _⟩ | ⟨_, k'⟩
      · have := h.lt k1; omega
      · exact h.ne i i' p y y' k1 k'
/-- Objects, and a slice that names them. -/
structure Ptrs (row : α → LObj) (lo : Nat) (K : LHeap) (a : Option Addr) (L : List (Nat × α)) : Prop where
  own : Own 1 K lo a (L.map fun z => ptr z.1)
  ops : OpsAt row lo K (L.map some)
theorem Ptrs.nil (K : LHeap) : Ptrs row lo K none [] := ⟨Own.nil _ _ _, ⟨fun j q x g => by simp at g, fun j j' q x x' g => by simp at g⟩⟩
theorem Ptrs.app {K : LHeap} {a : Option Addr} {L : List (Nat × α)} (h : Ptrs row lo K a L) (t : LHeap) : Ptrs row lo (K ++ t) a L := ⟨h.own.app t, h.ops.app t⟩
theorem map_some_get {L : List (Nat × α)} {j q : Nat} {x : α} : (L.map some)[j]? = some (some (q, x)) ↔ L[j]? = some (q, x) := by
  rw [List.getElem?_map]
  cases L[j]? <;> simp
theorem Ptrs.off {K : LHeap} {a : Option Addr} {L : List (Nat × α)} (h : Ptrs row lo K a L) (hrow : ∀ x c, row x ≠ .row false 1 c) {j q : Nat} {x : α} (g : L[j]? = some (q, x)) : Off q a := by
  intro z hz e
  rcases h.own with ⟨e1, _⟩ | ⟨b, e1, _, e3⟩
  · rw [e1] at hz; cases hz
  · rw [e1] at hz; cases hz
    have := (h.ops.at_ j q x (map_some_get.2 g)).2
    simp only at e
    rw [← e, e3] at this
    exact hrow x _ (Option.some.inj this).symm
theorem Ptrs.push {lim n q : Nat} {K t : LHeap} {a : Option Addr} {L : List (Nat × α)} {x : α} (h : Ptrs row lo K a L) (hrow : ∀ x c, row x ≠ .row false 1 c) (hn : L.length = n) (hn2 : n < 1000000) (hl : lim ≤ lo) (hlo : lo ≤ K.length)
    (hq : K.length ≤ q) (hx : (K ++ t)[q]? = some (row x)) : ∃ a' K', lappend lim (K ++ t) 1 8 (.slice a n n) [ptr q] 1 = some (.slice a' (n + 1) (n + 1), K') ∧ Ptrs row lo K' a' (L ++ [(q, x)]) ∧ (K ++ t).length ≤ K'.length ∧ ∀ j, j < lo → K'[j]? = K[j]? := by
  have hqa : Off q a := by
    intro z hz e
    rcases h.own with ⟨e1, _⟩ | ⟨b, e1, _, e3⟩
    · rw [e1] at hz; cases hz
    · rw [e1] at hz; cases hz
      have := (List.getElem?_eq_some_iff.1 e3).1
      simp only at e; omega
  have hlt : q < (K ++ t).length := (List.getElem?_eq_some_iff.1 hx).1
  obtain ⟨a', K', p1, p2, p3, p4, p5⟩ := Own.push (lim := lim) (bytes := 8) (k := n) (news := [ptr q]) (h.own.app t) (by simp [hn]) (by decide) hl (by simp; omega) (by omega) (by omega)
  refine ⟨a', K', p1, ⟨?_, ?_⟩, p3, fun j hj => ?_⟩
  · rw [List.map_append]; exact p2
  · have o1 := h.ops.snoc hq (by omega) hx
    rw [List.map_append]
    refine o1.same ?_
    intro j p y g
    have hp : p < (K ++ t).length := o1.lt g
    refine p4 p hp ?_
    rcases Nat.lt_or_ge j (L.map some).length with hj | hj
    · rw [List.getElem?_append_left hj] at g
      exact h.off hrow (map_some_get.1 g)
    · rw [List.getElem?_append_right hj] at g
      by_cases e : j = (L.map some).length
      · subst e
        simp at g
        rw [← g.1]; exact hqa
      · rw [List.getElem?_eq_none (by simp at hj e ⊢; omega)] at g; cases g
  · have hoff : Off j a := by
      intro z hz e
      have := h.own.fresh z hz
      omega
    rw [p4 j (by simp; omega) hoff, get_left (by omega)]
end
end Go.Proofs.Ytopjhhcncjleaaa
/- DROP Slices that stand while single boxes are turned. -/
namespace Go.Proofs.Ytopjhhcncjleaaa
open Go Go.LK
set_option linter.unusedSimpArgs false
set_option linter.unusedVariables false
theorem unboxO_eq {o : LObj} {ro : Bool} {es : Nat} {c : List Value} (he : ro = true ∨ 0 < es) (h : unboxO o = .row ro es c) : o = .row ro es c := by
  cases o with
  | map es => simp [unboxO] at h
  | dead => simp [unboxO] at h
  | row r e q =>
    cases r with
    | true => simp only [unboxO] at h; exact h
    | false =>
      cases e with
      | zero =>
        simp only [unboxO, LObj.row.injEq] at h
        obtain ⟨rfl, rfl, rfl⟩ := h
        rcases he with he | he
        · cases he
        · omega
      | succ n => simp only [unboxO] at h; exact h
theorem row_into {H H' : LHeap} (hu : unbox H <+: unbox H') {b : Nat} {ro : Bool} {es : Nat} {c : List Value} (h : H[b]? = some (.row ro es c)) (he : ro = true ∨ 0 < es) : H'[b]? = some (.row ro es c) := by
  obtain ⟨t, ht⟩ := hu
  have e1 : (unbox H)[b]? = some (unboxO (.row ro es c)) := by simp [unbox, h]
  have e2 : unboxO (.row ro es c) = .row ro es c := by
    rcases he with rfl | he
    · rfl
    · cases es with
      | zero => omega
      | succ n => cases ro <;> rfl
  rw [e2] at e1
  have e3 : (unbox H')[b]? = some (.row ro es c) := by rw [← ht]; exact get_old e1 t
  simp only [unbox, List.getElem?_map, Option.map_eq_some_iff] at e3
  obtain ⟨x, hx, hy⟩ := e3
  rw [hx, unboxO_eq he hy]
theorem Own.into {m n n' : Nat} {H H' : LHeap} {a : Option Addr} {c : List Value} (h : Own m H n a c) (hm : 0 < m) (hn : n' ≤ n) (hu : unbox H <+: unbox H') : Own m H' n' a c := by
  rcases h with h | ⟨b, h1, h2, h3⟩
  · exact .inl h
  · exact .inr ⟨b, h1, by omega, row_into hu h3 (.inr hm)⟩
end Go.Proofs.Ytopjhhcncjleaaa
