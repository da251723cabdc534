/- A region whose order is open: whatever order it is, it comes to what the one order of its plan comes to. Part 1: the plan. -/
import Derived.Test.YtopjhhcncjleaaaLR
namespace Go.LK
open Go Go.RowKit
set_option linter.unusedVariables false
set_option linter.unusedSimpArgs false

structure PlanFacts (P : Program) (ops : Array Oper) (p : Plan) : Prop where
  pos_lt : ∀ i, i < ops.size → posOf p.items i < p.items.length
  item_act : ∀ q i, p.items[q]? = some (.act i) → i < ops.size ∧ posOf p.items i = q
  item_again : ∀ q i, p.items[q]? = some (.again i) → i < ops.size ∧ rdAt P ops i = true ∧ posOf p.items i < q ∧
    ∀ j t s, j < ops.size → dstOf ops j = some t → stepOf P ops i = some s → t ∈ againSlots s → j ∈ p.ancOf i ∧ posOf p.items j < posOf p.items i
  anc : ∀ i j, i < ops.size → j ∈ p.ancOf i → ∃ o e, ops[i]? = some o ∧ e ∈ o.after.toList ∧ Region.binds .any e = true ∧ (e.on = j ∨ j ∈ p.ancOf e.on)
  edge : ∀ i o e, ops[i]? = some o → e ∈ o.after.toList → Region.binds .any e = true → e.on < i
  dsts : ∀ i j t, i < ops.size → j < ops.size → dstOf ops i = some t → dstOf ops j = some t → i = j
  slots : ∀ i j o t, i < ops.size → j < ops.size → ops[i]? = some o → dstOf ops j = some t → t ∈ looks ops o →
    i ≠ j ∧ ((j ∈ p.ancOf i ∧ posOf p.items j < posOf p.items i) ∨ (i ∈ p.ancOf j ∧ posOf p.items i < posOf p.items j))
  effs : ∀ i j, i < ops.size → j < ops.size → effAt P ops i = true → posOf p.items i < posOf p.items j → i ∈ p.ancOf j
  reads : ∀ i j, i < ops.size → j < ops.size → rdAt P ops i = true → effAt P ops j = true → posOf p.items i < posOf p.items j → i ∈ p.ancOf j ∨
    ∃ q, posOf p.items j < q ∧ p.items[q]? = some (.again i) ∧ ∀ k, k < ops.size → effAt P ops k = true → ¬ (posOf p.items j < posOf p.items k ∧ posOf p.items k < q)

theorem posOf_at {l : List Item} {i : Nat} (h : posOf l i < l.length) : l[posOf l i]? = some (.act i) := by
  unfold posOf at h ⊢
  have := List.findIdx_getElem (w := h)
  rw [List.getElem?_eq_getElem h]
  generalize l[List.findIdx _ l] = x at this
  cases x with
  | act j => simp at this; rw [this]
  | again j => simp at this

theorem planFacts {P : Program} {ops : Array Oper} {p : Plan} (h : planOk P ops p = true) : PlanFacts P ops p := by
  unfold planOk at h
  simp only [Bool.and_eq_true] at h
  obtain ⟨⟨⟨⟨⟨⟨⟨h1, h2⟩, h3⟩, h4⟩, h5⟩, h6⟩, h7⟩, h8⟩ := h
  have all {n : Nat} {f : Nat → Bool} (h : (List.range n).all f = true) : ∀ i, i < n → f i = true := fun i hi => List.all_eq_true.1 h i (List.mem_range.2 hi)
  have hitem : ∀ q it, p.items[q]? = some it → itemOk P ops p q (some it) = true := by
    intro q it hq
    have := all h2 q (List.getElem?_eq_some_iff.1 hq).1
    rwa [hq] at this
  refine ⟨?_, ?_, ?_, ?_, ?_, ?_, ?_, ?_, ?_⟩
  · intro i hi
    simpa using all h1 i hi
  · intro q i hq
    have := hitem q _ hq
    simpa [itemOk] using this
  · intro q i hq
    have := hitem q _ hq
    simp only [itemOk, Bool.and_eq_true, decide_eq_true_eq] at this
    obtain ⟨⟨⟨a1, a2⟩, a3⟩, a4⟩ := this
    refine ⟨a1, a2, a3, fun j t s hj ht hs hm => ?_⟩
    have := all a4 j hj
    rw [ht, hs] at this
    simp only [Option.map_some, Option.any_some, Bool.or_eq_true, Bool.not_eq_true', Bool.and_eq_true, decide_eq_true_eq, List.contains_eq_mem] at this
    rcases this with q | q
    · simp [hm] at q
    · exact ⟨by simpa using q.1, q.2⟩
  · intro i j hi hj
    have := List.all_eq_true.1 (all h3 i hi) j hj
    obtain ⟨l, hl, hl2⟩ := (Option.any_eq_true _ _).1 this
    obtain ⟨o, ho, rfl⟩ := Option.map_eq_some_iff.1 hl
    obtain ⟨e, he, he2⟩ := List.any_eq_true.1 hl2
    simp only [Bool.and_eq_true, Bool.or_eq_true, beq_iff_eq, List.contains_eq_mem, decide_eq_true_eq] at he2
    exact ⟨o, e, ho, he, he2.1, he2.2⟩
  · intro i o e ho he hb
    have hi : i < ops.size := (Array.getElem?_eq_some_iff.1 ho).1
    have := all h4 i hi
    rw [ho] at this
    simp only [Option.map_some, Option.any_some] at this
    have := List.all_eq_true.1 this e he
    simpa [hb] using this
  · intro i j t hi hj hdi hdj
    have := all (all h5 i hi) j hj
    rw [hdi, hdj] at this
    simpa using this
  · intro i j o t hi hj ho hd hm
    have := all h6 i hi
    rw [ho] at this
    simp only [Option.map_some, Option.any_some] at this
    have := all this j hj
    rw [hd] at this
    simp only [Bool.or_eq_true, Bool.not_eq_true', Bool.and_eq_true, decide_eq_true_eq, bne_iff_ne, ne_eq, List.contains_eq_mem] at this
    rcases this with q | q
    · simp [hm] at q
    · refine ⟨q.1, ?_⟩
      rcases q.2 with r | r
      · exact .inl ⟨by simpa using r.1, r.2⟩
      · exact .inr ⟨by simpa using r.1, r.2⟩
  · intro i j hi hj he hlt
    have := all (all h7 i hi) j hj
    simpa [he, hlt] using this
  · intro i j hi hj hr he hlt
    have := all h8 i hi
    rw [hr] at this
    simp only [Bool.not_true, Bool.false_or] at this
    have := all this j hj
    simp only [he, hlt, decide_true, Bool.not_true, Bool.false_or, Bool.or_eq_true, List.contains_eq_mem, decide_eq_true_eq] at this
    rcases this with q | q
    · exact .inl q
    · right
      obtain ⟨q, hq, h⟩ := List.any_eq_true.1 q
      simp only [Bool.and_eq_true, decide_eq_true_eq] at h
      obtain ⟨⟨a1, a2⟩, a3⟩ := h
      refine ⟨q, a1, ?_, fun k hk hke => ?_⟩
      · unfold isAgain at a2
        split at a2
        · rename_i k hk; rw [hk]; simp at a2; rw [a2]
        · cases a2
      · have := all a3 k hk
        simp [hke] at this
        omega
end Go.LK
