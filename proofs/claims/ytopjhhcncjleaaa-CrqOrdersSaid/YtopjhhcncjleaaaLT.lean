/- A region whose order is open, part 2: what the run of the plan comes to, position by position. -/
import Derived.Test.YtopjhhcncjleaaaLS
namespace Go.LK
open Go Go.RowKit
set_option linter.unusedVariables false
set_option linter.unusedSimpArgs false

theorem stepsL_states {cf : CallF} {lim : Nat} : ∀ {l : List LStep} {e : List Value} {H : LHeap} {r : List Value × LHeap}, stepsL cf lim e H l = some r →
    ∃ st : Nat → List Value × LHeap, st 0 = (e, H) ∧ st l.length = r ∧ ∀ q s, l[q]? = some s → stepL cf lim (st q).1 (st q).2 s = some (st (q + 1))
  | [], e, H, r, h => by
    cases h
    exact ⟨fun _ => (e, H), rfl, rfl, by simp⟩
  | s :: l, e, H, r, h => by
    simp only [stepsL] at h
    obtain ⟨r1, h1, h2⟩ := Option.bind_eq_some_iff.1 h
    obtain ⟨st, a1, a2, a3⟩ := stepsL_states h2
    refine ⟨fun q => match q with | 0 => (e, H) | q + 1 => st q, rfl, a2, ?_⟩
    intro q s' hq
    cases q with
    | zero => simp at hq; subst hq; show _ = some (st 0); rw [a1]; exact h1
    | succ q => simp only [List.getElem?_cons_succ] at hq; exact a3 q s' hq
theorem compItems_get {P : Program} {ops : Array Oper} : ∀ {its : List Item} {l : List LStep}, compItems P ops its = some l → l.length = its.length ∧ ∀ (q : Nat) (it : Item), its[q]? = some it → ∃ s, l[q]? = some s ∧ compItem P ops it = some s
  | [], l, h => by cases h; exact ⟨rfl, by simp⟩
  | it :: its, l, h => by
    unfold compItems at h
    split at h
    · rename_i s r hs hr
      cases h
      obtain ⟨h1, h2⟩ := compItems_get hr
      refine ⟨by simp [h1], fun q it' hq => ?_⟩
      cases q with
      | zero => simp at hq; subst hq; exact ⟨s, rfl, hs⟩
      | succ q => simp only [List.getElem?_cons_succ] at hq ⊢; exact h2 q it' hq
    · cases h

theorem putL_length (e : List Value) (d : Option Tmp) (v : Value) : (putL e d v).length = e.length := by cases d <;> simp [putL]
theorem putL_ne {e : List Value} {d : Option Tmp} {v : Value} {t : Tmp} (h : d ≠ some t) : (putL e d v).getD t undef = e.getD t undef := by
  cases d with
  | none => rfl
  | some d =>
    have hne : d ≠ t := fun q => h (by rw [q])
    simp [putL, List.getD, List.getElem?_set_ne hne]
theorem putL_eq {e : List Value} {d : Tmp} {v : Value} (h : d < e.length) : (putL e (some d) v).getD d undef = v := by
  simp [putL, List.getD, List.getElem?_set_self h]

/-- How the logical machine's step turns its state. -/
theorem stepL_act {cf : CallF} {lim : Nat} {e : List Value} {H : LHeap} {d : Option Tmp} {a : LAct} {g : Option (Tmp × Bool)} {r : List Value × LHeap} (h : stepL cf lim e H (.act d a g) = some r) :
    (∃ v, r.1 = putL e d v) ∧ (isEff a = false → r.2 = H ∨ ∃ o, r.2 = H ++ [o]) := by
  simp only [stepL] at h
  split at h
  · obtain ⟨q, h1, rfl⟩ := Option.map_eq_some_iff.1 h
    refine ⟨⟨_, rfl⟩, fun hn => ?_⟩
    cases a with
    | call => simp [isEff] at hn
    | op o =>
      cases o with
      | pure p => obtain ⟨v, _, rfl⟩ := Option.map_eq_some_iff.1 h1; exact .inl rfl
      | new n => obtain ⟨v, _, rfl⟩ := Option.map_eq_some_iff.1 h1; exact .inr ⟨_, rfl⟩
      | read n => obtain ⟨v, _, rfl⟩ := Option.map_eq_some_iff.1 h1; exact .inl rfl
      | eff n => simp [isEff] at hn
  · cases h; exact ⟨⟨_, rfl⟩, fun _ => .inl rfl⟩
  · cases h
theorem stepL_again {cf : CallF} {lim : Nat} {e : List Value} {H : LHeap} {d : Tmp} {a : ReadOp} {g : Option (Tmp × Bool)} {r : List Value × LHeap} (h : stepL cf lim e H (.again d a g) = some r) : r = (e, H) := by
  simp only [stepL] at h
  split at h
  · split at h
    · split at h
      · cases h; rfl
      · cases h
    · cases h
  · cases h; rfl
  · cases h

/-- The run of a plan. -/
structure Ref (P : Program) (cf : CallF) (lim : Nat) (ops : Array Oper) (p : Plan) (st : Nat → List Value × LHeap) : Prop where
  pf : PlanFacts P ops p
  act : ∀ i, i < ops.size → ∃ o ac g, ops[i]? = some o ∧ compStep P ops o = some (.act o.dst ac g) ∧ stepL cf lim (st (posOf p.items i)).1 (st (posOf p.items i)).2 (.act o.dst ac g) = some (st (posOf p.items i + 1))
  again : ∀ q i, p.items[q]? = some (.again i) → ∃ o d r g, ops[i]? = some o ∧ o.dst = some d ∧ compStep P ops o = some (.act (some d) (.op (.read r)) g) ∧ stepL cf lim (st q).1 (st q).2 (.again d r g) = some (st (q + 1))

theorem compStep_dst {P : Program} {ops : Array Oper} {o : Oper} {s : LStep} (h : compStep P ops o = some s) : ∃ ac g, s = .act o.dst ac g := by
  unfold compStep at h
  split at h
  · cases h; exact ⟨_, _, rfl⟩
  · cases h
theorem ref_of {P : Program} {cf : CallF} {lim : Nat} {ops : Array Oper} {p : Plan} (hp : planOk P ops p = true) {l : List LStep} (hl : compItems P ops p.items = some l) {e : List Value} {H : LHeap} {r : List Value × LHeap} (h : stepsL cf lim e H l = some r) :
    ∃ st, Ref P cf lim ops p st ∧ st 0 = (e, H) ∧ st p.items.length = r := by
  obtain ⟨st, a1, a2, a3⟩ := stepsL_states h
  obtain ⟨b1, b2⟩ := compItems_get hl
  refine ⟨st, ⟨planFacts hp, ?_, ?_⟩, a1, by rw [← b1]; exact a2⟩
  · intro i hi
    have hat := posOf_at ((planFacts hp).pos_lt i hi)
    obtain ⟨s, hs1, hs2⟩ := b2 _ _ hat
    simp only [compItem] at hs2
    split at hs2
    · rename_i o ho
      obtain ⟨ac, g, rfl⟩ := compStep_dst hs2
      exact ⟨o, ac, g, ho, hs2, a3 _ _ hs1⟩
    · cases hs2
  · intro q i hq
    obtain ⟨s, hs1, hs2⟩ := b2 _ _ hq
    simp only [compItem] at hs2
    split at hs2
    · rename_i o ho
      split at hs2
      · rename_i d r g hc
        cases hs2
        obtain ⟨ac, g', he⟩ := compStep_dst hc
        injection he with e1 e2 e3
        exact ⟨o, d, r, g, ho, e1.symm, hc, a3 _ _ hs1⟩
      · cases hs2
    · cases hs2

section
variable {P : Program} {cf : CallF} {lim : Nat} {ops : Array Oper} {p : Plan} {st : Nat → List Value × LHeap}

theorem Ref.item (h : Ref P cf lim ops p st) {q : Nat} (hq : q < p.items.length) :
    (∃ i v, i < ops.size ∧ posOf p.items i = q ∧ (st (q + 1)).1 = putL (st q).1 (dstOf ops i) v ∧ (effAt P ops i = false → (st (q + 1)).2 = (st q).2 ∨ ∃ o, (st (q + 1)).2 = (st q).2 ++ [o])) ∨
    (∃ i, p.items[q]? = some (.again i) ∧ st (q + 1) = st q) := by
  have hg := List.getElem?_eq_getElem hq
  cases hit : p.items[q] with
  | act i =>
    rw [hit] at hg
    obtain ⟨hi, hp⟩ := h.pf.item_act q i hg
    obtain ⟨o, ac, g, ho, hc, hs⟩ := h.act i hi
    rw [hp] at hs
    obtain ⟨⟨v, hv⟩, he⟩ := stepL_act hs
    left
    refine ⟨i, v, hi, hp, by rw [hv]; simp [dstOf, ho], fun hne => he ?_⟩
    have : effAt P ops i = isEff ac := by simp [effAt, stepOf, ho, hc, isEffS]
    rw [← this]; exact hne
  | again i =>
    rw [hit] at hg
    obtain ⟨o, d, r, g, _, _, _, hs⟩ := h.again q i hg
    exact .inr ⟨i, hg, stepL_again hs⟩
theorem Ref.env (h : Ref P cf lim ops p st) {t : Tmp} {a : Nat} : ∀ (k : Nat), a + k ≤ p.items.length → (∀ j, j < ops.size → dstOf ops j = some t → ¬ (a ≤ posOf p.items j ∧ posOf p.items j < a + k)) →
    (st (a + k)).1.getD t undef = (st a).1.getD t undef
  | 0, _, _ => rfl
  | k + 1, hk, hno => by
    have ih := h.env (t := t) (a := a) k (by omega) fun j hj hd hn => hno j hj hd ⟨hn.1, by omega⟩
    rw [← ih]
    rcases h.item (q := a + k) (by omega) with ⟨i, v, hi, hp, h1, _⟩ | ⟨i, _, h1⟩
    · show (st (a + k + 1)).1.getD t undef = _
      rw [h1]
      exact putL_ne fun hd => hno i hi hd ⟨by omega, by omega⟩
    · show (st (a + k + 1)).1.getD t undef = _
      rw [h1]
theorem Ref.len (h : Ref P cf lim ops p st) : ∀ (k : Nat), k ≤ p.items.length → (st k).1.length = (st 0).1.length
  | 0, _ => rfl
  | k + 1, hk => by
    rw [← h.len k (by omega)]
    rcases h.item (q := k) (by omega) with ⟨i, v, hi, hp, h1, _⟩ | ⟨i, _, h1⟩
    · rw [h1, putL_length]
    · rw [h1]
theorem Ref.heap (h : Ref P cf lim ops p st) {a : Nat} : ∀ (k : Nat), a + k ≤ p.items.length → (∀ j, j < ops.size → effAt P ops j = true → ¬ (a ≤ posOf p.items j ∧ posOf p.items j < a + k)) →
    ∃ X, (st (a + k)).2 = (st a).2 ++ X
  | 0, _, _ => ⟨[], by simp⟩
  | k + 1, hk, hno => by
    obtain ⟨X, hX⟩ := h.heap (a := a) k (by omega) fun j hj hd hn => hno j hj hd ⟨hn.1, by omega⟩
    rcases h.item (q := a + k) (by omega) with ⟨i, v, hi, hp, _, h1⟩ | ⟨i, _, h1⟩
    · have he : effAt P ops i = false := by
        cases hq : effAt P ops i with
        | false => rfl
        | true => exact absurd ⟨by omega, by omega⟩ (hno i hi hq)
      rcases h1 he with h1 | ⟨o, h1⟩
      · exact ⟨X, by show (st (a + k + 1)).2 = _; rw [h1, hX]⟩
      · exact ⟨X ++ [o], by show (st (a + k + 1)).2 = _; rw [h1, hX, List.append_assoc]⟩
    · exact ⟨X, by show (st (a + k + 1)).2 = _; rw [h1, hX]⟩
/-- The next place at which memory is written. -/
theorem nextEff (P : Program) (ops : Array Oper) (p : Plan) : ∀ (m Q : Nat), Q + m = p.items.length →
    ∃ Q', Q ≤ Q' ∧ Q' ≤ p.items.length ∧ (Q' = p.items.length ∨ ∃ x, x < ops.size ∧ effAt P ops x = true ∧ posOf p.items x = Q') ∧ ∀ x, x < ops.size → effAt P ops x = true → ¬ (Q ≤ posOf p.items x ∧ posOf p.items x < Q')
  | 0, Q, h => ⟨Q, Nat.le_refl _, by omega, .inl (by omega), fun x _ _ hn => by omega⟩
  | m + 1, Q, h => by
    by_cases hx : ∃ x, x < ops.size ∧ effAt P ops x = true ∧ posOf p.items x = Q
    · exact ⟨Q, Nat.le_refl _, by omega, .inr hx, fun x _ _ hn => by omega⟩
    · obtain ⟨Q', a1, a2, a3, a4⟩ := nextEff P ops p m (Q + 1) (by omega)
      refine ⟨Q', by omega, a2, a3, fun x hx1 hx2 hn => ?_⟩
      by_cases e : posOf p.items x = Q
      · exact hx ⟨x, hx1, hx2, e⟩
      · exact a4 x hx1 hx2 ⟨by omega, hn.2⟩
/-- The last place ahead of one at which memory is written. -/
theorem lastEff (P : Program) (ops : Array Oper) (p : Plan) (a : Nat) : ∀ (k : Nat), (∀ x, x < ops.size → effAt P ops x = true → ¬ (a ≤ posOf p.items x ∧ posOf p.items x < a + k)) ∨
    ∃ x, x < ops.size ∧ effAt P ops x = true ∧ a ≤ posOf p.items x ∧ posOf p.items x < a + k ∧ ∀ y, y < ops.size → effAt P ops y = true → ¬ (posOf p.items x < posOf p.items y ∧ posOf p.items y < a + k)
  | 0 => .inl fun x _ _ hn => by omega
  | k + 1 => by
    by_cases hx : ∃ x, x < ops.size ∧ effAt P ops x = true ∧ posOf p.items x = a + k
    · obtain ⟨x, h1, h2, h3⟩ := hx
      exact .inr ⟨x, h1, h2, by omega, by omega, fun y _ _ hn => by omega⟩
    · rcases lastEff P ops p a k with h | ⟨x, h1, h2, h3, h4, h5⟩
      · left
        intro x h1 h2 hn
        by_cases e : posOf p.items x = a + k
        · exact hx ⟨x, h1, h2, e⟩
        · exact h x h1 h2 ⟨hn.1, by omega⟩
      · right
        refine ⟨x, h1, h2, h3, by omega, fun y g1 g2 hn => ?_⟩
        by_cases e : posOf p.items y = a + k
        · exact hx ⟨y, g1, g2, e⟩
        · exact h5 y g1 g2 ⟨hn.1, by omega⟩
theorem pos_inj (pf : PlanFacts P ops p) {x y : Nat} (hx : x < ops.size) (hy : y < ops.size) (h : posOf p.items x = posOf p.items y) : x = y := by
  have h1 := posOf_at (pf.pos_lt x hx)
  have h2 := posOf_at (pf.pos_lt y hy)
  rw [h] at h1
  rw [h1] at h2
  cases h2; rfl

theorem lcells_append {H X : LHeap} {b o n : Nat} {l : List Value} (h : lcells H b o n = some l) : lcells (H ++ X) b o n = some l := by
  obtain ⟨ro, es, c, hb, hn, rfl⟩ := cells_of b o n h
  unfold lcells
  rw [List.getElem?_append_left (List.getElem?_eq_some_iff.1 hb).1, hb]
  simp [hn]
theorem lmap_append {H X : LHeap} {v : Value} {es : List (Value × Value)} (h : lmap H v = some es) : lmap (H ++ X) v = some es := by
  unfold lmap at h ⊢
  split at h
  · exact h
  · split at h
    · rename_i es' hb
      rw [List.getElem?_append_left (List.getElem?_eq_some_iff.1 hb).1, hb]; exact h
    · cases h
  · cases h
theorem lread_append {H X : LHeap} {r : Operand → Value} {n : ReadOp} {v : Value} (h : lread H r n = some v) : lread (H ++ X) r n = some v := by
  cases n with
  | load1 x =>
    simp only [lread] at h ⊢
    split at h
    · split at h
      · rename_i ro es c hb
        rw [List.getElem?_append_left (List.getElem?_eq_some_iff.1 hb).1, hb]; exact h
      · cases h
    · cases h
  | loadN n x =>
    simp only [lread] at h ⊢
    split at h
    · obtain ⟨l, h1, h2⟩ := Option.map_eq_some_iff.1 h
      rw [lcells_append h1]; simpa using h2
    · cases h
  | b2s x =>
    simp only [lread] at h ⊢
    split at h
    · exact h
    · obtain ⟨l, h1, h2⟩ := Option.bind_eq_some_iff.1 h
      rw [lcells_append h1]; simpa using h2
    · cases h
  | lenMap x =>
    simp only [lread] at h ⊢
    obtain ⟨l, h1, h2⟩ := Option.map_eq_some_iff.1 h
    rw [lmap_append h1]; simpa using h2
  | lookup ks z ok m k =>
    simp only [lread] at h ⊢
    split at h
    · rename_i es hes
      rw [lmap_append hes]; exact h
    · cases h
  | slSl size x lo hi mx =>
    simp only [lread] at h ⊢
    split at h
    · rename_i a len cap e0
      skip
      split at h
      · cases h
      · rename_i m e1
        skip
        split at h
        · cases h
        · rename_i hh e2
          skip
          split at h
          · cases h
          · rename_i l e3
            skip
            split at h
            · exact h
            · split at h
              · rename_i ro es c hb
                rw [List.getElem?_append_left (List.getElem?_eq_some_iff.1 hb).1, hb]; exact h
              · cases h
            · cases h
    · cases h
theorem lread_congr {H : LHeap} {f g : Operand → Value} {n : ReadOp} (h : ∀ x ∈ n.opnds, f x = g x) : lread H f n = lread H g n := by
  cases n with
  | load1 x => simp only [lread, h x (by simp [ReadOp.opnds])]
  | loadN n x => simp only [lread, h x (by simp [ReadOp.opnds])]
  | b2s x => simp only [lread, h x (by simp [ReadOp.opnds])]
  | lenMap x => simp only [lread, h x (by simp [ReadOp.opnds])]
  | lookup ks z ok m k => simp only [lread, h m (by simp [ReadOp.opnds]), h k (by simp [ReadOp.opnds])]
  | slSl size x lo hi mx =>
    have e1 : lo.map f = lo.map g := by cases lo with | none => rfl | some y => simp [h y (by simp [ReadOp.opnds])]
    have e2 : hi.map f = hi.map g := by cases hi with | none => rfl | some y => simp [h y (by simp [ReadOp.opnds])]
    have e3 : mx.map f = mx.map g := by cases mx with | none => rfl | some y => simp [h y (by simp [ReadOp.opnds])]
    simp only [lread, h x (by simp [ReadOp.opnds]), e1, e2, e3]
theorem sameC_eq {a b : Value} (h : sameC a b = true) : a = b := by
  unfold sameC at h
  split at h
  · simp at h; rw [h.1, h.2]
  · simp at h; rw [h]
  · rw [bytes_eq h]
  · simp at h; rw [h]
  · simp at h; rw [h.1.1, h.1.2, h.2]
  · simp at h; rw [h]
  · rfl
  · cases h
theorem sameL_eq : ∀ {l m : List Value}, sameL l m = true → l = m
  | [], [], _ => rfl
  | [], _ :: _, h => by simp [sameL] at h
  | _ :: _, [], h => by simp [sameL] at h
  | a :: l, b :: m, h => by
    simp only [sameL, Bool.and_eq_true] at h
    rw [sameC_eq h.1, sameL_eq h.2]
theorem sameV_eq {a b : Value} (h : sameV a b = true) : a = b := by
  unfold sameV at h
  split at h
  · rw [Array.toList_inj.1 (sameL_eq h)]
  · rw [Array.toList_inj.1 (sameL_eq h)]
  · exact sameC_eq h
end
end Go.LK
