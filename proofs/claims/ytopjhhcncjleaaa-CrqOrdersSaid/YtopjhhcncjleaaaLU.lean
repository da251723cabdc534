/- A region whose order is open, part 3: whatever order it is, it comes to what its plan comes to. -/
import Derived.Test.YtopjhhcncjleaaaLT
namespace Go.LK
open Go Go.RowKit
set_option linter.unusedVariables false
set_option linter.unusedSimpArgs false

theorem Rel.pushes {B : Nat} {L : List Nat} {i : Inj} {w : World} {H : LHeap} : ∀ (X : LHeap), Rel B L i H w → Rel B L i (H ++ X) w
  | [], h => by simpa using h
  | o :: X, h => by
    have := (h.push (o := o)).pushes X
    simpa using this
theorem next_pushes {B : Nat} {i : Inj} {w : World} (H X : LHeap) : Next B i H w i (H ++ X) w :=
  ⟨Inj.le_refl i, by simp, fun b hb hn => ⟨hn, List.getElem?_append_left hb⟩, Below.refl B w⟩

section
variable (P : Program) (B : Nat) (L : List Nat) (ops : Array Oper) (p : Plan) (st : Nat → List Value × LHeap) (i0 : Inj) (w0 : World) (a0 : Act)

def newId (x : Nat) : Nat := (st (posOf p.items x)).2.length
structure Inv (S : Nat → Bool) (i : Inj) (Q : Nat) (a : Act) (w : World) : Prop where
  inside : ∀ x, S x = true → x < ops.size
  down : ∀ x, S x = true → ∀ j, j ∈ p.ancOf x → S j = true
  qle : Q ≤ p.items.length
  qeff : ∀ x, x < ops.size → effAt P ops x = true → (S x = true ↔ posOf p.items x < Q)
  qat : Q = p.items.length ∨ ∃ x, x < ops.size ∧ effAt P ops x = true ∧ posOf p.items x = Q
  rel : Rel B L i (st Q).2 w
  next : Next B i0 (st 0).2 w0 i (st Q).2 w
  envD : ∀ x t, S x = true → dstOf ops x = some t → VR i ((st p.items.length).1.getD t undef) (a.tmps.getD t undef)
  envU : ∀ t, (∀ x, S x = true → dstOf ops x ≠ some t) → VR i ((st 0).1.getD t undef) (a.tmps.getD t undef)
  size : a.tmps.size = a0.tmps.size
  defers : a.defers = a0.defers
  pend : ∀ x o, x < ops.size → S x = false → posOf p.items x < Q → effAt P ops x = false → (st (posOf p.items x + 1)).2 = (st (posOf p.items x)).2 ++ [o] →
    i (newId p st x) = none ∧ (st Q).2[newId p st x]? = some o ∧ (st 0).2.length ≤ newId p st x
  apart : ∀ x y o u, x < ops.size → y < ops.size → x ≠ y → S x = false → S y = false → posOf p.items x < Q → posOf p.items y < Q → effAt P ops x = false → effAt P ops y = false →
    (st (posOf p.items x + 1)).2 = (st (posOf p.items x)).2 ++ [o] → (st (posOf p.items y + 1)).2 = (st (posOf p.items y)).2 ++ [u] → newId p st x ≠ newId p st y
end

section
variable {P : Program} {B : Nat} {L : List Nat} {ops : Array Oper} {p : Plan} {st : Nat → List Value × LHeap} {i0 : Inj} {w0 : World} {a0 : Act} {cf : CallF}

theorem put_size (a : Act) (d : Option Tmp) (v : Value) : (a.put d v).tmps.size = a.tmps.size := by cases d <;> simp [Act.put]
theorem put_defers (a : Act) (d : Option Tmp) (v : Value) : (a.put d v).defers = a.defers := by cases d <;> rfl
theorem put_ne {a : Act} {d : Option Tmp} {v : Value} {t : Tmp} (h : d ≠ some t) : (a.put d v).tmps.getD t undef = a.tmps.getD t undef := by
  cases d with
  | none => rfl
  | some d =>
    have hne : d ≠ t := fun q => h (by rw [q])
    simp [Act.put, Array.getElem?_setIfInBounds_ne hne]
theorem put_eq {a : Act} {d : Tmp} {v : Value} (h : d < a.tmps.size) : (a.put (some d) v).tmps.getD d undef = v := by
  simp [Act.put, Array.getElem?_setIfInBounds_self_of_lt h]
theorem put_out {a : Act} {d : Tmp} {v : Value} (h : ¬ d < a.tmps.size) : (a.put (some d) v).tmps.getD d undef = undef := by
  have : (a.put (some d) v).tmps = a.tmps := by simp [Act.put, Array.setIfInBounds, h]
  rw [this, Array.getD_eq_getD_getElem?, Array.getElem?_eq_none (Nat.le_of_not_lt h)]; rfl

/-- What an operation looks at reads as where it stands in the plan. -/
theorem Inv.looks (hr : Ref P cf (lmax L) ops p st) {S : Nat → Bool} {i : Inj} {Q : Nat} {a : Act} {w : World} (h : Inv P B L ops p st i0 w0 a0 S i Q a w) {x : Nat} (hx : x < ops.size) (hS : S x = false)
    (hanc : ∀ j, j ∈ p.ancOf x → S j = true) {o : Oper} (ho : ops[x]? = some o) : AtLooks i ops o (st (posOf p.items x)).1 a := by
  intro t ht
  have hpx := hr.pf.pos_lt x hx
  by_cases hw : ∃ j, j < ops.size ∧ dstOf ops j = some t
  · obtain ⟨j, hj, hd⟩ := hw
    obtain ⟨hne, hs⟩ := hr.pf.slots x j o t hx hj ho hd ht
    rcases hs with ⟨h1, h2⟩ | ⟨h1, h2⟩
    · have e := hr.env (t := t) (a := posOf p.items x) (p.items.length - posOf p.items x) (by omega) fun k hk hdk hn => by
        have := hr.pf.dsts k j t hk hj hdk hd
        subst this; omega
      rw [show posOf p.items x + (p.items.length - posOf p.items x) = p.items.length by omega] at e
      rw [← e]
      exact h.envD j t (hanc j h1) hd
    · have hnS : S j = false := by
        cases hq : S j with
        | false => rfl
        | true => have := h.down j hq x h1; rw [hS] at this; cases this
      have e := hr.env (t := t) (a := 0) (posOf p.items x) (by omega) fun k hk hdk hn => by
        have := hr.pf.dsts k j t hk hj hdk hd
        subst this; omega
      rw [Nat.zero_add] at e
      rw [e]
      refine h.envU t fun k hk hdk => ?_
      have := hr.pf.dsts k j t (h.inside k hk) hj hdk hd
      subst this; rw [hnS] at hk; cases hk
  · have e := hr.env (t := t) (a := 0) (posOf p.items x) (by omega) fun k hk hdk hn => hw ⟨k, hk, hdk⟩
    rw [Nat.zero_add] at e
    rw [e]
    exact h.envU t fun k hk hdk => hw ⟨k, h.inside k hk, hdk⟩

/-- The slots behind an operation. -/
theorem Inv.slots (hr : Ref P cf (lmax L) ops p st) (hsz : (st 0).1.length = a0.tmps.size) {S : Nat → Bool} {i i' : Inj} {Q : Nat} {a : Act} {w : World} (h : Inv P B L ops p st i0 w0 a0 S i Q a w) {x : Nat} (hx : x < ops.size) (hS : S x = false)
    (hle : i.le i') {v v' : Value} (hv : VR i' v v') (hput : (st (posOf p.items x + 1)).1 = putL (st (posOf p.items x)).1 (dstOf ops x) v) :
    (∀ y t, (S y = true ∨ y = x) → dstOf ops y = some t → VR i' ((st p.items.length).1.getD t undef) ((a.put (dstOf ops x) v').tmps.getD t undef)) ∧
    (∀ t, (∀ y, (S y = true ∨ y = x) → dstOf ops y ≠ some t) → VR i' ((st 0).1.getD t undef) ((a.put (dstOf ops x) v').tmps.getD t undef)) := by
  have hpx := hr.pf.pos_lt x hx
  constructor
  · intro y t hy hd
    by_cases e : y = x
    · subst e
      have e1 := hr.env (t := t) (a := posOf p.items y + 1) (p.items.length - (posOf p.items y + 1)) (by omega) fun k hk hdk hn => by
        have := hr.pf.dsts k y t hk hx hdk hd
        subst this; omega
      rw [show posOf p.items y + 1 + (p.items.length - (posOf p.items y + 1)) = p.items.length by omega] at e1
      rw [e1, hput, hd]
      have hl := hr.len (posOf p.items y) (by omega)
      by_cases ht : t < a.tmps.size
      · rw [putL_eq (by rw [hl, hsz, ← h.size]; exact ht), put_eq ht]; exact hv
      · rw [put_out ht]
        have : (putL (st (posOf p.items y)).1 (some t) v).getD t undef = undef := by
          have hn : ¬ t < (st (posOf p.items y)).1.length := by rw [hl, hsz, ← h.size]; exact ht
          simp only [putL, List.getD]
          rw [List.getElem?_eq_none (by simpa using hn)]; rfl
        rw [this]; exact .undef _
    · have hy' : S y = true := by rcases hy with q | q; exact q; exact absurd q e
      have hne : dstOf ops x ≠ some t := fun q => e (hr.pf.dsts y x t (h.inside y hy') hx hd q)
      rw [put_ne hne]
      exact (h.envD y t hy' hd).mono hle
  · intro t ht
    rw [put_ne (ht x (.inr rfl))]
    exact (h.envU t fun y hy => ht y (.inl hy)).mono hle

def addS (S : Nat → Bool) (x : Nat) : Nat → Bool := fun y => S y || y == x
theorem addS_true {S : Nat → Bool} {x y : Nat} : addS S x y = true ↔ S y = true ∨ y = x := by simp [addS]
theorem addS_false {S : Nat → Bool} {x y : Nat} : addS S x y = false ↔ S y = false ∧ y ≠ x := by simp [addS]

/-- Behind an operation that writes nothing. -/
theorem Inv.float (hr : Ref P cf (lmax L) ops p st) (hsz : (st 0).1.length = a0.tmps.size) {S : Nat → Bool} {i i' : Inj} {Q : Nat} {a : Act} {w w' : World} (h : Inv P B L ops p st i0 w0 a0 S i Q a w) {x : Nat} (hx : x < ops.size) (hS : S x = false)
    (hanc : ∀ j, j ∈ p.ancOf x → S j = true) (hne : effAt P ops x = false) (hle : i.le i') {v v' : Value} (hv : VR i' v v') (hput : (st (posOf p.items x + 1)).1 = putL (st (posOf p.items x)).1 (dstOf ops x) v)
    (hrel : Rel B L i' (st Q).2 w') (hnext : Next B i0 (st 0).2 w0 i' (st Q).2 w')
    (hpend : ∀ y o, y < ops.size → y ≠ x → S y = false → posOf p.items y < Q → effAt P ops y = false → (st (posOf p.items y + 1)).2 = (st (posOf p.items y)).2 ++ [o] → i' (newId p st y) = none) :
    Inv P B L ops p st i0 w0 a0 (addS S x) i' Q (a.put (dstOf ops x) v') w' := by
  obtain ⟨s1, s2⟩ := h.slots hr hsz hx hS hle hv hput
  refine ⟨?_, ?_, h.qle, ?_, h.qat, hrel, hnext, ?_, ?_, by rw [put_size]; exact h.size, by rw [put_defers]; exact h.defers, ?_, ?_⟩
  · intro y hy
    rcases addS_true.1 hy with q | q
    · exact h.inside y q
    · omega
  · intro y hy j hj
    rcases addS_true.1 hy with q | q
    · exact addS_true.2 (.inl (h.down y q j hj))
    · subst q; exact addS_true.2 (.inl (hanc j hj))
  · intro y hy he
    rw [← h.qeff y hy he]
    constructor
    · intro q
      rcases addS_true.1 q with r | r
      · exact r
      · subst r; rw [hne] at he; cases he
    · intro q; exact addS_true.2 (.inl q)
  · intro y t hy hd; exact s1 y t (addS_true.1 hy) hd
  · intro t ht; exact s2 t fun y hy => ht y (addS_true.2 hy)
  · intro y o hy hyS hyQ hye hyo
    obtain ⟨q1, q2⟩ := addS_false.1 hyS
    obtain ⟨_, b, c⟩ := h.pend y o hy q1 hyQ hye hyo
    exact ⟨hpend y o hy q2 q1 hyQ hye hyo, b, c⟩
  · intro y z o u hy hz hyz hyS hzS
    exact h.apart y z o u hy hz hyz (addS_false.1 hyS).1 (addS_false.1 hzS).1

/-- Behind one that writes. -/
theorem Inv.eff (hr : Ref P cf (lmax L) ops p st) (hsz : (st 0).1.length = a0.tmps.size) {S : Nat → Bool} {i i' : Inj} {Q : Nat} {a : Act} {w w' : World} (h : Inv P B L ops p st i0 w0 a0 S i Q a w) {x : Nat} (hx : x < ops.size) (hS : S x = false)
    (hanc : ∀ j, j ∈ p.ancOf x → S j = true) (he : effAt P ops x = true) (hQ : posOf p.items x = Q) {v v' : Value} (hv : VR i' v v') (hput : (st (Q + 1)).1 = putL (st Q).1 (dstOf ops x) v)
    (hrel : Rel B L i' (st (Q + 1)).2 w') (hnext : Next B i (st Q).2 w i' (st (Q + 1)).2 w') :
    ∃ Q', Inv P B L ops p st i0 w0 a0 (addS S x) i' Q' (a.put (dstOf ops x) v') w' := by
  have hQlt : Q < p.items.length := by rw [← hQ]; exact hr.pf.pos_lt x hx
  obtain ⟨s1, s2⟩ := h.slots hr hsz hx hS hnext.le hv (by rw [hQ]; exact hput)
  obtain ⟨Q', q1, q2, q3, q4⟩ := nextEff P ops p (p.items.length - (Q + 1)) (Q + 1) (by omega)
  obtain ⟨X, hX⟩ := hr.heap (a := Q + 1) (Q' - (Q + 1)) (by omega) (by rw [show Q + 1 + (Q' - (Q + 1)) = Q' by omega]; exact q4)
  rw [show Q + 1 + (Q' - (Q + 1)) = Q' by omega] at hX
  -- the heap at a place in the stage that begins
  have stage : ∀ y, y < ops.size → Q < posOf p.items y → posOf p.items y < Q' → ∃ Y, (st (posOf p.items y)).2 = (st (Q + 1)).2 ++ Y := by
    intro y hy h1 h2
    obtain ⟨Y, hY⟩ := hr.heap (a := Q + 1) (posOf p.items y - (Q + 1)) (by omega) fun j hj hej hn => q4 j hj hej ⟨hn.1, by omega⟩
    rw [show Q + 1 + (posOf p.items y - (Q + 1)) = posOf p.items y by omega] at hY
    exact ⟨Y, hY⟩
  have after : ∀ y o, y < ops.size → Q < posOf p.items y → posOf p.items y < Q' → (st (posOf p.items y + 1)).2 = (st (posOf p.items y)).2 ++ [o] → (st Q').2[newId p st y]? = some o := by
    intro y o hy h1 h2 hyo
    obtain ⟨Z, hZ⟩ := hr.heap (a := posOf p.items y + 1) (Q' - (posOf p.items y + 1)) (by omega) (fun j hj hej hn => q4 j hj hej ⟨by omega, by omega⟩)
    rw [show posOf p.items y + 1 + (Q' - (posOf p.items y + 1)) = Q' by omega] at hZ
    rw [hZ, hyo]
    unfold newId
    rw [List.append_assoc, List.getElem?_append_right (Nat.le_refl _)]
    simp
  have old : ∀ y, y < ops.size → y ≠ x → posOf p.items y < Q' → posOf p.items y < Q ∨ Q < posOf p.items y := by
    intro y hy hyx h2
    have : posOf p.items y ≠ Q := fun e => hyx (pos_inj hr.pf hy hx (e.trans hQ.symm))
    omega
  refine ⟨Q', ?_, ?_, q2, ?_, q3, by rw [hX]; exact hrel.pushes X, by rw [hX]; exact (h.next.trans hnext).trans (next_pushes _ X), ?_, ?_, by rw [put_size]; exact h.size, by rw [put_defers]; exact h.defers, ?_, ?_⟩
  · intro y hy
    rcases addS_true.1 hy with q | q
    · exact h.inside y q
    · omega
  · intro y hy j hj
    rcases addS_true.1 hy with q | q
    · exact addS_true.2 (.inl (h.down y q j hj))
    · subst q; exact addS_true.2 (.inl (hanc j hj))
  · intro y hy hye
    constructor
    · intro q
      rcases addS_true.1 q with r | r
      · have := (h.qeff y hy hye).1 r; omega
      · subst r; omega
    · intro hlt
      by_cases e : y = x
      · exact addS_true.2 (.inr e)
      · rcases old y hy e hlt with r | r
        · exact addS_true.2 (.inl ((h.qeff y hy hye).2 r))
        · exact absurd ⟨by omega, hlt⟩ (q4 y hy hye)
  · intro y t hy hd; exact s1 y t (addS_true.1 hy) hd
  · intro t ht; exact s2 t fun y hy => ht y (addS_true.2 hy)
  · intro y o hy hyS hyQ hye hyo
    obtain ⟨r1, r2⟩ := addS_false.1 hyS
    rcases old y hy r2 hyQ with c | c
    · obtain ⟨g1, g2, g3⟩ := h.pend y o hy r1 c hye hyo
      have hlt : newId p st y < (st Q).2.length := (List.getElem?_eq_some_iff.1 g2).1
      obtain ⟨n1, n2⟩ := hnext.pend _ hlt g1
      refine ⟨n1, ?_, g3⟩
      rw [hX, List.getElem?_append_left (Nat.lt_of_lt_of_le hlt hnext.len), n2]; exact g2
    · obtain ⟨Y, hY⟩ := stage y hy c hyQ
      have hge : (st (Q + 1)).2.length ≤ newId p st y := by unfold newId; rw [hY]; simp
      refine ⟨?_, after y o hy c hyQ hyo, ?_⟩
      · cases hq : i' (newId p st y) with
        | none => rfl
        | some pp => have := hrel.bound _ _ hq; omega
      · have := h.next.len; have := hnext.len; omega
  · intro y z o u hy hz hyz hyS hzS hyQ hzQ hye hze hyo hzo
    obtain ⟨r1, r2⟩ := addS_false.1 hyS
    obtain ⟨r3, r4⟩ := addS_false.1 hzS
    have small : ∀ y o, y < ops.size → S y = false → posOf p.items y < Q → effAt P ops y = false → (st (posOf p.items y + 1)).2 = (st (posOf p.items y)).2 ++ [o] → newId p st y < (st Q).2.length := by
      intro y o hy h1 h2 h3 h4
      exact (List.getElem?_eq_some_iff.1 (h.pend y o hy h1 h2 h3 h4).2.1).1
    have great : ∀ y, y < ops.size → Q < posOf p.items y → posOf p.items y < Q' → (st Q).2.length ≤ newId p st y := by
      intro y hy h1 h2
      obtain ⟨Y, hY⟩ := stage y hy h1 h2
      have := hnext.len
      unfold newId; rw [hY]; simp; omega
    have both : ∀ y z o, y < ops.size → z < ops.size → Q < posOf p.items y → posOf p.items y < posOf p.items z → posOf p.items z < Q' → (st (posOf p.items y + 1)).2 = (st (posOf p.items y)).2 ++ [o] → newId p st y < newId p st z := by
      intro y z o hy hz h1 h2 h3 h4
      obtain ⟨Z, hZ⟩ := hr.heap (a := posOf p.items y + 1) (posOf p.items z - (posOf p.items y + 1)) (by omega) (fun j hj hej hn => q4 j hj hej ⟨by omega, by omega⟩)
      rw [show posOf p.items y + 1 + (posOf p.items z - (posOf p.items y + 1)) = posOf p.items z by omega] at hZ
      unfold newId; rw [hZ, h4]
      simp
      try omega
    rcases old y hy r2 hyQ with c | c <;> rcases old z hz r4 hzQ with d | d
    · exact h.apart y z o u hy hz hyz r1 r3 c d hye hze hyo hzo
    · have := small y o hy r1 c hye hyo; have := great z hz d hzQ; omega
    · have := small z u hz r3 d hze hzo; have := great y hy c hyQ; omega
    · have hpp : posOf p.items y ≠ posOf p.items z := fun e => hyz (pos_inj hr.pf hy hz e)
      rcases Nat.lt_or_ge (posOf p.items y) (posOf p.items z) with q | q
      · have := both y z o hy hz c q hzQ hyo; omega
      · have := both z y u hz hy d (by omega) hyQ hzo; omega
end
end Go.LK
