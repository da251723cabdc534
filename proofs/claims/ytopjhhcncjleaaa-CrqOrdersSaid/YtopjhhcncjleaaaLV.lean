/- A region whose order is open, part 4: each operation as it comes; the whole region. -/
import Derived.Test.YtopjhhcncjleaaaLU
namespace Go.LK
open Go Go.RowKit
set_option linter.unusedVariables false
set_option linter.unusedSimpArgs false

section
variable {P : Program} {B : Nat} {L : List Nat} {ops : Array Oper} {p : Plan} {st : Nat → List Value × LHeap} {i0 : Inj} {w0 : World} {a0 : Act} {cf : CallF}

theorem effAt_of {x : Nat} {o : Oper} {s : LStep} (ho : ops[x]? = some o) (hc : compStep P ops o = some s) : effAt P ops x = isEffS s ∧ rdAt P ops x = rdS s := by
  simp [effAt, rdAt, stepOf, ho, hc]

/-- A read reads, wherever it comes, what it reads where it stands in the plan. -/
theorem Inv.read (hr : Ref P cf (lmax L) ops p st) {S : Nat → Bool} {i : Inj} {Q : Nat} {a : Act} {w : World} (h : Inv P B L ops p st i0 w0 a0 S i Q a w) {x : Nat} (hx : x < ops.size) (hS : S x = false)
    (hanc : ∀ j, j ∈ p.ancOf x → S j = true) (hQ : posOf p.items x < Q) {o : Oper} (ho : ops[x]? = some o) {d : Option Tmp} {r : ReadOp} {g : Option (Tmp × Bool)} (hc : compStep P ops o = some (.act d (.op (.read r)) g))
    (hg : wantG (st (posOf p.items x)).1 g = some true) {v : Value} (hl : lread (st (posOf p.items x)).2 (leval (st (posOf p.items x)).1) r = some v) (hput : (st (posOf p.items x + 1)).1 = putL (st (posOf p.items x)).1 d v) :
    lread (st Q).2 (leval (st (posOf p.items x)).1) r = some v := by
  have hpx := hr.pf.pos_lt x hx
  obtain ⟨he, hrd⟩ := effAt_of ho hc
  rcases lastEff P ops p (posOf p.items x) (Q - posOf p.items x) with hno | ⟨j, hj, hje, hj1, hj2, hj3⟩
  · obtain ⟨X, hX⟩ := hr.heap (a := posOf p.items x) (Q - posOf p.items x) (by have := h.qle; omega) hno
    rw [show posOf p.items x + (Q - posOf p.items x) = Q by omega] at hX
    rw [hX]; exact lread_append hl
  · have hjx : j ≠ x := by
      intro e; subst e
      rw [he] at hje; simp [isEffS, isEff] at hje
    have hlt : posOf p.items x < posOf p.items j := by
      have : posOf p.items x ≠ posOf p.items j := fun e => hjx (pos_inj hr.pf hj hx e.symm)
      omega
    have hSj : S j = true := (h.qeff j hj hje).2 (by omega)
    rcases hr.pf.reads x j hx hj (by rw [hrd]; rfl) hje hlt with q | ⟨q, hq1, hq2, hq3⟩
    · have := h.down j hSj x q; rw [hS] at this; cases this
    · obtain ⟨o', d', r', g', ho', hd', hc', hs⟩ := hr.again q x hq2
      rw [ho] at ho'
      cases ho'
      rw [hc] at hc'
      cases hc'
      obtain ⟨_, _, _, hslots⟩ := hr.pf.item_again q x hq2
      have hql : q < p.items.length := (List.getElem?_eq_some_iff.1 hq2).1
      have hqQ : q < Q := by
        rcases h.qat with e | ⟨y, hy, hye, hyp⟩
        · omega
        · rcases Nat.lt_trichotomy q Q with c | c | c
          · exact c
          · exfalso
            have := posOf_at (hr.pf.pos_lt y hy)
            rw [hyp, ← c, hq2] at this; cases this
          · exfalso
            exact hq3 y hy hye ⟨by omega, by omega⟩
      -- the slots that are looked at have not turned
      have hst : stepOf P ops x = some (.act (some d') (.op (.read r)) g) := by simp [stepOf, ho, hc]
      have same : ∀ t ∈ againSlots (.act (some d') (.op (.read r)) g), (st q).1.getD t undef = (st (posOf p.items x)).1.getD t undef := by
        intro t ht
        have e := hr.env (t := t) (a := posOf p.items x) (q - posOf p.items x) (by omega) fun k hk hdk hn => by
          have := (hslots k t _ hk hdk hst ht).2; omega
        rwa [show posOf p.items x + (q - posOf p.items x) = q by omega] at e
      have hgq : wantG (st q).1 g = some true := by
        rw [← hg]
        cases g with
        | none => rfl
        | some gg =>
          obtain ⟨t, b⟩ := gg
          simp only [wantG, same t (by simp [againSlots])]
      simp only [stepL, hgq] at hs
      split at hs
      · rename_i v2 hv2
        split at hs
        · rename_i hsame
          obtain ⟨hdl, hsame⟩ := hsame
          have hv : v2 = v := by
            rw [sameV_eq hsame]
            have hdx : dstOf ops x = some d' := by simp [dstOf, ho, hd']
            have e := hr.env (t := d') (a := posOf p.items x + 1) (q - (posOf p.items x + 1)) (by omega) fun k hk hdk hn => by
              have := hr.pf.dsts k x d' hk hx hdk hdx
              subst this; omega
            rw [show posOf p.items x + 1 + (q - (posOf p.items x + 1)) = q by omega] at e
            rw [e, hput]
            refine putL_eq ?_
            rw [hr.len _ (by omega)]
            rw [hr.len _ (by omega)] at hdl
            exact hdl
          subst hv
          have hcongr : lread (st q).2 (leval (st q).1) r = lread (st q).2 (leval (st (posOf p.items x)).1) r := by
            refine lread_congr fun y hy => ?_
            cases y with
            | tmp t => exact same t (by simp only [againSlots]; exact List.mem_append_left _ (List.mem_flatMap.2 ⟨_, hy, by simp [opndTmp]⟩))
            | _ => rfl
          rw [hcongr] at hv2
          obtain ⟨X, hX⟩ := hr.heap (a := q) (Q - q) (by have := h.qle; omega) (fun k hk hke hn => hj3 k hk hke ⟨by omega, by omega⟩)
          rw [show q + (Q - q) = Q by omega] at hX
          rw [hX]; exact lread_append hv2
        · cases hs
      · cases hs

theorem inv_step (hcf : CallsOk P B cf) (hr : Ref P cf (lmax L) ops p st) (hlim : lmax L ≤ (st 0).2.length) (hsz : (st 0).1.length = a0.tmps.size) {S : Nat → Bool} {i : Inj} {Q : Nat} {a : Act} {w : World} (h : Inv P B L ops p st i0 w0 a0 S i Q a w)
    {x : Nat} (hx : x < ops.size) (hS : S x = false) (hdeps : ∀ o e, ops[x]? = some o → e ∈ o.after.toList → Region.binds .any e = true → S e.on = true) {K : Act → World → Prop} {Qp : Exit → Act → World → Prop}
    (hK : ∀ i' Q' a' w', Inv P B L ops p st i0 w0 a0 (addS S x) i' Q' a' w' → K a' w') : wpOp P ops Qp x K a w := by
  have hpx := hr.pf.pos_lt x hx
  have hanc : ∀ j, j ∈ p.ancOf x → S j = true := by
    intro j hj
    obtain ⟨o, e, ho, he, hb, hh⟩ := hr.pf.anc x j hx hj
    have hse := hdeps o e ho he hb
    rcases hh with q | q
    · rw [← q]; exact hse
    · exact h.down _ hse j q
  obtain ⟨o, ac, g, ho, hc, hs⟩ := hr.act x hx
  have hat := h.looks hr hx hS hanc ho
  have hd : dstOf ops x = o.dst := by simp [dstOf, ho]
  obtain ⟨he, hrd⟩ := effAt_of ho hc
  unfold wpOp
  rw [ho]
  simp only
  cases hE : effAt P ops x with
  | true =>
    -- it stands just at Q
    have hQ : posOf p.items x = Q := by
      have h1 : ¬ posOf p.items x < Q := fun q => by have := (h.qeff x hx hE).2 q; rw [hS] at this; cases this
      rcases h.qat with q | ⟨y, hy, hye, hyp⟩
      · omega
      · rcases Nat.lt_or_ge (posOf p.items y) (posOf p.items x) with c | c
        · have := hanc y (hr.pf.effs y x hy hx hye c)
          have := (h.qeff y hy hye).1 this; omega
        · omega
    rw [hQ] at hs hat
    obtain ⟨hdd, v, hput, hwp⟩ := sim_act hcf h.rel hc (e' := (st (Q + 1)).1) (H' := (st (Q + 1)).2) hs hat
    refine hwp K Qp fun v' w' i' hv hrel hnext => ?_
    rw [← hd] at hput ⊢
    obtain ⟨Q', hinv⟩ := h.eff hr hsz hx hS hanc hE hQ hv hput hrel hnext
    exact hK _ _ _ _ hinv
  | false =>
    have hQ : posOf p.items x < Q := by
      rcases h.qat with q | ⟨y, hy, hye, hyp⟩
      · omega
      · rcases Nat.lt_trichotomy (posOf p.items x) Q with c | c | c
        · exact c
        · exfalso
          have := pos_inj hr.pf hx hy (c.trans hyp.symm)
          subst this; rw [hE] at hye; cases hye
        · exfalso
          have := hanc y (hr.pf.effs y x hy hx hye (by omega))
          have := (h.qeff y hy hye).1 this; omega
    have fl : ∀ {i' : Inj} {v v' : Value} {w' : World}, i.le i' → VR i' v v' → (st (posOf p.items x + 1)).1 = putL (st (posOf p.items x)).1 o.dst v → Rel B L i' (st Q).2 w' → Next B i0 (st 0).2 w0 i' (st Q).2 w' →
        (∀ y o, y < ops.size → y ≠ x → S y = false → posOf p.items y < Q → effAt P ops y = false → (st (posOf p.items y + 1)).2 = (st (posOf p.items y)).2 ++ [o] → i' (newId p st y) = none) → K (a.put o.dst v') w' := by
      intro i' v v' w' h1 h2 h3 h4 h5 h6
      rw [← hd] at h3 ⊢
      exact hK _ _ _ _ (h.float hr hsz hx hS hanc hE h1 h2 h3 h4 h5 h6)
    have stay : ∀ y o, y < ops.size → y ≠ x → S y = false → posOf p.items y < Q → effAt P ops y = false → (st (posOf p.items y + 1)).2 = (st (posOf p.items y)).2 ++ [o] → i (newId p st y) = none := fun y o hy _ h1 h2 h3 h4 => (h.pend y o hy h1 h2 h3 h4).1
    have hc0 := hc
    unfold compStep at hc
    split at hc
    · rename_i ac' g' hac hgu
      cases hc
      simp only [stepL] at hs
      split at hs
      · rename_i hw
        have hwant := guard_sim hgu hw hat
        rw [hwant, if_pos rfl]
        left
        obtain ⟨⟨v, H1⟩, h1, h2⟩ := Option.map_eq_some_iff.1 hs
        have hst1 : (st (posOf p.items x + 1)).1 = putL (st (posOf p.items x)).1 o.dst v := by rw [← h2]
        have hst2 : (st (posOf p.items x + 1)).2 = H1 := by rw [← h2]
        unfold compAct at hac
        obtain ⟨dst, op, ty, pos, after, guard⟩ := o
        have hcall : (∃ f args ts, op = .call { callee := .value f, args := args, argTypes := ts }) ∨ ∃ lo, compOp P op = some lo ∧ ac = .op lo := by
          split at hac
          · rename_i f args ts heq
            exact .inl ⟨_, _, _, heq⟩
          · obtain ⟨lo, hlo, hq⟩ := Option.map_eq_some_iff.1 hac
            exact .inr ⟨lo, hlo, hq.symm⟩
        rcases hcall with ⟨f, args, ts, rfl⟩ | ⟨lo, hlo, rfl⟩
        · simp only at hac
          split at hac
          · cases hac
            rw [he] at hE; simp [isEffS, isEff] at hE
          · cases hac
        · simp only [actL] at h1
          have hv := leval_at hat
          cases lo with
          | eff n => rw [he] at hE; simp [isEffS, isEff] at hE
          | pure n =>
            obtain ⟨v0, g1, g2⟩ := Option.map_eq_some_iff.1 h1
            cases g2
            obtain ⟨v', r1, r2⟩ := sim_pure (P := P) (w := w) hlo hv g1 dst ty pos after guard
            exact wp_of_run r1 (.inl ⟨v', rfl, r2⟩) fun v'' hv'' => fl (Inj.le_refl i) hv'' hst1 h.rel h.next stay
          | read n =>
            obtain ⟨v0, g1, g2⟩ := Option.map_eq_some_iff.1 h1
            cases g2
            have g1' := h.read hr hx hS hanc hQ ho hc0 hw g1 hst1
            obtain ⟨v', r1, r2⟩ := sim_read (P := P) h.rel hlo hv g1' dst ty pos after guard
            exact wp_of_run r1 (.inl ⟨v', rfl, r2⟩) fun v'' hv'' => fl (Inj.le_refl i) hv'' hst1 h.rel h.next stay
          | new n =>
            obtain ⟨⟨ob, mk⟩, g1, g2⟩ := Option.map_eq_some_iff.1 h1
            cases g2
            obtain ⟨v', w', pl, r1, r2⟩ := sim_new (P := P) (w := w) hlo hv g1 dst ty pos after guard
            obtain ⟨b1, b2, b3⟩ := h.pend x ob hx hS hQ hE hst2
            have hlb : lmax L ≤ newId p st x := Nat.le_trans hlim b3
            obtain ⟨s1, s2⟩ := r2.rel B L (st Q).2 (newId p st x) h.rel b1 b2 hlb
            have hle := Inj.le_upd (p := pl) b1
            have hval := r2.val (newId p st x) _ hle (Inj.upd_self _ _ _)
            refine wp_of_run r1 (.inl ⟨v', rfl, hval⟩) fun v'' hv'' => fl hle hv'' hst1 s1 ?_ ?_
            · refine ⟨Inj.le_trans h.next.le hle, h.next.len, fun b hb hn => ?_, h.next.below.trans s2⟩
              obtain ⟨n1, n2⟩ := h.next.pend b hb hn
              exact ⟨by rw [Inj.upd_ne _ _ (by omega)]; exact n1, n2⟩
            · intro y oo hy hyx hyS hyQ hye hyo
              have hne := h.apart y x oo ob hy hx hyx hyS hS hyQ hQ hye hE hyo hst2
              rw [Inj.upd_ne _ _ hne]
              exact (h.pend y oo hy hyS hyQ hye hyo).1
      · rename_i hw
        have hwant := guard_sim hgu hw hat
        rw [hwant, if_neg (by simp)]
        have hst1 : (st (posOf p.items x + 1)).1 = putL (st (posOf p.items x)).1 o.dst skipv := by
          injection hs with hs; rw [← hs]
        exact fl (Inj.le_refl i) .skip hst1 h.rel h.next stay
      · cases hs
    · cases hc
end
end Go.LK
