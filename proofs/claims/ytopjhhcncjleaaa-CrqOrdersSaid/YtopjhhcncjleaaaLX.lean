/- The whole: regions, code, loops, calls. -/
import Derived.Test.YtopjhhcncjleaaaLV
namespace Go.LK
open Go Go.RowKit
set_option linter.unusedVariables false
set_option linter.unusedSimpArgs false

theorem countP_lt {α : Type} {p q : α → Bool} : ∀ {l : List α}, (∀ x ∈ l, q x = true → p x = true) → (∃ x ∈ l, p x = true ∧ q x = false) → l.countP q < l.countP p
  | [], _, ⟨x, hx, _⟩ => by cases hx
  | a :: l, h, ⟨x, hx, h1, h2⟩ => by
    have hle : ∀ (l : List α), (∀ x ∈ l, q x = true → p x = true) → l.countP q ≤ l.countP p := fun l h => List.countP_mono_left h
    by_cases e : x = a
    · subst e
      rw [List.countP_cons_of_pos (p := p) h1, List.countP_cons_of_neg (p := q) (by simp [h2])]
      have := hle l fun y hy => h y (by simp [hy])
      omega
    · have hx' : x ∈ l := by
        rcases List.mem_cons.1 hx with q | q
        · exact absurd q e
        · exact q
      have ih := countP_lt (l := l) (fun y hy => h y (by simp [hy])) ⟨x, hx', h1, h2⟩
      by_cases hq : q a = true
      · rw [List.countP_cons_of_pos hq, List.countP_cons_of_pos (h a (by simp) hq)]; omega
      · rw [List.countP_cons_of_neg hq]
        have : l.countP p ≤ (a :: l).countP p := by
          by_cases hp : p a = true
          · rw [List.countP_cons_of_pos hp]; omega
          · rw [List.countP_cons_of_neg hp]; omega
        omega

section
variable {P : Program} {B : Nat} {L : List Nat} {ops : Array Oper} {p : Plan} {st : Nat → List Value × LHeap} {i0 : Inj} {w0 : World} {a0 : Act} {cf : CallF}

/-- What stands behind code, or an operation. -/
def Lands (P : Program) (B : Nat) (L : List Nat) (i0 : Inj) (H0 : LHeap) (w0 : World) (ds : List Deferred) (e : List Value) (H : LHeap) (a : Act) (w : World) : Prop :=
  ∃ i, VRs i e a.tmps.toList ∧ Rel B L i H w ∧ Go.LK.Next B i0 H0 w0 i H w ∧ a.defers = ds

theorem inv_all (hcf : CallsOk P B cf) (hr : Ref P cf (lmax L) ops p st) (hlim : lmax L ≤ (st 0).2.length) (hsz : (st 0).1.length = a0.tmps.size) {Qp : Exit → Act → World → Prop}
    (hQ : ∀ a w, Lands P B L i0 (st 0).2 w0 a0.defers (st p.items.length).1 (st p.items.length).2 a w → Qp .normal a w) :
    ∀ (fuel : Nat) (listed : Array Bool) (S : Nat → Bool) (i : Inj) (Q : Nat) (a : Act) (w : World), listed.size = ops.size → (∀ x, x < ops.size → listed.getD x false = S x) →
      (List.range ops.size).countP (fun x => !S x) ≤ fuel → Inv P B L ops p st i0 w0 a0 S i Q a w → wpAny P .any ops Qp fuel listed a w := by
  -- the end
  have fin : ∀ (listed : Array Bool) (S : Nat → Bool) (i : Inj) (Q : Nat) (a : Act) (w : World), listed.size = ops.size → (∀ x, x < ops.size → listed.getD x false = S x) →
      Inv P B L ops p st i0 w0 a0 S i Q a w → (∀ x, x < ops.size → S x = true) → Qp .normal a w := by
    intro listed S i Q a w hls hlS h hall
    have hQe : Q = p.items.length := by
      rcases h.qat with q | ⟨x, hx, hxe, hxp⟩
      · exact q
      · have := (h.qeff x hx hxe).1 (hall x hx); omega
    subst hQe
    refine hQ a w ⟨i, ?_, h.rel, h.next, h.defers⟩
    refine VRs.of_get ?_ fun k v v' hv hv' => ?_
    · rw [hr.len _ (Nat.le_refl _), hsz, Array.length_toList, h.size]
    · have e1 : (st p.items.length).1.getD k undef = v := by simp [List.getD, hv]
      have e2 : a.tmps.getD k undef = v' := by
        have : a.tmps[k]? = some v' := by simpa using hv'
        rw [Array.getD_eq_getD_getElem?, this]; rfl
      rw [← e1, ← e2]
      by_cases hw : ∃ x, S x = true ∧ dstOf ops x = some k
      · obtain ⟨x, hx, hd⟩ := hw
        exact h.envD x k hx hd
      · have := hr.env (t := k) (a := 0) p.items.length (by omega) fun j hj hd hn => hw ⟨j, hall j hj, hd⟩
        rw [Nat.zero_add] at this
        rw [this]
        exact h.envU k fun x hx hd => hw ⟨x, hx, hd⟩
  -- where none is ready all are done
  have ready : ∀ (listed : Array Bool) (S : Nat → Bool), listed.size = ops.size → (∀ x, x < ops.size → listed.getD x false = S x) → Region.ready .any ops listed = [] → ∀ x, x < ops.size → S x = true := by
    intro listed S hls hlS hre x
    induction x using Nat.strongRecOn with
    | _ x ih =>
      intro hx
      cases hS : S x with
      | true => rfl
      | false =>
        exfalso
        have hmem : x ∈ Region.ready .any ops listed := by
          unfold Region.ready
          rw [List.mem_filter]
          refine ⟨List.mem_range.2 hx, ?_⟩
          have hnl : listed.getD x true = false := by
            have h1 := hlS x hx
            rw [hS] at h1
            have hlt : x < listed.size := by omega
            simp only [Array.getD, hlt, dif_pos] at h1 ⊢
            exact h1
          rw [hnl]
          have ho : ops[x]? = some ops[x] := Array.getElem?_eq_getElem hx
          rw [ho]
          simp only [Bool.not_false, Bool.true_and, Option.map_some, Option.getD_some]
          rw [Array.all_eq_true_iff_forall_mem]
          intro e he
          cases hb : Region.binds .any e with
          | false => rfl
          | true =>
            have hlt := hr.pf.edge x _ e ho (by simpa using he) hb
            have := ih e.on hlt (by omega)
            rw [hlS _ (by omega), this]; rfl
        rw [hre] at hmem
        cases hmem
  intro fuel
  induction fuel with
  | zero =>
    intro listed S i Q a w hls hlS hcnt h
    have hall : ∀ x, x < ops.size → S x = true := by
      intro x hx
      have h0 : (List.range ops.size).countP (fun x => !S x) = 0 := by omega
      have := List.countP_eq_zero.1 h0 x (List.mem_range.2 hx)
      simpa using this
    refine ⟨?_, fin listed S i Q a w hls hlS h hall⟩
    cases hre : Region.ready .any ops listed with
    | nil => rfl
    | cons y l =>
      exfalso
      have hy : y ∈ Region.ready .any ops listed := by rw [hre]; simp
      unfold Region.ready at hy
      rw [List.mem_filter] at hy
      obtain ⟨hy1, hy2⟩ := hy
      have hyl := List.mem_range.1 hy1
      simp only [Bool.and_eq_true, Bool.not_eq_true'] at hy2
      have h1 := hlS y hyl
      rw [hall y hyl] at h1
      have hlt : y < listed.size := by omega
      simp only [Array.getD, hlt, dif_pos] at h1 hy2
      rw [h1] at hy2
      exact absurd hy2.1 (by simp)
  | succ fuel ih =>
    intro listed S i Q a w hls hlS hcnt h
    refine ⟨fun hre => fin listed S i Q a w hls hlS h (ready listed S hls hlS hre), fun x hx => ?_⟩
    unfold Region.ready at hx
    rw [List.mem_filter] at hx
    obtain ⟨hx1, hx2⟩ := hx
    have hxl := List.mem_range.1 hx1
    simp only [Bool.and_eq_true, Bool.not_eq_true'] at hx2
    have hlt : x < listed.size := by omega
    have hS : S x = false := by
      have h1 := hlS x hxl
      simp only [Array.getD, hlt, dif_pos] at h1 hx2
      rw [← h1]; exact hx2.1
    refine inv_step hcf hr hlim hsz h hxl hS ?_ fun i' Q' a' w' hinv => ih _ (addS S x) i' Q' a' w' ?_ ?_ ?_ hinv
    · intro o e ho he hb
      have := hx2.2
      rw [ho] at this
      simp only [Option.map_some, Option.getD_some] at this
      rw [Array.all_eq_true_iff_forall_mem] at this
      have := this e (by simpa using he)
      rw [hb] at this
      simp only [Bool.not_true, Bool.false_or] at this
      have hel := hr.pf.edge x o e ho he hb
      rw [← hlS e.on (by omega)]; exact this
    · simp [hls]
    · intro y hy
      rw [Array.getD_eq_getD_getElem?]
      by_cases e : y = x
      · subst e
        rw [Array.getElem?_setIfInBounds_self_of_lt hlt]
        simp [addS]
      · rw [Array.getElem?_setIfInBounds_ne (Ne.symm e), ← Array.getD_eq_getD_getElem?, hlS y hy]
        simp [addS, e]
    · have := countP_lt (p := fun y => !S y) (q := fun y => !addS S x y) (l := List.range ops.size) (fun y _ hy => by
        simp only [Bool.not_eq_true'] at hy ⊢
        exact (addS_false.1 hy).1) ⟨x, hx1, by simp [hS], by simp [addS]⟩
      omega

theorem inv_begin (hr : Ref P cf (lmax L) ops p st) (hR : Rel B L i0 (st 0).2 w0) (he : VRs i0 (st 0).1 a0.tmps.toList) : ∃ Q, Inv P B L ops p st i0 w0 a0 (fun _ => false) i0 Q a0 w0 := by
  obtain ⟨Q', q1, q2, q3, q4⟩ := nextEff P ops p p.items.length 0 (by omega)
  obtain ⟨X, hX⟩ := hr.heap (a := 0) Q' (by omega) (by rw [Nat.zero_add]; exact q4)
  rw [Nat.zero_add] at hX
  have stage : ∀ y, y < ops.size → posOf p.items y < Q' → ∃ Y, (st (posOf p.items y)).2 = (st 0).2 ++ Y := by
    intro y hy h2
    obtain ⟨Y, hY⟩ := hr.heap (a := 0) (posOf p.items y) (by omega) fun j hj hej hn => q4 j hj hej ⟨hn.1, by omega⟩
    rw [Nat.zero_add] at hY
    exact ⟨Y, hY⟩
  refine ⟨Q', ⟨fun x hx => (by cases hx), fun x hx => (by cases hx), q2, fun x hx hxe => ⟨fun q => (by cases q), fun q => absurd ⟨by omega, q⟩ (q4 x hx hxe)⟩, q3, by rw [hX]; exact hR.pushes X, by rw [hX]; exact next_pushes _ X, fun x t hx => (by cases hx), ?_, rfl, rfl, ?_, ?_⟩⟩
  · intro t _
    have := he.getD t
    simpa [List.getD, Array.getD_eq_getD_getElem?] using this
  · intro y o hy _ hyQ hye hyo
    obtain ⟨Y, hY⟩ := stage y hy hyQ
    have hge : (st 0).2.length ≤ newId p st y := by unfold newId; rw [hY]; simp
    refine ⟨?_, ?_, hge⟩
    · cases hq : i0 (newId p st y) with
      | none => rfl
      | some pp => have := hR.bound _ _ hq; omega
    · obtain ⟨Z, hZ⟩ := hr.heap (a := posOf p.items y + 1) (Q' - (posOf p.items y + 1)) (by omega) (fun j hj hej hn => q4 j hj hej ⟨by omega, by omega⟩)
      rw [show posOf p.items y + 1 + (Q' - (posOf p.items y + 1)) = Q' by omega] at hZ
      rw [hZ, hyo]
      unfold newId
      rw [List.append_assoc, List.getElem?_append_right (Nat.le_refl _)]
      simp
  · intro y z o u hy hz hyz _ _ hyQ hzQ hye hze hyo hzo
    have both : ∀ y z o, y < ops.size → z < ops.size → posOf p.items y < posOf p.items z → posOf p.items z < Q' → (st (posOf p.items y + 1)).2 = (st (posOf p.items y)).2 ++ [o] → newId p st y < newId p st z := by
      intro y z o hy hz h2 h3 h4
      obtain ⟨Z, hZ⟩ := hr.heap (a := posOf p.items y + 1) (posOf p.items z - (posOf p.items y + 1)) (by omega) (fun j hj hej hn => q4 j hj hej ⟨by omega, by omega⟩)
      rw [show posOf p.items y + 1 + (posOf p.items z - (posOf p.items y + 1)) = posOf p.items z by omega] at hZ
      unfold newId; rw [hZ, h4]
      simp
      try omega
    have hpp : posOf p.items y ≠ posOf p.items z := fun e => hyz (pos_inj hr.pf hy hz e)
    rcases Nat.lt_or_ge (posOf p.items y) (posOf p.items z) with q | q
    · have := both y z o hy hz q hzQ hyo; omega
    · have := both z y u hz hy (by omega) hyQ hzo; omega

theorem Lands.heap_len {ds : List Deferred} {e : List Value} {H H0 : LHeap} {a : Act} {w : World} (h : Lands P B L i0 H0 w0 ds e H a w) : lmax L ≤ H.length := by
  obtain ⟨i, _, h2, _⟩ := h
  exact h2.lim_le

/-- An open region. -/
theorem sim_open (hcf : CallsOk P B cf) {id : Nat} (hm : P.follows .mixedOrders = true) (hp : planOk P ops p = true) {l : List LStep} (hl : compItems P ops p.items = some l) {e : List Value} {H : LHeap} {r : List Value × LHeap} (hs : stepsL cf (lmax L) e H l = some r)
    (hR : Rel B L i0 H w0) (he : VRs i0 e a0.tmps.toList) {Qp : Exit → Act → World → Prop} (hQ : ∀ a w, Lands P B L i0 H w0 a0.defers r.1 r.2 a w → Qp .normal a w) :
    (Code.region id ops true).wp P Qp a0 w0 := by
  obtain ⟨st, hr, h0, h1⟩ := ref_of hp hl hs
  have hR' : Rel B L i0 (st 0).2 { w0 with drawn := w0.drawn + 1 } := by rw [h0]; exact hR.drew
  have he' : VRs i0 (st 0).1 a0.tmps.toList := by rw [h0]; exact he
  obtain ⟨Q, hinv⟩ := inv_begin hr hR' he'
  refine wp_region_any hm (inv_all hcf hr (by rw [h0]; exact hR.lim_le) (by rw [he'.length]; simp) (fun a w hL => ?_) ops.size (Array.replicate ops.size false) (fun _ => false) i0 Q a0 _ (by simp) (fun x hx => by simp [hx]) ?_ hinv)
  · rw [h0, h1] at hL
    obtain ⟨i, g1, g2, g3, g4⟩ := hL
    exact hQ a w ⟨i, g1, g2, ⟨g3.le, g3.len, g3.pend, ((Below.refl B w0).drew).trans g3.below⟩, g4⟩
  · simp
end
end Go.LK
