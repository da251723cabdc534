/- Where calls have an order, those that had begun ahead of a moment have one. -/
import Derived.Test.YtfobpjjpaehhpaaP0
namespace Go.Proofs.Ytfobpjjpaehhpaa
open Go Go.LK
set_option linter.unusedSimpArgs false
set_option linter.unusedVariables false
theorem stepM_at {cap mode : Int} {l : List CallD} {i : Nat} {c : CallD} {s : Queue} (h : l[i]? = some c) : stepM cap l mode s i = mayF cap s c mode (cntF l i 0 l.length) (cntF l i 1 l.length) := by
  unfold stepM; rw [h]
theorem doF_same {cap : Int} {s : Queue} {kind : Int} {x : BitVec 64} (h : (doF cap s kind x).2.1 ≠ 0) : (doF cap s kind x).1 = s := by
  unfold doF at h ⊢
  split
  · rename_i h0
    rw [if_pos h0] at h
    split
    · rfl
    · rename_i h1; rw [if_neg h1] at h; exact absurd rfl h
  · rename_i h0
    rw [if_neg h0] at h
    split
    · rename_i h1
      rw [if_pos h1] at h
      cases s with
      | nil => rfl
      | cons y r => exact absurd rfl h
    · rfl
theorem cut_run {cap m : Int} {l : List CallD} (h62 : l.length ≤ 62) (hr : rightL l = true) : ∀ (r : List Nat) (u : BitVec 64) (s : Queue) (u' : BitVec 64),
    (∀ (j : Nat) (c d : CallD), l[j]? = some c → cutC m c = some d → u'.getLsbD (pos m l j) = true → u.getLsbD j = true) →
    (∀ (j : Nat) (c : CallD), l[j]? = some c → c.dn = true → c.to < m → u.getLsbD j = true → u'.getLsbD (pos m l j) = true) →
    (prob l (stepM cap l 0)).vrun r u s = true → ∃ r', (prob (cutL m l) (stepM cap (cutL m l) 0)).vrun r' u' s = true := by
  have hcl := cut_len (m := m) l
  have hrr := (right_iff.1 hr).2
  intro r
  induction r with
  | nil =>
    intro u s u' hA hB hv
    refine ⟨[], ?_⟩
    rw [Prob.vrun, decide_eq_true_eq] at hv ⊢
    have hv2 := (done_sub (l := l) (by omega)).1 hv
    refine (done_sub (l := cutL m l) (by omega)).2 fun k' d hd hu => ?_
    cases hdd : d.dn
    · rfl
    · obtain ⟨k, c, hc, hcd, hp⟩ := cut_of hd
      obtain ⟨rfl, h2, h3⟩ := cutC_dn hcd hdd
      subst hp
      cases huk : u.getLsbD k
      · rw [hv2 k _ hc huk] at h2; cases h2
      · rw [hB k _ hc h2 h3 huk] at hu; cases hu
  | cons i r ih =>
    intro u s u' hA hB hv
    by_cases hall : ∀ (k : Nat) (c : CallD), l[k]? = some c → c.dn = true → c.to < m → u.getLsbD k = true
    · refine ⟨[], ?_⟩
      rw [Prob.vrun, decide_eq_true_eq]
      refine (done_sub (l := cutL m l) (by omega)).2 fun k' d hd hu => ?_
      cases hdd : d.dn
      · rfl
      · obtain ⟨k, c, hc, hcd, hp⟩ := cut_of hd
        obtain ⟨rfl, h2, h3⟩ := cutC_dn hcd hdd
        subst hp
        rw [hB k _ hc h2 h3 (hall k _ hc h2 h3)] at hu; cases hu
    · have hall2 : ∃ (f : Nat) (c : CallD), l[f]? = some c ∧ c.dn = true ∧ c.to < m ∧ u.getLsbD f = false := by
        refine Classical.byContradiction fun q => hall fun k c h1 h2 h3 => ?_
        cases hq : u.getLsbD k
        · exact absurd ⟨k, c, h1, h2, h3, hq⟩ q
        · rfl
      obtain ⟨f, cf, hf1, hf2, hf3, hf4⟩ := hall2
      rw [Prob.vrun] at hv
      split at hv
      case isFalse => cases hv
      rename_i hcnd
      obtain ⟨hi, hui, hah⟩ := hcnd
      have hi' : i < l.length := hi
      have hci : l[i]? = some l[i] := List.getElem?_eq_getElem hi'
      generalize l[i] = c at hci
      have hahs := (ah_sub (l := l) (by omega) hci).1 hah
      have hkept : c.fr < m := by
        refine Int.not_le.1 fun q => ?_
        have hfi : f ≠ i := by
          rintro rfl
          rw [hf1] at hci; cases hci
          have := (hrr f _ hf1).1
          unfold rightF at this
          split at this
          · cases this
          · first
            | (rw [if_pos hf2] at this; simp at this; omega)
            | (simp at this; omega)
        have := hahs f cf hf1 hfi hf4
        simp [aheadF, hf2] at this
        omega
      split at hv
      case h_2 => cases hv
      rename_i t ht
      change stepM cap l 0 s i = some t at ht
      rw [stepM_at hci] at ht
      -- what stands at its place
      have hstep : ∀ d, cutC m c = some d → mayF cap s d 0 (cntF (cutL m l) (pos m l i) 0 (cutL m l).length) (cntF (cutL m l) (pos m l i) 1 (cutL m l).length) = some t →
          ∃ r', (prob (cutL m l) (stepM cap (cutL m l) 0)).vrun r' u' s = true := by
        intro d hd hm
        have hat := cut_at hci hd
        have hp62 : pos m l i < (cutL m l).length := (List.getElem?_eq_some_iff.1 hat).1
        have hbit : ∀ (j : Nat) (c0 d0 : CallD), l[j]? = some c0 → cutC m c0 = some d0 → (withB u' (pos m l i)).getLsbD (pos m l j) = (u'.getLsbD (pos m l j) || decide (i = j)) := by
          intro j c0 d0 h1 h2
          have : pos m l j < (cutL m l).length := (List.getElem?_eq_some_iff.1 (cut_at h1 h2)).1
          rw [get_with (by omega)]
          congr 1
          rw [decide_eq_decide]
          exact ⟨fun e => pos_inj hci hd h1 h2 e, fun e => by rw [e]⟩
        obtain ⟨r', hr'⟩ := ih (withB u i) t (withB u' (pos m l i)) (by
          intro j c0 d0 h1 h2 h3
          have hj : j < l.length := (List.getElem?_eq_some_iff.1 h1).1
          rw [hbit j c0 d0 h1 h2] at h3
          rw [get_with (by omega)]
          rw [Bool.or_eq_true] at h3 ⊢
          exact h3.imp (hA j c0 d0 h1 h2) id) (by
          intro j c0 h1 h2 h3 h4
          have hj : j < l.length := (List.getElem?_eq_some_iff.1 h1).1
          rw [get_with (by omega)] at h4
          rw [hbit j c0 c0 h1 (cutC_fin (hrr j c0 h1).1 h2 h3)]
          rw [Bool.or_eq_true] at h4 ⊢
          exact h4.imp (hB j c0 h1 h2 h3) id) hv
        refine ⟨pos m l i :: r', ?_⟩
        have e : (prob (cutL m l) (stepM cap (cutL m l) 0)).step s (pos m l i) = some t := (stepM_at hat).trans hm
        rw [Prob.vrun, e]
        refine (if_pos ⟨hp62, ?_, ?_⟩).trans hr'
        · cases hq : u'.getLsbD (pos m l i)
          · rfl
          · rw [hA i c d hci hd hq] at hui; cases hui
        · refine (ah_sub (l := cutL m l) (by omega) hat).2 fun k' o ho hk hu => ?_
          cases hao : aheadF o d
          · rfl
          · obtain ⟨k, c0, h1, h2, h3⟩ := cut_of ho
            subst h3
            simp only [aheadF, Bool.and_eq_true, decide_eq_true_eq] at hao
            obtain ⟨rfl, h4, h5⟩ := cutC_dn h2 hao.1
            have hki : k ≠ i := fun e => hk (by rw [e])
            cases huk : u.getLsbD k
            · have := hahs k _ h1 hki huk
              have hfr := (cutC_fr hd).1
              simp [aheadF, h4] at this
              omega
            · rw [hB k _ h1 h4 h5 huk] at hu; cases hu
      by_cases hcut : c.dn = true ∧ m ≤ c.to
      · have hd : cutC m c = some { th := c.th, kind := c.kind, arg := c.arg, fr := c.fr, to := 0, dn := false, code := 0, ret := 0#64 } := by
          rw [cutC, if_neg (by omega), if_pos hcut]
        unfold mayF at ht
        rw [if_neg (by rw [hcut.1]; simp)] at ht
        split at ht
        · cases ht
          by_cases h0 : (doF cap s c.kind c.arg).2.1 = 0
          · refine hstep _ hd ?_
            unfold mayF
            simp [h0]
          · rw [doF_same h0] at hv
            refine ih (withB u i) s u' ?_ ?_ hv
            · intro j c0 d0 h1 h2 h3
              have hj : j < l.length := (List.getElem?_eq_some_iff.1 h1).1
              rw [get_with (by omega), hA j c0 d0 h1 h2 h3]; rfl
            · intro j c0 h1 h2 h3 h4
              have hj : j < l.length := (List.getElem?_eq_some_iff.1 h1).1
              rw [get_with (by omega), Bool.or_eq_true, decide_eq_true_eq] at h4
              rcases h4 with h4 | rfl
              · exact hB j c0 h1 h2 h3 h4
              · rw [hci] at h1; cases h1
                omega
        · rw [show letF cap s.length c.kind c.code c.ret 0 (cntF l i 0 l.length) (cntF l i 1 l.length) = false by simp [letF]] at ht
          cases ht
      · have hd : cutC m c = some c := by rw [cutC, if_neg (by omega), if_neg hcut]
        refine hstep _ hd ?_
        rw [mayF_strict cap s c _ _ (cntF l i 0 l.length) (cntF l i 1 l.length)]
        exact ht
theorem cut_search {cap m : Int} {l : List CallD} (h : (searchF l (stepM cap l 0)).isSome = true) : (searchF (cutL m l) (stepM cap (cutL m l) 0)).isSome = true := by
  obtain ⟨r, hr⟩ := Option.isSome_iff_exists.1 h
  obtain ⟨h1, h2, h3⟩ := search_vrun hr
  obtain ⟨r', h4⟩ := cut_run (m := m) h1 h2 r 0#64 [] 0#64 (fun j c d _ _ h => by simp at h) (fun j c _ _ _ h => by simp at h) h3
  exact vrun_search (Nat.le_trans (cut_len l) h1) (cut_right h2) h4
end Go.Proofs.Ytfobpjjpaehhpaa
