/- Calls that had begun ahead of a moment: plain. -/
import Derived.Test.YtfobpjjpaehhpaaM2
namespace Go.Proofs.Ytfobpjjpaehhpaa
open Go Go.LK
set_option linter.unusedSimpArgs false
set_option linter.unusedVariables false
/-- A call, as it stood at a moment. -/
def cutC (m : Int) (c : CallD) : Option CallD :=
  if m ≤ c.fr then none
  else if c.dn = true ∧ m ≤ c.to then some { th := c.th, kind := c.kind, arg := c.arg, fr := c.fr, to := 0, dn := false, code := 0, ret := 0#64 }
  else some c
def cutL (m : Int) (l : List CallD) : List CallD := l.filterMap (cutC m)
def pos (m : Int) (l : List CallD) (k : Nat) : Nat := (cutL m (l.take k)).length
theorem cut_at {m : Int} {l : List CallD} {k : Nat} {c d : CallD} (h : l[k]? = some c) (hc : cutC m c = some d) : (cutL m l)[pos m l k]? = some d := by
  obtain ⟨hk, rfl⟩ := List.getElem?_eq_some_iff.1 h
  have e : l = l.take k ++ l[k] :: l.drop (k + 1) := by
    rw [← List.drop_eq_getElem_cons hk, List.take_append_drop]
  have e2 : cutL m l = cutL m (l.take k) ++ d :: cutL m (l.drop (k + 1)) := by
    conv => lhs; rw [e]
    rw [cutL, List.filterMap_append, List.filterMap_cons, hc]; rfl
  rw [e2, pos, List.getElem?_append_right (Nat.le_refl _), Nat.sub_self]; rfl
theorem cut_of {m : Int} : ∀ {l : List CallD} {k' : Nat} {d : CallD}, (cutL m l)[k']? = some d → ∃ k c, l[k]? = some c ∧ cutC m c = some d ∧ pos m l k = k'
  | [], k', d, h => by simp [cutL] at h
  | x :: l, k', d, h => by
    rw [cutL, List.filterMap_cons] at h
    cases hx : cutC m x with
    | none =>
      rw [hx] at h
      obtain ⟨k, c, h1, h2, h3⟩ := cut_of (l := l) h
      refine ⟨k + 1, c, by simpa using h1, h2, ?_⟩
      rw [← h3]
      simp [pos, cutL, List.filterMap_cons, hx]
    | some y =>
      rw [hx] at h
      cases k' with
      | zero =>
        simp only [List.getElem?_cons_zero, Option.some.injEq] at h
        subst h
        exact ⟨0, x, rfl, hx, by simp [pos, cutL]⟩
      | succ k' =>
        simp only [List.getElem?_cons_succ] at h
        obtain ⟨k, c, h1, h2, h3⟩ := cut_of (l := l) h
        refine ⟨k + 1, c, by simpa using h1, h2, ?_⟩
        rw [← h3]
        simp [pos, cutL, List.filterMap_cons, hx]
theorem pos_lt {m : Int} {l : List CallD} {j i : Nat} {c d : CallD} (h : l[j]? = some c) (hc : cutC m c = some d) (hji : j < i) : pos m l j < pos m l i := by
  have h1 : (l.take i)[j]? = some c := by rw [List.getElem?_take, if_pos hji]; exact h
  have h2 := cut_at h1 hc
  have h3 : pos m (l.take i) j = pos m l j := by
    rw [pos, pos, List.take_take, Nat.min_eq_left (by omega)]
  rw [h3] at h2
  exact (List.getElem?_eq_some_iff.1 h2).1
theorem pos_inj {m : Int} {l : List CallD} {j i : Nat} {c d c' d' : CallD} (h : l[j]? = some c) (hc : cutC m c = some d) (h' : l[i]? = some c') (hc' : cutC m c' = some d') (e : pos m l j = pos m l i) : j = i := by
  rcases Nat.lt_trichotomy j i with q | q | q
  · have := pos_lt h hc q; omega
  · exact q
  · have := pos_lt h' hc' q; omega
theorem cut_len {m : Int} (l : List CallD) : (cutL m l).length ≤ l.length := List.length_filterMap_le _ _
theorem cutC_fr {m : Int} {c d : CallD} (h : cutC m c = some d) : d.fr = c.fr ∧ d.th = c.th ∧ d.kind = c.kind ∧ d.arg = c.arg ∧ c.fr < m := by
  unfold cutC at h
  split at h
  · cases h
  · split at h <;> cases h <;> exact ⟨rfl, rfl, rfl, rfl, by omega⟩
/-- What had ended stands as it was. -/
theorem cutC_dn {m : Int} {c d : CallD} (h : cutC m c = some d) (hd : d.dn = true) : d = c ∧ c.dn = true ∧ c.to < m := by
  unfold cutC at h
  split at h
  · cases h
  · split at h
    · cases h; cases hd
    · rename_i h2
      cases h
      exact ⟨rfl, hd, by
        refine Int.not_le.1 fun q => h2 ⟨hd, q⟩⟩
theorem cutC_fin {m : Int} {c : CallD} (hr : rightF c = true) (h1 : c.dn = true) (h2 : c.to < m) : cutC m c = some c := by
  have : c.fr ≤ c.to := by
    unfold rightF at hr
    split at hr
    · cases hr
    · simpa [h1] using hr
  rw [cutC, if_neg (by omega), if_neg (fun q => by omega)]
theorem right_iff {l : List CallD} : rightL l = true ↔ l.length ≤ 1024 ∧ ∀ (k : Nat) (c : CallD), l[k]? = some c → rightF c = true ∧ ∀ (j : Nat) (o : CallD), j < k → l[j]? = some o → twiceF c o = false := by
  rw [rightL, Bool.and_eq_true, decide_eq_true_eq, List.all_eq_true]
  refine and_congr Iff.rfl ⟨fun h k c hk => ?_, fun h k hk => ?_⟩
  · have := h k (List.mem_range.2 (List.getElem?_eq_some_iff.1 hk).1)
    rw [okAt, hk] at this
    simp only [Bool.and_eq_true, Bool.not_eq_true', List.any_eq_false] at this
    refine ⟨this.1, fun j o hj ho => ?_⟩
    have hm : o ∈ l.take k := by
      refine List.mem_of_getElem? (i := j) ?_
      rw [List.getElem?_take, if_pos hj]; exact ho
    simpa using this.2 o hm
  · have hk' := List.mem_range.1 hk
    have hc : l[k]? = some l[k] := List.getElem?_eq_getElem hk'
    obtain ⟨h1, h2⟩ := h k _ hc
    rw [okAt, hc]
    simp only [Bool.and_eq_true, Bool.not_eq_true', List.any_eq_false]
    refine ⟨h1, fun o ho => ?_⟩
    obtain ⟨j, hj, ho⟩ := take_at ho
    simp [h2 j o hj ho]
theorem cut_right {m : Int} {l : List CallD} (h : rightL l = true) : rightL (cutL m l) = true := by
  rw [right_iff] at h ⊢
  obtain ⟨h1, h2⟩ := h
  refine ⟨Nat.le_trans (cut_len l) h1, fun k' d hd => ?_⟩
  obtain ⟨k, c, hc, hcd, hp⟩ := cut_of hd
  obtain ⟨h3, h4⟩ := h2 k c hc
  refine ⟨?_, fun j' e hj' he => ?_⟩
  · unfold cutC at hcd
    split at hcd
    · cases hcd
    · split at hcd
      · cases hcd
        unfold rightF at h3 ⊢
        split at h3
        · cases h3
        · rename_i q; rw [if_neg q]; simp
      · cases hcd; exact h3
  · obtain ⟨j, o, ho, hoe, hpj⟩ := cut_of he
    have hjk : j < k := by
      rcases Nat.lt_trichotomy j k with q | q | q
      · exact q
      · subst q; omega
      · have := pos_lt hc hcd q; omega
    have h5 := h4 j o hjk ho
    obtain ⟨c1, c2, _, _, c5⟩ := cutC_fr hcd
    obtain ⟨o1, o2, _, _, o5⟩ := cutC_fr hoe
    have h6 := (h2 j o ho).1
    unfold twiceF at h5 ⊢
    rw [c2, o2]
    by_cases hth : o.th = c.th
    · simp only [hth, decide_true, Bool.true_and] at h5 ⊢
      unfold meetsF at h5 ⊢
      have key : ∀ {x y x' y' : CallD}, rightF x = true → cutC m x = some x' → cutC m y = some y' → aheadF x y = true → aheadF x' y' = true := by
        intro x y x' y' hr hx hy hxy
        unfold aheadF at hxy ⊢
        simp only [Bool.and_eq_true, decide_eq_true_eq] at hxy ⊢
        obtain ⟨y1, _, _, _, y5⟩ := cutC_fr hy
        have := cutC_fin (m := m) hr hxy.1 (by omega)
        rw [this] at hx; cases hx
        exact ⟨hxy.1, by omega⟩
      cases ha : aheadF o c
      · cases hb : aheadF c o
        · rw [ha, hb] at h5; cases h5
        · rw [key h3 hcd hoe hb]; simp
      · rw [key h6 hoe hcd ha]; simp
    · simp [hth]
end Go.Proofs.Ytfobpjjpaehhpaa
