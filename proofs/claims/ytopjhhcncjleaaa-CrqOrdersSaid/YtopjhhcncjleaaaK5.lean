/- DROP Orders of calls of which some are left out: plain. -/
import Derived.Test.YtopjhhcncjleaaaJF
import Derived.Test.YtopjhhcncjleaaaK2
namespace Go.Proofs.Ytopjhhcncjleaaa
open Go Go.LK
set_option linter.unusedSimpArgs false
set_option linter.unusedVariables false
section
variable {C : List CallD} {keep : CallD → Bool}
/-- Where a call that is kept stands. -/
def rho (C : List CallD) (keep : CallD → Bool) (k : Nat) : Nat := ((C.take k).filter keep).length
theorem rho_succ {k : Nat} {d : CallD} (h : C[k]? = some d) : rho C keep (k + 1) = rho C keep k + if keep d = true then 1 else 0 := by
  unfold rho
  rw [List.take_add_one, h]
  simp only [Option.toList_some, List.filter_append, List.length_append]
  cases hk : keep d <;> simp [List.filter, hk]
theorem rho_mono {a b : Nat} (h : a ≤ b) : rho C keep a ≤ rho C keep b := by
  unfold rho
  have : (C.take b).take a = C.take a := by rw [List.take_take, Nat.min_eq_left h]
  rw [← this]
  exact (List.Sublist.filter keep (List.take_sublist a _)).length_le
theorem rho_lt {a b : Nat} {d : CallD} (ha : C[a]? = some d) (hk : keep d = true) (h : a < b) : rho C keep a < rho C keep b := by
  have h1 := rho_succ (keep := keep) ha
  rw [if_pos hk] at h1
  have := rho_mono (C := C) (keep := keep) (show a + 1 ≤ b from h)
  omega
theorem rho_get : ∀ {C : List CallD} {k : Nat} {d : CallD}, C[k]? = some d → keep d = true → (C.filter keep)[rho C keep k]? = some d
  | [], k, d, h, _ => by simp at h
  | c :: C, 0, d, h, hk => by
    simp at h; subst h
    simp [rho, List.filter, hk]
  | c :: C, k + 1, d, h, hk => by
    have ih := rho_get (C := C) (k := k) (by simpa using h) hk
    unfold rho at ih ⊢
    cases hc : keep c
    · simpa [List.filter, hc] using ih
    · simpa [List.filter, hc] using ih
theorem rho_of : ∀ {C : List CallD} {j : Nat} {d : CallD}, (C.filter keep)[j]? = some d → ∃ k, C[k]? = some d ∧ keep d = true ∧ rho C keep k = j
  | [], j, d, h => by simp at h
  | c :: C, j, d, h => by
    cases hc : keep c
    · rw [List.filter, hc] at h
      obtain ⟨k, k1, k2, k3⟩ := rho_of h
      refine ⟨k + 1, by simpa using k1, k2, ?_⟩
      unfold rho at k3 ⊢
      simpa [List.filter, hc] using k3
    · rw [List.filter, hc] at h
      cases j with
      | zero =>
        simp at h; subst h
        exact ⟨0, rfl, hc, rfl⟩
      | succ j =>
        obtain ⟨k, k1, k2, k3⟩ := rho_of (C := C) (j := j) (d := d) (by simpa using h)
        refine ⟨k + 1, by simpa using k1, k2, ?_⟩
        unfold rho at k3 ⊢
        simpa [List.filter, hc] using k3
theorem takeC {l : List CallD} {j : Nat} {o : CallD} (h : o ∈ l.take j) : ∃ k, k < j ∧ l[k]? = some o := by
  obtain ⟨k, hk, rfl⟩ := List.getElem_of_mem h
  have : k < j ∧ k < l.length := by simp at hk; omega
  exact ⟨k, this.1, by rw [List.getElem_take]; exact List.getElem?_eq_getElem this.2⟩
theorem right_iff {l : List CallD} : rightL l = true ↔ l.length ≤ 1024 ∧ ∀ (k : Nat) (c : CallD), l[k]? = some c → rightF c = true ∧ ∀ (j : Nat) (o : CallD), j < k → l[j]? = some o → twiceF c o = false := by
  rw [rightL, Bool.and_eq_true, decide_eq_true_eq, List.all_eq_true]
  refine and_congr Iff.rfl ⟨fun h k c hk => ?_, fun h k hk => ?_⟩
  · have := h k (List.mem_range.2 (List.getElem?_eq_some_iff.1 hk).1)
    rw [okAt, hk] at this
    simp only [Bool.and_eq_true, Bool.not_eq_true', List.any_eq_false] at this
    refine ⟨this.1, fun j o hj ho => ?_⟩
    have hm : o ∈ l.take k := by
      refine List.mem_of_getElem? (i := j) ?_
      rw [List.getElem?_take, if_pos hj]; exact ho
    simpa using this.2 o hm
  · have hk' := List.mem_range.1 hk
    have hc : l[k]? = some l[k] := List.getElem?_eq_getElem hk'
    obtain ⟨h1, h2⟩ := h k _ hc
    rw [okAt, hc]
    simp only [Bool.and_eq_true, Bool.not_eq_true', List.any_eq_false]
    refine ⟨h1, fun o ho => ?_⟩
    obtain ⟨j, hj, ho⟩ := takeC ho
    simp [h2 j o hj ho]
theorem right_keep (h : rightL C = true) : rightL (C.filter keep) = true := by
  rw [right_iff] at h ⊢
  refine ⟨Nat.le_trans (List.length_filter_le _ _) h.1, fun k c hk => ?_⟩
  obtain ⟨k', k1, k2, rfl⟩ := rho_of hk
  refine ⟨(h.2 k' c k1).1, fun j o hj ho => ?_⟩
  obtain ⟨j', j1, j2, rfl⟩ := rho_of ho
  refine (h.2 k' c k1).2 j' o ?_ j1
  refine Nat.lt_of_not_le fun g => ?_
  have := rho_mono (C := C) (keep := keep) g
  omega
/-- Steps of a queue of any length, call by call. -/
def chainS (C : List CallD) : Queue → List Nat → Queue → Prop
  | s, [], q => s = q
  | s, id :: r, q => ∃ d t, C[id]? = some d ∧ mayF 0 s d 0 0 0 = some t ∧ chainS C t r q
theorem chainS_app {r' : List Nat} {t : Queue} : ∀ {r : List Nat} {s q : Queue}, chainS C s r q → chainS C q r' t → chainS C s (r ++ r') t
  | [], s, q, h, g => by cases h; exact g
  | x :: r, s, q, ⟨d, u, h0, h1, h2⟩, g => ⟨d, u, h0, h1, chainS_app h2 g⟩
theorem run0 {c : List CallD} (h62 : c.length ≤ 62) (ha : ∀ (k : Nat) (d : CallD), c[k]? = some d → aheadF d d = false) : ∀ (r : List Nat) (u : BitVec 64) (s q : Queue), chainS c s r q → r.Nodup →
    (∀ id ∈ r, u.getLsbD id = false) → (r.Pairwise fun a b => ∀ ca cb, c[a]? = some ca → c[b]? = some cb → aheadF cb ca = false) → (∀ (k : Nat) (d : CallD), c[k]? = some d → d.dn = true → u.getLsbD k = false → k ∈ r) →
    (prob c (stepM 0 c 0)).vrun r u s = true
  | [], u, s, q, _, _, _, _, hd => by
    rw [Prob.vrun, decide_eq_true_eq]
    refine (done_sub (l := c) (by omega)).2 fun k o ho hu => ?_
    cases hq : o.dn
    · rfl
    · have := hd k o ho hq hu
      simp at this
  | i :: r, u, s, q, ⟨d, t, hci, h1, h2⟩, hn, hu, ho, hd => by
    have hi := (List.getElem?_eq_some_iff.1 hci).1
    have e : (prob c (stepM 0 c 0)).step s i = some t := by
      show stepM 0 c 0 s i = some t
      unfold stepM
      rw [hci]
      exact mayF_mode h1
    rw [Prob.vrun, e]
    rw [List.nodup_cons] at hn
    rw [List.pairwise_cons] at ho
    have hah : (prob c (stepM 0 c 0)).ah i &&& ~~~u = 0#64 := by
      refine (ah_sub (l := c) (by omega) hci).2 fun k o hk hki huk => ?_
      cases hao : aheadF o d
      · rfl
      · have hod : o.dn = true := by
          unfold aheadF at hao
          simp only [Bool.and_eq_true] at hao
          exact hao.1
        have hkr := hd k o hk hod huk
        rcases List.mem_cons.1 hkr with rfl | hkr
        · exact absurd rfl hki
        · have := ho.1 k hkr _ _ hci hk
          rw [hao] at this; cases this
    refine (if_pos ⟨hi, hu i (by simp), hah⟩).trans (run0 h62 ha r (withB u i) t q h2 hn.2 ?_ ho.2 ?_)
    · intro id hid
      have hid64 : id < 64 ∨ 64 ≤ id := Nat.lt_or_ge _ _
      rcases hid64 with h64 | h64
      · rw [get_with h64, hu id (by simp [hid])]
        simp only [Bool.false_or, decide_eq_false_iff_not]
        rintro rfl
        exact hn.1 hid
      · exact BitVec.getLsbD_of_ge _ _ h64
    · intro k d' hk hdn huk
      have hkl := (List.getElem?_eq_some_iff.1 hk).1
      rw [get_with (by omega), Bool.or_eq_false_iff, decide_eq_false_iff_not] at huk
      rcases List.mem_cons.1 (hd k d' hk hdn huk.1) with rfl | g
      · exact absurd rfl huk.2
      · exact g
theorem chain_keep : ∀ {r : List Nat} {s q : Queue}, (∀ id ∈ r, ∀ d, C[id]? = some d → keep d = true) → chainS C s r q → chainS (C.filter keep) s (r.map (rho C keep)) q
  | [], s, q, _, h => h
  | x :: r, s, q, hk, ⟨d, t, h0, h1, h2⟩ => ⟨d, t, rho_get h0 (hk x (by simp) d h0), h1, chain_keep (fun id hid => hk id (by simp [hid])) h2⟩
theorem chain_has : ∀ {r : List Nat} {s q : Queue}, chainS C s r q → ∀ id ∈ r, ∃ d, C[id]? = some d
  | [], s, q, _, id, h => by simp at h
  | x :: r, s, q, ⟨d, t, h0, h1, h2⟩, id, h => by
    rcases List.mem_cons.1 h with rfl | h
    · exact ⟨d, h0⟩
    · exact chain_has h2 id h
theorem rho_inj {a b : Nat} {da db : CallD} (ha : C[a]? = some da) (hb : C[b]? = some db) (ka : keep da = true) (kb : keep db = true) (e : rho C keep a = rho C keep b) : a = b := by
  rcases Nat.lt_trichotomy a b with g | g | g
  · have := rho_lt (keep := keep) ha ka g; omega
  · exact g
  · have := rho_lt (keep := keep) hb kb g; omega
/-- Calls that are kept have an order, if all have one. -/
theorem keep_found {r : List Nat} {q : Queue} (h62 : C.length ≤ 62) (hr : rightL C = true) (hc : chainS C [] r q) (nd : r.Nodup) (hk : ∀ id ∈ r, ∀ d, C[id]? = some d → keep d = true)
    (ho : r.Pairwise fun a b => ∀ ca cb, C[a]? = some ca → C[b]? = some cb → aheadF cb ca = false) (hd : ∀ (k : Nat) (d : CallD), C[k]? = some d → keep d = true → d.dn = true → k ∈ r) (ha : ∀ (k : Nat) (d : CallD), C[k]? = some d → aheadF d d = false) :
    (searchF (C.filter keep) (stepM 0 (C.filter keep) 0)).isSome = true := by
  have hl : (C.filter keep).length ≤ 62 := Nat.le_trans (List.length_filter_le _ _) h62
  have has := chain_has hc
  refine vrun_search hl (right_keep hr) (run0 hl (fun k d hkd => ?_) (r.map (rho C keep)) 0#64 [] q (chain_keep hk hc) ?_ (fun id _ => by simp) ?_ fun k d hkd hdn _ => ?_)
  · obtain ⟨k', k1, _⟩ := rho_of hkd
    exact ha k' d k1
  · refine List.Pairwise.map _ (fun a b h => h) ?_
    refine nd.imp_of_mem fun {a b} ha hb hne e => ?_
    obtain ⟨da, ha'⟩ := has a ha
    obtain ⟨db, hb'⟩ := has b hb
    exact hne (rho_inj ha' hb' (hk a ha da ha') (hk b hb db hb') e)
  · refine List.Pairwise.map _ (fun a b h => h) ?_
    refine ho.imp_of_mem fun {a b} ha hb h ca cb hca hcb => ?_
    obtain ⟨da, ha'⟩ := has a ha
    obtain ⟨db, hb'⟩ := has b hb
    rw [rho_get ha' (hk a ha da ha')] at hca
    rw [rho_get hb' (hk b hb db hb')] at hcb
    cases hca; cases hcb
    exact h _ _ ha' hb'
  · obtain ⟨k', k1, k2, rfl⟩ := rho_of hkd
    exact List.mem_map.2 ⟨k', hd k' d k1 k2 hdn, rfl⟩
end
end Go.Proofs.Ytopjhhcncjleaaa
/- DROP What was noted of a ring that may be closed: an order of its calls. -/
namespace Go.Proofs.Ytopjhhcncjleaaa
open Go Go.LK
set_option linter.unusedSimpArgs false
set_option linter.unusedVariables false
abbrev Hist := List (Ev × Int)
def HasP (h : Hist) (i : Nat) : Prop := ∃ z, (Ev.put i, z) ∈ h
def HasT (h : Hist) (i : Nat) : Prop := ∃ z, (Ev.take i, z) ∈ h
def HasN (h : Hist) (id : Nat) : Prop := ∃ z, (Ev.non id, z) ∈ h
def CondE (h : Hist) : Ev → Prop
  | .put i => ∀ j, HasP h j → j < i
  | .take i => ∀ j, j < i ↔ HasT h j
  | .non id => ¬ HasN h id ∧ ∀ i, HasP h i → HasT h i
def HOK : Hist → Prop
  | [] => True
  | x :: h => (∀ y ∈ h, y.2 ≤ x.2) ∧ CondE h x.1 ∧ HOK h
theorem hasP_cons {h : Hist} {e : Ev} {z : Int} {i : Nat} : HasP ((e, z) :: h) i ↔ e = .put i ∨ HasP h i := by
  constructor
  · rintro ⟨y, hy⟩
    rcases List.mem_cons.1 hy with g | g
    · cases g; exact .inl rfl
    · exact .inr ⟨y, g⟩
  · rintro (rfl | ⟨y, hy⟩)
    · exact ⟨z, List.mem_cons_self ..⟩
    · exact ⟨y, List.mem_cons_of_mem _ hy⟩
theorem hasT_cons {h : Hist} {e : Ev} {z : Int} {i : Nat} : HasT ((e, z) :: h) i ↔ e = .take i ∨ HasT h i := by
  constructor
  · rintro ⟨y, hy⟩
    rcases List.mem_cons.1 hy with g | g
    · cases g; exact .inl rfl
    · exact .inr ⟨y, g⟩
  · rintro (rfl | ⟨y, hy⟩)
    · exact ⟨z, List.mem_cons_self ..⟩
    · exact ⟨y, List.mem_cons_of_mem _ hy⟩
theorem hasN_cons {h : Hist} {e : Ev} {z : Int} {i : Nat} : HasN ((e, z) :: h) i ↔ e = .non i ∨ HasN h i := by
  constructor
  · rintro ⟨y, hy⟩
    rcases List.mem_cons.1 hy with g | g
    · cases g; exact .inl rfl
    · exact .inr ⟨y, g⟩
  · rintro (rfl | ⟨y, hy⟩)
    · exact ⟨z, List.mem_cons_self ..⟩
    · exact ⟨y, List.mem_cons_of_mem _ hy⟩
/-- Takes take one position behind the other. -/
theorem HOK.down : ∀ {h : Hist}, HOK h → ∀ {i j : Nat}, HasT h i → j < i → HasT h j
  | [], _, i, j, ⟨z, hz⟩, _ => by simp at hz
  | (e, z) :: h, ⟨_, hc, hk⟩, i, j, hi, hj => by
    rw [hasT_cons] at hi ⊢
    rcases hi with rfl | hi
    · exact .inr ((hc j).1 hj)
    · exact .inr (HOK.down hk hi hj)
open Classical in
/-- Whose calls take place at what is noted. -/
noncomputable def evIds (g : QS) (K : Nat → Bool) (h : Hist) : Ev → List Nat
  | .put i => if (g.E i).isSome = true then g.B i :: (if HasT h i then [g.D i] else []) else []
  | .take i => if (g.E i).isSome = true ∧ HasP h i then [g.D i] else []
  | .non id => if K id = true then [id] else []
noncomputable def ordR (g : QS) (K : Nat → Bool) : Hist → List Nat
  | [] => []
  | x :: h => ordR g K h ++ evIds g K h x.1
open Classical in
noncomputable def qf (g : QS) (h : Hist) (i : Nat) : Option (BitVec 64) := if HasP h i ∧ ¬ HasT h i then g.E i else none
noncomputable def QF (g : QS) (h : Hist) : Queue := (List.range g.T).filterMap (qf g h)
theorem fm_none {f : Nat → Option (BitVec 64)} {M : Nat} (h : ∀ j, j < M → f j = none) : (List.range M).filterMap f = [] := by
  rw [List.filterMap_eq_nil_iff]
  intro a ha
  exact h a (List.mem_range.1 ha)
theorem fm_congr {f f' : Nat → Option (BitVec 64)} {M : Nat} (h : ∀ j, j < M → f j = f' j) : (List.range M).filterMap f = (List.range M).filterMap f' := by
  induction M with
  | zero => rfl
  | succ M ih =>
    rw [List.range_succ, List.filterMap_append, List.filterMap_append, ih (fun j hj => h j (by omega))]
    simp only [List.filterMap_cons, List.filterMap_nil]
    rw [h M (by omega)]
theorem fm_snoc {f f' : Nat → Option (BitVec 64)} {i : Nat} {v : BitVec 64} (h1 : f i = none) (h2 : f' i = some v) (h3 : ∀ j, j ≠ i → f' j = f j) (h4 : ∀ j, i < j → f j = none) : ∀ {M : Nat}, i < M → (List.range M).filterMap f' = (List.range M).filterMap f ++ [v]
  | 0, h => by omega
  | M + 1, h => by
    rw [List.range_succ, List.filterMap_append, List.filterMap_append]
    by_cases e : i = M
    · subst e
      rw [fm_congr (f := f') (f' := f) fun j hj => h3 j (by omega)]
      simp [h1, h2]
    · rw [fm_snoc h1 h2 h3 h4 (show i < M by omega)]
      have e1 := h4 M (by omega)
      have e2 := h3 M (by omega)
      simp [e1, e2]
theorem fm_cons {f f' : Nat → Option (BitVec 64)} {i : Nat} {v : BitVec 64} (h1 : f i = some v) (h2 : f' i = none) (h3 : ∀ j, j ≠ i → f' j = f j) (h4 : ∀ j, j < i → f j = none) : ∀ {M : Nat}, i < M → (List.range M).filterMap f = v :: (List.range M).filterMap f'
  | 0, h => by omega
  | M + 1, h => by
    rw [List.range_succ, List.filterMap_append, List.filterMap_append]
    by_cases e : i = M
    · subst e
      rw [fm_none (f := f) fun j hj => h4 j hj, fm_none (f := f') fun j hj => (h3 j (by omega)).trans (h4 j hj)]
      simp [h1, h2]
    · rw [fm_cons h1 h2 h3 h4 (show i < M by omega)]
      have e2 := h3 M (by omega)
      simp only [List.filterMap_cons, List.filterMap_nil, e2, List.cons_append]
def InC (C : List CallD) (id : Nat) (z : Int) : Prop := ∃ d, C[id]? = some d ∧ d.fr < z ∧ (d.dn = true → z ≤ d.to)
/-- What holds of all that was noted. -/
structure FF (g : QS) (C : List CallD) (K : Nat → Bool) : Prop where
  hk : HOK g.h
  ev : ∀ i x, g.E i = some x → HasP g.h i
  hT : ∀ i, HasP g.h i → i < g.T
  b : ∀ i x, g.E i = some x → ∃ d, C[g.B i]? = some d ∧ d.dn = true ∧ d.kind = 0 ∧ d.arg = x ∧ d.code = 0 ∧ d.ret = 0#64
  d : ∀ i x, g.E i = some x → HasT g.h i → ∃ d, C[g.D i]? = some d ∧ d.kind = 1 ∧ (d.dn = false ∨ (d.code = 0 ∧ d.ret = x))
  n : ∀ id, HasN g.h id → ∃ d, C[id]? = some d ∧ d.kind = 1 ∧ (K id = true → d.dn = true ∧ d.code = 13 ∧ d.ret = 0#64)
  uB : ∀ i j, (g.E i).isSome = true → (g.E j).isSome = true → g.B i = g.B j → i = j
  uD : ∀ i j, (g.E i).isSome = true → (g.E j).isSome = true → HasT g.h i → HasT g.h j → g.D i = g.D j → i = j
  uN : ∀ id i, HasN g.h id → (g.E i).isSome = true → HasT g.h i → g.D i ≠ id
  iB : ∀ i z, (Ev.put i, z) ∈ g.h → InC C (g.B i) z
  iD : ∀ i z, (Ev.take i, z) ∈ g.h → InC C (g.D i) z
  iN : ∀ id z, (Ev.non id, z) ∈ g.h → InC C id z
  iE : ∀ i x z, g.E i = some x → HasT g.h i → (Ev.put i, z) ∈ g.h → ∀ d, C[g.D i]? = some d → d.dn = true → z ≤ d.to
section
variable {g : QS} {C : List CallD} {K : Nat → Bool}
theorem sub_P {h h' : Hist} (s : ∀ x ∈ h', x ∈ h) {i : Nat} (hi : HasP h' i) : HasP h i := hi.imp fun z hz => s _ hz
theorem sub_T {h h' : Hist} (s : ∀ x ∈ h', x ∈ h) {i : Nat} (hi : HasT h' i) : HasT h i := hi.imp fun z hz => s _ hz
theorem sub_N {h h' : Hist} (s : ∀ x ∈ h', x ∈ h) {i : Nat} (hi : HasN h' i) : HasN h i := hi.imp fun z hz => s _ hz
theorem may_put {s : Queue} {d : CallD} (h1 : d.dn = true) (h2 : d.kind = 0) (h3 : d.code = 0) (h4 : d.ret = 0#64) : mayF 0 s d 0 0 0 = some (s ++ [d.arg]) := by
  have e : doF 0 s d.kind d.arg = (s ++ [d.arg], 0, 0#64) := by
    rw [h2, doF.eq_def, if_pos rfl, if_neg (by omega)]; rfl
  rw [mayF, e, if_neg (by rw [h1]; simp), if_pos ⟨h3.symm, h4.symm⟩]
theorem may_take {s : Queue} {x : BitVec 64} {d : CallD} (h2 : d.kind = 1) (h3 : d.dn = false ∨ (d.code = 0 ∧ d.ret = x)) : mayF 0 (x :: s) d 0 0 0 = some s := by
  have e : doF 0 (x :: s) d.kind d.arg = (s, 0, x) := by
    rw [h2, doF.eq_def, if_neg (by decide), if_pos rfl]
  rw [mayF, e]
  cases hd : d.dn
  · simp
  · rcases h3 with h3 | ⟨h3, h4⟩
    · rw [hd] at h3; cases h3
    · rw [if_neg (by simp), if_pos ⟨h3.symm, h4.symm⟩]
theorem may_none {d : CallD} (h1 : d.dn = true) (h2 : d.kind = 1) (h3 : d.code = 13) (h4 : d.ret = 0#64) : mayF 0 [] d 0 0 0 = some [] := by
  have e : doF 0 [] d.kind d.arg = ([], 13, 0#64) := by
    rw [h2, doF.eq_def, if_neg (by decide), if_pos rfl]; rfl
  rw [mayF, e, if_neg (by rw [h1]; simp), if_pos ⟨h3.symm, h4.symm⟩]
/-- The order is one of a queue. -/
theorem chain_ord (F : FF g C K) : ∀ h : Hist, (∀ x ∈ h, x ∈ g.h) → HOK h → chainS C [] (ordR g K h) (QF g h)
  | [], _, _ => by
    show [] = QF g []
    refine (fm_none fun j _ => ?_).symm
    unfold qf
    rw [if_neg]
    rintro ⟨⟨z, hz⟩, _⟩
    simp at hz
  | (e, z) :: h, hs, ⟨_, hc, hk⟩ => by
    have hs' : ∀ x ∈ h, x ∈ g.h := fun x hx => hs x (List.mem_cons_of_mem _ hx)
    have ih := chain_ord F h hs' hk
    refine chainS_app ih ?_
    have hmem : (e, z) ∈ g.h := hs _ (List.mem_cons_self ..)
    cases e with
    | put i =>
      have hPi : ¬ HasP h i := fun q => Nat.lt_irrefl _ (hc i q)
      have same : ∀ j, j ≠ i → qf g ((Ev.put i, z) :: h) j = qf g h j := by
        intro j hj
        unfold qf
        rw [hasP_cons, hasT_cons]
        have e1 : (Ev.put i = Ev.put j ∨ HasP h j) ↔ HasP h j := ⟨fun q => q.elim (fun q => by cases q; exact absurd rfl hj) id, .inr⟩
        have e2 : (Ev.put i = Ev.take j ∨ HasT h j) ↔ HasT h j := ⟨fun q => q.elim (fun q => by cases q) id, .inr⟩
        rw [e1, e2]
      have q0 : qf g h i = none := by unfold qf; rw [if_neg (fun q => hPi q.1)]
      have hiT := F.hT i ⟨z, hmem⟩
      cases hE : g.E i with
      | none =>
        have q1 : qf g ((Ev.put i, z) :: h) i = none := by unfold qf; split <;> simp_all
        have : QF g ((Ev.put i, z) :: h) = QF g h := fm_congr fun j _ => by
          by_cases e : j = i
          · subst e; rw [q0, q1]
          · exact same j e
        rw [this]
        simp only [evIds, hE]
        exact rfl
      | some x =>
        obtain ⟨d, d1, d2, d3, d4, d5, d6⟩ := F.b i x hE
        have m1 := may_put (s := QF g h) d2 d3 d5 d6
        rw [d4] at m1
        by_cases ht : HasT h i
        · have nil : QF g h = [] := fm_none fun j _ => by
            unfold qf
            rw [if_neg]
            rintro ⟨p1, p2⟩
            exact p2 (hk.down ht (hc j p1))
          have q1 : qf g ((Ev.put i, z) :: h) i = none := by
            unfold qf
            rw [if_neg]
            rintro ⟨_, p2⟩
            exact p2 (hasT_cons.2 (.inr ht))
          have nil' : QF g ((Ev.put i, z) :: h) = [] := by
            rw [← nil]
            exact fm_congr fun j _ => by
              by_cases e : j = i
              · subst e; rw [q0, q1]
              · exact same j e
          obtain ⟨f, f1, f2, f3⟩ := F.d i x hE (sub_T hs' ht)
          simp only [evIds, hE, ht, Option.isSome_some, if_true]
          rw [nil, nil']
          rw [nil] at m1
          exact ⟨d, _, d1, m1, f, [], f1, may_take f2 f3, rfl⟩
        · have q1 : qf g ((Ev.put i, z) :: h) i = some x := by
            unfold qf
            rw [if_pos, hE]
            refine ⟨hasP_cons.2 (.inl rfl), fun q => ?_⟩
            rcases hasT_cons.1 q with q | q
            · cases q
            · exact ht q
          have app : QF g ((Ev.put i, z) :: h) = QF g h ++ [x] := fm_snoc q0 q1 same (fun j hj => by
            unfold qf
            rw [if_neg]
            rintro ⟨p1, _⟩
            have := hc j p1
            omega) hiT
          simp only [evIds, hE, ht, Option.isSome_some, if_true, if_false]
          rw [app]
          exact ⟨d, _, d1, m1, rfl⟩
    | take i =>
      have hTi : ¬ HasT h i := fun q => Nat.lt_irrefl _ ((hc i).2 q)
      have same : ∀ j, j ≠ i → qf g ((Ev.take i, z) :: h) j = qf g h j := by
        intro j hj
        unfold qf
        rw [hasP_cons, hasT_cons]
        have e1 : (Ev.take i = Ev.put j ∨ HasP h j) ↔ HasP h j := ⟨fun q => q.elim (fun q => by cases q) id, .inr⟩
        have e2 : (Ev.take i = Ev.take j ∨ HasT h j) ↔ HasT h j := ⟨fun q => q.elim (fun q => by cases q; exact absurd rfl hj) id, .inr⟩
        rw [e1, e2]
      have q1 : qf g ((Ev.take i, z) :: h) i = none := by
        unfold qf
        rw [if_neg]
        rintro ⟨_, p2⟩
        exact p2 (hasT_cons.2 (.inl rfl))
      by_cases hP : (g.E i).isSome = true ∧ HasP h i
      · obtain ⟨x, hE⟩ := Option.isSome_iff_exists.1 hP.1
        have q0 : qf g h i = some x := by unfold qf; rw [if_pos ⟨hP.2, hTi⟩, hE]
        have cons : QF g h = x :: QF g ((Ev.take i, z) :: h) := fm_cons q0 q1 same (fun j hj => by
          unfold qf
          rw [if_neg]
          rintro ⟨_, p2⟩
          exact p2 ((hc j).1 hj)) (F.hT i (sub_P hs' hP.2))
        obtain ⟨f, f1, f2, f3⟩ := F.d i x hE ⟨z, hmem⟩
        simp only [evIds, if_pos hP]
        rw [cons]
        exact ⟨f, _, f1, may_take f2 f3, rfl⟩
      · have q0 : qf g h i = none := by
          unfold qf
          split
          · rename_i p
            cases hE : g.E i with
            | none => rfl
            | some x => exact absurd ⟨by rw [hE]; rfl, p.1⟩ hP
          · rfl
        have : QF g ((Ev.take i, z) :: h) = QF g h := fm_congr fun j _ => by
          by_cases e : j = i
          · subst e; rw [q0, q1]
          · exact same j e
        rw [this]
        simp only [evIds, if_neg hP]
        exact rfl
    | non id =>
      have nil : QF g h = [] := fm_none fun j _ => by
        unfold qf
        rw [if_neg]
        rintro ⟨p1, p2⟩
        exact p2 (hc.2 j p1)
      have nil' : QF g ((Ev.non id, z) :: h) = [] := by
        rw [← nil]
        refine fm_congr fun j _ => ?_
        unfold qf
        rw [hasP_cons, hasT_cons]
        have e1 : (Ev.non id = Ev.put j ∨ HasP h j) ↔ HasP h j := ⟨fun q => q.elim (fun q => by cases q) _root_.id, .inr⟩
        have e2 : (Ev.non id = Ev.take j ∨ HasT h j) ↔ HasT h j := ⟨fun q => q.elim (fun q => by cases q) _root_.id, .inr⟩
        rw [e1, e2]
      obtain ⟨d, d1, d2, d3⟩ := F.n id ⟨z, hmem⟩
      rw [nil, nil']
      cases hK : K id
      · simp only [evIds, hK]
        exact rfl
      · obtain ⟨d4, d5, d6⟩ := d3 hK
        simp only [evIds, hK, if_true]
        exact ⟨d, [], d1, may_none d4 d2 d5 d6, rfl⟩
/-- Whose calls are in an order. -/
def Cl (g : QS) (K : Nat → Bool) (h : Hist) (id : Nat) : Prop := (∃ i, (g.E i).isSome = true ∧ HasP h i ∧ id = g.B i) ∨ (∃ i, (g.E i).isSome = true ∧ HasP h i ∧ HasT h i ∧ id = g.D i) ∨ (HasN h id ∧ K id = true)
theorem ord_mem : ∀ {h : Hist} {id : Nat}, id ∈ ordR g K h ↔ Cl g K h id
  | [], id => by
    refine ⟨fun q => by simp [ordR] at q, ?_⟩
    rintro (⟨i, _, ⟨z, hz⟩, _⟩ | ⟨i, _, ⟨z, hz⟩, _⟩ | ⟨⟨z, hz⟩, _⟩) <;> simp at hz
  | (e, z) :: h, id => by
    rw [ordR, List.mem_append, ord_mem]
    unfold Cl
    simp only [hasP_cons, hasT_cons, hasN_cons]
    cases e with
    | put i =>
      constructor
      · rintro ((⟨j, a, b, c⟩ | ⟨j, a, b, c, d⟩ | ⟨a, b⟩) | q)
        · exact .inl ⟨j, a, .inr b, c⟩
        · exact .inr (.inl ⟨j, a, .inr b, .inr c, d⟩)
        · exact .inr (.inr ⟨.inr a, b⟩)
        · simp only [evIds] at q
          split at q
          · rename_i hE
            rcases List.mem_cons.1 q with q | q
            · exact .inl ⟨i, hE, .inl rfl, q⟩
            · split at q
              · rename_i ht
                exact .inr (.inl ⟨i, hE, .inl rfl, .inr ht, List.mem_singleton.1 q⟩)
              · simp at q
          · simp at q
      · rintro (⟨j, a, b, c⟩ | ⟨j, a, b, c, d⟩ | ⟨a, b⟩)
        · rcases b with b | b
          · cases b
            right
            simp only [evIds, if_pos a]
            rw [c]; exact List.mem_cons_self ..
          · exact .inl (.inl ⟨j, a, b, c⟩)
        · rcases c with c | c
          · cases c
          · rcases b with b | b
            · cases b
              right
              simp only [evIds, if_pos a, if_pos c]
              rw [d]; simp
            · exact .inl (.inr (.inl ⟨j, a, b, c, d⟩))
        · rcases a with a | a
          · cases a
          · exact .inl (.inr (.inr ⟨a, b⟩))
    | take i =>
      constructor
      · rintro ((⟨j, a, b, c⟩ | ⟨j, a, b, c, d⟩ | ⟨a, b⟩) | q)
        · exact .inl ⟨j, a, .inr b, c⟩
        · exact .inr (.inl ⟨j, a, .inr b, .inr c, d⟩)
        · exact .inr (.inr ⟨.inr a, b⟩)
        · simp only [evIds] at q
          split at q
          · rename_i hE
            exact .inr (.inl ⟨i, hE.1, .inr hE.2, .inl rfl, List.mem_singleton.1 q⟩)
          · simp at q
      · rintro (⟨j, a, b, c⟩ | ⟨j, a, b, c, d⟩ | ⟨a, b⟩)
        · rcases b with b | b
          · cases b
          · exact .inl (.inl ⟨j, a, b, c⟩)
        · rcases b with b | b
          · cases b
          · rcases c with c | c
            · cases c
              right
              simp only [evIds, if_pos (And.intro a b)]
              rw [d]; simp
            · exact .inl (.inr (.inl ⟨j, a, b, c, d⟩))
        · rcases a with a | a
          · cases a
          · exact .inl (.inr (.inr ⟨a, b⟩))
    | non k =>
      constructor
      · rintro ((⟨j, a, b, c⟩ | ⟨j, a, b, c, d⟩ | ⟨a, b⟩) | q)
        · exact .inl ⟨j, a, .inr b, c⟩
        · exact .inr (.inl ⟨j, a, .inr b, .inr c, d⟩)
        · exact .inr (.inr ⟨.inr a, b⟩)
        · simp only [evIds] at q
          split at q
          · rename_i hK
            have := List.mem_singleton.1 q
            subst this
            exact .inr (.inr ⟨.inl rfl, hK⟩)
          · simp at q
      · rintro (⟨j, a, b, c⟩ | ⟨j, a, b, c, d⟩ | ⟨a, b⟩)
        · rcases b with b | b
          · cases b
          · exact .inl (.inl ⟨j, a, b, c⟩)
        · rcases b with b | b
          · cases b
          · rcases c with c | c
            · cases c
            · exact .inl (.inr (.inl ⟨j, a, b, c, d⟩))
        · rcases a with a | a
          · cases a
            right
            simp only [evIds, if_pos b]
            simp
          · exact .inl (.inr (.inr ⟨a, b⟩))
end
end Go.Proofs.Ytopjhhcncjleaaa
/- DROP What was noted of a ring that may be closed: its order is found. -/
namespace Go.Proofs.Ytopjhhcncjleaaa
open Go Go.LK
set_option linter.unusedSimpArgs false
set_option linter.unusedVariables false
section
variable {g : QS} {C : List CallD} {K : Nat → Bool}
theorem evIds_in (F : FF g C K) {e : Ev} {z : Int} {h : Hist} (hs : ∀ x ∈ (e, z) :: h, x ∈ g.h) (hz : ∀ y ∈ h, y.2 ≤ z) {id : Nat} (hid : id ∈ evIds g K h e) : InC C id z := by
  have hmem : (e, z) ∈ g.h := hs _ (List.mem_cons_self ..)
  have hs' : ∀ x ∈ h, x ∈ g.h := fun x hx => hs x (List.mem_cons_of_mem _ hx)
  cases e with
  | put i =>
    simp only [evIds] at hid
    split at hid
    · rename_i hE
      rcases List.mem_cons.1 hid with rfl | hid
      · exact F.iB i z hmem
      · split at hid
        · rename_i ht
          obtain rfl := List.mem_singleton.1 hid
          obtain ⟨x, hx⟩ := Option.isSome_iff_exists.1 hE
          obtain ⟨z', hz'⟩ := ht
          obtain ⟨d, d1, d2, d3⟩ := F.iD i z' (hs' _ hz')
          have := hz _ hz'
          exact ⟨d, d1, by simp only at this; omega, fun q => F.iE i x z hx ⟨z', hs' _ hz'⟩ hmem d d1 q⟩
        · simp at hid
    · simp at hid
  | take i =>
    simp only [evIds] at hid
    split at hid
    · obtain rfl := List.mem_singleton.1 hid
      exact F.iD i z hmem
    · simp at hid
  | non k =>
    simp only [evIds] at hid
    split at hid
    · obtain rfl := List.mem_singleton.1 hid
      exact F.iN _ z hmem
    · simp at hid
theorem ord_in (F : FF g C K) : ∀ {h : Hist}, (∀ x ∈ h, x ∈ g.h) → HOK h → ∀ {id : Nat}, id ∈ ordR g K h → ∃ y ∈ h, InC C id y.2
  | [], _, _, id, hid => by simp [ordR] at hid
  | (e, z) :: h, hs, ⟨hz, _, hk⟩, id, hid => by
    rw [ordR, List.mem_append] at hid
    rcases hid with hid | hid
    · obtain ⟨y, hy, hy2⟩ := ord_in F (fun x hx => hs x (List.mem_cons_of_mem _ hx)) hk hid
      exact ⟨y, List.mem_cons_of_mem _ hy, hy2⟩
    · exact ⟨(e, z), List.mem_cons_self .., evIds_in F hs hz hid⟩
theorem no_ahead {a b : Nat} {za zb : Int} (ha : InC C a za) (hb : InC C b zb) (h : za ≤ zb) : ∀ ca cb, C[a]? = some ca → C[b]? = some cb → aheadF cb ca = false := by
  intro ca cb hca hcb
  obtain ⟨da, a1, a2, a3⟩ := ha
  obtain ⟨db, b1, b2, b3⟩ := hb
  rw [hca] at a1; cases a1
  rw [hcb] at b1; cases b1
  unfold aheadF
  cases hd : cb.dn
  · rfl
  · have := b3 hd
    simp; omega
theorem ord_pair (F : FF g C K) : ∀ {h : Hist}, (∀ x ∈ h, x ∈ g.h) → HOK h → (ordR g K h).Pairwise fun a b => ∀ ca cb, C[a]? = some ca → C[b]? = some cb → aheadF cb ca = false
  | [], _, _ => List.Pairwise.nil
  | (e, z) :: h, hs, ⟨hz, hc, hk⟩ => by
    have hs' : ∀ x ∈ h, x ∈ g.h := fun x hx => hs x (List.mem_cons_of_mem _ hx)
    rw [ordR, List.pairwise_append]
    refine ⟨ord_pair F hs' hk, ?_, fun a ha b hb => ?_⟩
    · rw [List.pairwise_iff_forall_sublist]
      intro a b hab
      have ha : a ∈ evIds g K h e := hab.subset (by simp)
      have hb : b ∈ evIds g K h e := hab.subset (by simp)
      exact no_ahead (evIds_in F hs hz ha) (evIds_in F hs hz hb) (Int.le_refl _)
    · obtain ⟨y, hy, hy2⟩ := ord_in F hs' hk ha
      exact no_ahead hy2 (evIds_in F hs hz hb) (hz y hy)
theorem evIds_nodup (F : FF g C K) {e : Ev} {z : Int} {h : Hist} (hs : ∀ x ∈ (e, z) :: h, x ∈ g.h) : (evIds g K h e).Nodup := by
  cases e with
  | put i =>
    simp only [evIds]
    split
    · rename_i hE
      split
      · rename_i ht
        obtain ⟨x, hx⟩ := Option.isSome_iff_exists.1 hE
        obtain ⟨d, d1, _, d2, _⟩ := F.b i x hx
        obtain ⟨f, f1, f2, _⟩ := F.d i x hx (sub_T (fun y hy => hs y (List.mem_cons_of_mem _ hy)) ht)
        simp only [List.nodup_cons, List.mem_singleton, List.not_mem_nil, not_false_eq_true, List.nodup_nil, and_true]
        intro e
        rw [← e, d1] at f1; cases f1
        omega
      · simp
    · simp
  | take i =>
    simp only [evIds]
    split <;> simp
  | non k =>
    simp only [evIds]
    split <;> simp
theorem ord_nodup (F : FF g C K) : ∀ {h : Hist}, (∀ x ∈ h, x ∈ g.h) → HOK h → (ordR g K h).Nodup
  | [], _, _ => List.nodup_nil
  | (e, z) :: h, hs, ⟨hz, hc, hk⟩ => by
    have hs' : ∀ x ∈ h, x ∈ g.h := fun x hx => hs x (List.mem_cons_of_mem _ hx)
    have hmem : (e, z) ∈ g.h := hs _ (List.mem_cons_self ..)
    rw [ordR, List.nodup_append]
    refine ⟨ord_nodup F hs' hk, evIds_nodup F hs, ?_⟩
    intro a ha b hb
    rintro rfl
    rw [ord_mem] at ha
    -- whose calls of old
    have bk : ∀ i, (g.E i).isSome = true → ∃ d, C[g.B i]? = some d ∧ d.kind = 0 := fun i hE => by
      obtain ⟨x, hx⟩ := Option.isSome_iff_exists.1 hE
      obtain ⟨d, d1, _, d2, _⟩ := F.b i x hx
      exact ⟨d, d1, d2⟩
    have dk : ∀ i, (g.E i).isSome = true → HasT g.h i → ∃ d, C[g.D i]? = some d ∧ d.kind = 1 := fun i hE ht => by
      obtain ⟨x, hx⟩ := Option.isSome_iff_exists.1 hE
      obtain ⟨d, d1, d2, _⟩ := F.d i x hx ht
      exact ⟨d, d1, d2⟩
    have nk : ∀ id, HasN g.h id → ∃ d, C[id]? = some d ∧ d.kind = 1 := fun id hn => by
      obtain ⟨d, d1, d2, _⟩ := F.n id hn
      exact ⟨d, d1, d2⟩
    have clash : ∀ {id : Nat}, (∃ d, C[id]? = some d ∧ d.kind = 0) → (∃ d, C[id]? = some d ∧ d.kind = 1) → False := by
      rintro id ⟨d, d1, d2⟩ ⟨f, f1, f2⟩
      rw [d1] at f1; cases f1; omega
    have newB : ∀ i, (g.E i).isSome = true → ¬ HasP h i → ¬ Cl g K h (g.B i) := by
      rintro i hE hn (⟨j, a, b, c⟩ | ⟨j, a, b, c, d⟩ | ⟨a, b⟩)
      · obtain rfl := F.uB i j hE a c
        exact hn b
      · have := dk j a (sub_T hs' c)
        rw [← d] at this
        exact clash (bk i hE) this
      · exact clash (bk i hE) (nk _ (sub_N hs' a))
    have newD : ∀ i, (g.E i).isSome = true → HasT g.h i → ¬ (HasP h i ∧ HasT h i) → ¬ Cl g K h (g.D i) := by
      rintro i hE ht hn (⟨j, a, b, c⟩ | ⟨j, a, b, c, d⟩ | ⟨a, b⟩)
      · have := bk j a
        rw [← c] at this
        exact clash this (dk i hE ht)
      · obtain rfl := F.uD i j hE a ht (sub_T hs' c) d
        exact hn ⟨b, c⟩
      · exact F.uN _ i (sub_N hs' a) hE ht rfl
    cases e with
    | put i =>
      have hPi : ¬ HasP h i := fun q => Nat.lt_irrefl _ (hc i q)
      simp only [evIds] at hb
      split at hb
      · rename_i hE
        rcases List.mem_cons.1 hb with rfl | hb
        · exact newB i hE hPi ha
        · split at hb
          · rename_i ht
            obtain rfl := List.mem_singleton.1 hb
            exact newD i hE (sub_T hs' ht) (fun q => hPi q.1) ha
          · simp at hb
      · simp at hb
    | take i =>
      have hTi : ¬ HasT h i := fun q => Nat.lt_irrefl _ ((hc i).2 q)
      simp only [evIds] at hb
      split at hb
      · rename_i hE
        obtain rfl := List.mem_singleton.1 hb
        exact newD i hE.1 ⟨z, hmem⟩ (fun q => hTi q.2) ha
      · simp at hb
    | non k =>
      simp only [evIds] at hb
      split at hb
      · rename_i hK
        obtain rfl := List.mem_singleton.1 hb
        rcases ha with ⟨j, a, b, c⟩ | ⟨j, a, b, c, d⟩ | ⟨a, b⟩
        · have := bk j a
          rw [← c] at this
          exact clash this (nk _ ⟨z, hmem⟩)
        · exact F.uN _ j ⟨z, hmem⟩ a (sub_T hs' c) d.symm
        · exact hc.1 a
      · simp at hb
def keepC (d : CallD) : Bool := decide (d.code ≠ 16)
/-- The order of what was not refused is found. -/
theorem FF.found (F : FF g C K) (h62 : C.length ≤ 62) (hr : rightL C = true) (hK : ∀ id d, C[id]? = some d → K id = d.dn) (hu : ∀ (k : Nat) (d : CallD), C[k]? = some d → d.dn = false → d.code = 0)
    (hd : ∀ (k : Nat) (d : CallD), C[k]? = some d → d.code ≠ 16 → d.dn = true → Cl g K g.h k) (ha : ∀ (k : Nat) (d : CallD), C[k]? = some d → aheadF d d = false) :
    (searchF (C.filter keepC) (stepM 0 (C.filter keepC) 0)).isSome = true := by
  refine keep_found h62 hr (chain_ord F g.h (fun _ h => h) F.hk) (ord_nodup F (fun _ h => h) F.hk) ?_ (ord_pair F (fun _ h => h) F.hk) ?_ ha
  · intro id hid d hdd
    simp only [keepC, decide_eq_true_eq]
    rcases ord_mem.1 hid with ⟨j, a, b, rfl⟩ | ⟨j, a, b, c, rfl⟩ | ⟨a, b⟩
    · obtain ⟨x, hx⟩ := Option.isSome_iff_exists.1 a
      obtain ⟨f, f1, _, _, _, f2, _⟩ := F.b j x hx
      rw [hdd] at f1; cases f1
      omega
    · obtain ⟨x, hx⟩ := Option.isSome_iff_exists.1 a
      obtain ⟨f, f1, _, f2⟩ := F.d j x hx c
      rw [hdd] at f1; cases f1
      rcases f2 with f2 | ⟨f2, _⟩
      · have := hu _ _ hdd f2; omega
      · omega
    · obtain ⟨f, f1, _, f2⟩ := F.n id a
      rw [hdd] at f1; cases f1
      have := (f2 b).2.1
      omega
  · intro k d hk hkp hdn
    simp only [keepC, decide_eq_true_eq] at hkp
    exact ord_mem.2 (hd k d hk hkp hdn)
end
end Go.Proofs.Ytopjhhcncjleaaa
