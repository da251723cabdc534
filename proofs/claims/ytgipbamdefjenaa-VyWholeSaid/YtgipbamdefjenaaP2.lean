/- Puts that are done: plain. -/
import Derived.Test.YtgipbamdefjenaaP1
import Derived.Test.YtgipbamdefjenaaC2
namespace Go.Proofs.Ytgipbamdefjenaa
open Go Go.LK
set_option linter.unusedSimpArgs false
set_option linter.unusedVariables false
section
variable {s T : Nat} {w : List (BitVec 64)} {L : List VOp} {own : Nat → Nat} {i : Nat} {x : VOp}
theorem WI.end (h : WI s T w L own) (hx : L[i]? = some x) (h5 : x.at_ = 5) : (x.code = 0 ∧ ∃ p, p < T ∧ own p = i) ∨ (x.code = 15 ∧ T = s) := by
  obtain ⟨_, _, _, r4⟩ := h.ops i x hx
  rcases r4 with g | ⟨g, _⟩ | ⟨g, _⟩ | ⟨g, p, q1, q2, _⟩ | ⟨_, g, g'⟩
  · omega
  · omega
  · omega
  · rcases g with g | g | ⟨_, g⟩
    · omega
    · omega
    · exact .inl ⟨g, p, q1, q2⟩
  · exact .inr ⟨g, g'⟩
theorem WI.inj (h : WI s T w L own) {p q : Nat} (hp : p < T) (hq : q < T) (e : own p = own q) : p = q := by
  obtain ⟨y, f1, f2, _⟩ := h.cl p hp
  obtain ⟨y', g1, g2, _⟩ := h.cl q hq
  rw [e, g1] at f1
  cases f1
  have := h.ts
  have := h.hs
  exact (ofNat_inj (g2.symm.trans f2) (by omega) (by omega)).symm
theorem WI.own4 (h : WI s T w L own) {p : Nat} (hp : p < T) : own p < 4 := by
  obtain ⟨y, f1, _⟩ := h.cl p hp
  have := (List.getElem?_eq_some_iff.1 f1).1
  rwa [h.ll] at this
theorem WI.full (h : WI s T w L own) (hd : ∀ (i : Nat) (x : VOp), L[i]? = some x → x.at_ = 5) : T = s := by
  have ht := h.ts
  have hs := h.hs
  by_cases e : T = s
  · exact e
  have hc : ∀ i, i < 4 → ∃ p, p < T ∧ own p = i := by
    intro i hi
    have hx := List.getElem?_eq_getElem (l := L) (i := i) (by rw [h.ll]; exact hi)
    rcases h.end hx (hd _ _ hx) with ⟨_, g⟩ | ⟨_, g⟩
    · exact g
    · exact absurd g e
  obtain ⟨p0, a0, b0⟩ := hc 0 (by omega)
  obtain ⟨p1, a1, b1⟩ := hc 1 (by omega)
  obtain ⟨p2, a2, b2⟩ := hc 2 (by omega)
  obtain ⟨p3, a3, b3⟩ := hc 3 (by omega)
  have n01 : p0 ≠ p1 := by rintro rfl; omega
  have n02 : p0 ≠ p2 := by rintro rfl; omega
  have n03 : p0 ≠ p3 := by rintro rfl; omega
  have n12 : p1 ≠ p2 := by rintro rfl; omega
  have n13 : p1 ≠ p3 := by rintro rfl; omega
  have n23 : p2 ≠ p3 := by rintro rfl; omega
  omega
def okP (L : List VOp) (j : Nat) : Bool := (L[j]?.map (·.code)) == some 0
theorem WI.okP (h : WI s s w L own) (hd : ∀ (i : Nat) (x : VOp), L[i]? = some x → x.at_ = 5) (hi : i < 4) : okP L i = true ↔ ∃ p, p < s ∧ own p = i := by
  have hx := List.getElem?_eq_getElem (l := L) (i := i) (by rw [h.ll]; exact hi)
  constructor
  · intro q
    rcases h.end hx (hd _ _ hx) with ⟨_, g⟩ | ⟨g, _⟩
    · exact g
    · simp [Proofs.Ytgipbamdefjenaa.okP, hx, g] at q
  · rintro ⟨p, q1, rfl⟩
    obtain ⟨y, f1, _, f3⟩ := h.cl p q1
    have h5 := hd _ _ f1
    have : y.code = 0 := by
      rcases f3 with ⟨g, _⟩ | ⟨g, _⟩ | ⟨_, g, _⟩
      · omega
      · omega
      · exact g
    simp [Proofs.Ytgipbamdefjenaa.okP, f1, this]
theorem cnt2 : ∀ a : Fin 4, ∀ b : Fin 4, a ≠ b → ((List.range 4).filter (fun i => decide (a.val = i ∨ b.val = i))).length = 2 := by decide
theorem cnt4 : ∀ a : Fin 4, ∀ b : Fin 4, ∀ c : Fin 4, ∀ d : Fin 4, (a ≠ b ∧ a ≠ c ∧ a ≠ d ∧ b ≠ c ∧ b ≠ d ∧ c ≠ d) → ((List.range 4).filter (fun i => decide (a.val = i ∨ b.val = i ∨ c.val = i ∨ d.val = i))).length = 4 := by decide +kernel
theorem WI.count (h : WI s s w L own) (hd : ∀ (i : Nat) (x : VOp), L[i]? = some x → x.at_ = 5) : ((List.range 4).filter (Proofs.Ytgipbamdefjenaa.okP L)).length = s := by
  have key : ∀ (f : Nat → Bool), (∀ i, i < 4 → (f i = true ↔ ∃ p, p < s ∧ own p = i)) → (List.range 4).filter (Proofs.Ytgipbamdefjenaa.okP L) = (List.range 4).filter f := by
    intro f hf
    apply List.filter_congr
    intro i hi
    have hi4 : i < 4 := by simpa using hi
    rw [Bool.eq_iff_iff, h.okP hd hi4, hf i hi4]
  rcases h.hs with rfl | rfl
  · have e := cnt2 ⟨own 0, h.own4 (by omega)⟩ ⟨own 1, h.own4 (by omega)⟩ (fun q => absurd (h.inj (by omega) (by omega) (Fin.mk.inj q)) (by decide))
    refine Eq.trans (congrArg List.length (key _ ?_)) e
    intro i hi
    rw [decide_eq_true_eq]
    constructor
    · rintro (g | g)
      · exact ⟨0, by omega, g⟩
      · exact ⟨1, by omega, g⟩
    · rintro ⟨p, q1, q2⟩
      have : p = 0 ∨ p = 1 := by omega
      rcases this with rfl | rfl
      · exact .inl q2
      · exact .inr q2
  · have ne : ∀ {p q : Nat}, (hp : p < 4) → (hq : q < 4) → p ≠ q → (⟨own p, h.own4 hp⟩ : Fin 4) ≠ ⟨own q, h.own4 hq⟩ := fun hp hq hn z => hn (h.inj hp hq (Fin.mk.inj z))
    have e := cnt4 ⟨own 0, h.own4 (by omega)⟩ ⟨own 1, h.own4 (by omega)⟩ ⟨own 2, h.own4 (by omega)⟩ ⟨own 3, h.own4 (by omega)⟩ ⟨ne (by decide) (by decide) (by decide), ne (by decide) (by decide) (by decide), ne (by decide) (by decide) (by decide), ne (by decide) (by decide) (by decide), ne (by decide) (by decide) (by decide), ne (by decide) (by decide) (by decide)⟩
    refine Eq.trans (congrArg List.length (key _ ?_)) e
    intro i hi
    rw [decide_eq_true_eq]
    constructor
    · rintro (g | g | g | g)
      · exact ⟨0, by omega, g⟩
      · exact ⟨1, by omega, g⟩
      · exact ⟨2, by omega, g⟩
      · exact ⟨3, by omega, g⟩
    · rintro ⟨p, q1, q2⟩
      have : p = 0 ∨ p = 1 ∨ p = 2 ∨ p = 3 := by omega
      rcases this with rfl | rfl | rfl | rfl
      · exact .inl q2
      · exact .inr (.inl q2)
      · exact .inr (.inr (.inl q2))
      · exact .inr (.inr (.inr q2))
/-- Behind them the ring is one that nobody uses. -/
theorem WI.seq (h : WI s s w L own) (hd : ∀ (i : Nat) (x : VOp), L[i]? = some x → x.at_ = 5) : Seq s w 0 ((List.range s).map fun p => BitVec.ofNat 64 (100 + own p)) := by
  have hs := h.hs
  refine ⟨by omega, by omega, h.len, by simp, by simp; omega, ?_, h.w1, ?_, ?_⟩
  · rw [h.w0]; simp
  · intro q _ q2
    have hq : q < s := by omega
    rw [Nat.mod_eq_of_lt hq, if_pos (by simp; exact hq)]
    obtain ⟨y, f1, _, f3⟩ := h.cl q hq
    have h5 := hd _ _ f1
    rcases f3 with ⟨g, _⟩ | ⟨g, _⟩ | ⟨_, _, g, _⟩
    · omega
    · omega
    · exact g
  · intro q hq
    have hq : q < s := by simpa using hq
    rw [Nat.zero_add, Nat.mod_eq_of_lt hq]
    obtain ⟨y, f1, _, f3⟩ := h.cl q hq
    have h5 := hd _ _ f1
    have : w.getD (3 + 2 * q) 0 = BitVec.ofNat 64 (100 + own q) := by
      rcases f3 with ⟨g, _⟩ | ⟨g, _⟩ | ⟨_, _, _, g⟩
      · omega
      · omega
      · exact g
    rw [show 2 + 2 * q + 1 = 3 + 2 * q by omega, this]
    simp [List.getD, List.getElem?_range hq]
end
/-- The map of what is to come out. -/
def wants (L : List VOp) (n : Nat) : List (BitVec 64 × Bool) := ((List.range n).filter (okP L)).map fun j => (BitVec.ofNat 64 (100 + j), true)
theorem wfind_none {α : Type} {k : BitVec 64} : ∀ {l : List (BitVec 64 × α)}, (∀ q ∈ l, q.1 ≠ k) → wfind k l = none
  | [], _ => rfl
  | (x, v) :: l, h => by
    rw [wfind, if_neg (fun e => h (x, v) (by simp) e.symm), wfind_none fun q hq => h q (by simp [hq])]
    rfl
theorem wants_new (L : List VOp) (n : Nat) (hn : n < 50) : wfind (BitVec.ofNat 64 (100 + n)) (wants L n) = none := by
  apply wfind_none
  intro q hq
  simp only [wants, List.mem_map, List.mem_filter, List.mem_range] at hq
  obtain ⟨j, ⟨h1, _⟩, rfl⟩ := hq
  intro e
  have := congrArg BitVec.toNat e
  rw [nat64 (by omega), nat64 (by omega)] at this
  omega
theorem wants_succ (L : List VOp) (n : Nat) : wants L (n + 1) = if okP L n = true then wants L n ++ [(BitVec.ofNat 64 (100 + n), true)] else wants L n := by
  simp only [wants, List.range_succ, List.filter_append, List.map_append]
  split <;> simp_all
theorem wants_set (L : List VOp) {n i : Nat} (h : n ≤ i) (x : VOp) : wants (L.set i x) n = wants L n := by
  simp only [wants]
  congr 1
  apply List.filter_congr
  intro j hj
  have : j < n := by simpa using hj
  simp only [okP]
  rw [List.getElem?_set_ne (by omega)]
theorem wget_mem {k : BitVec 64} : ∀ {l : List (BitVec 64 × Bool)}, (k, true) ∈ l → (∀ q ∈ l, q.2 = true) → wget k l = true
  | [], h, _ => by cases h
  | (x, v) :: l, h, ha => by
    by_cases e : k = x
    · have := ha (x, v) (by simp)
      simp only at this
      simp [wget, wfind, e, this]
    · have h' : (k, true) ∈ l := by
        rcases List.mem_cons.1 h with h | h
        · cases h; exact absurd rfl e
        · exact h
      have ih := wget_mem h' (fun q hq => ha q (by simp [hq]))
      simp only [wget, wfind, if_neg e] at ih ⊢
      cases hf : wfind k l with
      | none => rw [hf] at ih; exact ih
      | some p => rw [hf] at ih; exact ih
theorem wfind_mem {k : BitVec 64} : ∀ {l : List (BitVec 64 × Bool)}, (k, true) ∈ l → ∃ p, wfind k l = some p
  | [], h => by cases h
  | (x, v) :: l, h => by
    by_cases e : k = x
    · exact ⟨_, by rw [wfind, if_pos e]⟩
    · have h' : (k, true) ∈ l := by
        rcases List.mem_cons.1 h with h | h
        · cases h; exact absurd rfl e
        · exact h
      obtain ⟨p, hp⟩ := wfind_mem h'
      exact ⟨_, by rw [wfind, if_neg e, hp]; rfl⟩
theorem mem_erase {k k' : BitVec 64} : ∀ {l : List (BitVec 64 × Bool)} {p : Nat × Bool}, wfind k l = some p → k' ≠ k → (k', true) ∈ l → (k', true) ∈ l.eraseIdx p.1
  | [], p, h, _, _ => by cases h
  | (x, v) :: l, p, h, hne, hm => by
    rw [wfind] at h
    by_cases e : k = x
    · rw [if_pos e] at h
      cases h
      rcases List.mem_cons.1 hm with hm | hm
      · cases hm; exact absurd e.symm hne
      · exact hm
    · rw [if_neg e] at h
      cases hf : wfind k l with
      | none => rw [hf] at h; cases h
      | some q =>
        rw [hf] at h
        cases h
        rcases List.mem_cons.1 hm with hm | hm
        · cases hm; simp
        · exact List.mem_cons_of_mem _ (mem_erase hf hne hm)
end Go.Proofs.Ytgipbamdefjenaa
