/- A log of calls: what holds of it, whatever steps it took. -/
import Derived.Test.YtlkfmeobkgglfaaH2
namespace Go.Proofs.Ytlkfmeobkgglfaa
open Go Go.LK
set_option linter.unusedSimpArgs false
set_option linter.unusedVariables false
theorem mfind_none {α : Type} {k : Int} : ∀ {l : List (Int × α)}, mfind k l = none ↔ ∀ q ∈ l, q.1 ≠ k
  | [] => by simp [mfind]
  | (x, v) :: r => by
    have := mfind_none (k := k) (l := r)
    simp only [mfind]
    split
    · rename_i h; subst h
      simp
    · rename_i h
      simp only [Option.map_eq_none_iff, this, List.mem_cons, forall_eq_or_imp]
      exact ⟨fun g => ⟨fun e => h e.symm, g⟩, fun g => g.2⟩
def openF {α : Type} (l : List (Int × α)) (t : Int) : Option α := (mfind t l).map (·.2)
theorem openF_nil {α : Type} (t : Int) : openF ([] : List (Int × α)) t = none := rfl
theorem openF_cons {α : Type} (x : Int) (v : α) (r : List (Int × α)) (t : Int) : openF ((x, v) :: r) t = if t = x then some v else openF r t := by
  unfold openF
  simp only [mfind]
  split
  · rfl
  · cases mfind t r <;> rfl
theorem openF_none {α : Type} {k : Int} {l : List (Int × α)} : openF l k = none ↔ ∀ q ∈ l, q.1 ≠ k := by
  rw [openF, Option.map_eq_none_iff, mfind_none]
theorem openF_snoc {α : Type} {t : Int} {x : α} (t' : Int) : ∀ {l : List (Int × α)}, openF l t = none → openF (l ++ [(t, x)]) t' = if t' = t then some x else openF l t'
  | [], h => by rw [List.nil_append, openF_cons]
  | (y, v) :: r, h => by
    rw [openF_cons] at h
    split at h
    · cases h
    · rename_i hy
      rw [List.cons_append, openF_cons, openF_cons, openF_snoc t' h]
      split
      · rename_i h1
        split
        · rename_i h2; omega
        · rfl
      · rfl
theorem dropOp_cons (x v : Int) (r : List (Int × Int)) (t : Int) : dropOp ((x, v) :: r) t = if t = x then r else (x, v) :: dropOp r t := by
  unfold dropOp
  simp only [mfind]
  split
  · rename_i h; split at h
    · rename_i hx; cases h; simp [hx]
    · rename_i hx
      rw [if_neg hx]
      obtain ⟨p, hp, rfl⟩ := Option.map_eq_some_iff.1 h
      rw [hp]; rfl
  · rename_i h; split at h
    · cases h
    · rename_i hx
      rw [if_neg hx, Option.map_eq_none_iff.1 h]
theorem drop_mem {t : Int} : ∀ {l : List (Int × Int)} {q : Int × Int}, q ∈ dropOp l t → q ∈ l
  | [], q, h => by simp [dropOp, mfind] at h
  | (y, v) :: r, q, h => by
    rw [dropOp_cons] at h
    split at h
    · exact List.mem_cons_of_mem _ h
    · rcases List.mem_cons.1 h with h | h
      · rw [h]; exact List.mem_cons_self ..
      · exact List.mem_cons_of_mem _ (drop_mem h)
/-- Each key but once. -/
def Keys (l : List (Int × Int)) : Prop := (l.map (·.1)).Nodup
theorem keys_drop {t : Int} : ∀ {l : List (Int × Int)}, Keys l → Keys (dropOp l t)
  | [], h => by simpa [dropOp, mfind] using h
  | (y, v) :: r, h => by
    rw [dropOp_cons]
    simp only [Keys, List.map_cons, List.nodup_cons] at h ⊢
    split
    · exact h.2
    · simp only [List.map_cons, List.nodup_cons]
      refine ⟨fun g => h.1 ?_, keys_drop h.2⟩
      obtain ⟨q, q1, q2⟩ := List.mem_map.1 g
      exact List.mem_map.2 ⟨q, drop_mem q1, q2⟩
theorem openF_drop {t : Int} (t' : Int) : ∀ {l : List (Int × Int)}, Keys l → openF (dropOp l t) t' = if t' = t then none else openF l t'
  | [], h => by simp [dropOp, mfind, openF]
  | (y, v) :: r, h => by
    have h' := h
    simp only [Keys, List.map_cons, List.nodup_cons] at h'
    rw [dropOp_cons, openF_cons]
    split
    · rename_i e; subst e
      split
      · rename_i e; subst e
        rw [openF_none]
        intro q hq e
        exact h'.1 (List.mem_map.2 ⟨q, hq, e⟩)
      · rfl
    · rename_i e
      rw [openF_cons, openF_drop t' h'.2]
      split
      · rename_i e2
        split
        · rename_i e3; omega
        · rfl
      · rfl
theorem keys_snoc {l : List (Int × Int)} {t x : Int} (h : Keys l) (g : openF l t = none) : Keys (l ++ [(t, x)]) := by
  simp only [Keys, List.map_append, List.map_cons, List.map_nil]
  rw [List.nodup_append]
  refine ⟨h, by simp, ?_⟩
  intro a ha b hb e
  simp only [List.mem_singleton] at hb
  obtain ⟨q, q1, q2⟩ := List.mem_map.1 ha
  exact openF_none.1 g q q1 (by rw [q2, e, hb])
structure CallD.Fine (c : CallD) (now : Int) : Prop where
  t0 : 0 ≤ c.th
  t1 : c.th < 64
  f0 : 0 ≤ c.fr
  f1 : c.fr < now
  d : c.dn = true → c.fr < c.to ∧ c.to < now
  u : c.dn = false → c.to = 0 ∧ c.code = 0 ∧ c.ret = 0#64
/-- What holds of a log. -/
structure HInv (v : HV) : Prop where
  n0 : 0 ≤ v.now
  n1 : (v.l.length : Int) ≤ v.now
  fine : ∀ (i : Nat) (c : CallD), v.l[i]? = some c → c.Fine v.now
  rise : ∀ (k i : Nat) (o c : CallD), k < i → v.l[k]? = some o → v.l[i]? = some c → o.fr < c.fr
  away : ∀ (k i : Nat) (o c : CallD), k ≠ i → v.l[k]? = some o → v.l[i]? = some c → o.dn = true → o.to ≠ c.fr ∧ (c.dn = true → o.to ≠ c.to)
  thr : ∀ (k i : Nat) (o c : CallD), k < i → v.l[k]? = some o → v.l[i]? = some c → o.th = c.th → o.dn = true ∧ o.to < c.fr
  keys : Keys v.op
  op : ∀ t id, openF v.op t = some id ↔ ∃ (i : Nat) (c : CallD), id = (i : Int) ∧ v.l[i]? = some c ∧ c.th = t ∧ c.dn = false
theorem HInv.zero : HInv { l := [], op := [], now := 0 } := by
  refine ⟨by simp, by simp, by simp, by simp, by simp, by simp, by simp [Keys], ?_⟩
  intro t id
  simp [openF_nil]
theorem get_snoc {l : List CallD} {c x : CallD} {i : Nat} (h : (l ++ [c])[i]? = some x) : l[i]? = some x ∨ (i = l.length ∧ x = c) := by
  rcases Nat.lt_or_ge i l.length with hi | hi
  · rw [List.getElem?_append_left hi] at h; exact .inl h
  · rw [List.getElem?_append_right hi] at h
    have : i - l.length = 0 := by
      have := (List.getElem?_eq_some_iff.1 h).1
      simp at this; omega
    rw [this] at h
    simp at h
    exact .inr ⟨by omega, h.symm⟩
theorem CallD.Fine.up {c : CallD} {n : Int} (h : c.Fine n) : c.Fine (n + 1) :=
  ⟨h.t0, h.t1, h.f0, by have := h.f1; omega, fun q => ⟨(h.d q).1, by have := (h.d q).2; omega⟩, h.u⟩
theorem HInv.step {v : HV} (h : HInv v) : HInv { v with now := v.now + 1 } :=
  ⟨by have := h.n0; dsimp only; omega, by have := h.n1; dsimp only; omega, fun i c q => (h.fine i c q).up, h.rise, h.away, h.thr, h.keys, h.op⟩
theorem HInv.begin {v : HV} (h : HInv v) (t kind : Int) (arg : BitVec 64) : HInv (v.begin t kind arg).1 := by
  unfold HV.begin
  split
  · exact h
  · rename_i ht
    split
    · exact h
    · rename_i ho
      have ho : openF v.op t = none := by
        change ¬ ((openF v.op t).isSome = true) at ho
        cases hq : openF v.op t with
        | none => rfl
        | some x => rw [hq] at ho; exact absurd rfl ho
      split
      · exact h
      · have hn := h.n0
        have ht0 : 0 ≤ t := by omega
        have ht1 : t < 64 := by omega
        refine ⟨by dsimp only; omega, ?_, ?_, ?_, ?_, ?_, keys_snoc h.keys ho, ?_⟩
        · have := h.n1; simp only [List.length_append, List.length_cons, List.length_nil]; omega
        · intro i c hc
          rcases get_snoc hc with hc | ⟨_, rfl⟩
          · exact (h.fine i c hc).up
          · exact ⟨ht0, ht1, hn, by dsimp only; omega, (fun q => by cases q), fun _ => ⟨rfl, rfl, rfl⟩⟩
        · intro k i o c hk ho hc
          rcases get_snoc hc with hc | ⟨hi, rfl⟩
          · rcases get_snoc ho with ho | ⟨hk2, rfl⟩
            · exact h.rise k i o c hk ho hc
            · have := (List.getElem?_eq_some_iff.1 hc).1; omega
          · rcases get_snoc ho with ho | ⟨hk2, rfl⟩
            · exact (h.fine k o ho).f1
            · omega
        · intro k i o c hk ho hc hd
          rcases get_snoc ho with ho | ⟨hk2, rfl⟩
          · rcases get_snoc hc with hc | ⟨hi, rfl⟩
            · exact h.away k i o c hk ho hc hd
            · have := ((h.fine k o ho).d hd).2
              exact ⟨by dsimp only; omega, fun q => by cases q⟩
          · cases hd
        · intro k i o c hk ho' hc hth
          rcases get_snoc hc with hc | ⟨hi, rfl⟩
          · rcases get_snoc ho' with ho' | ⟨hk2, rfl⟩
            · exact h.thr k i o c hk ho' hc hth
            · have := (List.getElem?_eq_some_iff.1 hc).1; omega
          · rcases get_snoc ho' with ho' | ⟨hk2, rfl⟩
            · cases hd : o.dn with
              | true => exact ⟨rfl, ((h.fine k o ho').d hd).2⟩
              | false =>
                have := (h.op t k).2 ⟨k, o, rfl, ho', hth, hd⟩
                rw [ho] at this; cases this
            · omega
        · intro t' id
          rw [openF_snoc t' ho]
          split
          · rename_i e; subst e
            constructor
            · rintro h1; cases h1
              exact ⟨v.l.length, { th := t', kind := kind, arg := arg, fr := v.now, to := 0, dn := false, code := 0, ret := 0#64 }, rfl, by simp, rfl, rfl⟩
            · rintro ⟨i, c, rfl, hc, h1, h2⟩
              rcases get_snoc hc with hc | ⟨hi, rfl⟩
              · have := (h.op t' i).2 ⟨i, c, rfl, hc, h1, h2⟩
                rw [ho] at this; cases this
              · rw [hi]
          · rename_i e
            rw [h.op]
            constructor
            · rintro ⟨i, c, h0, hc, h1, h2⟩
              exact ⟨i, c, h0, by rw [List.getElem?_append_left (List.getElem?_eq_some_iff.1 hc).1]; exact hc, h1, h2⟩
            · rintro ⟨i, c, h0, hc, h1, h2⟩
              rcases get_snoc hc with hc | ⟨hi, rfl⟩
              · exact ⟨i, c, h0, hc, h1, h2⟩
              · exact absurd h1.symm e
theorem get_set {l : List CallD} {c x : CallD} {i k : Nat} (h : (l.set k c)[i]? = some x) : (i ≠ k ∧ l[i]? = some x) ∨ (i = k ∧ x = c) := by
  by_cases e : k = i
  · subst e
    have hl := (List.getElem?_eq_some_iff.1 h).1
    rw [List.getElem?_set_self (by simpa using hl)] at h
    cases h; exact .inr ⟨rfl, rfl⟩
  · rw [List.getElem?_set_ne e] at h; exact .inl ⟨fun q => e q.symm, h⟩
theorem HInv.fin {v : HV} (h : HInv v) (id code : Int) (ret : BitVec 64) : HInv (v.fin id code ret).1 := by
  unfold HV.fin
  split
  · exact h
  · cases hc : v.l[id.toNat]? with
    | none => exact h
    | some c =>
      simp only
      split
      · exact h
      · rename_i hd
        have hd : c.dn = false := by simpa using hd
        generalize id.toNat = j at hc
        have hj := (List.getElem?_eq_some_iff.1 hc).1
        have hn := h.n0
        have hf := h.fine j c hc
        have hff := hf.f1
        refine ⟨by dsimp only; omega, ?_, ?_, ?_, ?_, ?_, keys_drop h.keys, ?_⟩
        · have := h.n1; simp only [List.length_set]; omega
        · intro i x hx
          rcases get_set hx with ⟨_, hx⟩ | ⟨_, rfl⟩
          · exact (h.fine i x hx).up
          · exact ⟨hf.t0, hf.t1, hf.f0, by dsimp only; omega, fun q => by dsimp only; omega, fun q => by cases q⟩
        · intro k i o x hk ho hx
          rcases get_set hx with ⟨_, hx'⟩ | ⟨rfl, rfl⟩ <;> rcases get_set ho with ⟨_, ho'⟩ | ⟨rfl, rfl⟩
          · exact h.rise k i o x hk ho' hx'
          · exact h.rise k i c x hk hc hx'
          · exact h.rise k i o c hk ho' hc
          · omega
        · intro k i o x hk ho hx hod
          rcases get_set hx with ⟨_, hx'⟩ | ⟨rfl, rfl⟩ <;> rcases get_set ho with ⟨_, ho'⟩ | ⟨rfl, rfl⟩
          · exact h.away k i o x hk ho' hx' hod
          · have hfx := h.fine i x hx'
            have := hfx.f1
            exact ⟨by dsimp only; omega, fun q => by have := (hfx.d q).2; dsimp only; omega⟩
          · have hfo := h.fine k o ho'
            have := (hfo.d hod).2
            exact ⟨(h.away k i o c hk ho' hc hod).1, fun _ => by dsimp only; omega⟩
          · exact absurd rfl hk
        · intro k i o x hk ho hx hth
          rcases get_set hx with ⟨_, hx'⟩ | ⟨rfl, rfl⟩ <;> rcases get_set ho with ⟨_, ho'⟩ | ⟨rfl, rfl⟩
          · exact h.thr k i o x hk ho' hx' hth
          · have := (h.thr k i c x hk hc hx' hth).1
            rw [hd] at this; cases this
          · exact h.thr k i o c hk ho' hc hth
          · omega
        · intro t' id'
          rw [openF_drop t' h.keys]
          split
          · rename_i e; subst e
            constructor
            · intro q; cases q
            · rintro ⟨i, x, rfl, hx, h1, h2⟩
              exfalso
              rcases get_set hx with ⟨hij, hx⟩ | ⟨rfl, rfl⟩
              · rcases Nat.lt_or_gt_of_ne hij with g | g
                · have := (h.thr i j x c g hx hc h1).1
                  rw [h2] at this; cases this
                · have := (h.thr j i c x g hc hx h1.symm).1
                  rw [hd] at this; cases this
              · cases h2
          · rename_i e
            rw [h.op]
            constructor
            · rintro ⟨i, x, h0, hx, h1, h2⟩
              have : j ≠ i := by rintro rfl; rw [hc] at hx; cases hx; exact e h1.symm
              exact ⟨i, x, h0, by rw [List.getElem?_set_ne this]; exact hx, h1, h2⟩
            · rintro ⟨i, x, h0, hx, h1, h2⟩
              rcases get_set hx with ⟨hij, hx⟩ | ⟨rfl, rfl⟩
              · exact ⟨i, x, h0, hx, h1, h2⟩
              · cases h2
theorem HInv.right {v : HV} (h : HInv v) (hn : v.l.length ≤ 1024) : rightL v.l = true := by
  rw [rightL, Bool.and_eq_true, List.all_eq_true]
  refine ⟨by simpa using hn, fun i hi => ?_⟩
  have hi := List.mem_range.1 hi
  have hc : v.l[i]? = some (v.l[i]'hi) := List.getElem?_eq_getElem hi
  generalize v.l[i]'hi = c at hc
  have hf := h.fine i c hc
  have e1 : rightF c = true := by
    have := hf.t0; have := hf.t1; have := hf.f0
    rw [rightF, if_neg (by omega)]
    split
    · rename_i hd
      have := (hf.d hd).1
      simp; omega
    · rename_i hd
      have := hf.u (by simpa using hd)
      simp [this]
  have e2 : (v.l.take i).any (twiceF c) = false := by
    rw [List.any_eq_false]
    intro o ho
    obtain ⟨k, hk, rfl⟩ := List.getElem_of_mem ho
    have hki : k < i := by simp at hk; omega
    have hko : v.l[k]? = some ((v.l.take i)[k]'hk) := by
      rw [List.getElem_take]; exact List.getElem?_eq_getElem (by omega)
    generalize (v.l.take i)[k]'hk = o at hko
    simp only [twiceF, Bool.and_eq_true, decide_eq_true_eq, not_and]
    intro hth
    have := h.thr k i o c hki hko hc hth
    simp [meetsF, aheadF, this]
  simp [okAt, hc, e1, e2]
end Go.Proofs.Ytlkfmeobkgglfaa
