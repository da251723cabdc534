/- Reading, writing and making blocks. -/
import Derived.Test.YtopjhhcncjleaaaLF
namespace Go.LK
open Go Go.RowKit
set_option linter.unusedVariables false
set_option linter.unusedSimpArgs false

section
variable {P : Program} {B : Nat} {L : List Nat} {i : Inj} {H : LHeap} {w : World}

theorem cutAt_ge {i : Inj} {b : Nat} : ∀ {L : List Nat}, lmax L ≤ b → cutAt L b i = i
  | [], _ => rfl
  | l :: L, h => by
    have h1 : max l (lmax L) ≤ b := h
    show (if b < l then (cutAt L b i).cut l else cutAt L b i) = i
    rw [if_neg (by omega)]
    exact cutAt_ge (by omega)
theorem ifcut_le {i : Inj} {b : Nat} : ∀ {L : List Nat}, (cutAt L b i).le i
  | [] => Inj.le_refl _
  | l :: L => by
    show (if b < l then (cutAt L b i).cut l else cutAt L b i).le i
    split
    · exact Inj.le_trans (Inj.cut_le _ _) ifcut_le
    · exact ifcut_le
theorem ifcut_mono {i j : Inj} {b : Nat} (h : i.le j) : ∀ {L : List Nat}, (cutAt L b i).le (cutAt L b j)
  | [] => h
  | l :: L => by
    show (if b < l then (cutAt L b i).cut l else cutAt L b i).le (if b < l then (cutAt L b j).cut l else cutAt L b j)
    split
    · exact Inj.cut_mono _ (ifcut_mono h)
    · exact ifcut_mono h

theorem Rel.row {ro : Bool} {es : Nat} {c : List Value} {b : Nat} {p : Place} (h : Rel B L i H w) (hp : i b = some p) (hb : H[b]? = some (.row ro es c)) :
    p.ro = ro ∧ p.es = es ∧ ∃ cs e fz, w.heap[p.pb]? = some (.cells cs e fz) ∧ p.sh + p.ext ≤ cs.size ∧ c.length ≤ p.ext ∧
      (∀ k v, c[k]? = some v → ∃ v', cs[p.sh + k]? = some v' ∧ VR (cutAt L b i) v v') ∧ (ro = false → unfrozen cs fz) := h.holds b p _ hp hb

theorem Rel.read {ro : Bool} {es : Nat} {c : List Value} {b o : Nat} {p : Place} {v : Value} (h : Rel B L i H w) (hp : i b = some p) (hb : H[b]? = some (.row ro es c)) (hv : c[o]? = some v) :
    ∃ v', w.cell? ⟨p.pb, p.sh + o, none⟩ = some v' ∧ VR i v v' := by
  obtain ⟨_, _, cs, e, fz, hw, _, _, hc, _⟩ := h.row hp hb
  obtain ⟨v', h1, h2⟩ := hc o v hv
  exact ⟨v', by simp [World.cell?, hw, h1], h2.mono ifcut_le⟩
theorem Rel.readN {ro : Bool} {es : Nat} {c : List Value} {b : Nat} {p : Place} (h : Rel B L i H w) (hp : i b = some p) (hb : H[b]? = some (.row ro es c)) :
    ∀ (n o : Nat), o + n ≤ c.length → ∃ l, l.length = n ∧ VRs i ((c.drop o).take n) l ∧ ∀ j u, l[j]? = some u → w.cell? ⟨p.pb, p.sh + o + j, none⟩ = some u
  | 0, o, _ => ⟨[], rfl, by simpa using VRs.nil, by simp⟩
  | n + 1, o, hn => by
    have ho : o < c.length := by omega
    obtain ⟨v', h1, h2⟩ := h.read hp hb (List.getElem?_eq_getElem ho)
    obtain ⟨l, l1, l2, l3⟩ := h.readN hp hb n (o + 1) (by omega)
    refine ⟨v' :: l, by simp [l1], ?_, ?_⟩
    · rw [List.drop_eq_getElem_cons ho, List.take_succ_cons]
      exact .cons h2 l2
    · intro j u hj
      cases j with
      | zero => simp at hj; subst hj; simpa using h1
      | succ j =>
        simp only [List.getElem?_cons_succ] at hj
        have := l3 j u hj
        rw [show p.sh + o + (j + 1) = p.sh + (o + 1) + j by omega]; exact this
theorem run_loadN {b o : Nat} {l : List Value} (h : ∀ j u, l[j]? = some u → w.cell? ⟨b, o + j, none⟩ = some u) : (loadCells ⟨b, o, none⟩ l.length).run P w = .ok l.toArray w :=
  run_loadCells_list (P := P) w ⟨b, o, none⟩ l fun j u hu => by rw [add_lit]; exact h j u hu

theorem cells_of (b o n : Nat) {l : List Value} (h : lcells H b o n = some l) : ∃ ro es c, H[b]? = some (.row ro es c) ∧ o + n ≤ c.length ∧ l = (c.drop o).take n := by
  unfold lcells at h
  split at h
  · rename_i ro es c hb
    split at h
    · rename_i hn; cases h; exact ⟨ro, es, c, hb, hn, rfl⟩
    · cases h
  · cases h

/-! ### a block that is pending comes to be -/
theorem Rel.push {o : LObj} (h : Rel B L i H w) : Rel B L i (H ++ [o]) w := by
  have hlt : ∀ b p, i b = some p → (H ++ [o])[b]? = H[b]? := fun b p hp => List.getElem?_append_left (h.bound b p hp)
  refine ⟨fun b p hp => by have := h.bound b p hp; simp; omega, by have := h.lim_le; simp; omega, h.base, fun b p q hp hq => ?_, fun b p q hp hq => ?_, fun b b' p p' q q' hne hp hp' hq hq' => ?_⟩
  · rw [hlt b p hp] at hq; exact h.holds b p q hp hq
  · rw [hlt b p hp] at hq; exact h.above b p q hp hq
  · rw [hlt b p hp] at hq
    rw [hlt b' p' hp'] at hq'
    exact h.apart b b' p p' q q' hne hp hp' hq hq'

theorem Holds.lt {j : Inj} {p : Place} {o : LObj} (hl : o.live = true) (h : Holds j p w o) : p.pb < w.heap.size := by
  cases o with
  | row ro es c =>
    obtain ⟨_, _, cs, e, fz, hw, _⟩ := h
    exact (Array.getElem?_eq_some_iff.1 hw).1
  | map es =>
    obtain ⟨_, _, ms, cl, hw, _⟩ := h
    exact (Array.getElem?_eq_some_iff.1 hw).1
  | dead => simp [LObj.live] at hl
theorem Holds.mono {j j' : Inj} (hj : j.le j') {p : Place} {o : LObj} {w w' : World} (hw : w'.heap[p.pb]? = w.heap[p.pb]?) (h : Holds j p w o) : Holds j' p w' o := by
  cases o with
  | row ro es c =>
    obtain ⟨h1, h2, cs, e, fz, h3, h4, h5, h6, h7⟩ := h
    exact ⟨h1, h2, cs, e, fz, hw.trans h3, h4, h5, fun k v hk => let ⟨v', a, b⟩ := h6 k v hk; ⟨v', a, b.mono hj⟩, h7⟩
  | map es =>
    obtain ⟨h1, h2, ms, cl, h3, h4, h5⟩ := h
    exact ⟨h1, h2, ms, cl, hw.trans h3, h4.mono hj, h5.mono hj⟩
  | dead => trivial
/-- A place in a new block of the world, for a block that the logical heap has and the world had not. -/
theorem Rel.mat {b : Nat} {o : LObj} {q : Obj} {p : Place} (h : Rel B L i H w) (hn : i b = none) (hb : H[b]? = some o) (hlb : lmax L ≤ b) (hpb : p.pb = w.heap.size)
    (hold : Holds (i.upd b p) p (w.alloc q) o) : Rel B L (i.upd b p) H (w.alloc q) := by
  have hold' : ∀ k p', i k = some p' → (i.upd b p) k = some p' := fun k p' hk => Inj.le_upd hn k p' hk
  have inv : ∀ k p', (i.upd b p) k = some p' → (k = b ∧ p' = p) ∨ (k ≠ b ∧ i k = some p') := by
    intro k p' hk
    by_cases e : k = b
    · subst e; rw [Inj.upd_self] at hk; cases hk; exact .inl ⟨rfl, rfl⟩
    · rw [Inj.upd_ne _ _ e] at hk; exact .inr ⟨e, hk⟩
  have hlen : b < H.length := by
    rcases Nat.lt_or_ge b H.length with h1 | h1
    · exact h1
    · rw [List.getElem?_eq_none h1] at hb; cases hb
  have old : ∀ k p' o', i k = some p' → H[k]? = some o' → o'.live = true → (w.alloc q).heap[p'.pb]? = w.heap[p'.pb]? := fun k p' o' hk ho hl =>
    Below.heap_alloc w q _ (Holds.lt hl (h.holds k p' o' hk ho))
  refine ⟨?_, h.lim_le, ?_, ?_, ?_, ?_⟩
  · intro k p' hk
    rcases inv k p' hk with ⟨rfl, _⟩ | ⟨_, hk⟩
    · exact hlen
    · exact h.bound k p' hk
  · show B ≤ (w.heap.push q).size
    have := h.base
    simp; omega
  · intro k p' o' hk ho
    rcases inv k p' hk with ⟨rfl, rfl⟩ | ⟨hne, hk⟩
    · rw [hb] at ho; cases ho
      rw [cutAt_ge (by omega)]; exact hold
    · cases hl : o'.live with
      | false => cases o' <;> simp [LObj.live] at hl; trivial
      | true => exact (h.holds k p' o' hk ho).mono (ifcut_mono (Inj.le_upd hn)) (old k p' o' hk ho hl)
  · intro k p' o' hk ho hl hro
    rcases inv k p' hk with ⟨rfl, rfl⟩ | ⟨hne, hk⟩
    · rw [hpb]; exact h.base
    · exact h.above k p' o' hk ho hl hro
  · intro k k' p1 p2 o1 o2 hne h1 h2 g1 g2 l1 l2 hro
    rcases inv k p1 h1 with ⟨rfl, rfl⟩ | ⟨n1, j1⟩ <;> rcases inv k' p2 h2 with ⟨rfl, rfl⟩ | ⟨n2, j2⟩
    · exact absurd rfl hne
    · left; have := Holds.lt l2 (h.holds k' p2 o2 j2 g2); omega
    · left; have := Holds.lt l1 (h.holds _ _ _ j1 g1); omega
    · exact h.apart k k' p1 p2 o1 o2 hne j1 j2 g1 g2 l1 l2 hro
theorem Rel.new_none (h : Rel B L i H w) : i H.length = none := by
  cases hi : i H.length with
  | none => rfl
  | some p => have := h.bound _ p hi; omega
theorem Rel.new {o : LObj} {q : Obj} {p : Place} (h : Rel B L i H w) (hpb : p.pb = w.heap.size) (hold : Holds (i.upd H.length p) p (w.alloc q) o) :
    Rel B L (i.upd H.length p) (H ++ [o]) (w.alloc q) ∧ Next B i H w (i.upd H.length p) (H ++ [o]) (w.alloc q) := by
  refine ⟨(h.push (o := o)).mat h.new_none (by simp) h.lim_le hpb hold, Inj.le_upd h.new_none, by simp, ?_, (Below.refl B w).alloc h.base q⟩
  intro b hb hn
  refine ⟨?_, List.getElem?_append_left hb⟩
  rw [Inj.upd_ne _ _ (by omega)]; exact hn
theorem Rel.drew (h : Rel B L i H w) : Rel B L i H w.drew :=
  ⟨h.bound, h.lim_le, h.base, fun b p o hp hb => (h.holds b p o hp hb).mono (Inj.le_refl _) rfl, h.above, h.apart⟩
theorem Holds_row {c : List Value} {c' : Array Value} {e : TypeId} {es : Nat} {j : Inj} (hc : VRs j c c'.toList) :
    Holds j ⟨w.heap.size, 0, c'.size, es, false⟩ (w.alloc (.cells c' e (0, 0))) (.row false es c) := by
  refine ⟨rfl, rfl, c', e, (0, 0), heap_alloc_new w _, by simp, by rw [hc.length]; simp, ?_, ?_⟩
  · intro k v hk
    obtain ⟨v', h1, h2⟩ := hc.get hk
    exact ⟨v', by simpa using h1, h2⟩
  · intro _ j _ hh; simp at hh

/-! ### a cell is written -/
theorem setCell_heap_self {b o : Nat} {v : Value} {cs : Array Value} {e : TypeId} {fz : Nat × Nat} (h : w.heap[b]? = some (.cells cs e fz)) :
    (w.setCell ⟨b, o, none⟩ v).heap[b]? = some (.cells (cs.setIfInBounds o v) e fz) := by
  simp [World.setCell, Array.getElem?_modify, h]
theorem Rel.writeAs {es : Nat} {c c2 : List Value} {b o : Nat} {p : Place} {v v' : Value} (h : Rel B L i H w) (hp : i b = some p) (hb : H[b]? = some (.row false es c)) (ho : o < p.ext)
    (hv : VR i v v') (hs : lmax L ≤ b ∨ scalar v = true) (hl2 : c2.length ≤ p.ext) (hc2 : ∀ k v1, c2[k]? = some v1 → (k = o ∧ v1 = v) ∨ (k ≠ o ∧ c[k]? = some v1)) :
    ∃ u, w.cell? ⟨p.pb, p.sh + o, none⟩ = some u ∧ w.frozen? ⟨p.pb, p.sh + o, none⟩ = false ∧
      Rel B L i (H.set b (.row false es c2)) (w.setCell ⟨p.pb, p.sh + o, none⟩ v') ∧ Below B w (w.setCell ⟨p.pb, p.sh + o, none⟩ v') := by
  obtain ⟨hro, hes, cs, e, fz, hw, hsz, hlen, hc, hfz⟩ := h.row hp hb
  have hin : p.sh + o < cs.size := by omega
  have hpb : B ≤ p.pb := h.above b p _ hp hb rfl hro
  have hbl : b < H.length := h.bound b p hp
  have hheap : ∀ k, k ≠ p.pb → (w.setCell ⟨p.pb, p.sh + o, none⟩ v').heap[k]? = w.heap[k]? := fun k hk => heap_setCell_other w _ k v' hk
  have hself := setCell_heap_self (w := w) (b := p.pb) (o := p.sh + o) (v := v') hw
  refine ⟨cs[p.sh + o], by simp [World.cell?, hw, hin], ?_, ?_, (Below.refl B w).setCell hpb v'⟩
  · have := hfz rfl (p.sh + o) hin
    simp only [World.frozen?, hw]
    simp only [Bool.and_eq_false_iff, decide_eq_false_iff_not]
    omega
  · have hget : ∀ (k : Nat) (o' : LObj), (H.set b (.row false es c2))[k]? = some o' → (k = b ∧ o' = .row false es c2) ∨ (k ≠ b ∧ H[k]? = some o') := by
      intro k o' hk
      by_cases e : k = b
      · subst e
        rw [List.getElem?_set_self hbl] at hk; cases hk; exact .inl ⟨rfl, rfl⟩
      · rw [List.getElem?_set_ne (Ne.symm e)] at hk; exact .inr ⟨e, hk⟩
    have hlive : ∀ (k : Nat) (o' : LObj), (H.set b (.row false es c2))[k]? = some o' → ∃ o'' : LObj, H[k]? = some o'' ∧ o''.live = o'.live := by
      intro k o' hk
      rcases hget k o' hk with ⟨rfl, rfl⟩ | ⟨_, hk⟩
      · exact ⟨_, hb, rfl⟩
      · exact ⟨_, hk, rfl⟩
    refine ⟨fun k p' hk => by rw [List.length_set]; exact h.bound k p' hk, by rw [List.length_set]; exact h.lim_le, by simp [World.setCell]; exact h.base, ?_, ?_, ?_⟩
    · intro k p' o' hk ho'
      rcases hget k o' ho' with ⟨rfl, rfl⟩ | ⟨hne, ho'⟩
      · rw [hp] at hk; cases hk
        refine ⟨hro, hes, _, e, fz, hself, by simpa using hsz, hl2, ?_, fun _ j hj => hfz rfl j (by simpa using hj)⟩
        intro k v1 hk
        rcases hc2 k v1 hk with ⟨e1, this⟩ | ⟨e1, hk⟩
        · subst e1
          subst this
          refine ⟨v', by rw [Array.getElem?_setIfInBounds_self_of_lt hin], ?_⟩
          rcases hs with hs | hs
          · rw [cutAt_ge hs]; exact hv
          · rw [hv.scalar_eq hs]; exact VR.of_scalar _ hs
        · obtain ⟨u, hu, hr⟩ := hc k v1 hk
          exact ⟨u, by rw [Array.getElem?_setIfInBounds_ne (by omega)]; exact hu, hr⟩
      · cases hl : o'.live with
        | false => cases o' <;> simp [LObj.live] at hl; trivial
        | true =>
          have ha := h.apart b k p p' _ _ (Ne.symm hne) hp hk hb ho' rfl hl hro
          have hh := h.holds k p' o' hk ho'
          by_cases hpp : p'.pb = p.pb
          · cases o' with
            | map ms =>
              obtain ⟨_, _, ms', cl, h3, _⟩ := hh
              rw [hpp, hw] at h3; cases h3
            | dead => trivial
            | row ro' es' c' =>
              obtain ⟨h1, h2, cs', e', fz', h3, h4, h5, h6, h7⟩ := hh
              rw [hpp, hw] at h3; cases h3
              refine ⟨h1, h2, _, e, fz, by rw [hpp]; exact hself, by simpa using h4, h5, ?_, fun hr j hj => h7 hr j (by simpa using hj)⟩
              intro j v1 hj
              obtain ⟨u, hu, hr⟩ := h6 j v1 hj
              have hj' : j < c'.length := by
                rcases Nat.lt_or_ge j c'.length with q | q
                · exact q
                · rw [List.getElem?_eq_none q] at hj; cases hj
              exact ⟨u, by rw [Array.getElem?_setIfInBounds_ne (by omega)]; exact hu, hr⟩
          · exact hh.mono (Inj.le_refl _) (hheap _ hpp)
    · intro k p' o' hk ho' hl hr
      obtain ⟨o'', h1, h2⟩ := hlive k o' ho'
      exact h.above k p' o'' hk h1 (h2.trans hl) hr
    · intro k k' p1 p2 o1 o2 hne h1 h2 g1 g2 l1 l2 hr
      obtain ⟨q1, a1, b1⟩ := hlive k o1 g1
      obtain ⟨q2, a2, b2⟩ := hlive k' o2 g2
      exact h.apart k k' p1 p2 q1 q2 hne h1 h2 a1 a2 (b1.trans l1) (b2.trans l2) hr
theorem Rel.write {es : Nat} {c : List Value} {b o : Nat} {p : Place} {v v' : Value} (h : Rel B L i H w) (hp : i b = some p) (hb : H[b]? = some (.row false es c)) (ho : o < p.ext)
    (hv : VR i v v') (hs : lmax L ≤ b ∨ scalar v = true) :
    ∃ u, w.cell? ⟨p.pb, p.sh + o, none⟩ = some u ∧ w.frozen? ⟨p.pb, p.sh + o, none⟩ = false ∧
      Rel B L i (H.set b (.row false es (c.set o v))) (w.setCell ⟨p.pb, p.sh + o, none⟩ v') ∧ Below B w (w.setCell ⟨p.pb, p.sh + o, none⟩ v') := by
  obtain ⟨_, _, _, _, _, _, _, hlen, _⟩ := h.row hp hb
  refine h.writeAs hp hb ho hv hs (by simpa using hlen) fun k v1 hk => ?_
  by_cases e1 : k = o
  · subst e1
    left
    by_cases hlt : k < c.length
    · rw [List.getElem?_set_self hlt] at hk; cases hk; exact ⟨rfl, rfl⟩
    · rw [List.getElem?_eq_none (by simp; omega)] at hk; cases hk
  · rw [List.getElem?_set_ne (Ne.symm e1)] at hk
    exact .inr ⟨e1, hk⟩
theorem Rel.writeNew {es : Nat} {c : List Value} {b : Nat} {p : Place} {v v' : Value} (h : Rel B L i H w) (hp : i b = some p) (hb : H[b]? = some (.row false es c)) (ho : c.length < p.ext)
    (hv : VR i v v') (hs : lmax L ≤ b ∨ scalar v = true) :
    ∃ u, w.cell? ⟨p.pb, p.sh + c.length, none⟩ = some u ∧ w.frozen? ⟨p.pb, p.sh + c.length, none⟩ = false ∧
      Rel B L i (H.set b (.row false es (c ++ [v]))) (w.setCell ⟨p.pb, p.sh + c.length, none⟩ v') ∧ Below B w (w.setCell ⟨p.pb, p.sh + c.length, none⟩ v') := by
  refine h.writeAs hp hb ho hv hs (by simp; omega) fun k v1 hk => ?_
  by_cases e1 : k < c.length
  · rw [List.getElem?_append_left e1] at hk
    exact .inr ⟨by omega, hk⟩
  · have : k = c.length := by
      rcases Nat.lt_or_ge k (c ++ [v]).length with q | q
      · simp at q; omega
      · rw [List.getElem?_eq_none q] at hk; cases hk
    subst this
    simp at hk
    exact .inl ⟨rfl, hk.symm⟩
/-- A block of the logical heap is given up. -/
theorem Rel.kill (h : Rel B L i H w) (b : Nat) : Rel B L i (H.set b .dead) w := by
  have hget : ∀ (k : Nat) (o' : LObj), (H.set b .dead)[k]? = some o' → o' = .dead ∨ (k ≠ b ∧ H[k]? = some o') := by
    intro k o' hk
    by_cases e : k = b
    · subst e
      rcases Nat.lt_or_ge k H.length with q | q
      · rw [List.getElem?_set_self q] at hk; cases hk; exact .inl rfl
      · rw [List.getElem?_eq_none (by simpa using q)] at hk; cases hk
    · rw [List.getElem?_set_ne (Ne.symm e)] at hk; exact .inr ⟨e, hk⟩
  refine ⟨fun k p hk => by rw [List.length_set]; exact h.bound k p hk, by rw [List.length_set]; exact h.lim_le, h.base, ?_, ?_, ?_⟩
  · intro k p o hk ho
    rcases hget k o ho with rfl | ⟨_, ho⟩
    · trivial
    · exact h.holds k p o hk ho
  · intro k p o hk ho hl hr
    rcases hget k o ho with rfl | ⟨_, ho⟩
    · cases hl
    · exact h.above k p o hk ho hl hr
  · intro k k' p p' o o' hne h1 h2 g1 g2 l1 l2 hr
    rcases hget k o g1 with rfl | ⟨_, g1⟩
    · cases l1
    · rcases hget k' o' g2 with rfl | ⟨_, g2⟩
      · cases l2
      · exact h.apart k k' p p' o o' hne h1 h2 g1 g2 l1 l2 hr
end
end Go.LK
