/- Operations that take turns at a memory, beside the document's. -/
import Derived.Test.YtcogpinognopcaaC4
import Derived.Test.YtcogpinognopcaaC3
import Derived.Test.YtcogpinognopcaaR1
namespace Go.Proofs.Ytcogpinognopcaa
open Go Go.LK
set_option linter.unusedSimpArgs false
set_option linter.unusedVariables false
theorem setMany_app : ∀ (vs a b c : List Value), b.length = vs.length → setMany (a ++ (b ++ c)) a.length vs = a ++ (vs ++ c)
  | [], a, b, c, h => by
    obtain rfl := List.length_eq_zero_iff.1 (by simpa using h)
    simp [setMany]
  | v :: vs, a, b, c, h => by
    cases b with
    | nil => simp at h
    | cons x b =>
      rw [setMany]
      have e : (a ++ (x :: b ++ c)).set a.length v = (a ++ [v]) ++ (b ++ c) := by simp
      rw [e]
      have := setMany_app vs (a ++ [v]) b c (by simpa using h)
      rw [List.length_append, List.length_singleton] at this
      rw [this]; simp
theorem flat_len {α : Type} {f : α → List Value} {k : Nat} (hf : ∀ x, (f x).length = k) : ∀ (L : List α), (L.flatMap f).length = L.length * k
  | [] => by simp
  | x :: L => by rw [List.flatMap_cons, List.length_append, hf, flat_len hf L, List.length_cons, Nat.succ_mul]; omega
theorem flat_set {α : Type} {f : α → List Value} {k : Nat} (hf : ∀ x, (f x).length = k) {L : List α} {j : Nat} (hj : j < L.length) (y : α) : setMany (L.flatMap f) (j * k) (f y) = (L.set j y).flatMap f := by
  have e : L = L.take j ++ (L[j] :: L.drop (j + 1)) := by
    rw [List.getElem_cons_drop]; simp
  have e2 : L.set j y = L.take j ++ (y :: L.drop (j + 1)) := by
    rw [List.set_eq_take_append_cons_drop, if_pos hj]
  rw [e2]
  conv => lhs; rw [e]
  rw [List.flatMap_append, List.flatMap_cons, List.flatMap_append, List.flatMap_cons]
  have l : j * k = ((L.take j).flatMap f).length := by rw [flat_len hf, List.length_take, Nat.min_eq_left (Nat.le_of_lt hj)]
  rw [l, setMany_app _ _ _ _ (by rw [hf, hf])]
theorem load_cln {m : MV} {w : List (BitVec 64)} (c : Clean m w) {a : Int} (h0 : 0 ≤ a) (h1 : a < w.length) : m.load a = w.getD a.toNat 0 := by
  rw [MV.load, c.bad h0 h1, c.at]; rfl
theorem swaps_cln {m : MV} {w : List (BitVec 64)} (c : Clean m w) {a : Int} {x : BitVec 64} (h0 : 0 ≤ a) (h1 : a < w.length) : m.swaps a x = (w.getD a.toNat 0 == x) := by
  rw [MV.swaps, c.bad h0 h1, c.at]; rfl
theorem pairs_cln {m : MV} {w : List (BitVec 64)} (c : Clean m w) {a : Int} {x y : BitVec 64} (h0 : 0 ≤ a) (h1 : a + 1 < w.length) (h2 : a.tmod 2 = 0) : m.pairs a x y = (w.getD a.toNat 0 == x && w.getD (a + 1).toNat 0 == y) := by
  rw [MV.pairs, c.bad h0 (by omega), c.bad (a := a + 1) (by omega) h1, c.at, c.at, decide_eq_true h2]; simp
/-- Memories of the same words do a step alike. -/
theorem step_cln {m mr : MV} {w : List (BitVec 64)} (c : Clean m w) (cr : Clean mr w) {kind a : Int} {v0 v1 v2 v3 : BitVec 64} (h0 : 0 ≤ a) (h1 : a < w.length) (h2 : kind = 5 → a + 1 < w.length ∧ a.tmod 2 = 0) :
    (m.step kind a v0 v1 v2 v3).2 = (mr.step kind a v0 v1 v2 v3).2 ∧ ∃ w', Clean (m.step kind a v0 v1 v2 v3).1 w' ∧ Clean (mr.step kind a v0 v1 v2 v3).1 w' ∧ w'.length = w.length := by
  unfold MV.step
  split
  · exact ⟨by rw [load_cln c h0 h1, load_cln cr h0 h1], w, c.use_id h0 h1 0, cr.use_id h0 h1 0, rfl⟩
  split
  · exact ⟨rfl, _, c.use h0 h1 1 (fun _ => v0), cr.use h0 h1 1 (fun _ => v0), List.length_set⟩
  split
  · exact ⟨by rw [swaps_cln c h0 h1, swaps_cln cr h0 h1], _, c.use h0 h1 2 (fun w => if w = v0 then v1 else w), cr.use h0 h1 2 (fun w => if w = v0 then v1 else w), List.length_set⟩
  split
  · exact ⟨by rw [load_cln c h0 h1, load_cln cr h0 h1], _, c.use h0 h1 3 (· + v0), cr.use h0 h1 3 (· + v0), List.length_set⟩
  split
  · exact ⟨by rw [load_cln c h0 h1, load_cln cr h0 h1], _, c.use h0 h1 4 (· ||| v0), cr.use h0 h1 4 (· ||| v0), List.length_set⟩
  split
  · rename_i k5
    obtain ⟨h3, h4⟩ := h2 k5
    exact ⟨by rw [pairs_cln c h0 h3 h4, pairs_cln cr h0 h3 h4], _, c.pair h0 h3 h4 _ _ _ _, cr.pair h0 h3 h4 _ _ _ _, by split <;> simp⟩
  · exact ⟨rfl, w, c, cr, rfl⟩
abbrev refC (aw ab : Option Addr) (n : Nat) (m : MV) : List Value := [.slice aw n n, .slice ab n n, i64 m.c0, i64 m.c1, i64 m.c2, i64 m.c3, i64 m.c4, i64 m.c5, i64 m.trap, .bool m.fell]
abbrev xrow (aw ab : Option Addr) (n : Nat) (m : MV) : LObj := .row false 0 (refC aw ab n m)
structure Off4 (b pw pb bx : Nat) (a : Option Addr) : Prop where
  b : Off b a
  pw : Off pw a
  pb : Off pb a
  bx : Off bx a
theorem Off4.of {b pw pb bx lo : Nat} {a : Option Addr} (h : Fresh lo a) (h1 : b < lo) (h2 : pw < lo) (h3 : pb < lo) (h4 : bx < lo) : Off4 b pw pb bx a := ⟨h.off h1, h.off h2, h.off h3, h.off h4⟩
structure Lay (lo b pw pb bx h : Nat) : Prop where
  h1 : h ≤ b
  h2 : h ≤ pw
  h3 : h ≤ pb
  h4 : h ≤ bx
  l1 : b < lo
  l2 : pw < lo
  l3 : pb < lo
  l4 : bx < lo
  n1 : bx ≠ b
  n2 : bx ≠ pw
  n3 : bx ≠ pb
/-- What stands while operations take turns. -/
structure SI {α : Type} (row : α → LObj) (cells : α → List Value) (k : Nat) (H : LHeap) (lo b pw pb bx n : Nat) (K : LHeap) (m mr : MV) (w : List (BitVec 64)) (aw ab ao ap : Option Addr) (L : List (Nat × α)) : Prop where
  keep : ∃ t, K = H ++ t
  h2 : lo ≤ K.length
  mem : MemAt K b pw pb m
  lb : Lay lo b pw pb bx H.length
  cl : Clean m w
  clr : Clean mr w
  wl : w.length = n
  ref : RefAt K aw ab n mr
  fw : Off4 b pw pb bx aw
  fb : Off4 b pw pb bx ab
  box : K[bx]? = some (xrow aw ab n mr)
  ops : Ptrs row lo K ap L
  own : Own k K lo ao (L.flatMap fun z => cells z.2)
section
variable {α : Type} {row : α → LObj} {cells : α → List Value} {k lo b pw pb bx n : Nat} {H K : LHeap} {m mr : MV} {w : List (BitVec 64)} {aw ab ao ap : Option Addr} {L : List (Nat × α)}
theorem SI.app (s : SI row cells k H lo b pw pb bx n K m mr w aw ab ao ap L) (t : LHeap) : SI row cells k H lo b pw pb bx n (K ++ t) m mr w aw ab ao ap L := by
  obtain ⟨u, hu⟩ := s.keep
  exact ⟨⟨u ++ t, by rw [hu, List.append_assoc]⟩, by have := s.h2; simp; omega, s.mem.app t, s.lb, s.cl, s.clr, s.wl, s.ref.app t, s.fw, s.fb, get_old s.box t, s.ops.app t, s.own.app t⟩
/-- A block that isn't of the first ones is turned. -/
theorem keep_set {H K : LHeap} {q : Nat} (h : ∃ t, K = H ++ t) (hq : H.length ≤ q) (o : LObj) : ∃ t, K.set q o = H ++ t := by
  obtain ⟨t, rfl⟩ := h
  exact ⟨t.set (q - H.length) o, by rw [List.set_append_right _ _ hq]⟩
theorem keep_mem {H K : LHeap} {b pw pb : Nat} {m : MV} (h : ∃ t, K = H ++ t) (h1 : H.length ≤ b) (h2 : H.length ≤ pw) (h3 : H.length ≤ pb) : ∃ t, memPut K b pw pb m = H ++ t :=
  keep_set (keep_set (keep_set h h1 _) h2 _) h3 _
theorem own_set_off {m n : Nat} {H : LHeap} {a : Option Addr} {c : List Value} {q : Nat} (h : Own m H n a c) (ho : Off q a) (o : LObj) : Own m (H.set q o) n a c := by
  rcases h with h | ⟨b, h1, h2, h3⟩
  · exact .inl h
  · refine .inr ⟨b, h1, h2, ?_⟩
    rw [get_set_ne (fun e => ho _ h1 e.symm)]; exact h3
theorem off_row {H : LHeap} {q es m n : Nat} {a : Option Addr} {c c' : List Value} (h : H[q]? = some (.row false es c')) (o : Own m H n a c) (hne : es ≠ m) : Off q a := by
  rcases o with ⟨rfl, _⟩ | ⟨b, rfl, h2, h3⟩
  · intro x hx; cases hx
  · intro x hx e
    cases hx
    simp only at e
    subst e
    rw [h3] at h
    cases h
    exact hne rfl
theorem sl_off {H : LHeap} {q es m : Nat} {a : Option Addr} {c c' : List Value} (h : H[q]? = some (.row false es c')) (o : Sl m H a c) (hne : es ≠ m) : Off q a := by
  rcases o with ⟨rfl, _⟩ | ⟨b, o, ro, es', cc, rfl, h2, h3, h4, h5⟩
  · intro x hx; cases hx
  · intro x hx e
    cases hx
    simp only at e
    subst e
    rw [h2] at h
    cases h
    rcases h5 with h5 | h5
    · cases h5
    · exact hne h5
theorem clean_bar {m mr : MV} {w w' : List (BitVec 64)} (c : Clean m w) (c' : Clean mr w') (h : w.length = w'.length) : m.bar = mr.bar := by
  have e1 : ∀ (m : MV) w, Clean m w → m.bar = List.replicate w.length false := fun m w c => by
    rw [← c.len]
    exact List.eq_replicate_iff.2 ⟨rfl, c.bar⟩
  rw [e1 _ _ c, e1 _ _ c', h]
/-- The program's step, and the document's, are done. -/
theorem SI.turn (s : SI row cells k H lo b pw pb bx n K m mr w aw ab ao ap L) (hrow : ∀ x, ∃ c, row x = .row false 0 c) (hcell : ∀ x, (cells x).length = k) (hk : 1 < k)
    {t : LHeap} {aw' : Option Addr} {m' mr' : MV} {w' : List (BitVec 64)} (g : Sl 1 (K ++ t) aw' (mr'.w.map w64)) (q : aw' = aw ∨ Fresh K.length aw')
    {j p : Nat} {x x' : α} (hx : L[j]? = some (p, x)) (c1 : Clean m' w') (c2 : Clean mr' w') (hw : w'.length = n) :
    ∃ bo c, ao = some ⟨bo, 0, none⟩ ∧ (∀ u, (memPut ((K ++ t).set p (row x')) b pw pb m' ++ u)[bo]? = some (.row false k c)) ∧ c.length = L.length * k ∧ bo ≠ bx ∧ lo ≤ bo ∧ lo ≤ p ∧
      (∀ u, Own 1 (memPut ((K ++ t).set p (row x')) b pw pb m' ++ u) lo ap (L.map fun z => ptr z.1)) ∧ (∀ u, (memPut ((K ++ t).set p (row x')) b pw pb m' ++ u)[p]? = some (row x')) ∧
      (∀ j, K.length ≤ j → (memPut ((K ++ t).set p (row x')) b pw pb m')[j]? = (K ++ t)[j]?) ∧
      (memPut ((K ++ t).set p (row x')) b pw pb m')[bx]? = some (xrow aw ab n mr) ∧
      ∀ u, SI row cells k H lo b pw pb bx n (((memPut ((K ++ t).set p (row x')) b pw pb m' ++ u).set bo (.row false k (setMany c (j * k) (cells x')))).set bx (xrow aw' ab n mr')) m' mr' w' aw' ab ao ap (L.set j (p, x')) := by
  have hj : j < L.length := (List.getElem?_eq_some_iff.1 hx).1
  have hlen := flat_len (f := fun z : Nat × α => cells z.2) (fun z : Nat × α => hcell z.2) L
  have hc0 : 0 < (L.flatMap fun z => cells z.2).length := by
    rw [hlen]
    exact Nat.mul_pos (by omega) (by omega)
  obtain ⟨bo, ea, b1, b2, b3⟩ := s.own.has hc0
  obtain ⟨l1, l2, l3, l0, l4, l5, l6, l7, n1, n2, n3⟩ := s.lb
  have hp := s.ops.ops.at_ j p x (map_some_get.2 hx)
  obtain ⟨cx, hcx⟩ := hrow x
  obtain ⟨cx', hcx'⟩ := hrow x'
  have hpl : p < K.length := (List.getElem?_eq_some_iff.1 hp.2).1
  have s1 := s.app t
  have hpb : p ≠ bo := by
    rintro rfl
    rw [b3, hcx] at hp
    have := hp.2
    cases this
    omega
  have b4 : ∀ u, (memPut ((K ++ t).set p (row x')) b pw pb m' ++ u)[bo]? = some (.row false k (L.flatMap fun z => cells z.2)) := by
    intro u
    refine get_old ?_ u
    rw [memPut_get _ (by omega) (by omega) (by omega), get_set_ne hpb]
    exact get_old b3 t
  have fw' : Off4 b pw pb bx aw' := by
    rcases q with rfl | q
    · exact s.fw
    · have := s.h2
      exact Off4.of q (by omega) (by omega) (by omega) (by omega)
  have h2 := s.h2
  have thrO : ∀ {es : Nat} {a : Option Addr} {c : List Value} (u : LHeap), 0 < es → Own es (K ++ t) lo a c → Own es (memPut ((K ++ t).set p (row x')) b pw pb m' ++ u) lo a c := by
    intro es a c u he h
    have f := h.fresh
    have h1 : Off p a := off_row (by rw [get_old hp.2 t, hcx]) h (by omega)
    exact (own_set_off (own_set_off (own_set_off (own_set_off h h1 _) (f.off l4) _) (f.off l5) _) (f.off l6) _).app u
  refine ⟨bo, _, ea, b4, hlen, by omega, b1, hp.1, fun u => thrO u (by decide) s1.ops.own, fun u => ?_, fun j hj => ?_, ?_, fun u => ?_⟩
  · refine get_old ?_ u
    rw [memPut_get _ (by omega) (by omega) (by omega), get_set_eq (by simp; omega)]
  · rw [memPut_get _ (by omega) (by omega) (by omega), get_set_ne (by omega)]
  · rw [memPut_get _ (by omega) (by omega) (by omega), get_set_ne (by omega)]
    exact get_old s.box t
  rw [flat_set (f := fun z : Nat × α => cells z.2) (fun z => hcell z.2) hj (p, x')]
  -- the heap ahead of the document's list
  have o1 := s1.ops.ops.put (map_some_get.2 hx) x'
  have o2 := (o1.mem l4 l5 l6 m').app u
  have m1 : MemAt ((K ++ t).set p (row x')) b pw pb m := s1.mem.set_off (by omega) (by omega) (by omega) _
  have hml : m'.w.length = m.w.length := by rw [c1.ws, s.cl.ws, hw, s.wl]
  have m2 : MemAt (memPut ((K ++ t).set p (row x')) b pw pb m') b pw pb m' := m1.put hml (by rw [c1.len, hw, s.cl.ws, s.wl])
  -- what a slice of words is, there
  have thr : ∀ {es : Nat} {a : Option Addr} {c : List Value}, 0 < es → Off4 b pw pb bx a → Sl es (K ++ t) a c → Sl es (memPut ((K ++ t).set p (row x')) b pw pb m' ++ u) a c := by
    intro es a c he f h
    have h1 : Off p a := sl_off (by rw [get_old hp.2 t, hcx]) h (by omega)
    exact ((((h.set_off h1 _).set_off f.b _).set_off f.pw _).set_off f.pb _).app u
  have gp : Own 1 (K ++ t) lo ap (L.map fun z => ptr z.1) := s1.ops.own
  have ep : ((L.set j (p, x')).map fun z => ptr z.1) = L.map fun z => ptr z.1 := by
    rw [List.map_set]
    apply List.ext_getElem?
    intro i
    by_cases e : j = i
    · subst e
      rw [List.getElem?_set_self (by simpa using hj), List.getElem?_map, hx]; rfl
    · rw [List.getElem?_set_ne e]
  have em : (L.set j (p, x')).map some = (L.map some).set j (some (p, x')) := by rw [List.map_set]
  have sp := thrO u (by decide) gp
  have sw := thr (by decide) fw' g
  have sb := thr (by decide) s.fb s1.ref.bs
  have kb := b4 u
  have kx : (memPut ((K ++ t).set p (row x')) b pw pb m' ++ u)[bx]? = some (xrow aw ab n mr) := by
    refine get_old ?_ u
    rw [memPut_get _ (by omega) (by omega) (by omega), get_set_ne (by omega)]
    exact get_old s.box t
  generalize hZ : memPut ((K ++ t).set p (row x')) b pw pb m' ++ u = Z at sp sw sb kb kx o2 ⊢
  have hZl : K.length ≤ Z.length := by rw [← hZ]; simp [memPut_len]; omega
  have hkZ : ∃ u, Z = H ++ u := by
    obtain ⟨v, hv⟩ := keep_mem (b := b) (pw := pw) (pb := pb) (m := m') (keep_set s1.keep (q := p) (by omega) (row x')) l1 l2 l3
    exact ⟨v ++ u, by rw [← hZ, hv, List.append_assoc]⟩
  have mZ : MemAt Z b pw pb m' := by rw [← hZ]; exact m2.app u
  have f1 : Off bo ap := off_row kb sp (by omega)
  have eb : mr'.bar.map Value.bool = mr.bar.map Value.bool := by rw [clean_bar c2 s.clr (by rw [hw, s.wl])]
  refine ⟨keep_set (keep_set hkZ (by omega) _) l0 _, by simp; omega, (mZ.set_off (by omega) (by omega) (by omega) _).set_off n1 n2 n3 _, s.lb, c1, c2, hw, ⟨?_, ?_, ?_, ?_, s.ref.le⟩, fw', s.fb, ?_, ⟨?_, ?_⟩, ?_⟩
  · exact (sw.set_off (sl_off kb sw (by omega)) _).set_off fw'.bx _
  · rw [eb]
    exact (sb.set_off (sl_off kb sb (by omega)) _).set_off s.fb.bx _
  · rw [c2.ws, hw]
  · rw [c2.len, hw]
  · rw [get_set_eq]
    simp; omega
  · rw [ep]
    exact own_set_off (own_set_off sp f1 _) (sp.fresh.off l7) _
  · rw [em]
    refine o2.same ?_
    intro i r y gi
    have g1 := o2.at_ i r y gi
    have e1 : bo ≠ r → (((Z.set bo (.row false k ((L.set j (p, x')).flatMap fun z => cells z.2))).set bx (xrow aw' ab n mr')))[r]? = Z[r]? := fun e => by rw [get_set_ne (by omega), get_set_ne e]
    refine e1 ?_
    rintro rfl
    have := g1.2
    rw [kb] at this
    obtain ⟨cy, hcy⟩ := hrow y
    rw [hcy] at this
    cases this
    omega
  · refine .inr ⟨bo, ea, b1, ?_⟩
    rw [get_set_ne (by omega), get_set_eq (List.getElem?_eq_some_iff.1 kb).1]
end
end Go.Proofs.Ytcogpinognopcaa
/- Operations that are begun, beside the document's. -/
namespace Go.Proofs.Ytcogpinognopcaa
open Go Go.LK
set_option linter.unusedSimpArgs false
set_option linter.unusedVariables false
theorem keep_of {H K : LHeap} (hl : H.length ≤ K.length) (h : ∀ j, j < H.length → K[j]? = H[j]?) : ∃ t, K = H ++ t := by
  refine ⟨K.drop H.length, ?_⟩
  apply List.ext_getElem?
  intro i
  rcases Nat.lt_or_ge i H.length with hi | hi
  · rw [List.getElem?_append_left hi, h i hi]
  · rw [List.getElem?_append_right hi, List.getElem?_drop]
    congr 1; omega
structure BI {α : Type} (row : α → LObj) (cells : α → List Value) (k : Nat) (H K : LHeap) (ap ao : Option Addr) (L : List (Nat × α)) : Prop where
  keep : ∃ t, K = H ++ t
  ops : Ptrs row H.length K ap L
  own : Own k K H.length ao (L.flatMap fun z => cells z.2)
section
variable {α : Type} {row : α → LObj} {cells : α → List Value} {k : Nat} {H K : LHeap} {ao ap : Option Addr} {L : List (Nat × α)}
theorem BI.nil : BI row cells k H H none none [] := ⟨⟨[], by simp⟩, Ptrs.nil _, Own.nil _ _ _⟩
theorem BI.app (s : BI row cells k H K ap ao L) (t : LHeap) : BI row cells k H (K ++ t) ap ao L := by
  obtain ⟨u, hu⟩ := s.keep
  exact ⟨⟨u ++ t, by rw [hu, List.append_assoc]⟩, s.ops.app t, s.own.app t⟩
theorem BI.len (s : BI row cells k H K ap ao L) : H.length ≤ K.length := by
  obtain ⟨u, rfl⟩ := s.keep
  simp
theorem own_ne {m m' n n' : Nat} {H : LHeap} {a a' : Option Addr} {c c' : List Value} (h : Own m H n a c) (h' : Own m' H n' a' c') (hne : m ≠ m') : ∀ b, a' = some ⟨b, 0, none⟩ → Off b a := by
  intro b e
  rcases h' with ⟨rfl, _⟩ | ⟨b', rfl, _, g⟩
  · cases e
  · cases e
    exact off_row g h (fun q => hne q.symm)
theorem own_same {m n : Nat} {H H' : LHeap} {a : Option Addr} {c : List Value} (h : Own m H n a c) (hp : ∀ b, a = some ⟨b, 0, none⟩ → b < H.length → H'[b]? = H[b]?) : Own m H' n a c := by
  rcases h with h | ⟨b, h1, h2, h3⟩
  · exact .inl h
  · exact .inr ⟨b, h1, h2, by rw [hp b h1 (List.getElem?_eq_some_iff.1 h3).1]; exact h3⟩
theorem BI.push' (s : BI row cells k H K ap ao L) (hrow : ∀ x, ∃ c, row x = .row false 0 c) (hcell : ∀ x, (cells x).length = k) (hk : 1 < k) (hk2 : k ≤ 100) {lim q n bytes : Nat} {t : LHeap} {x : α} (hn : L.length = n) (hn2 : n < 100000) (hby : bytes ≤ 1000) (hl : lim ≤ H.length)
    (hq : K.length ≤ q) (hx : (K ++ t)[q]? = some (row x)) : ∃ ap' K1, lappend lim (K ++ t) 1 8 (.slice ap n n) [ptr q] 1 = some (.slice ap' (n + 1) (n + 1), K1) ∧ lim ≤ K1.length ∧ (∃ t, K1 = H ++ t) ∧ (∀ b, b < (K ++ t).length → (∀ c, (K ++ t)[b]? ≠ some (.row false 1 c)) → K1[b]? = (K ++ t)[b]?) ∧
      ∀ u, ∃ ao' K2, lappend lim (K1 ++ u) k bytes (.slice ao n n) (cells x) 1 = some (.slice ao' (n + 1) (n + 1), K2) ∧ BI row cells k H K2 ap' ao' (L ++ [(q, x)]) := by
  have hHK := s.len
  have s1 := s.app t
  have hHKt : H.length ≤ (K ++ t).length := s1.len
  have hby1 : (n + 1) * 8 ≤ 140737488355328 := by omega
  have hby2 : (n + 1) * bytes ≤ 140737488355328 := by
    have : (n + 1) * bytes ≤ 100000 * 1000 := Nat.mul_le_mul (by omega) hby
    omega
  obtain ⟨ap', K1, p1, p2, p3, p4, p5⟩ := Own.push (lim := lim) (bytes := 8) (k := n) (news := [ptr q]) s1.ops.own (by simp [hn]) (by decide) hl hHKt hby1 (by omega)
  have hne1 : ∀ b, b < (K ++ t).length → (∀ c, (K ++ t)[b]? ≠ some (.row false 1 c)) → K1[b]? = (K ++ t)[b]? := by
    intro b hb hc
    refine p4 b hb ?_
    intro z hz e
    rcases s1.ops.own with ⟨e1, _⟩ | ⟨b', e1, _, e3⟩
    · rw [e1] at hz; cases hz
    · rw [e1] at hz; cases hz
      simp only at e
      subst e
      exact hc _ e3
  have o1 : Own k K1 H.length ao (L.flatMap fun z => cells z.2) := own_same s1.own fun b hb hlt => by
    refine hne1 b hlt fun c hc => ?_
    rcases s1.own with ⟨e1, _⟩ | ⟨b', e1, _, e3⟩
    · rw [e1] at hb; cases hb
    · rw [e1] at hb; cases hb
      rw [hc] at e3
      cases e3
      omega
  have hK1 : ∀ j, j < H.length → K1[j]? = H[j]? := by
    intro j hj
    obtain ⟨v, hv⟩ := s1.keep
    rw [p4 j (by omega) (s1.ops.own.fresh.off hj), hv, get_left hj]
  have ops1 : OpsAt row H.length K1 ((L ++ [(q, x)]).map some) := by
    rw [List.map_append]
    have o2 : OpsAt row H.length (K ++ t) (L.map some ++ [some (q, x)]) := s.ops.ops.snoc hq (by omega) hx
    refine o2.same ?_
    intro j p y g
    refine hne1 p (o2.lt g) fun c hc => ?_
    have := (o2.at_ j p y g).2
    rw [hc] at this
    obtain ⟨cy, hcy⟩ := hrow y
    rw [hcy] at this
    cases this
  refine ⟨ap', K1, p1, by omega, keep_of (by omega) hK1, hne1, fun u => ?_⟩
  have o1u := o1.app u
  obtain ⟨ao', K2, r1, r2, r3, r4, r5⟩ := Own.push (lim := lim) (bytes := bytes) (k := n) (news := cells x) o1u (by rw [flat_len (fun z : Nat × α => hcell z.2), hn]) (by omega) hl (by simp; omega) hby2 (by omega)
  have hne2 : ∀ b, b < (K1 ++ u).length → (∀ c, (K1 ++ u)[b]? ≠ some (.row false k c)) → K2[b]? = (K1 ++ u)[b]? := by
    intro b hb hc
    refine r4 b hb ?_
    intro z hz e
    rcases o1u with ⟨e1, _⟩ | ⟨b', e1, _, e3⟩
    · rw [e1] at hz; cases hz
    · rw [e1] at hz; cases hz
      simp only at e
      subst e
      exact hc _ e3
  refine ⟨ao', K2, r1, keep_of (by simp at r3; omega) fun j hj => ?_, ⟨?_, ?_⟩, ?_⟩
  · rw [r4 j (by simp; omega) (o1u.fresh.off hj), get_left (by omega), hK1 j hj]
  · rw [List.map_append]
    have p2u := p2.app u
    refine own_same p2u fun b hb hlt => ?_
    refine hne2 b hlt fun c hc => ?_
    rcases p2u with ⟨e1, _⟩ | ⟨b', e1, _, e3⟩
    · rw [e1] at hb; cases hb
    · rw [e1] at hb; cases hb
      rw [hc] at e3
      cases e3
      omega
  · have o3 := ops1.app u
    refine o3.same ?_
    intro j p y g
    refine hne2 p (o3.lt g) fun c hc => ?_
    have := (o3.at_ j p y g).2
    rw [hc] at this
    obtain ⟨cy, hcy⟩ := hrow y
    rw [hcy] at this
    cases this
    omega
  · rw [List.flatMap_append, List.flatMap_cons, List.flatMap_nil, List.append_nil]
    exact r2
theorem BI.push (s : BI row cells k H K ap ao L) (hrow : ∀ x, ∃ c, row x = .row false 0 c) (hcell : ∀ x, (cells x).length = k) (hk : 1 < k) (hk2 : k ≤ 100) {lim q n bytes : Nat} {t : LHeap} {x : α} (hn : L.length = n) (hn2 : n < 100000) (hby : bytes ≤ 1000) (hl : lim ≤ H.length)
    (hq : K.length ≤ q) (hx : (K ++ t)[q]? = some (row x)) : ∃ ap' K1, lappend lim (K ++ t) 1 8 (.slice ap n n) [ptr q] 1 = some (.slice ap' (n + 1) (n + 1), K1) ∧ lim ≤ K1.length ∧ (∃ t, K1 = H ++ t) ∧
      ∀ u, ∃ ao' K2, lappend lim (K1 ++ u) k bytes (.slice ao n n) (cells x) 1 = some (.slice ao' (n + 1) (n + 1), K2) ∧ BI row cells k H K2 ap' ao' (L ++ [(q, x)]) := by
  obtain ⟨ap', K1, p1, p2, p3, _, p4⟩ := s.push' hrow hcell hk hk2 hn hn2 hby hl hq hx (lim := lim) (bytes := bytes)
  exact ⟨ap', K1, p1, p2, p3, p4⟩
theorem OpsAt.mono {lo lo' : Nat} {L : List (Option (Nat × α))} (h : OpsAt row lo K L) (hl : lo' ≤ lo) : OpsAt row lo' K L :=
  ⟨fun j q x g => ⟨Nat.le_trans hl (h.at_ j q x g).1, (h.at_ j q x g).2⟩, h.ne⟩
theorem own_mono {m n n' : Nat} {a : Option Addr} {c : List Value} (h : Own m K n a c) (hn : n' ≤ n) : Own m K n' a c := by
  rcases h with h | ⟨b, h1, h2, h3⟩
  · exact .inl h
  · exact .inr ⟨b, h1, Nat.le_trans hn h2, h3⟩
/-- All are begun. -/
theorem BI.all (s : BI row cells k H K ap ao L) {H0 : LHeap} {lo b pw pb bx n : Nat} {m mr : MV} {w : List (BitVec 64)} {aw ab : Option Addr} (keep : ∃ t, H = H0 ++ t) (h2 : lo ≤ H.length) (mem : MemAt H b pw pb m)
    (lb : Lay lo b pw pb bx H0.length) (cl : Clean m w) (clr : Clean mr w) (wl : w.length = n) (ref : RefAt H aw ab n mr) (fw : Off4 b pw pb bx aw) (fb : Off4 b pw pb bx ab) (box : H[bx]? = some (xrow aw ab n mr)) :
    SI row cells k H0 lo b pw pb bx n K m mr w aw ab ao ap L := by
  obtain ⟨t, rfl⟩ := keep
  obtain ⟨u, hu⟩ := s.keep
  have e : K = H0 ++ (t ++ u) := by rw [hu, List.append_assoc]
  refine ⟨⟨_, e⟩, by have := s.len; omega, by rw [hu]; exact mem.app u, lb, cl, clr, wl, by rw [hu]; exact ref.app u, fw, fb, by rw [hu]; exact get_old box u, ⟨own_mono s.ops.own h2, s.ops.ops.mono h2⟩, own_mono s.own h2⟩
/-- What is read of an operation. -/
theorem SI.read {lo b pw pb bx n : Nat} {m mr : MV} {w : List (BitVec 64)} {aw ab : Option Addr} (s : SI row cells k H lo b pw pb bx n K m mr w aw ab ao ap L) (hcell : ∀ x, (cells x).length = k) (hk : 0 < k) {j p : Nat} {x : α} (hj : L[j]? = some (p, x)) :
    ∃ bp bo, ap = some ⟨bp, 0, none⟩ ∧ ao = some ⟨bo, 0, none⟩ ∧ (∀ t, lget (K ++ t) bp j = some (ptr p)) ∧ (∀ t, lcells (K ++ t) bo (j * k) k = some (cells x)) ∧ (∀ t i, i < k → lget (K ++ t) bo (j * k + i) = (cells x)[i]?) ∧ (∀ t, (K ++ t)[p]? = some (row x)) ∧ lo ≤ p := by
  have hjl : j < L.length := (List.getElem?_eq_some_iff.1 hj).1
  obtain ⟨bp, e1, _, _, g1⟩ := s.ops.own.has (by simp; omega)
  obtain ⟨bo, e2, _, _, g2⟩ := s.own.has (by rw [flat_len (f := fun z : Nat × α => cells z.2) (fun z => hcell z.2)]; exact Nat.mul_pos (by omega) hk)
  have s1 := s.ops.own.sl
  rw [e1] at s1
  obtain ⟨_, _, q1, _, r1⟩ := s1.all (by simp; omega)
  cases q1
  have s2 := s.own.sl
  rw [e2] at s2
  obtain ⟨_, _, q2, _, r2, r3⟩ := s2.rowsAt (f := fun z : Nat × α => cells z.2) (fun z => hcell z.2) hk (by omega)
  cases q2
  have hp := s.ops.ops.at_ j p x (map_some_get.2 hj)
  refine ⟨bp, bo, e1, e2, fun t => ?_, fun t => ?_, fun t i hi => ?_, fun t => get_old hp.2 t, hp.1⟩
  · have := r1 t j (ptr p) (by simp [hj])
    rwa [Nat.zero_add] at this
  · have := r2 t j _ hj
    rwa [Nat.zero_add] at this
  · have := r3 t j _ i hj hi
    rwa [Nat.zero_add] at this
end
end Go.Proofs.Ytcogpinognopcaa
