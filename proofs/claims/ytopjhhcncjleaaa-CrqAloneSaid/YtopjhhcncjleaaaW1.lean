/- Operations that take turns at a memory, beside the document's. -/
import Derived.Test.YtopjhhcncjleaaaC4
import Derived.Test.YtopjhhcncjleaaaC3
import Derived.Test.YtopjhhcncjleaaaR1
namespace Go.Proofs.Ytopjhhcncjleaaa
open Go Go.LK
set_option linter.unusedSimpArgs false
set_option linter.unusedVariables false
theorem setMany_app : ∀ (vs a b c : List Value), b.length = vs.length → setMany (a ++ (b ++ c)) a.length vs = a ++ (vs ++ c)
  | [], a, b, c, h => by
    obtain rfl := List.length_eq_zero_iff.1 (by simpa using h)
    simp [setMany]
  | v :: vs, a, b, c, h => by
    cases b with
    | nil => simp at h
    | cons x b =>
      rw [setMany]
      have e : (a ++ (x :: b ++ c)).set a.length v = (a ++ [v]) ++ (b ++ c) := by simp
      rw [e]
      have := setMany_app vs (a ++ [v]) b c (by simpa using h)
      rw [List.length_append, List.length_singleton] at this
      rw [this]; simp
theorem flat_len {α : Type} {f : α → List Value} {k : Nat} (hf : ∀ x, (f x).length = k) : ∀ (L : List α), (L.flatMap f).length = L.length * k
  | [] => by simp
  | x :: L => by rw [List.flatMap_cons, List.length_append, hf, flat_len hf L, List.length_cons, Nat.succ_mul]; omega
theorem flat_set {α : Type} {f : α → List Value} {k : Nat} (hf : ∀ x, (f x).length = k) {L : List α} {j : Nat} (hj : j < L.length) (y : α) : setMany (L.flatMap f) (j * k) (f y) = (L.set j y).flatMap f := by
  have e : L = L.take j ++ (L[j] :: L.drop (j + 1)) := by
    rw [List.getElem_cons_drop]; simp
  have e2 : L.set j y = L.take j ++ (y :: L.drop (j + 1)) := by
    rw [List.set_eq_take_append_cons_drop, if_pos hj]
  rw [e2]
  conv => lhs; rw [e]
  rw [List.flatMap_append, List.flatMap_cons, List.flatMap_append, List.flatMap_cons]
  have l : j * k = ((L.take j).flatMap f).length := by rw [flat_len hf, List.length_take, Nat.min_eq_left (Nat.le_of_lt hj)]
  rw [l, setMany_app _ _ _ _ (by rw [hf, hf])]
theorem load_cln {m : MV} {w : List (BitVec 64)} (c : Clean m w) {a : Int} (h0 : 0 ≤ a) (h1 : a < w.length) : m.load a = w.getD a.toNat 0 := by
  rw [MV.load, c.bad h0 h1, c.at]; rfl
theorem swaps_cln {m : MV} {w : List (BitVec 64)} (c : Clean m w) {a : Int} {x : BitVec 64} (h0 : 0 ≤ a) (h1 : a < w.length) : m.swaps a x = (w.getD a.toNat 0 == x) := by
  rw [MV.swaps, c.bad h0 h1, c.at]; rfl
theorem pairs_cln {m : MV} {w : List (BitVec 64)} (c : Clean m w) {a : Int} {x y : BitVec 64} (h0 : 0 ≤ a) (h1 : a + 1 < w.length) (h2 : a.tmod 2 = 0) : m.pairs a x y = (w.getD a.toNat 0 == x && w.getD (a + 1).toNat 0 == y) := by
  rw [MV.pairs, c.bad h0 (by omega), c.bad (a := a + 1) (by omega) h1, c.at, c.at, decide_eq_true h2]; simp
/-- Memories of the same words do a step alike. -/
theorem step_cln {m mr : MV} {w : List (BitVec 64)} (c : Clean m w) (cr : Clean mr w) {kind a : Int} {v0 v1 v2 v3 : BitVec 64} (h0 : 0 ≤ a) (h1 : a < w.length) (h2 : kind = 5 → a + 1 < w.length ∧ a.tmod 2 = 0) :
    (m.step kind a v0 v1 v2 v3).2 = (mr.step kind a v0 v1 v2 v3).2 ∧ ∃ w', Clean (m.step kind a v0 v1 v2 v3).1 w' ∧ Clean (mr.step kind a v0 v1 v2 v3).1 w' ∧ w'.length = w.length := by
  unfold MV.step
  split
  · exact ⟨by rw [load_cln c h0 h1, load_cln cr h0 h1], w, c.use_id h0 h1 0, cr.use_id h0 h1 0, rfl⟩
  split
  · exact ⟨rfl, _, c.use h0 h1 1 (fun _ => v0), cr.use h0 h1 1 (fun _ => v0), List.length_set⟩
  split
  · exact ⟨by rw [swaps_cln c h0 h1, swaps_cln cr h0 h1], _, c.use h0 h1 2 (fun w => if w = v0 then v1 else w), cr.use h0 h1 2 (fun w => if w = v0 then v1 else w), List.length_set⟩
  split
  · exact ⟨by rw [load_cln c h0 h1, load_cln cr h0 h1], _, c.use h0 h1 3 (· + v0), cr.use h0 h1 3 (· + v0), List.length_set⟩
  split
  · exact ⟨by rw [load_cln c h0 h1, load_cln cr h0 h1], _, c.use h0 h1 4 (· ||| v0), cr.use h0 h1 4 (· ||| v0), List.length_set⟩
  split
  · rename_i k5
    obtain ⟨h3, h4⟩ := h2 k5
    exact ⟨by rw [pairs_cln c h0 h3 h4, pairs_cln cr h0 h3 h4], _, c.pair h0 h3 h4 _ _ _ _, cr.pair h0 h3 h4 _ _ _ _, by split <;> simp⟩
  · exact ⟨rfl, w, c, cr, rfl⟩
abbrev refC (aw ab : Option Addr) (n : Nat) (m : MV) : List Value := [.slice aw n n, .slice ab n n, i64 m.c0, i64 m.c1, i64 m.c2, i64 m.c3, i64 m.c4, i64 m.c5, i64 m.trap, .bool m.fell]
abbrev xrow (aw ab : Option Addr) (n : Nat) (m : MV) : LObj := .row false 0 (refC aw ab n m)
structure Off4 (b pw pb bx : Nat) (a : Option Addr) : Prop where
  b : Off b a
  pw : Off pw a
  pb : Off pb a
  bx : Off bx a
theorem Off4.of {b pw pb bx lo : Nat} {a : Option Addr} (h : Fresh lo a) (h1 : b < lo) (h2 : pw < lo) (h3 : pb < lo) (h4 : bx < lo) : Off4 b pw pb bx a := ⟨h.off h1, h.off h2, h.off h3, h.off h4⟩
structure Lay (lo b pw pb bx h : Nat) : Prop where
  h1 : h ≤ b
  h2 : h ≤ pw
  h3 : h ≤ pb
  h4 : h ≤ bx
  l1 : b < lo
  l2 : pw < lo
  l3 : pb < lo
  l4 : bx < lo
  n1 : bx ≠ b
  n2 : bx ≠ pw
  n3 : bx ≠ pb
/-- What stands while operations take turns. -/
structure SI {α : Type} (row : α → LObj) (cells : α → List Value) (k : Nat) (H : LHeap) (lo b pw pb bx n : Nat) (K : LHeap) (m mr : MV) (w : List (BitVec 64)) (aw ab ao ap : Option Addr) (L : List (Nat × α)) : Prop where
  keep : ∃ t, K = H ++ t
  h2 : lo ≤ K.length
  mem : MemAt K b pw pb m
  lb : Lay lo b pw pb bx H.length
  cl : Clean m w
  clr : Clean mr w
  wl : w.length = n
  ref : RefAt K aw ab n mr
  fw : Off4 b pw pb bx aw
  fb : Off4 b pw pb bx ab
  box : K[bx]? = some (xrow aw ab n mr)
  ops : Ptrs row lo K ap L
  own : Own k K lo ao (L.flatMap fun z => cells z.2)
section
variable {α : Type} {row : α → LObj} {cells : α → List Value} {k lo b pw pb bx n : Nat} {H K : LHeap} {m mr : MV} {w : List (BitVec 64)} {aw ab ao ap : Option Addr} {L : List (Nat × α)}
theorem SI.app (s : SI row cells k H lo b pw pb bx n K m mr w aw ab ao ap L) (t : LHeap) : SI row cells k H lo b pw pb bx n (K ++ t) m mr w aw ab ao ap L := by
  obtain ⟨u, hu⟩ := s.keep
  exact ⟨⟨u ++ t, by rw [hu, List.append_assoc]⟩, by have := s.h2; simp; omega, s.mem.app t, s.lb, s.cl, s.clr, s.wl, s.ref.app t, s.fw, s.fb, get_old s.box t, s.ops.app t, s.own.app t⟩
/-- A block that isn't of the first ones is turned. -/
theorem keep_set {H K : LHeap} {q : Nat} (h : ∃ t, K = H ++ t) (hq : H.length ≤ q) (o : LObj) : ∃ t, K.set q o = H ++ t := by
  obtain ⟨t, rfl⟩ := h
  exact ⟨t.set (q - H.length) o, by rw [List.set_append_right _ _ hq]⟩
theorem keep_mem {H K : LHeap} {b pw pb : Nat} {m : MV} (h : ∃ t, K = H ++ t) (h1 : H.length ≤ b) (h2 : H.length ≤ pw) (h3 : H.length ≤ pb) : ∃ t, memPut K b pw pb m = H ++ t :=
  keep_set (keep_set (keep_set h h1 _) h2 _) h3 _
theorem own_set_off {m n : Nat} {H : LHeap} {a : Option Addr} {c : List Value} {q : Nat} (h : Own m H n a c) (ho : Off q a) (o : LObj) : Own m (H.set q o) n a c := by
  rcases h with h | ⟨b, h1, h2, h3⟩
  · exact .inl h
  · refine .inr ⟨b, h1, h2, ?_⟩
    rw [get_set_ne (fun e => ho _ h1 e.symm)]; exact h3
theorem off_row {H : LHeap} {q es m n : Nat} {a : Option Addr} {c c' : List Value} (h : H[q]? = some (.row false es c')) (o : Own m H n a c) (hne : es ≠ m) : Off q a := by
  rcases o with ⟨rfl, _⟩ | ⟨b, rfl, h2, h3⟩
  · intro x hx; cases hx
  · intro x hx e
    cases hx
    simp only at e
    subst e
    rw [h3] at h
    cases h
    exact hne rfl
theorem sl_off {H : LHeap} {q es m : Nat} {a : Option Addr} {c c' : List Value} (h : H[q]? = some (.row false es c')) (o : Sl m H a c) (hne : es ≠ m) : Off q a := by
  rcases o with ⟨rfl, _⟩ | ⟨b, o, ro, es', cc, rfl, h2, h3, h4, h5⟩
  · intro x hx; cases hx
  · intro x hx e
    cases hx
    simp only at e
    subst e
    rw [h2] at h
    cases h
    rcases h5 with h5 | h5
    · cases h5
    · exact hne h5
theorem clean_bar {m mr : MV} {w w' : List (BitVec 64)} (c : Clean m w) (c' : Clean mr w') (h : w.length = w'.length) : m.bar = mr.bar := by
  have e1 : ∀ (m : MV) w, Clean m w → m.bar = List.replicate w.length false := fun m w c => by
    rw [← c.len]
    exact List.eq_replicate_iff.2 ⟨rfl, c.bar⟩
  rw [e1 _ _ c, e1 _ _ c', h]
/-- The program's step, and the document's, are done. -/
theorem SI.turn (s : SI row cells k H lo b pw pb bx n K m mr w aw ab ao ap L) (hrow : ∀ x, ∃ c, row x = .row false 0 c) (hcell : ∀ x, (cells x).length = k) (hk : 1 < k)
    {t : LHeap} {aw' : Option Addr} {m' mr' : MV} {w' : List (BitVec 64)} (g : Sl 1 (K ++ t) aw' (mr'.w.map w64)) (q : aw' = aw ∨ Fresh K.length aw')
    {j p : Nat} {x x' : α} (hx : L[j]? = some (p, x)) (c1 : Clean m' w') (c2 : Clean mr' w') (hw : w'.length = n) :
    ∃ bo c, ao = some ⟨bo, 0, none⟩ ∧ (∀ u, (memPut ((K ++ t).set p (row x')) b pw pb m' ++ u)[bo]? = some (.row false k c)) ∧ c.length = L.length * k ∧ bo ≠ bx ∧ lo ≤ bo ∧ lo ≤ p ∧
      (∀ u, Own 1 (memPut ((K ++ t).set p (row x')) b pw pb m' ++ u) lo ap (L.map fun z => ptr z.1)) ∧ (∀ u, (memPut ((K ++ t).set p (row x')) b pw pb m' ++ u)[p]? = some (row x')) ∧
      (∀ j, K.length ≤ j → (memPut ((K ++ t).set p (row x')) b pw pb m')[j]? = (K ++ t)[j]?) ∧
      (memPut ((K ++ t).set p (row x')) b pw pb m')[bx]? = some (xrow aw ab n mr) ∧
      ∀ u, SI row cells k H lo b pw pb bx n (((memPut ((K ++ t).set p (row x')) b pw pb m' ++ u).set bo (.row false k (setMany c (j * k) (cells x')))).set bx (xrow aw' ab n mr')) m' mr' w' aw' ab ao ap (L.set j (p, x')) := by
  have hj : j < L.length := (List.getElem?_eq_some_iff.1 hx).1
  have hlen := flat_len (f := fun z : Nat × α => cells z.2) (fun z : Nat × α => hcell z.2) L
  have hc0 : 0 < (L.flatMap fun z => cells z.2).length := by
    rw [hlen]
    exact Nat.mul_pos (by omega) (by omega)
  obtain ⟨bo, ea, b1, b2, b3⟩ := s.own.has hc0
  obtain ⟨l1, l2, l3, l0, l4, l5, l6, l7, n1, n2, n3⟩ := s.lb
  have hp := s.ops.ops.at_ j p x (map_some_get.2 hx)
  obtain ⟨cx, hcx⟩ := hrow x
  obtain ⟨cx', hcx'⟩ := hrow x'
  have hpl : p < K.length := (List.getElem?_eq_some_iff.1 hp.2).1
  have s1 := s.app t
  have hpb : p ≠ bo := by
    rintro rfl
    rw [b3, hcx] at hp
    have := hp.2
    cases this
    omega
  have b4 : ∀ u, (memPut ((K ++ t).set p (row x')) b pw pb m' ++ u)[bo]? = some (.row false k (L.flatMap fun z => cells z.2)) := by
    intro u
    refine get_old ?_ u
    rw [memPut_get _ (by omega) (by omega) (by omega), get_set_ne hpb]
    exact get_old b3 t
  have fw' : Off4 b pw pb bx aw' := by
    rcases q with rfl | q
    · exact s.fw
    · have := s.h2
      exact Off4.of q (by omega) (by omega) (by omega) (by omega)
  have h2 := s.h2
  have thrO : ∀ {es : Nat} {a : Option Addr} {c : List Value} (u : LHeap), 0 < es → Own es (K ++ t) lo a c → Own es (memPut ((K ++ t).set p (row x')) b pw pb m' ++ u) lo a c := by
    intro es a c u he h
    have f := h.fresh
    have h1 : Off p a := off_row (by rw [get_old hp.2 t, hcx]) h (by omega)
    exact (own_set_off (own_set_off (own_set_off (own_set_off h h1 _) (f.off l4) _) (f.off l5) _) (f.off l6) _).app u
  refine ⟨bo, _, ea, b4, hlen, by omega, b1, hp.1, fun u => thrO u (by decide) s1.ops.own, fun u => ?_, fun j hj => ?_, ?_, fun u => ?_⟩
  · refine get_old ?_ u
    rw [memPut_get _ (by omega) (by omega) (by omega), get_set_eq (by simp; omega)]
  · rw [memPut_get _ (by omega) (by omega) (by omega), get_set_ne (by omega)]
  · rw [memPut_get _ (by omega) (by omega) (by omega), get_set_ne (by omega)]
    exact get_old s.box t
  rw [flat_set (f := fun z : Nat × α => cells z.2) (fun z => hcell z.2) hj (p, x')]
  -- the heap ahead of the document's list
  have o1 := s1.ops.ops.put (map_some_get.2 hx) x'
  have o2 := (o1.mem l4 l5 l6 m').app u
  have m1 : MemAt ((K ++ t).set p (row x')) b pw pb m := s1.mem.set_off (by omega) (by omega) (by omega) _
  have hml : m'.w.length = m.w.length := by rw [c1.ws, s.cl.ws, hw, s.wl]
  have m2 : MemAt (memPut ((K ++ t).set p (row x')) b pw pb m') b pw pb m' := m1.put hml (by rw [c1.len, hw, s.cl.ws, s.wl])
  -- what a slice of words is, there
  have thr : ∀ {es : Nat} {a : Option Addr} {c : List Value}, 0 < es → Off4 b pw pb bx a → Sl es (K ++ t) a c → Sl es (memPut ((K ++ t).set p (row x')) b pw pb m' ++ u) a c := by
    intro es a c he f h
    have h1 : Off p a := sl_off (by rw [get_old hp.2 t, hcx]) h (by omega)
    exact ((((h.set_off h1 _).set_off f.b _).set_off f.pw _).set_off f.pb _).app u
  have gp : Own 1 (K ++ t) lo ap (L.map fun z => ptr z.1) := s1.ops.own
  have ep : ((L.set j (p, x')).map fun z => ptr z.1) = L.map fun z => ptr z.1 := by
    rw [List.map_set]
    apply List.ext_getElem?
    intro i
    by_cases e : j = i
    · subst e
      rw [List.getElem?_set_self (by simpa using hj), List.getElem?_map, hx]; rfl
    · rw [List.getElem?_set_ne e]
  have em : (L.set j (p, x')).map some = (L.map some).set j (some (p, x')) := by rw [List.map_set]
  have sp := thrO u (by decide) gp
  have sw := thr (by decide) fw' g
  have sb := thr (by decide) s.fb s1.ref.bs
  have kb := b4 u
  have kx : (memPut ((K ++ t).set p (row x')) b pw pb m' ++ u)[bx]? = some (xrow aw ab n mr) := by
    refine get_old ?_ u
    rw [memPut_get _ (by omega) (by omega) (by omega), get_set_ne (by omega)]
    exact get_old s.box t
  generalize hZ : memPut ((K ++ t).set p (row x')) b pw pb m' ++ u = Z at sp sw sb kb kx o2 ⊢
  have hZl : K.length ≤ Z.length := by rw [← hZ]; simp [memPut_len]; omega
  have hkZ : ∃ u, Z = H ++ u := by
    obtain ⟨v, hv⟩ := keep_mem (b := b) (pw := pw) (pb := pb) (m := m') (keep_set s1.keep (q := p) (by omega) (row x')) l1 l2 l3
    exact ⟨v ++ u, by rw [← hZ, hv, List.append_assoc]⟩
  have mZ : MemAt Z b pw pb m' := by rw [← hZ]; exact m2.app u
  have f1 : Off bo ap := off_row kb sp (by omega)
  have eb : mr'.bar.map Value.bool = mr.bar.map Value.bool := by rw [clean_bar c2 s.clr (by rw [hw, s.wl])]
  refine ⟨keep_set (keep_set hkZ (by omega) _) l0 _, by simp; omega, (mZ.set_off (by omega) (by omega) (by omega) _).set_off n1 n2 n3 _, s.lb, c1, c2, hw, ⟨?_, ?_, ?_, ?_, s.ref.le⟩, fw', s.fb, ?_, ⟨?_, ?_⟩, ?_⟩
  · exact (sw.set_off (sl_off kb sw (by omega)) _).set_off fw'.bx _
  · rw [eb]
    exact (sb.set_off (sl_off kb sb (by omega)) _).set_off s.fb.bx _
  · rw [c2.ws, hw]
  · rw [c2.len, hw]
  · rw [get_set_eq]
    simp; omega
  · rw [ep]
    exact own_set_off (own_set_off sp f1 _) (sp.fresh.off l7) _
  · rw [em]
    refine o2.same ?_
    intro i r y gi
    have g1 := o2.at_ i r y gi
    have e1 : bo ≠ r → (((Z.set bo (.row false k ((L.set j (p, x')).flatMap fun z => cells z.2))).set bx (xrow aw' ab n mr')))[r]? = Z[r]? := fun e => by rw [get_set_ne (by omega), get_set_ne e]
    refine e1 ?_
    rintro rfl
    have := g1.2
    rw [kb] at this
    obtain ⟨cy, hcy⟩ := hrow y
    rw [hcy] at this
    cases this
    omega
  · refine .inr ⟨bo, ea, b1, ?_⟩
    rw [get_set_ne (by omega), get_set_eq (List.getElem?_eq_some_iff.1 kb).1]
end
end Go.Proofs.Ytopjhhcncjleaaa
