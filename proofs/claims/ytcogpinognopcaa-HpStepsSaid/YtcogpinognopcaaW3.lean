/- Operations that take turns at a memory, beside the document's, with slices. -/
import Derived.Test.YtcogpinognopcaaQ1
import Derived.Test.YtcogpinognopcaaW2
namespace Go.Proofs.Ytcogpinognopcaa
open Go Go.LK
set_option linter.unusedSimpArgs false
set_option linter.unusedVariables false
structure HZ where
  x : HOp
  a1 : Option Addr
  y : ROp
  a2 : Option Addr
abbrev HZ.row (z : HZ) : LObj := hrw z.a1 z.x
abbrev HZ.cells (z : HZ) : List Value := z.y.cells z.a2
theorem hrow0 (z : HZ) : ∃ c, z.row = .row false 0 c := ⟨_, rfl⟩
theorem hcell9 (z : HZ) : z.cells.length = 9 := rfl
/-- Of different blocks. -/
def Dj (a b : Option Addr) : Prop := ∀ x, a = some x → Off x.block b
theorem Dj.symm {a b : Option Addr} (h : Dj a b) : Dj b a := fun x hx y hy e => h y hy x hx e.symm
theorem Dj.nil (a : Option Addr) : Dj none a := fun x h => by cases h
theorem Dj.fresh {n : Nat} {a b : Option Addr} (h : Fresh n a) (hb : ∀ x, b = some x → x.block < n) : Dj a b := fun x hx y hy e => by
  have := h x hx
  have := hb y hy
  omega
def Below (n : Nat) (a : Option Addr) : Prop := ∀ x, a = some x → x.block < n
theorem sl_below {m : Nat} {H : LHeap} {a : Option Addr} {c : List Value} (h : Sl m H a c) : Below H.length a := by
  rcases h with ⟨rfl, _⟩ | ⟨b, o, ro, es, cc, rfl, h2, _⟩
  · intro x hx; cases hx
  · intro x hx; cases hx
    exact (List.getElem?_eq_some_iff.1 h2).1
theorem sl_same {m : Nat} {H H' : LHeap} {a : Option Addr} {c : List Value} (h : Sl m H a c) (hp : ∀ x, a = some x → H'[x.block]? = H[x.block]?) : Sl m H' a c := by
  rcases h with h | ⟨b, o, ro, es, cc, h1, h2, h3⟩
  · exact .inl h
  · exact .inr ⟨b, o, ro, es, cc, h1, by rw [hp _ h1]; exact h2, h3⟩
/-- What stands while operations take turns. -/
structure HS (H : LHeap) (l0 lo b pw pb bx n : Nat) (K : LHeap) (m mr : MV) (w : List (BitVec 64)) (aw ab ao ap : Option Addr) (L : List (Nat × HZ)) : Prop where
  keep : ∃ t, K = H ++ t
  h2 : lo ≤ K.length
  h3 : l0 ≤ lo
  mem : MemAt K b pw pb m
  lb : Lay l0 b pw pb bx H.length
  cl : Clean m w
  clr : Clean mr w
  wl : w.length = n
  n0 : 0 < n
  nle : n ≤ 65536
  ws : ∃ bw, aw = some ⟨bw, 0, none⟩ ∧ K[bw]? = some (.row false 1 (mr.w.map w64))
  bs : Sl 1 K ab (mr.bar.map Value.bool)
  fw : Off4 b pw pb bx aw
  fb : Off4 b pw pb bx ab
  box : K[bx]? = some (xrow aw ab n mr)
  ptrs : Own 1 K l0 ap (L.map fun z => ptr z.1)
  own : Own 9 K l0 ao (L.flatMap fun z => z.2.cells)
  obj : ∀ (j q : Nat) (z : HZ), L[j]? = some (q, z) → l0 ≤ q ∧ q < lo ∧ K[q]? = some z.row
  inj : ∀ (i j q : Nat) (z z' : HZ), L[i]? = some (q, z) → L[j]? = some (q, z') → i = j
  s1 : ∀ (j q : Nat) (z : HZ), L[j]? = some (q, z) → Own 1 K lo z.a1 (z.x.met.map w64)
  s2 : ∀ (j q : Nat) (z : HZ), L[j]? = some (q, z) → Sl 1 K z.a2 (z.y.met.map w64) ∧ Fresh lo z.a2
  bp : Below lo ap
  bb : Below lo ab
  d11 : ∀ (i j q q' : Nat) (z z' : HZ), L[i]? = some (q, z) → L[j]? = some (q', z') → i ≠ j → Dj z.a1 z'.a1
  d12 : ∀ (i j q q' : Nat) (z z' : HZ), L[i]? = some (q, z) → L[j]? = some (q', z') → Dj z.a1 z'.a2
  dw1 : ∀ (j q : Nat) (z : HZ), L[j]? = some (q, z) → Dj aw z.a1 ∧ Dj aw z.a2
  dwp : Dj aw ap
  dwb : Dj aw ab
section
variable {H K : LHeap} {l0 lo b pw pb bx n : Nat} {m mr : MV} {w : List (BitVec 64)} {aw ab ao ap : Option Addr} {L : List (Nat × HZ)}
theorem HS.app (s : HS H l0 lo b pw pb bx n K m mr w aw ab ao ap L) (t : LHeap) : HS H l0 lo b pw pb bx n (K ++ t) m mr w aw ab ao ap L := by
  obtain ⟨u, hu⟩ := s.keep
  obtain ⟨bw, e1, e2⟩ := s.ws
  exact ⟨⟨u ++ t, by rw [hu, List.append_assoc]⟩, by have := s.h2; simp; omega, s.h3, s.mem.app t, s.lb, s.cl, s.clr, s.wl, s.n0, s.nle, ⟨bw, e1, get_old e2 t⟩, s.bs.app t, s.fw, s.fb, get_old s.box t, s.ptrs.app t, s.own.app t,
    fun j q z g => ⟨(s.obj j q z g).1, (s.obj j q z g).2.1, get_old (s.obj j q z g).2.2 t⟩, s.inj, fun j q z g => (s.s1 j q z g).app t, fun j q z g => ⟨(s.s2 j q z g).1.app t, (s.s2 j q z g).2⟩, s.bp, s.bb, s.d11, s.d12, s.dw1, s.dwp, s.dwb⟩
theorem HS.ref (s : HS H l0 lo b pw pb bx n K m mr w aw ab ao ap L) : RefAt K aw ab n mr := by
  obtain ⟨bw, rfl, e2⟩ := s.ws
  exact ⟨Sl.row e2, s.bs, by rw [s.clr.ws, s.wl], by rw [s.clr.len, s.wl], s.nle⟩
theorem HS.ahd (s : HS H l0 lo b pw pb bx n K m mr w aw ab ao ap L) {lim j q : Nat} {z : HZ} (g : L[j]? = some (q, z)) (hl : lim ≤ H.length) : Ahd lim lo K q b pw pb z.a1 z.x m := by
  have o := s.obj j q z g
  obtain ⟨l1, l2, l3, l4, l5, l6, l7, l8, n1, n2, n3⟩ := s.lb
  have := s.h3
  exact ⟨o.2.2, s.s1 j q z g, s.mem, by omega, by omega, by omega, o.2.1, by omega, by omega, by omega, by omega, by omega, s.h2⟩
/-- A slice's block is one that the program's step leaves. -/
theorem Stp.sl {t : LHeap} {K2 : LHeap} {p es : Nat} {a a1 a1' : Option Addr} {x x' : HOp} {m' : MV} {c : List Value} (st : Stp lo (K ++ t) K2 p b pw pb a1 a1' x x' m') (h : Sl es (K ++ t) a c) (h1 : Off p a) (h2 : Off b a) (h3 : Off pw a) (h4 : Off pb a) (h5 : Dj a1 a) : Sl es K2 a c :=
  sl_same h fun y hy => st.pre _ (sl_below h y hy) (h1 y hy) (h2 y hy) (h3 y hy) (h4 y hy) (fun z hz e => h5 z hz y hy e.symm)
theorem Stp.ownd {t : LHeap} {K2 : LHeap} {p es l : Nat} {a a1 a1' : Option Addr} {x x' : HOp} {m' : MV} {c : List Value} (st : Stp lo (K ++ t) K2 p b pw pb a1 a1' x x' m') (h : Own es (K ++ t) l a c) (h1 : Off p a) (h2 : Off b a) (h3 : Off pw a) (h4 : Off pb a) (h5 : Dj a1 a) : Own es K2 l a c :=
  own_same h fun q hq hlt => st.pre _ hlt (h1 _ hq) (h2 _ hq) (h3 _ hq) (h4 _ hq) (fun z hz e => h5 z hz _ hq e.symm)
theorem own_below {es l : Nat} {a : Option Addr} {c : List Value} (h : Own es K l a c) : Below K.length a := sl_below h.sl
set_option maxHeartbeats 1000000 in
theorem HS.turn (s : HS H l0 lo b pw pb bx n K m mr w aw ab ao ap L) {t K2 : LHeap} {aw' a1' a2' : Option Addr} {x' : HOp} {y' : ROp} {m' mr' : MV} {w' : List (BitVec 64)} {j p : Nat} {z : HZ} (hx : L[j]? = some (p, z))
    (st : Stp lo (K ++ t) K2 p b pw pb z.a1 a1' z.x x' m') (g : Sl 1 (K ++ t) aw' (mr'.w.map w64)) (q : aw' = aw ∨ Own 1 (K ++ t) K.length aw' (mr'.w.map w64))
    (gm : Sl 1 (K ++ t) a2' (y'.met.map w64)) (qm : a2' = z.a2 ∨ Fresh K.length a2') (qd : a2' = z.a2 ∨ ∀ x, aw' = some x → Off x.block a2') (c1 : Clean m' w') (c2 : Clean mr' w') (hw : w'.length = n) :
    ∃ bo c, ao = some ⟨bo, 0, none⟩ ∧ K2[bo]? = some (.row false 9 c) ∧ c.length = L.length * 9 ∧ bo ≠ bx ∧ l0 ≤ bo ∧ (∀ i, K.length ≤ i → i < (K ++ t).length → K2[i]? = (K ++ t)[i]?) ∧ K2[bx]? = some (xrow aw ab n mr) ∧
      HS H l0 lo b pw pb bx n ((K2.set bo (.row false 9 (setMany c (j * 9) (HZ.cells ⟨x', a1', y', a2'⟩)))).set bx (xrow aw' ab n mr')) m' mr' w' aw' ab ao ap (L.set j (p, ⟨x', a1', y', a2'⟩)) := by
  have hj : j < L.length := (List.getElem?_eq_some_iff.1 hx).1
  have hlen := flat_len (f := fun z : Nat × HZ => z.2.cells) (k := 9) (fun z : Nat × HZ => hcell9 z.2) L
  have hc0 : 0 < (L.flatMap fun z => z.2.cells).length := by rw [hlen]; omega
  obtain ⟨bo, ea, b1, b2, b3⟩ := s.own.has hc0
  obtain ⟨l1, l2, l3, l4, l5, l6, l7, l8, n1, n2, n3⟩ := s.lb
  obtain ⟨o1, o2, o3⟩ := s.obj j p z hx
  have h2 := s.h2
  have h3 := s.h3
  have s1 := s.app t
  have own1 := s.s1 j p z hx
  have bl1 := own_below own1
  have hKt : K.length ≤ (K ++ t).length := by simp
  -- what the step leaves
  have pre : ∀ i, i < (K ++ t).length → i ≠ p → i ≠ b → i ≠ pw → i ≠ pb → Off i z.a1 → K2[i]? = (K ++ t)[i]? := st.pre
  have off1 : ∀ i, i < lo → Off i z.a1 := fun i hi => own1.fresh.off hi
  have f0 : (K ++ t)[p]? = some z.row := get_old o3 t
  have kb : K2[bo]? = some (.row false 9 (L.flatMap fun z => z.2.cells)) := by
    rw [pre bo (by omega) (by rintro rfl; rw [b3] at o3; cases o3) (by omega) (by omega) (by omega) ?_]
    · exact get_old b3 t
    · exact off_row b3 own1 (by decide)
  have kx : K2[bx]? = some (xrow aw ab n mr) := by
    rw [pre bx (by omega) (by omega) (by omega) (by omega) (by omega) (off1 _ (by omega))]
    exact get_old s.box t
  -- the words
  obtain ⟨bw, ew, wr⟩ : ∃ bw, aw' = some ⟨bw, 0, none⟩ ∧ (K ++ t)[bw]? = some (.row false 1 (mr'.w.map w64)) := by
    rcases q with rfl | q
    · obtain ⟨bw, rfl, e2⟩ := s1.ws
      refine ⟨bw, rfl, ?_⟩
      rcases g with ⟨g0, _⟩ | ⟨b', o, ro, es, cc, g1, g2, g3, g4, _⟩
      · cases g0
      · cases g1
        rw [e2] at g2
        cases g2
        rw [e2]
        congr 2
        rw [← g4, List.drop_zero, List.length_map, List.take_of_length_le]
        rw [List.length_map, s.clr.ws, c2.ws, s.wl, hw]; exact Nat.le_refl _
    · obtain ⟨bw, e1, _, _, e4⟩ := q.has (by rw [List.length_map, c2.ws, hw]; exact s.n0)
      exact ⟨bw, e1, e4⟩
  have fw' : Off4 b pw pb bx aw' := by
    rcases q with rfl | q
    · exact s.fw
    · exact Off4.of q.fresh (by omega) (by omega) (by omega) (by omega)
  have dnew : ∀ {a : Option Addr}, Below K.length a → Dj aw a → Dj aw' a := fun hb hd => by
    rcases q with rfl | q
    · exact hd
    · exact Dj.fresh q.fresh hb
  have d2new : ∀ {a : Option Addr}, Below K.length a → Dj z.a2 a → Dj a2' a := fun hb hd => by
    rcases qm with rfl | q
    · exact hd
    · exact Dj.fresh q hb
  have new1 : a1' = z.a1 ∨ Fresh (K ++ t).length a1' := st.new.imp id (·.1)
  have d1new : ∀ {a : Option Addr}, Below (K ++ t).length a → Dj z.a1 a → Dj a1' a := fun hb hd => by
    rcases new1 with rfl | q
    · exact hd
    · exact Dj.fresh q hb
  have belowS : ∀ (i r : Nat) (z' : HZ), L[i]? = some (r, z') → Below K.length z'.a1 ∧ Below K.length z'.a2 := fun i r z' gi => ⟨own_below (s.s1 i r z' gi), sl_below (s.s2 i r z' gi).1⟩
  have up : ∀ {a : Option Addr}, Below K.length a → Below (K ++ t).length a := fun h x hx => Nat.lt_of_lt_of_le (h x hx) hKt
  have bap : Below K.length ap := own_below s.ptrs
  have bab : Below K.length ab := sl_below s.bs
  have baw : Below (K ++ t).length aw' := sl_below g
  have ba2 : Below (K ++ t).length a2' := sl_below gm
  have dwz := s.dw1 j p z hx
  have aw1 : Dj z.a1 aw' := (dnew bl1 dwz.1).symm
  have wr2 : K2[bw]? = some (.row false 1 (mr'.w.map w64)) := by
    have hl := (List.getElem?_eq_some_iff.1 wr).1
    rw [pre bw hl (by rintro rfl; rw [f0] at wr; cases wr) (fun e => fw'.b _ ew e) (fun e => fw'.pw _ ew e) (fun e => fw'.pb _ ew e) ?_]
    · exact wr
    · intro y hy e
      exact aw1 y hy _ ew e.symm
  have boS : ∀ {a : Option Addr} {c : List Value}, Sl 1 K2 a c → Off bo a := fun h => sl_off kb h (by decide)
  have lowS : ∀ {a : Option Addr}, Fresh lo a → Off4 b pw pb bx a := fun h => Off4.of h (by omega) (by omega) (by omega) (by omega)
  have obS : ∀ {a : Option Addr} {c : List Value}, Sl 1 (K ++ t) a c → Off p a := fun h => sl_off f0 h (by decide)
  -- a slice there
  have thr : ∀ {a : Option Addr} {c : List Value}, Sl 1 (K ++ t) a c → Off4 b pw pb bx a → Dj z.a1 a → Sl 1 ((K2.set bo (.row false 9 ((L.set j (p, ⟨x', a1', y', a2'⟩)).flatMap fun z => z.2.cells))).set bx (xrow aw' ab n mr')) a c := fun h f d => by
    have h2 := st.sl h (obS h) f.b f.pw f.pb d
    exact (h2.set_off (boS h2) _).set_off f.bx _
  have thrO : ∀ {a : Option Addr} {c : List Value} {l : Nat}, Own 1 (K ++ t) l a c → Off4 b pw pb bx a → Dj z.a1 a → Own 1 ((K2.set bo (.row false 9 ((L.set j (p, ⟨x', a1', y', a2'⟩)).flatMap fun z => z.2.cells))).set bx (xrow aw' ab n mr')) l a c := fun h f d => by
    have h2 := st.ownd h (obS h.sl) f.b f.pw f.pb d
    exact own_set_off (own_set_off h2 (boS h2.sl) _) f.bx _
  have offp : Off4 b pw pb bx ap := Off4.of s.ptrs.fresh (by omega) (by omega) (by omega) (by omega)
  have d1p : Dj z.a1 ap := Dj.fresh own1.fresh s.bp
  have d1b : Dj z.a1 ab := Dj.fresh own1.fresh s.bb
  refine ⟨bo, _, ea, kb, hlen, by omega, b1, fun i hi hi2 => pre i hi2 (by omega) (by omega) (by omega) (by omega) (fun y hy e => by have := bl1 y hy; omega), kx, ?_⟩
  rw [flat_set (f := fun z : Nat × HZ => z.2.cells) (fun z => hcell9 z.2) hj (p, ⟨x', a1', y', a2'⟩)]
  have hK2 : lo ≤ K2.length := by have := st.len; omega
  have ep : ((L.set j (p, (⟨x', a1', y', a2'⟩ : HZ))).map fun z => ptr z.1) = L.map fun z => ptr z.1 := by
    rw [List.map_set]
    apply List.ext_getElem?
    intro i
    by_cases e : j = i
    · subst e
      rw [List.getElem?_set_self (by simpa using hj), List.getElem?_map, hx]; rfl
    · rw [List.getElem?_set_ne e]
  have cs : ∀ (i r : Nat) (z' : HZ), (L.set j (p, (⟨x', a1', y', a2'⟩ : HZ)))[i]? = some (r, z') → (i = j ∧ r = p ∧ z' = ⟨x', a1', y', a2'⟩) ∨ (i ≠ j ∧ L[i]? = some (r, z')) := by
    intro i r z' gi
    by_cases e : j = i
    · subst e
      rw [List.getElem?_set_self hj] at gi
      cases gi
      exact .inl ⟨rfl, rfl, rfl⟩
    · rw [List.getElem?_set_ne e] at gi
      exact .inr ⟨fun q => e q.symm, gi⟩
  have hkeep : ∃ u, K2 = H ++ u := by
    obtain ⟨u, hu⟩ := s1.keep
    refine keep_of (by have := st.len; rw [hu] at this; simp at this; omega) fun i hi => ?_
    rw [pre i (by rw [hu]; simp; omega) (by omega) (by omega) (by omega) (by omega) (off1 _ (by omega)), hu, get_left hi]
  have fr2 : Fresh lo a2' := by
    rcases qm with rfl | q
    · exact (s.s2 j p z hx).2
    · exact q.mono h2
  have lbo : bo < K2.length := (List.getElem?_eq_some_iff.1 kb).1
  refine ⟨keep_set (keep_set hkeep (by omega) _) (by omega) _, by simp; omega, h3, (st.mem.set_off (by omega) (by omega) (by omega) _).set_off n1 n2 n3 _, s.lb, c1, c2, hw, s.n0, s.nle, ⟨bw, ew, ?_⟩, ?_, fw', s.fb, ?_, ?_, ?_, ?_, ?_, ?_, ?_, s.bp, s.bb, ?_, ?_, ?_, dnew bap s.dwp, dnew bab s.dwb⟩
  · rw [get_set_ne (fun e => fw'.bx _ ew e.symm), get_set_ne (fun e => by subst e; rw [kb] at wr2; cases wr2)]
    exact wr2
  · have eb : mr'.bar.map Value.bool = mr.bar.map Value.bool := by rw [clean_bar c2 s.clr (by rw [hw, s.wl])]
    rw [eb]
    exact thr s1.bs s.fb d1b
  · rw [get_set_eq]
    simp; omega
  · rw [ep]
    exact thrO s1.ptrs offp d1p
  · refine .inr ⟨bo, ea, b1, ?_⟩
    rw [get_set_ne (by omega), get_set_eq lbo]
  · intro i r z' gi
    rcases cs i r z' gi with ⟨rfl, rfl, rfl⟩ | ⟨ne, gi⟩
    · refine ⟨o1, o2, ?_⟩
      rw [get_set_ne (by omega), get_set_ne ?_]
      · exact st.row
      · rintro rfl
        have := st.row
        rw [kb] at this
        cases this
    · obtain ⟨r1, r2, r3⟩ := s.obj i r z' gi
      have hrp : r ≠ p := fun e => ne (s.inj i j p z' z (by rw [← e]; exact gi) hx)
      have k2 : K2[r]? = some z'.row := by
        rw [pre r (by omega) hrp (by omega) (by omega) (by omega) (off1 _ r2)]
        exact get_old r3 t
      refine ⟨r1, r2, ?_⟩
      rw [get_set_ne (by omega), get_set_ne ?_]
      · exact k2
      · rintro rfl
        rw [kb] at k2
        cases k2
  · intro i i' r z' z'' gi gi'
    rcases cs i r z' gi with ⟨rfl, rfl, rfl⟩ | ⟨ne, gj⟩
    · rcases cs i' r z'' gi' with ⟨e, _, _⟩ | ⟨_, gj'⟩
      · exact e.symm
      · exact s.inj _ _ _ _ _ hx gj'
    · rcases cs i' r z'' gi' with ⟨rfl, rfl, rfl⟩ | ⟨_, gj'⟩
      · exact s.inj _ _ _ _ _ gj hx
      · exact s.inj _ _ _ _ _ gj gj'
  · intro i r z' gi
    rcases cs i r z' gi with ⟨rfl, rfl, rfl⟩ | ⟨ne, gj⟩
    · have h1 := st.own
      exact own_set_off (own_set_off h1 (boS h1.sl) _) (lowS h1.fresh).bx _
    · have h1 := s1.s1 i r z' gj
      exact thrO h1 (lowS h1.fresh) (s.d11 j i p r z z' hx gj (fun e => ne e.symm))
  · intro i r z' gi
    rcases cs i r z' gi with ⟨rfl, rfl, rfl⟩ | ⟨ne, gj⟩
    · exact ⟨thr gm (lowS fr2) (d2new bl1 (s.d12 i i r r z z hx hx).symm).symm, fr2⟩
    · have h1 := s1.s2 i r z' gj
      exact ⟨thr h1.1 (lowS h1.2) (s.d12 j i p r z z' hx gj), h1.2⟩
  · intro i i' r r' z' z'' gi gi' hne
    rcases cs i r z' gi with ⟨rfl, rfl, rfl⟩ | ⟨ne, gj⟩
    · rcases cs i' r' z'' gi' with ⟨e, _, _⟩ | ⟨ne', gj'⟩
      · exact absurd e.symm hne
      · exact d1new (up (belowS _ _ _ gj').1) (s.d11 _ _ _ _ _ _ hx gj' hne)
    · rcases cs i' r' z'' gi' with ⟨rfl, rfl, rfl⟩ | ⟨_, gj'⟩
      · exact (d1new (up (belowS _ _ _ gj).1) (s.d11 _ _ _ _ _ _ hx gj (fun e => hne e.symm))).symm
      · exact s.d11 _ _ _ _ _ _ gj gj' hne
  · intro i i' r r' z' z'' gi gi'
    rcases cs i r z' gi with ⟨rfl, rfl, rfl⟩ | ⟨ne, gj⟩
    · rcases cs i' r' z'' gi' with ⟨rfl, rfl, rfl⟩ | ⟨ne', gj'⟩
      · exact d1new ba2 (d2new bl1 (s.d12 _ _ _ _ _ _ hx hx).symm).symm
      · exact d1new (up (belowS _ _ _ gj').2) (s.d12 _ _ _ _ _ _ hx gj')
    · rcases cs i' r' z'' gi' with ⟨rfl, rfl, rfl⟩ | ⟨_, gj'⟩
      · exact (d2new (belowS _ _ _ gj).1 (s.d12 _ _ _ _ _ _ gj hx).symm).symm
      · exact s.d12 _ _ _ _ _ _ gj gj'
  · intro i r z' gi
    rcases cs i r z' gi with ⟨rfl, rfl, rfl⟩ | ⟨ne, gj⟩
    · refine ⟨(d1new baw aw1).symm, ?_⟩
      rcases qd with e | qd
      · show Dj aw' a2'
        rw [e]
        exact dnew (belowS _ _ _ hx).2 dwz.2
      · exact qd
    · exact ⟨dnew (belowS _ _ _ gj).1 (s.dw1 _ _ _ gj).1, dnew (belowS _ _ _ gj).2 (s.dw1 _ _ _ gj).2⟩
/-- A word is stored, by both. -/
theorem HS.store (s : HS H l0 lo b pw pb bx n K m mr w aw ab ao ap L) {m' : MV} {w' : List (BitVec 64)} (c1 : Clean m' w') (hw : w'.length = n) {bw : Nat} (ew : aw = some ⟨bw, 0, none⟩) (hb : H.length ≤ bw) :
    HS H l0 lo b pw pb bx n ((memPut K b pw pb m').set bw (.row false 1 (w'.map w64))) m' (mr.setw w') w' aw ab ao ap L := by
  obtain ⟨l1, l2, l3, l4, l5, l6, l7, l8, n1, n2, n3⟩ := s.lb
  obtain ⟨bw', e1, e2⟩ := s.ws
  rw [ew] at e1
  cases e1
  have h2 := s.h2
  have h3 := s.h3
  have ob : bw ≠ b := fun e => s.fw.b _ ew e
  have opw : bw ≠ pw := fun e => s.fw.pw _ ew e
  have opb : bw ≠ pb := fun e => s.fw.pb _ ew e
  have obx : bw ≠ bx := fun e => s.fw.bx _ ew e
  have lbw := (List.getElem?_eq_some_iff.1 e2).1
  have pre : ∀ i, i ≠ b → i ≠ pw → i ≠ pb → i ≠ bw → ((memPut K b pw pb m').set bw (.row false 1 (w'.map w64)))[i]? = K[i]? := fun i a c d e => by
    rw [get_set_ne (Ne.symm e), memPut_get _ (Ne.symm a) (Ne.symm c) (Ne.symm d)]
  have thr : ∀ {es : Nat} {a : Option Addr} {c : List Value}, Sl es K a c → Off4 b pw pb bx a → Dj aw a → Sl es ((memPut K b pw pb m').set bw (.row false 1 (w'.map w64))) a c := fun h f d =>
    sl_same h fun y hy => pre _ (f.b y hy) (f.pw y hy) (f.pb y hy) (d _ ew y hy)
  have thrO : ∀ {es l : Nat} {a : Option Addr} {c : List Value}, Own es K l a c → Off4 b pw pb bx a → Dj aw a → Own es ((memPut K b pw pb m').set bw (.row false 1 (w'.map w64))) l a c := fun h f d =>
    own_same h fun q hq _ => pre _ (f.b _ hq) (f.pw _ hq) (f.pb _ hq) (d _ ew _ hq)
  have hm1 : m'.w.length = m.w.length := by rw [c1.ws, s.cl.ws, hw, s.wl]
  have hm2 : m'.bar.length = m.w.length := by rw [c1.len, hw, s.cl.ws, s.wl]
  have offp : Off4 b pw pb bx ap := Off4.of s.ptrs.fresh (by omega) (by omega) (by omega) (by omega)
  have offo : Off4 b pw pb bx ao := Off4.of s.own.fresh (by omega) (by omega) (by omega) (by omega)
  have dwo : Dj aw ao := fun x hx => by
    rw [ew] at hx
    cases hx
    exact off_row e2 s.own (by decide)
  have lowS : ∀ {a : Option Addr}, Fresh lo a → Off4 b pw pb bx a := fun h => Off4.of h (by omega) (by omega) (by omega) (by omega)
  refine ⟨keep_set (keep_mem s.keep l1 l2 l3) hb _, by rw [List.length_set, memPut_len]; exact h2, h3, (s.mem.put hm1 hm2).set_off ob opw opb _, s.lb, c1, ⟨rfl, s.clr.bar, by show mr.bar.length = _; rw [hw, s.clr.len, s.wl], by have := s.n0; omega, by have := s.nle; omega, s.clr.trap, s.clr.fell⟩, hw, s.n0, s.nle, ⟨bw, ew, get_set_eq (by rw [memPut_len]; exact lbw) _⟩, thr s.bs s.fb s.dwb, s.fw, s.fb, ?_, thrO s.ptrs offp s.dwp, thrO s.own offo dwo, ?_, s.inj, ?_, ?_, s.bp, s.bb, s.d11, s.d12, s.dw1, s.dwp, s.dwb⟩
  · rw [pre bx n1 n2 n3 obx.symm]
    exact s.box
  · intro j q z g
    obtain ⟨o1, o2, o3⟩ := s.obj j q z g
    refine ⟨o1, o2, ?_⟩
    rw [pre q (by omega) (by omega) (by omega) ?_]
    · exact o3
    · rintro rfl
      rw [e2] at o3
      cases o3
  · intro j q z g
    exact thrO (s.s1 j q z g) (lowS (s.s1 j q z g).fresh) (s.dw1 j q z g).1
  · intro j q z g
    exact ⟨thr (s.s2 j q z g).1 (lowS (s.s2 j q z g).2) (s.dw1 j q z g).2, (s.s2 j q z g).2⟩
/-- All are begun. -/
theorem BI.alls {H1 : LHeap} (s : BI HZ.row HZ.cells 9 H1 K ap ao L) {H0 : LHeap} (keep : ∃ t, H1 = H0 ++ t) (hl : l0 ≤ H1.length) (mem : MemAt H1 b pw pb m) (lb : Lay l0 b pw pb bx H0.length) (cl : Clean m w) (clr : Clean mr w) (wl : w.length = n) (n0 : 0 < n) (nle : n ≤ 65536)
    (ws : ∃ bw, aw = some ⟨bw, 0, none⟩ ∧ H1[bw]? = some (.row false 1 (mr.w.map w64))) (bs : Sl 1 H1 ab (mr.bar.map Value.bool)) (fw : Off4 b pw pb bx aw) (fb : Off4 b pw pb bx ab) (box : H1[bx]? = some (xrow aw ab n mr)) (dwb : Dj aw ab)
    (hz : ∀ (j q : Nat) (z : HZ), L[j]? = some (q, z) → z.a1 = none ∧ z.a2 = none ∧ z.x.met = [] ∧ z.y.met = []) :
    HS H0 l0 K.length b pw pb bx n K m mr w aw ab ao ap L := by
  obtain ⟨t, rfl⟩ := keep
  obtain ⟨u, hu⟩ := s.keep
  have e : K = H0 ++ (t ++ u) := by rw [hu, List.append_assoc]
  have hlen := s.len
  obtain ⟨bw, ew, wr⟩ := ws
  have hbw := (List.getElem?_eq_some_iff.1 wr).1
  have hbab : Below K.length ab := fun x hx => Nat.lt_of_lt_of_le (sl_below bs x hx) hlen
  refine ⟨⟨_, e⟩, Nat.le_refl _, by omega, by rw [hu]; exact mem.app u, lb, cl, clr, wl, n0, nle, ⟨bw, ew, by rw [hu]; exact get_old wr u⟩, by rw [hu]; exact bs.app u, fw, fb, by rw [hu]; exact get_old box u, own_mono s.ops.own hl, own_mono s.own hl, ?_, ?_, ?_, ?_, own_below s.ops.own, hbab, ?_, ?_, ?_, ?_, dwb⟩
  · intro j q z g
    have h := s.ops.ops.at_ j q z (map_some_get.2 g)
    exact ⟨by omega, (List.getElem?_eq_some_iff.1 h.2).1, h.2⟩
  · intro i j q z z' g g'
    exact s.ops.ops.ne i j q z z' (map_some_get.2 g) (map_some_get.2 g')
  · intro j q z g
    obtain ⟨h1, h2, h3, h4⟩ := hz j q z g
    rw [h1, h3]
    exact Own.nil _ _ _
  · intro j q z g
    obtain ⟨h1, h2, h3, h4⟩ := hz j q z g
    rw [h2, h4]
    exact ⟨Sl.nil _ _, Fresh.nil _⟩
  · intro i j q q' z z' g g' _
    rw [(hz i q z g).1]
    exact Dj.nil _
  · intro i j q q' z z' g g'
    rw [(hz i q z g).1]
    exact Dj.nil _
  · intro j q z g
    rw [(hz j q z g).1, (hz j q z g).2.1]
    exact ⟨(Dj.nil _).symm, (Dj.nil _).symm⟩
  · intro x hx y hy e
    rw [ew] at hx
    cases hx
    have := s.ops.own.fresh y hy
    simp only at e
    omega
theorem HS.read (s : HS H l0 lo b pw pb bx n K m mr w aw ab ao ap L) {j p : Nat} {z : HZ} (hj : L[j]? = some (p, z)) :
    ∃ bp bo, ap = some ⟨bp, 0, none⟩ ∧ ao = some ⟨bo, 0, none⟩ ∧ (∀ t, lget (K ++ t) bp j = some (ptr p)) ∧ (∀ t, lcells (K ++ t) bo (j * 9) 9 = some z.cells) ∧ (∀ t i, i < 9 → lget (K ++ t) bo (j * 9 + i) = z.cells[i]?) ∧ (∀ t, (K ++ t)[p]? = some z.row) := by
  have hjl : j < L.length := (List.getElem?_eq_some_iff.1 hj).1
  obtain ⟨bp, e1, _, _, g1⟩ := s.ptrs.has (by simp; omega)
  obtain ⟨bo, e2, _, _, g2⟩ := s.own.has (by rw [flat_len (f := fun z : Nat × HZ => z.2.cells) (k := 9) (fun z => hcell9 z.2)]; omega)
  have s1 := s.ptrs.sl
  rw [e1] at s1
  obtain ⟨_, _, q1, _, r1⟩ := s1.all (by simp; omega)
  cases q1
  have s2 := s.own.sl
  rw [e2] at s2
  obtain ⟨_, _, q2, _, r2, r3⟩ := s2.rowsAt (f := fun z : Nat × HZ => z.2.cells) (m := 9) (fun z => hcell9 z.2) (by decide) (by omega)
  cases q2
  refine ⟨bp, bo, e1, e2, fun t => ?_, fun t => ?_, fun t i hi => ?_, fun t => get_old (s.obj j p z hj).2.2 t⟩
  · have := r1 t j (ptr p) (by simp [hj])
    rwa [Nat.zero_add] at this
  · have := r2 t j _ hj
    rwa [Nat.zero_add] at this
  · have := r3 t j _ i hj hi
    rwa [Nat.zero_add] at this
end
end Go.Proofs.Ytcogpinognopcaa
