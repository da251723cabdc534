/- DROP A memory of words, as the logical machine has it: its words, which are barred, its counts and its trap. -/
import Derived.Test.YtcogpinognopcaaS0
namespace Go.Proofs.Ytcogpinognopcaa
open Go Go.LK
set_option linter.unusedSimpArgs false
set_option linter.unusedVariables false
abbrev i64 (n : Int) : Value := .int .i64 n
structure MV where
  w : List (BitVec 64)
  bar : List Bool
  c0 : Int
  c1 : Int
  c2 : Int
  c3 : Int
  c4 : Int
  c5 : Int
  trap : Int
  fell : Bool
def mcells (a b : Option Addr) (n : Nat) (m : MV) : List Value :=
  [.slice a n n, .slice b n n, i64 m.c0, i64 m.c1, i64 m.c2, i64 m.c3, i64 m.c4, i64 m.c5, i64 m.trap, .bool m.fell]
abbrev mrow (pw pb : Nat) (m : MV) : LObj := .row false 0 (mcells (some ⟨pw, 0, none⟩) (some ⟨pb, 0, none⟩) m.w.length m)
abbrev wrow (m : MV) : LObj := .row false 1 (m.w.map w64)
abbrev brow (m : MV) : LObj := .row false 1 (m.bar.map Value.bool)
structure MemAt (H : LHeap) (b pw pb : Nat) (m : MV) : Prop where
  row : H[b]? = some (mrow pw pb m)
  ws : H[pw]? = some (wrow m)
  bs : H[pb]? = some (brow m)
  len : m.bar.length = m.w.length
  pos : 0 < m.w.length
  le : m.w.length ≤ 65536
  n1 : b ≠ pw
  n2 : b ≠ pb
  n3 : pw ≠ pb
def memPut (H : LHeap) (b pw pb : Nat) (m : MV) : LHeap := ((H.set b (mrow pw pb m)).set pw (wrow m)).set pb (brow m)
theorem MemAt.app {H : LHeap} {b pw pb : Nat} {m : MV} (h : MemAt H b pw pb m) (t : LHeap) : MemAt (H ++ t) b pw pb m :=
  ⟨get_old h.row t, get_old h.ws t, get_old h.bs t, h.len, h.pos, h.le, h.n1, h.n2, h.n3⟩
theorem MemAt.lb {H : LHeap} {b pw pb : Nat} {m : MV} (h : MemAt H b pw pb m) : b < H.length ∧ pw < H.length ∧ pb < H.length :=
  ⟨(List.getElem?_eq_some_iff.1 h.row).1, (List.getElem?_eq_some_iff.1 h.ws).1, (List.getElem?_eq_some_iff.1 h.bs).1⟩
theorem memPut_len (H : LHeap) (b pw pb : Nat) (m : MV) : (memPut H b pw pb m).length = H.length := by simp [memPut]
theorem MemAt.put {H : LHeap} {b pw pb : Nat} {m m' : MV} (h : MemAt H b pw pb m) (hw : m'.w.length = m.w.length) (hb : m'.bar.length = m.w.length) : MemAt (memPut H b pw pb m') b pw pb m' := by
  obtain ⟨l1, l2, l3⟩ := h.lb
  refine ⟨?_, ?_, ?_, by rw [hb, hw], by rw [hw]; exact h.pos, by rw [hw]; exact h.le, h.n1, h.n2, h.n3⟩
  · rw [memPut, get_set_ne h.n2.symm, get_set_ne h.n1.symm, get_set_eq l1]
  · rw [memPut, get_set_ne h.n3.symm, get_set_eq (by simpa using l2)]
  · rw [memPut, get_set_eq (by simpa using l3)]
theorem memPut_get {H : LHeap} {b pw pb c : Nat} (m : MV) (h1 : b ≠ c) (h2 : pw ≠ c) (h3 : pb ≠ c) : (memPut H b pw pb m)[c]? = H[c]? := by
  rw [memPut, get_set_ne h3, get_set_ne h2, get_set_ne h1]
theorem memPut_app {H : LHeap} {b pw pb : Nat} {m : MV} (h : MemAt H b pw pb m) (m' : MV) (t : LHeap) : memPut (H ++ t) b pw pb m' = memPut H b pw pb m' ++ t := by
  obtain ⟨l1, l2, l3⟩ := h.lb
  rw [memPut, memPut, set_left l1, set_left (by simpa using l2), set_left (by simpa using l3)]
/-- Only what stands beside the words and the bars was turned. -/
theorem memPut_row {H : LHeap} {b pw pb : Nat} {m m' : MV} (h : MemAt H b pw pb m) (hw : m'.w = m.w) (hb : m'.bar = m.bar) : memPut H b pw pb m' = H.set b (mrow pw pb m') := by
  have e1 : (H.set b (mrow pw pb m')).set pw (wrow m') = H.set b (mrow pw pb m') := set_same (by rw [get_set_ne h.n1, h.ws, wrow, wrow, hw])
  have e2 : (H.set b (mrow pw pb m')).set pb (brow m') = H.set b (mrow pw pb m') := set_same (by rw [get_set_ne h.n2, h.bs, brow, brow, hb])
  rw [memPut, e1, e2]
theorem memPut_words {H : LHeap} {b pw pb : Nat} {m m' : MV} (h : MemAt H b pw pb m) (hb : m'.bar = m.bar) : memPut H b pw pb m' = (H.set b (mrow pw pb m')).set pw (wrow m') := by
  have e2 : ((H.set b (mrow pw pb m')).set pw (wrow m')).set pb (brow m') = (H.set b (mrow pw pb m')).set pw (wrow m') :=
    set_same (by rw [get_set_ne h.n3, get_set_ne h.n2, h.bs, brow, brow, hb])
  rw [memPut, e2]
theorem memPut_same {H : LHeap} {b pw pb : Nat} {m : MV} (h : MemAt H b pw pb m) : memPut H b pw pb m = H := by
  rw [memPut_row h rfl rfl, set_same h.row]
theorem memPut_put {H : LHeap} {b pw pb : Nat} {m : MV} (h : MemAt H b pw pb m) (m' m'' : MV) : memPut (memPut H b pw pb m') b pw pb m'' = memPut H b pw pb m'' := by
  apply List.ext_getElem?
  intro j
  obtain ⟨l1, l2, l3⟩ := h.lb
  simp only [memPut, List.getElem?_set, List.length_set]
  split
  · rfl
  · split
    · rfl
    · split
      · rfl
      · rfl
/-! ### what the steps do -/
def up (n : Int) : Int := IntKind.i64.wrap (n + 1)
def MV.tick (m : MV) : Nat → MV
  | 0 => { m with c0 := up m.c0 }
  | 1 => { m with c1 := up m.c1 }
  | 2 => { m with c2 := up m.c2 }
  | 3 => { m with c3 := up m.c3 }
  | 4 => { m with c4 := up m.c4 }
  | _ => { m with c5 := up m.c5 }
def MV.bad (m : MV) (a : Int) : Bool := decide (a < 0) || decide ((m.w.length : Int) ≤ a) || m.bar.getD a.toNat false
def MV.at (m : MV) (a : Int) : BitVec 64 := m.w.getD a.toNat 0
def MV.fall (m : MV) (a : Int) : MV := if m.fell then m else { m with trap := a, fell := true }
def MV.setw (m : MV) (w : List (BitVec 64)) : MV := { m with w := w }
def MV.use (m : MV) (k : Nat) (a : Int) (f : BitVec 64 → BitVec 64) : MV :=
  if m.bad a then (m.tick k).fall a else (m.tick k).setw (m.w.set a.toNat (f (m.at a)))
def MV.load (m : MV) (a : Int) : BitVec 64 := if m.bad a then 0#64 else m.at a
def MV.swaps (m : MV) (a : Int) (was : BitVec 64) : Bool := !m.bad a && (m.at a == was)
def MV.pairs (m : MV) (a : Int) (x y : BitVec 64) : Bool := !m.bad a && decide (a.tmod 2 = 0) && !m.bad (a + 1) && (m.at a == x) && (m.at (a + 1) == y)
def MV.pair (m : MV) (a : Int) (x y p q : BitVec 64) : MV :=
  if m.bad a = true ∨ a.tmod 2 ≠ 0 then (m.tick 5).fall a
  else if m.bad (a + 1) then (m.tick 5).fall (a + 1)
  else if m.at a = x ∧ m.at (a + 1) = y then (m.tick 5).setw ((m.w.set a.toNat p).set (a + 1).toNat q) else m.tick 5
theorem MV.tick_w (m : MV) (k : Nat) : (m.tick k).w = m.w ∧ (m.tick k).bar = m.bar ∧ (m.tick k).fell = m.fell ∧ (m.tick k).trap = m.trap := by
  unfold MV.tick; split <;> exact ⟨rfl, rfl, rfl, rfl⟩
theorem MV.tick_ws (m : MV) (k : Nat) : (m.tick k).w = m.w := (m.tick_w k).1
theorem MV.tick_bar (m : MV) (k : Nat) : (m.tick k).bar = m.bar := (m.tick_w k).2.1
theorem MV.fall_w (m : MV) (a : Int) : (m.fall a).w = m.w ∧ (m.fall a).bar = m.bar := by
  unfold MV.fall; split <;> exact ⟨rfl, rfl⟩
theorem MV.use_len (m : MV) (k : Nat) (a : Int) (f : BitVec 64 → BitVec 64) : (m.use k a f).w.length = m.w.length ∧ (m.use k a f).bar = m.bar := by
  unfold MV.use
  split
  · rw [(MV.fall_w _ _).1, (MV.fall_w _ _).2, (MV.tick_w _ _).1, (MV.tick_w _ _).2.1]; exact ⟨rfl, rfl⟩
  · exact ⟨by simp [MV.setw], (MV.tick_w m k).2.1⟩
theorem MV.pair_len (m : MV) (a : Int) (x y p q : BitVec 64) : (m.pair a x y p q).w.length = m.w.length ∧ (m.pair a x y p q).bar = m.bar := by
  unfold MV.pair
  split
  · rw [(MV.fall_w _ _).1, (MV.fall_w _ _).2, (MV.tick_w _ _).1, (MV.tick_w _ _).2.1]; exact ⟨rfl, rfl⟩
  · split
    · rw [(MV.fall_w _ _).1, (MV.fall_w _ _).2, (MV.tick_w _ _).1, (MV.tick_w _ _).2.1]; exact ⟨rfl, rfl⟩
    · split
      · exact ⟨by simp [MV.setw], (MV.tick_w m 5).2.1⟩
      · rw [(MV.tick_w _ _).1, (MV.tick_w _ _).2.1]; exact ⟨rfl, rfl⟩
theorem MV.bad_false {m : MV} {a : Int} (h : m.bad a = false) : 0 ≤ a ∧ a < m.w.length ∧ m.bar.getD a.toNat false = false := by
  simp only [MV.bad, Bool.or_eq_false_iff, decide_eq_false_iff_not] at h
  exact ⟨by omega, by omega, h.2⟩
theorem MV.at_get {m : MV} {a : Int} (h : m.bad a = false) : (m.w.map w64)[a.toNat]? = some (w64 (m.at a)) := by
  obtain ⟨h1, h2, _⟩ := MV.bad_false h
  have : a.toNat < m.w.length := by omega
  simp [MV.at, List.getElem?_eq_getElem this, List.getD]
theorem MV.bad_tick (m : MV) (k : Nat) (a : Int) : (m.tick k).bad a = m.bad a := by
  simp only [MV.bad, (MV.tick_w m k).1, (MV.tick_w m k).2.1]
theorem MV.at_tick (m : MV) (k : Nat) (a : Int) : (m.tick k).at a = m.at a := by
  simp only [MV.at, (MV.tick_w m k).1]
theorem MV.set_at {m : MV} {a : Int} (h : m.bad a = false) : m.w.set a.toNat (m.at a) = m.w := by
  obtain ⟨h1, h2, _⟩ := MV.bad_false h
  apply List.ext_getElem?
  intro j
  have h3 : a.toNat < m.w.length := by omega
  by_cases e : a.toNat = j
  · subst e
    rw [List.getElem?_set_self h3, MV.at, List.getD, List.getElem?_eq_getElem h3]; rfl
  · rw [List.getElem?_set_ne e]
theorem MV.use_bad {m : MV} {k : Nat} {a : Int} {f : BitVec 64 → BitVec 64} (h : m.bad a = true) : m.use k a f = (m.tick k).fall a := by simp [MV.use, h]
theorem MV.use_ok {m : MV} {k : Nat} {a : Int} {f : BitVec 64 → BitVec 64} (h : m.bad a = false) : m.use k a f = (m.tick k).setw (m.w.set a.toNat (f (m.at a))) := by simp [MV.use, h]
theorem MemAt.row' {H : LHeap} {b pw pb : Nat} {m : MV} (h : MemAt H b pw pb m) (m' : MV) (hw : m'.w = m.w) (hb : m'.bar = m.bar) : MemAt (H.set b (mrow pw pb m')) b pw pb m' := by
  rw [← memPut_row h hw hb]
  exact h.put (by rw [hw]) (by rw [hb, h.len])
theorem memPut_set (H : LHeap) (b pw pb : Nat) (x : LObj) (m : MV) : memPut (H.set b x) b pw pb m = memPut H b pw pb m := by
  simp only [memPut, List.set_set]
theorem memPut_tick {H : LHeap} {b pw pb : Nat} {m : MV} (h : MemAt H b pw pb m) (k : Nat) : memPut H b pw pb (m.tick k) = H.set b (mrow pw pb (m.tick k)) :=
  memPut_row h (MV.tick_ws m k) (MV.tick_bar m k)
theorem memPut_setw {H : LHeap} {b pw pb : Nat} {m : MV} (h : MemAt H b pw pb m) (k : Nat) {w : List (BitVec 64)} (hw : w.length = m.w.length) :
    memPut H b pw pb ((m.tick k).setw w) = (H.set b (mrow pw pb (m.tick k))).set pw (.row false 1 (w.map w64)) := by
  rw [memPut_words h (show ((m.tick k).setw w).bar = m.bar from MV.tick_bar m k)]
  have e : mrow pw pb ((m.tick k).setw w) = mrow pw pb (m.tick k) := by
    show LObj.row false 0 (mcells _ _ w.length ((m.tick k).setw w)) = LObj.row false 0 (mcells _ _ (m.tick k).w.length (m.tick k))
    rw [hw, MV.tick_ws]; rfl
  rw [e]; rfl
theorem MV.use_id {m : MV} {k : Nat} {a : Int} (h : m.bad a = false) : m.use k a id = m.tick k := by
  rw [MV.use_ok h, id_eq, MV.set_at h]
  show { m.tick k with w := m.w } = m.tick k
  rw [← MV.tick_ws m k]
/-- A part of a list, all of one value. -/
def setR {α : Type} (l : List α) (a n : Nat) (v : α) : List α := l.take a ++ List.replicate n v ++ l.drop (a + n)
theorem setR_len {α : Type} {l : List α} {a n : Nat} {v : α} (h : a + n ≤ l.length) : (setR l a n v).length = l.length := by
  simp [setR]; omega
theorem setR_zero {α : Type} (l : List α) (a : Nat) (v : α) : setR l a 0 v = l := by simp [setR]
theorem setR_get {α : Type} {l : List α} {a n : Nat} {v : α} (h : a + n ≤ l.length) (j : Nat) : (setR l a n v)[j]? = if a ≤ j ∧ j < a + n then some v else l[j]? := by
  rw [setR, List.append_assoc]
  by_cases h1 : j < a
  · rw [List.getElem?_append_left (by simp; omega), List.getElem?_take_of_lt h1, if_neg (by omega)]
  · rw [List.getElem?_append_right (by simp; omega)]
    have e : (l.take a).length = a := by simp; omega
    rw [e]
    by_cases h2 : j < a + n
    · rw [List.getElem?_append_left (by simp; omega), if_pos (by omega), List.getElem?_replicate, if_pos (by omega)]
    · rw [List.getElem?_append_right (by simp; omega), if_neg (by omega), List.length_replicate, List.getElem?_drop]
      congr 1; omega
theorem setR_succ {α : Type} {l : List α} {a n : Nat} {v : α} (h : a + n < l.length) : (setR l a n v).set (a + n) v = setR l a (n + 1) v := by
  apply List.ext_getElem?
  intro j
  rw [setR_get (by omega)]
  by_cases e : a + n = j
  · subst e
    rw [List.getElem?_set_self (by rw [setR_len (by omega)]; exact h), if_pos (by omega)]
  · rw [List.getElem?_set_ne e, setR_get (by omega)]
    by_cases h2 : a ≤ j ∧ j < a + n
    · rw [if_pos h2, if_pos (by omega)]
    · rw [if_neg h2, if_neg (by omega)]
theorem setR_map {α β : Type} (f : α → β) (l : List α) (a n : Nat) (v : α) : (setR l a n v).map f = setR (l.map f) a n (f v) := by
  simp [setR, List.map_take, List.map_drop]
def MV.setb (m : MV) (b : List Bool) : MV := { m with bar := b }
theorem memPut_bars {H : LHeap} {b pw pb : Nat} {m : MV} (h : MemAt H b pw pb m) (B : List Bool) : memPut H b pw pb (m.setb B) = H.set pb (.row false 1 (B.map Value.bool)) := by
  have e1 : H.set b (mrow pw pb (m.setb B)) = H := set_same h.row
  have e2 : H.set pw (wrow (m.setb B)) = H := set_same h.ws
  rw [memPut, e1, e2]; rfl
def MV.may (m : MV) (a n : Int) : Int := if n < 1 then 2 else if a < 0 then 2 else if (m.w.length : Int) ≤ a then 2 else if m.w.length - a < n then 2 else 0
def MV.bars (m : MV) (a n : Int) (v : Bool) : MV := if m.may a n = 0 then m.setb (setR m.bar a.toNat n.toNat v) else m
def MV.free (m : MV) (a n : Int) : MV := if m.may a n = 0 then (m.setb (setR m.bar a.toNat n.toNat false)).setw (setR m.w a.toNat n.toNat 0#64) else m
theorem MV.may_ok {m : MV} {a n : Int} (h : m.may a n = 0) : 1 ≤ n ∧ 0 ≤ a ∧ a < m.w.length ∧ a + n ≤ m.w.length := by
  unfold MV.may at h
  split at h
  · omega
  · split at h
    · omega
    · split at h
      · omega
      · split at h
        · omega
        · omega
theorem memPut_free {H : LHeap} {b pw pb : Nat} {m : MV} (h : MemAt H b pw pb m) (B : List Bool) {w : List (BitVec 64)} (hw : w.length = m.w.length) :
    memPut H b pw pb ((m.setb B).setw w) = (H.set pb (.row false 1 (B.map Value.bool))).set pw (.row false 1 (w.map w64)) := by
  have e0 : mrow pw pb ((m.setb B).setw w) = mrow pw pb m := by
    show LObj.row false 0 (mcells _ _ w.length m) = LObj.row false 0 (mcells _ _ m.w.length m)
    rw [hw]
  have e1 : H.set b (mrow pw pb ((m.setb B).setw w)) = H := by rw [e0]; exact set_same h.row
  rw [memPut, e1]
  exact List.set_comm _ _ h.n3
def MV.peek (m : MV) (a n : Int) : List (BitVec 64) :=
  if a < 0 then [] else if n < 1 then [] else if (m.w.length : Int) ≤ a then [] else (m.w.drop a.toNat).take (min n (m.w.length - a)).toNat
def MV.new (n : Nat) : MV := ⟨List.replicate n 0#64, List.replicate n false, 0, 0, 0, 0, 0, 0, -1, false⟩
structure MV.Ok (m : MV) (n : Nat) : Prop where
  w : m.w.length = n
  b : m.bar.length = n
  pos : 0 < n
  le : n ≤ 65536
theorem MV.Ok.use {m : MV} {n : Nat} (h : m.Ok n) (k : Nat) (a : Int) (f : BitVec 64 → BitVec 64) : (m.use k a f).Ok n :=
  ⟨(MV.use_len m k a f).1.trans h.w, (congrArg List.length (MV.use_len m k a f).2).trans h.b, h.pos, h.le⟩
theorem MV.Ok.pair {m : MV} {n : Nat} (h : m.Ok n) (a : Int) (x y p q : BitVec 64) : (m.pair a x y p q).Ok n :=
  ⟨(MV.pair_len m a x y p q).1.trans h.w, (congrArg List.length (MV.pair_len m a x y p q).2).trans h.b, h.pos, h.le⟩
theorem MV.Ok.bars {m : MV} {n : Nat} (h : m.Ok n) (a k : Int) (v : Bool) : (m.bars a k v).Ok n := by
  unfold MV.bars
  split
  · rename_i hm
    obtain ⟨h1, h2, h3, h4⟩ := MV.may_ok hm
    have := h.w; have := h.b
    exact ⟨h.w, by show (setR _ _ _ _).length = n; rw [setR_len (by omega)]; exact h.b, h.pos, h.le⟩
  · exact h
theorem MV.Ok.free {m : MV} {n : Nat} (h : m.Ok n) (a k : Int) : (m.free a k).Ok n := by
  unfold MV.free
  split
  · rename_i hm
    obtain ⟨h1, h2, h3, h4⟩ := MV.may_ok hm
    have := h.w; have := h.b
    exact ⟨by show (setR _ _ _ _).length = n; rw [setR_len (by omega)]; exact h.w, by show (setR _ _ _ _).length = n; rw [setR_len (by omega)]; exact h.b, h.pos, h.le⟩
  · exact h
theorem MV.Ok.new {n : Nat} (h : 0 < n) (h2 : n ≤ 65536) : (MV.new n).Ok n := ⟨by simp [MV.new], by simp [MV.new], h, h2⟩
/-- A memory behind other blocks. -/
theorem mem_at {H pre t : LHeap} {m : MV} {n : Nat} (h : m.Ok n) :
    MemAt (H ++ (pre ++ wrow m :: brow m :: mrow (H.length + pre.length) (H.length + (pre.length + 1)) m :: t)) (H.length + (pre.length + 2)) (H.length + pre.length) (H.length + (pre.length + 1)) m := by
  have h1 := h.w; have h2 := h.b; have h3 := h.pos; have h4 := h.le
  refine ⟨?_, ?_, ?_, by omega, by omega, by omega, by omega, by omega, by omega⟩
  · rw [get_app, get_app]; rfl
  · rw [get_app, get_app0]; rfl
  · rw [get_app, get_app]; rfl
theorem mem_put {H pre t : LHeap} {m : MV} (m' : MV) :
    memPut (H ++ (pre ++ wrow m :: brow m :: mrow (H.length + pre.length) (H.length + (pre.length + 1)) m :: t)) (H.length + (pre.length + 2)) (H.length + pre.length) (H.length + (pre.length + 1)) m' =
      H ++ (pre ++ wrow m' :: brow m' :: mrow (H.length + pre.length) (H.length + (pre.length + 1)) m' :: t) := by
  simp only [memPut]
  rw [set_app, set_app, set_app, set_app, set_app0, set_app]
  rfl
theorem MV.bad_of {m : MV} {a : Int} {n : Nat} (h : m.Ok n) (h0 : 0 ≤ a) (h1 : a < n) (hb : ∀ x ∈ m.bar, x = false) : m.bad a = false := by
  have h2 := h.w; have h3 := h.b
  have h4 : a.toNat < m.bar.length := by omega
  have h5 : m.bar.getD a.toNat false = false := by
    simp only [List.getD, List.getElem?_eq_getElem h4, Option.getD_some]
    exact hb _ (List.getElem_mem h4)
  simp only [MV.bad, h5, Bool.or_false, Bool.or_eq_false_iff, decide_eq_false_iff_not]
  omega
end Go.Proofs.Ytcogpinognopcaa
