/- How a statement about the program follows from a run of the logical machine: arguments that came in, as blocks that are only read. -/
import Derived.Test.YtopjhhcncjleaaaLW
namespace Go.LK
open Go Go.RowKit
set_option linter.unusedVariables false
set_option linter.unusedSimpArgs false

/-- What came in: blocks that are only read. -/
structure Start (w : World) (i : Inj) (H : LHeap) : Prop where
  rel : Rel w.heap.size [] i H w
  ro : ∀ b p, i b = some p → p.ro = true
theorem Start.nil (w : World) : Start w (fun _ => none) [] :=
  ⟨⟨(fun b p h => by cases h), (Nat.le_refl _), (Nat.le_refl _), (fun b p o h => by cases h), (fun b p o h => by cases h), (fun b b' p p' o o' _ h => by cases h)⟩, (fun b p h => by cases h)⟩
theorem Start.fresh {w : World} {i : Inj} {H : LHeap} (h : Start w i H) : i H.length = none := by
  cases hb : i H.length with
  | none => rfl
  | some p => exact absurd (h.rel.bound _ _ hb) (Nat.lt_irrefl _)
/-- One more block that is only read. -/
theorem Start.row {w : World} {i : Inj} {H : LHeap} (h : Start w i H) {pb sh m : Nat} {c : List Value} {cs : Array Value} {e : TypeId} {fz : Nat × Nat}
    (hb : w.heap[pb]? = some (.cells cs e fz)) (hs : sh + c.length ≤ cs.size) (hc : ∀ k v, c[k]? = some v → cs[sh + k]? = some v) (hv : c.all scalar = true) :
    Start w (i.upd H.length ⟨pb, sh, c.length, m, true⟩) (H ++ [.row true m c]) := by
  have hfr := h.fresh
  have hle := Inj.le_upd (p := ⟨pb, sh, c.length, m, true⟩) hfr
  have hro : ∀ b p, (i.upd H.length ⟨pb, sh, c.length, m, true⟩) b = some p → p.ro = true := by
    intro b p hp
    by_cases hbl : b = H.length
    · subst hbl; rw [Inj.upd_self] at hp; cases hp; rfl
    · rw [Inj.upd_ne _ _ hbl] at hp; exact h.ro b p hp
  refine ⟨⟨?_, Nat.zero_le _, h.rel.base, ?_, ?_, ?_⟩, hro⟩
  · intro b p hp
    rw [List.length_append]
    by_cases hbl : b = H.length
    · subst hbl; simp
    · rw [Inj.upd_ne _ _ hbl] at hp
      exact Nat.lt_of_lt_of_le (h.rel.bound b p hp) (Nat.le_add_right _ _)
  · intro b p o hp ho
    by_cases hbl : b = H.length
    · subst hbl
      rw [Inj.upd_self] at hp; cases hp
      have : o = .row true m c := by simpa using ho.symm
      subst this
      refine ⟨rfl, rfl, cs, e, fz, hb, hs, Nat.le_refl _, ?_, fun q => by cases q⟩
      intro k v hk
      refine ⟨v, hc k v hk, VR.of_scalar _ ?_⟩
      exact (List.all_eq_true.1 hv) v (List.mem_of_getElem? hk)
    · rw [Inj.upd_ne _ _ hbl] at hp
      have hlt := h.rel.bound b p hp
      rw [List.getElem?_append_left hlt] at ho
      have := h.rel.holds b p o hp ho
      simp only [cutAt, List.foldr_nil] at this ⊢
      cases o with
      | row ro es c0 =>
        obtain ⟨h1, h2, cs0, e0, fz0, h3, h4, h5, h6, h7⟩ := this
        refine ⟨h1, h2, cs0, e0, fz0, h3, h4, h5, ?_, h7⟩
        intro k v hk
        obtain ⟨v', a, b⟩ := h6 k v hk
        exact ⟨v', a, b.mono hle⟩
      | map es => have h1 := this.1; rw [h.ro b p hp] at h1; cases h1
      | dead => trivial
  · intro b p o hp _ _ hr
    rw [hro b p hp] at hr; cases hr
  · intro b b' p p' o o' _ hp _ _ _ _ _ hr
    rw [hro b p hp] at hr; cases hr
/-- A slice that came in. -/
theorem Start.slice {w : World} {i : Inj} {H : LHeap} (h : Start w i H) {x : Addr} {n m cap : Nat} {c : List Value} {cs : Array Value} {e : TypeId} {fz : Nat × Nat}
    (hm : 0 < m) (hsp : x.spot = none) (hb : w.heap[x.block]? = some (.cells cs e fz)) (hn : n ≤ cap) (hl : c.length = n * m) (hc : ∀ k v, c[k]? = some v → cs[x.off + k]? = some v) (hv : c.all scalar = true) :
    ∃ p, Start w (i.upd H.length p) (H ++ [.row true m c]) ∧ VR (i.upd H.length p) (.slice (some ⟨H.length, 0, none⟩) n n) (.slice (some x) n cap) := by
  obtain ⟨xb, xo, xs⟩ := x
  simp only at hsp hb hc
  subst hsp
  by_cases hz : c = []
  · subst hz
    refine ⟨_, h.row (sh := 0) (m := m) hb (by simp) (fun k v q => by simp at q) rfl, ?_⟩
    have hn0 : n = 0 := by
      rcases Nat.mul_eq_zero.1 hl.symm with h | h
      · exact h
      · omega
    exact .slice _ 0 n n xo cap _ (Inj.upd_self _ _ _) (Nat.le_refl _) hn (Or.inr ⟨hn0, .inl rfl⟩) (fun q => by cases q)
  · refine ⟨_, h.row (sh := xo) (m := m) hb ?_ hc hv, ?_⟩
    · cases c with
      | nil => exact absurd rfl hz
      | cons v l =>
        have := hc l.length ((v :: l)[l.length]) (by simp)
        have := (Array.getElem?_eq_some_iff.1 this).1
        simp only [List.length_cons]; omega
    · exact .slice _ 0 n n xo cap _ (Inj.upd_self _ _ _) (Nat.le_refl _) hn (Or.inl rfl) (fun q => by cases q)
theorem Start.le {w : World} {i : Inj} {H : LHeap} (h : Start w i H) (p : Place) : i.le (i.upd H.length p) := Inj.le_upd h.fresh
/-- The statement's own end. -/
theorem law_of {P : Program} {T : FuncId → Option LFun} (hT : TableOk P T) {k : FuncId} {args : List Value} {args' : Array Value} {H : LHeap} {i : Inj} {w : World}
    (hS : Start w i H) (ha : VRs i args args'.toList) (hc : callE T k 0 args H fun v _ => v = .bool true) :
    Calls P k args' w fun e w' => e = .returned (.bool true) ∧ Below w.heap.size w w' := by
  obtain ⟨n, v, H', h1, rfl⟩ := hc
  refine Calls.mono ((calls_ok (B := w.heap.size) hT n k 0 args H _ H' h1 [] i w args' rfl hS.rel ha).2) ?_
  rintro e w' ⟨v', i', rfl, h2, h3, h4⟩
  refine ⟨?_, h4.below⟩
  rw [VR.scalar_eq h2 rfl]
/-- A slice's cells. -/
def Sl (m : Nat) (H : LHeap) (a : Option Addr) (c : List Value) : Prop :=
  (a = none ∧ c = []) ∨ ∃ b o ro es cc, a = some ⟨b, o, none⟩ ∧ H[b]? = some (.row ro es cc) ∧ o + c.length ≤ cc.length ∧ (cc.drop o).take c.length = c ∧ (ro = true ∨ es = m)
theorem Sl.nil (m : Nat) (H : LHeap) : Sl m H none [] := .inl ⟨rfl, rfl⟩
theorem Sl.row {m : Nat} {H : LHeap} {b : Nat} {ro : Bool} {c : List Value} (h : H[b]? = some (.row ro m c)) : Sl m H (some ⟨b, 0, none⟩) c :=
  .inr ⟨b, 0, ro, m, c, rfl, h, by omega, by simp, .inr rfl⟩
theorem Sl.app {m : Nat} {H : LHeap} {a : Option Addr} {c : List Value} (h : Sl m H a c) (l : LHeap) : Sl m (H ++ l) a c := by
  rcases h with h | ⟨b, o, ro, es, cc, h1, h2, h3⟩
  · exact .inl h
  · exact .inr ⟨b, o, ro, es, cc, h1, get_old h2 l, h3⟩
theorem Sl.src {H : LHeap} {a : Option Addr} {c : List Value} {m : Nat} (h : Sl m H a c) {n cap : Nat} (hm : 0 < m) (hn : c.length = n * m) : lsrc H m (.slice a n cap) = some (c, n) := by
  rcases h with ⟨rfl, rfl⟩ | ⟨b, o, ro, es, cc, rfl, h2, h3, h4, h5⟩
  · have : n = 0 := by
      rcases Nat.mul_eq_zero.1 hn.symm with h | h
      · exact h
      · omega
    subst this; rfl
  · simp only [lsrc, lcells, h2, ← hn, h3, if_true, Option.map_some, h4]
theorem Sl.get {H : LHeap} {b o : Nat} {cc c : List Value} {es : Nat} {ro : Bool} (h2 : H[b]? = some (.row ro es cc)) (h4 : (cc.drop o).take c.length = c) (l : LHeap) {j : Nat} {v : Value} (hj : c[j]? = some v) : lget (H ++ l) b (o + j) = some v := by
  rw [lget, get_old h2 l]
  rw [← h4, List.getElem?_take] at hj
  split at hj
  · simpa [List.getElem?_drop] using hj
  · cases hj
/-- The whole of it, at any of its places at once. -/
theorem Sl.all {m : Nat} {H : LHeap} {a : Option Addr} {c : List Value} (h : Sl m H a c) (hc : 0 < c.length) : ∃ b o, a = some ⟨b, o, none⟩ ∧ b < H.length ∧ ∀ l j v, c[j]? = some v → lget (H ++ l) b (o + j) = some v := by
  rcases h with ⟨rfl, rfl⟩ | ⟨b, o, ro, es, cc, rfl, h2, h3, h4, h5⟩
  · simp at hc
  · exact ⟨b, o, rfl, (List.getElem?_eq_some_iff.1 h2).1, fun l j v hj => Sl.get h2 h4 l hj⟩
theorem Sl.sub {m : Nat} {H : LHeap} {a : Option Addr} {c : List Value} (h : Sl m H a c) {n cap lo hi : Nat} {lo' hi' : Int} (el : lo' = lo) (eh : hi' = hi) (hm : 0 < m) (hn : c.length = n * m) (h1 : lo ≤ hi) (h2 : hi ≤ n) (hcap : n ≤ cap) (h0 : 0 < n) :
    ∃ a', (∀ t, lslice (H ++ t) m (.slice a n cap) (some (.int .i64 lo')) (some (.int .i64 hi')) (some (.int .i64 hi')) = some (.slice a' (hi - lo) (hi - lo))) ∧ Sl m H a' ((c.drop (lo * m)).take ((hi - lo) * m)) := by
  subst el eh
  rcases h with ⟨rfl, rfl⟩ | ⟨b, o, ro, es, cc, rfl, g2, g3, g4, g5⟩
  · exact absurd (Nat.mul_eq_zero.1 hn.symm) (by omega)
  · refine ⟨some ⟨b, if lo = hi then o else o + lo * m, none⟩, fun t => ?_, ?_⟩
    · have e1 : (0 : Int) ≤ hi ∧ (hi : Int) ≤ cap := by omega
      have e2 : (0 : Int) ≤ hi ∧ (hi : Int) ≤ hi := by omega
      have e3 : (0 : Int) ≤ lo ∧ (lo : Int) ≤ hi := by omega
      simp only [lslice, lbound, e1, e2, e3, and_self, if_true, Int.toNat_natCast, get_old g2 t, Option.isSome_some, or_true, true_or, true_and, and_true, g5, h2, Nat.le_refl]
    · have hk : lo * m + (hi - lo) * m ≤ c.length := by
        rw [hn, ← Nat.add_mul]; exact Nat.mul_le_mul_right _ (by omega)
      by_cases he : lo = hi
      · subst he
        refine .inr ⟨b, o, ro, es, cc, by simp, g2, ?_, ?_, g5⟩
        · simp; omega
        · simp
      · refine .inr ⟨b, o + lo * m, ro, es, cc, by simp [he], g2, ?_, ?_, g5⟩
        · simp only [List.length_take, List.length_drop]; omega
        · have e : (c.drop (lo * m)).take ((hi - lo) * m) = (cc.drop (o + lo * m)).take ((hi - lo) * m) := by
            conv => lhs; rw [← g4]
            rw [List.drop_take, List.drop_drop, List.take_take]
            congr 1; omega
          have el : ((c.drop (lo * m)).take ((hi - lo) * m)).length = (hi - lo) * m := by simp only [List.length_take, List.length_drop]; omega
          rw [el, e]
/-- A heap without what stands in single boxes. -/
def unboxO : LObj → LObj
  | .row false 0 _ => .row false 0 []
  | o => o
def unbox (H : LHeap) : LHeap := H.map unboxO
theorem unbox_app (H l : LHeap) : unbox (H ++ l) = unbox H ++ unbox l := List.map_append
theorem unbox_cons (o : LObj) (l : LHeap) : unbox (o :: l) = unboxO o :: unbox l := rfl
theorem unbox_nil : unbox [] = [] := rfl
theorem unboxO_box (c : List Value) : unboxO (.row false 0 c) = .row false 0 [] := rfl
/-- Of a block from a number on. -/
def Fresh (n : Nat) (a : Option Addr) : Prop := ∀ x, a = some x → n ≤ x.block
/-- Not of a block. -/
def Off (b : Nat) (a : Option Addr) : Prop := ∀ x, a = some x → x.block ≠ b
theorem Fresh.nil (n : Nat) : Fresh n none := fun x h => by cases h
theorem Fresh.mono {n m : Nat} {a : Option Addr} (h : Fresh n a) (g : m ≤ n) : Fresh m a := fun x hx => Nat.le_trans g (h x hx)
theorem Fresh.mk {n b o : Nat} (h : n ≤ b) : Fresh n (some ⟨b, o, none⟩) := fun x hx => by cases hx; exact h
theorem Fresh.off {n b : Nat} {a : Option Addr} (h : Fresh n a) (g : b < n) : Off b a := fun x hx hb => by have := h x hx; omega
theorem Sl.set_off {m b : Nat} {H : LHeap} {a : Option Addr} {c : List Value} (h : Sl m H a c) (ho : Off b a) (o : LObj) : Sl m (H.set b o) a c := by
  rcases h with h | ⟨b', o', ro, es, cc, h1, h2, h3⟩
  · exact .inl h
  · refine .inr ⟨b', o', ro, es, cc, h1, ?_, h3⟩
    rw [List.getElem?_set_ne (fun q => ho _ h1 q.symm)]; exact h2
theorem Sl.off {m b : Nat} {H : LHeap} {a : Option Addr} {c : List Value} (h : Sl m H a c) (hb : H.length ≤ b) : Off b a := by
  rcases h with ⟨rfl, _⟩ | ⟨b', o', ro, es, cc, rfl, h2, h3⟩
  · intro x hx; cases hx
  · intro x hx q
    cases hx
    have := (List.getElem?_eq_some_iff.1 h2).1
    simp only at q
    omega
theorem unboxO_twice (o : LObj) : unboxO (unboxO o) = unboxO o := by
  cases o with
  | row r e c => cases r <;> cases e <;> rfl
  | map es => rfl
  | dead => rfl
theorem Sl.boxed {m : Nat} {H H' : LHeap} {a : Option Addr} {c : List Value} (h : Sl m H a c) (hm : 0 < m) (hu : unbox H = unbox H') : Sl m H' a c := by
  rcases h with h | ⟨b, o, ro, es, cc, h1, h2, h3, h4, h5⟩
  · exact .inl h
  · refine .inr ⟨b, o, ro, es, cc, h1, ?_, h3, h4, h5⟩
    have e1 : (unbox H)[b]? = some (unboxO (.row ro es cc)) := by simp [unbox, h2]
    have e2 : unboxO (.row ro es cc) = .row ro es cc := by
      rcases h5 with rfl | rfl
      · rfl
      · cases es with
        | zero => omega
        | succ n => cases ro <;> rfl
    rw [hu, e2] at e1
    simp only [unbox, List.getElem?_map, Option.map_eq_some_iff] at e1
    obtain ⟨x, hx, hy⟩ := e1
    rw [hx]
    cases x with
    | map es => simp [unboxO] at hy
    | dead => simp [unboxO] at hy
    | row r e q =>
      cases r with
      | true => simp only [unboxO] at hy; rw [hy]
      | false =>
        cases e with
        | zero =>
          simp only [unboxO, LObj.row.injEq] at hy
          obtain ⟨rfl, rfl, rfl⟩ := hy
          rcases h5 with h5 | h5
          · cases h5
          · omega
        | succ n => simp only [unboxO] at hy; rw [hy]
theorem Sl.into {m : Nat} {H H' : LHeap} {a : Option Addr} {c : List Value} (h : Sl m H a c) (hm : 0 < m) (hu : unbox H <+: unbox H') : Sl m H' a c := by
  obtain ⟨t, ht⟩ := hu
  have h1 : Sl m (unbox H) a c := h.boxed hm (by simp [unbox, Function.comp_def, unboxO_twice])
  have h2 := h1.app t
  rw [ht] at h2
  exact h2.boxed hm (by simp [unbox, Function.comp_def, unboxO_twice])
theorem Sl.from {m : Nat} {H : LHeap} {a : Option Addr} {c : List Value} (h : Sl m H a c) {n lo : Nat} {lo' : Int} (el : lo' = lo) (hm : 0 < m) (hn : c.length = n * m) (h1 : lo ≤ n) (h0 : 0 < n) :
    ∃ a', (∀ t, lslice (H ++ t) m (.slice a n n) (some (.int .i64 lo')) none none = some (.slice a' (n - lo) (n - lo))) ∧ Sl m H a' (c.drop (lo * m)) := by
  subst el
  rcases h with ⟨rfl, rfl⟩ | ⟨b, o, ro, es, cc, rfl, g2, g3, g4, g5⟩
  · exact absurd (Nat.mul_eq_zero.1 hn.symm) (by omega)
  · refine ⟨some ⟨b, if lo = n ∧ (ro = true ∨ false = true) then o else o + lo * m, none⟩, fun t => ?_, ?_⟩
    · have e3 : (0 : Int) ≤ lo ∧ (lo : Int) ≤ n := by omega
      simp only [lslice, lbound, e3, and_self, if_true, Int.toNat_natCast, get_old g2 t, Option.isSome_none, true_and, g5, Nat.le_refl]
    · have hk : lo * m ≤ n * m := Nat.mul_le_mul_right _ h1
      have hd : (c.drop (lo * m)).length = n * m - lo * m := by simp [hn]
      by_cases he : lo = n ∧ (ro = true ∨ false = true)
      · obtain ⟨rfl, _⟩ := he
        have e : c.drop (lo * m) = [] := List.drop_eq_nil_of_le (by omega)
        rw [e]
        exact .inr ⟨b, o, ro, es, cc, by simp_all, g2, by simp; omega, by simp, g5⟩
      · refine .inr ⟨b, o + lo * m, ro, es, cc, by rw [if_neg he], g2, by omega, ?_, g5⟩
        conv => rhs; rw [← g4]
        rw [hd, List.drop_take, List.drop_drop]
        congr 1; omega
theorem setMany_app : ∀ (vs p c : List Value) (o : Nat), o = p.length → setMany (p ++ c) o vs = p ++ setMany c 0 vs
  | [], p, c, o, h => rfl
  | v :: vs, p, [], o, h => by
    subst h
    rw [setMany, setMany]
    have e : (p ++ []).set p.length v = p ++ [] := List.set_eq_of_length_le (by simp)
    rw [e]
    have : ∀ (vs : List Value) (o : Nat) (p : List Value), p.length ≤ o → setMany p o vs = p := by
      intro vs
      induction vs with
      | nil => intro o p _; rfl
      | cons u us ih => intro o p ho; rw [setMany, List.set_eq_of_length_le ho]; exact ih _ _ (by omega)
    rw [this vs _ _ (by simp), this vs _ _ (by simp)]
    simp
  | v :: vs, p, x :: c, o, h => by
    subst h
    rw [setMany, setMany]
    have e : (p ++ x :: c).set p.length v = (p ++ [v]) ++ c := by simp
    rw [e, setMany_app vs (p ++ [v]) c _ (by simp), show (x :: c).set 0 v = [v] ++ c by rfl, setMany_app vs [v] c _ (by simp)]
    simp
theorem setMany_zero : ∀ (vs c : List Value), vs.length ≤ c.length → setMany c 0 vs = vs ++ c.drop vs.length
  | [], c, h => by simp [setMany]
  | v :: vs, [], h => by simp at h
  | v :: vs, x :: c, h => by
    rw [setMany, show (x :: c).set 0 v = [v] ++ c by rfl, setMany_app vs [v] c _ (by simp), setMany_zero vs c (by simpa using h)]
    simp
theorem setMany_eq (vs c : List Value) (o : Nat) (h : o + vs.length ≤ c.length) : setMany c o vs = c.take o ++ vs ++ c.drop (o + vs.length) := by
  have : setMany (c.take o ++ c.drop o) o vs = c.take o ++ setMany (c.drop o) 0 vs := setMany_app vs _ _ _ (by simp; omega)
  rw [List.take_append_drop] at this
  rw [this, setMany_zero vs _ (by simp; omega), List.drop_drop]
  simp
theorem ints_scalar (k : IntKind) (l : List Int) : (l.map (Value.int k)).all scalar = true := by simp [scalar]
theorem ints_one (k : IntKind) (l : List Int) : (l.map (Value.int k)).all Value.oneCell' = true := by simp [Value.oneCell']
theorem lsrc_new (H l : LHeap) (m k o n cap : Nat) : lsrc (H ++ l) m (.slice (some ⟨H.length + k, o, none⟩) n cap) = (lcells l k o (n * m)).map fun c => (c, n) := by
  simp only [lsrc, lcells_app]
theorem lsrc_new0 (H l : LHeap) (m o n cap : Nat) : lsrc (H ++ l) m (.slice (some ⟨H.length, o, none⟩) n cap) = (lcells l 0 o (n * m)).map fun c => (c, n) := by
  simp only [lsrc, lcells_app0]
theorem wrap_i64 {x : Int} (h1 : -9223372036854775808 ≤ x) (h2 : x ≤ 9223372036854775807) : IntKind.i64.wrap x = x := by
  unfold IntKind.wrap
  simp only [IntKind.bits, IntKind.signed, Bool.true_and, decide_eq_true_eq, ge_iff_le]
  have e1 : (2 ^ 64 : Int) = 18446744073709551616 := by decide
  have e2 : (2 ^ (64 - 1) : Int) = 9223372036854775808 := by decide
  rw [e1, e2]
  split <;> omega
theorem wrap_u64 {x : Int} (h1 : 0 ≤ x) (h2 : x ≤ 18446744073709551615) : IntKind.u64.wrap x = x := by
  unfold IntKind.wrap
  simp only [IntKind.bits, IntKind.signed, Bool.false_and, Bool.false_eq_true, if_false]
  omega
attribute [go_sem] Nat.le_add_right List.take_length Int.cast_ofNat_Int lsrc_new lsrc_new0 Nat.mul_one Nat.one_mul Nat.mod_one Int.toNat_natCast List.length_map List.length_range List.length_replicate List.map_const' List.getD_cons_zero Nat.min_self ints_scalar ints_one setMany_length
theorem cell_at {w : World} {y : Addr} {cs : Array Value} {el : TypeId} {fz : Nat × Nat} (hs : y.spot = none) (hb : w.heap[y.block]? = some (.cells cs el fz)) (j : Nat) : w.cell? (y.add j) = cs[y.off + j]? := by
  obtain ⟨b, o, sp⟩ := y
  simp only at hs hb
  subst hs
  unfold Addr.add
  split
  · rename_i h; subst h; simp [World.cell?, hb]
  · simp [World.cell?, hb]
/-- A slice of numbers that came in. -/
theorem Start.ints {w : World} {i : Inj} {H : LHeap} {k : IntKind} (hS : Start w i H) {x : Option Addr} {len cap : Nat} {zs : List Int}
    (h : (x = none ∧ len = 0 ∧ cap = 0) ∨ ∃ y, x = some y ∧ len ≤ cap ∧ len ≤ zs.length ∧ (∀ j, j < zs.length → w.cell? (y.add j) = some (.int k (zs.getD j 0))) ∧ y.spot = none ∧ ∃ cs el fz, w.heap[y.block]? = some (.cells cs el fz)) :
    ∃ i' t a, Start w i' (H ++ t) ∧ i.le i' ∧ VR i' (.slice a len len) (.slice x len cap) ∧ Sl 1 (H ++ t) a ((zs.take len).map (Value.int k)) ∧ (zs.take len).length = len := by
  rcases h with ⟨rfl, rfl, rfl⟩ | ⟨y, rfl, h1, h2, h3, h4, cs, el, fz, h5⟩
  · exact ⟨i, [], none, by simpa using hS, Inj.le_refl _, .snil, Sl.nil _ _, by simp⟩
  · have hlen : (zs.take len).length = len := by simp [h2]
    obtain ⟨p, g1, g2⟩ := hS.slice (x := y) (n := len) (m := 1) (cap := cap) (c := (zs.take len).map (Value.int k)) (by omega) h4 h5 h1 (by simp [h2]) (by
      intro j v hj
      rw [← cell_at h4 h5]
      rw [List.getElem?_map, Option.map_eq_some_iff] at hj
      obtain ⟨z, hz, rfl⟩ := hj
      rw [List.getElem?_take] at hz
      split at hz
      · rename_i hjl
        rw [h3 j (by omega)]
        simp [List.getD, hz]
      · cases hz) (ints_scalar _ _)
    exact ⟨_, _, _, g1, hS.le p, g2, Sl.row (get_app0 H _), hlen⟩
theorem okWide_row {P : Program} {w : World} {r : Reach} {base : Nat} {t e : TypeId} {a : Addr} {len cap : Nat} (ht : P.underlying t = some (.slice e)) (h : Value.okWide P w r base t (.slice (some a) len cap)) :
    len ≤ cap ∧ a.spot = none ∧ ∃ cs el fz, w.heap[a.block]? = some (.cells cs el fz) := by
  simp only [Value.okWide, ht, Cell.okWide, Cell.ok] at h
  obtain ⟨h1, _, _, h2, row, cells, h3, _⟩ := h
  refine ⟨h1, h2, ?_⟩
  unfold World.shape? at h3
  split at h3
  · rename_i c el fz hb; exact ⟨c, el, fz, hb⟩
  · cases h3
end Go.LK
