/- DROP A ring that may be closed: cells, positions, and threads' operations over numbers, plain. -/
import Derived.Test.YtopjhhcncjleaaaS0
namespace Go.Proofs.Ytopjhhcncjleaaa
set_option linter.unusedSimpArgs false
set_option linter.unusedVariables false
/-- What is noted: a Put takes a position; a Take does; a Take finds none. -/
inductive Ev where
  | put (i : Nat)
  | take (i : Nat)
  | non (id : Nat)
/-- A ring: cells' positions, whether they are safe, their data; which positions were left, what was put at each, whose they are, and what was noted, the last one first. -/
structure QS where
  s : Nat
  T : Nat
  hd : Nat
  cl : Bool
  pos : Nat → Nat
  sf : Nat → Bool
  dt : Nat → BitVec 64
  gn : Nat → Bool
  E : Nat → Option (BitVec 64)
  B : Nat → Nat
  D : Nat → Nat
  h : List (Ev × Int)
structure QOp where
  tk : Bool
  st : Nat
  p : Nat
  q : Nat
  b : Bool
  d : BitVec 64
  v : BitVec 64
  tl : Nat
  hh : Nat
abbrev QL := Nat → Option QOp
def upd {α : Type} (f : Nat → α) (i : Nat) (x : α) : Nat → α := fun j => if j = i then x else f j
theorem upd_same {α : Type} (f : Nat → α) (i : Nat) (x : α) : upd f i x i = x := by simp [upd]
theorem upd_ne {α : Type} {f : Nat → α} {i j : Nat} {x : α} (h : j ≠ i) : upd f i x j = f j := by simp [upd, h]
def Stale (g : QS) (c q : Nat) : Prop := q < g.pos c ∨ (q = g.pos c ∧ g.dt c ≠ 0#64)
def Old (g : QS) (o : QOp) : Prop := Stale g (o.p % g.s) o.q ∨
  (g.pos (o.p % g.s) = o.q ∧ g.sf (o.p % g.s) = o.b ∧ g.dt (o.p % g.s) = 0#64 ∧ (o.b = true ∨ (o.st = 4 → ∀ j, j % g.s = o.p % g.s → g.gn j = true → j < o.p)))
structure PutI (g : QS) (id : Nat) (o : QOp) : Prop where
  v : o.v + 1#64 ≠ 0#64
  st : o.st ≤ 6
  att : 1 ≤ o.st → o.st ≤ 4 → o.p < g.T ∧ g.E o.p = none ∧ g.B o.p = id ∧ ∃ z, (Ev.put o.p, z) ∈ g.h
  d : 3 ≤ o.st → o.st ≤ 4 → o.d = 0#64 ∧ o.q ≤ o.p
  c : 3 ≤ o.st → o.st ≤ 4 → Old g o
structure TakeI (g : QS) (id : Nat) (o : QOp) : Prop where
  st : o.st ≤ 8 ∧ o.st ≠ 4
  own : 1 ≤ o.st → o.st ≤ 3 → o.p < g.hd ∧ g.gn o.p = false ∧ g.D o.p = id
  q : o.st = 3 → o.q ≤ o.p
  p : o.st = 5 → o.p < g.hd
  no : o.st ≤ 5 → ∀ z, (Ev.non id, z) ∉ g.h
  yes : 6 ≤ o.st → ∃ z, (Ev.non id, z) ∈ g.h
  m : o.st = 8 → o.tl < o.hh ∧ o.hh ≤ g.hd
structure RQ (g : QS) (L : QL) (ids : Nat → Nat) : Prop where
  s1 : 1 ≤ g.s
  cp : ∀ c, c < g.s → g.pos c % g.s = c
  gz : ∀ i, g.hd ≤ i → g.gn i = false
  full : ∀ c, c < g.s → g.dt c ≠ 0#64 → ∃ x, g.E (g.pos c) = some x ∧ g.dt c = x + 1#64 ∧ g.gn (g.pos c) = false
  ein : ∀ i x, g.E i = some x → g.gn i = false → g.pos (i % g.s) = i ∧ g.dt (i % g.s) = x + 1#64
  blk : ∀ i, g.gn i = true → i < g.pos (i % g.s) ∨ g.sf (i % g.s) = false
  ev : ∀ i x, g.E i = some x → x + 1#64 ≠ 0#64 ∧ i < g.T ∧ ∃ z, (Ev.put i, z) ∈ g.h
  live : ∀ i, i < g.hd → g.gn i = false → ∃ j o, L j = some o ∧ o.tk = true ∧ 1 ≤ o.st ∧ o.st ≤ 3 ∧ o.p = i ∧ ids j = g.D i
  hT : ∀ i z, (Ev.put i, z) ∈ g.h → i < g.T
  hH : ∀ i, i < g.hd ↔ ∃ z, (Ev.take i, z) ∈ g.h
  pi : ∀ j o, L j = some o → o.tk = false → PutI g (ids j) o
  ti : ∀ j o, L j = some o → o.tk = true → TakeI g (ids j) o
  inj : ∀ i j o o', L i = some o → L j = some o' → ids i = ids j → i = j
section
variable {g : QS} {L : QL} {ids : Nat → Nat} {i : Nat} {o : QOp}
theorem upd_some {y : Option QOp} {j : Nat} {x : QOp} (h : upd L i y j = some x) : (j = i ∧ y = some x) ∨ (j ≠ i ∧ L j = some x) := by
  by_cases e : j = i
  · subst e; rw [upd_same] at h; exact .inl ⟨rfl, h⟩
  · rw [upd_ne e] at h; exact .inr ⟨e, h⟩
theorem inj_upd (hj : ∀ i j o o', L i = some o → L j = some o' → ids i = ids j → i = j) (hi : L i = some o) (y : Option QOp) : ∀ a b x x', upd L i y a = some x → upd L i y b = some x' → ids a = ids b → a = b := by
  intro a b x x' ha hb e
  rcases upd_some ha with ⟨ea, _⟩ | ⟨na, ha'⟩ <;> rcases upd_some hb with ⟨eb, _⟩ | ⟨nb, hb'⟩
  · rw [ea, eb]
  · subst ea; exact hj _ _ _ _ hi hb' e
  · subst eb; exact hj _ _ _ _ ha' hi e
  · exact hj _ _ _ _ ha' hb' e
/-- A step that turns no more than the operation itself. -/
theorem RQ.quiet (h : RQ g L ids) (hi : L i = some o) {o' : QOp} (ht : o'.tk = o.tk) (hp : o.tk = false → PutI g (ids i) o') (hk : o.tk = true → TakeI g (ids i) o') (hl : o.tk = true → 1 ≤ o.st → o.st ≤ 3 → 1 ≤ o'.st ∧ o'.st ≤ 3 ∧ o'.p = o.p) : RQ g (upd L i (some o')) ids := by
  refine ⟨h.s1, h.cp, h.gz, h.full, h.ein, h.blk, h.ev, fun k k1 k2 => ?_, h.hT, h.hH, fun j x hx hxt => ?_, fun j x hx hxt => ?_, inj_upd h.inj hi _⟩
  · obtain ⟨j, x, a1, a2, a3, a4, a5, a6⟩ := h.live k k1 k2
    by_cases e : j = i
    · subst e
      rw [hi] at a1; cases a1
      obtain ⟨b1, b2, b3⟩ := hl a2 a3 a4
      exact ⟨j, o', upd_same _ _ _, by rw [ht]; exact a2, b1, b2, by rw [b3]; exact a5, a6⟩
    · exact ⟨j, x, by rw [upd_ne e]; exact a1, a2, a3, a4, a5, a6⟩
  · rcases upd_some hx with ⟨rfl, e⟩ | ⟨e, hx⟩
    · cases e; exact hp (by rw [← ht]; exact hxt)
    · exact h.pi j x hx hxt
  · rcases upd_some hx with ⟨rfl, e⟩ | ⟨e, hx⟩
    · cases e; exact hk (by rw [← ht]; exact hxt)
    · exact h.ti j x hx hxt
/-- An operation ends; the tail may have gone up. -/
theorem RQ.drop (h : RQ g L ids) (hi : L i = some o) (hn : o.tk = true → 1 ≤ o.st → o.st ≤ 3 → False) {T' : Nat} (hT : g.T ≤ T') (cl' : Bool) : RQ { g with T := T', cl := cl' } (upd L i none) ids := by
  refine ⟨h.s1, h.cp, h.gz, h.full, h.ein, h.blk, fun k x hk => ⟨(h.ev k x hk).1, Nat.lt_of_lt_of_le (h.ev k x hk).2.1 hT, (h.ev k x hk).2.2⟩, fun k k1 k2 => ?_, fun k z hk => Nat.lt_of_lt_of_le (h.hT k z hk) hT, h.hH, fun j x hx hxt => ?_, fun j x hx hxt => ?_, inj_upd h.inj hi _⟩
  · obtain ⟨j, x, a1, a2, a3, a4, a5, a6⟩ := h.live k k1 k2
    have e : j ≠ i := by
      rintro rfl
      rw [hi] at a1; cases a1
      exact hn a2 a3 a4
    exact ⟨j, x, by rw [upd_ne e]; exact a1, a2, a3, a4, a5, a6⟩
  · rcases upd_some hx with ⟨_, e⟩ | ⟨e, hx⟩
    · cases e
    · have g0 := h.pi j x hx hxt
      exact ⟨g0.v, g0.st, fun a b => ⟨Nat.lt_of_lt_of_le (g0.att a b).1 hT, (g0.att a b).2⟩, g0.d, g0.c⟩
  · rcases upd_some hx with ⟨_, e⟩ | ⟨e, hx⟩
    · cases e
    · have g0 := h.ti j x hx hxt
      exact ⟨g0.st, g0.own, g0.q, g0.p, g0.no, g0.yes, g0.m⟩
/-- An operation begins. -/
theorem RQ.begin (h : RQ g L ids) (hi : L i = none) {o : QOp} (ho : o.st = 0) (hv : o.tk = false → o.v + 1#64 ≠ 0#64) {id : Nat} (hid : ∀ z, (Ev.non id, z) ∉ g.h) (hf : ∀ j x, L j = some x → ids j ≠ id) : RQ g (upd L i (some o)) (upd ids i id) := by
  have ne : ∀ j x, L j = some x → j ≠ i := by
    rintro j x hx rfl
    rw [hi] at hx; cases hx
  refine ⟨h.s1, h.cp, h.gz, h.full, h.ein, h.blk, h.ev, fun k k1 k2 => ?_, h.hT, h.hH, fun j x hx hxt => ?_, fun j x hx hxt => ?_, fun a b x x' ha hb e => ?_⟩
  · obtain ⟨j, x, a1, a2, a3, a4, a5, a6⟩ := h.live k k1 k2
    exact ⟨j, x, by rw [upd_ne (ne j x a1)]; exact a1, a2, a3, a4, a5, by rw [upd_ne (ne j x a1)]; exact a6⟩
  · rcases upd_some hx with ⟨rfl, e⟩ | ⟨e, hx⟩
    · cases e
      exact ⟨hv hxt, by omega, fun _ _ => by omega, fun _ _ => by omega, fun _ _ => by omega⟩
    · rw [upd_ne e]; exact h.pi j x hx hxt
  · rcases upd_some hx with ⟨rfl, e⟩ | ⟨e, hx⟩
    · cases e
      rw [upd_same]
      exact ⟨by omega, fun _ _ => by omega, fun _ => by omega, fun _ => by omega, fun _ => hid, fun _ => by omega, fun _ => by omega⟩
    · rw [upd_ne e]; exact h.ti j x hx hxt
  · rcases upd_some ha with ⟨ea, _⟩ | ⟨na, ha'⟩ <;> rcases upd_some hb with ⟨eb, _⟩ | ⟨nb, hb'⟩
    · rw [ea, eb]
    · subst ea; rw [upd_same, upd_ne nb] at e; exact absurd e.symm (hf _ _ hb')
    · subst eb; rw [upd_same, upd_ne na] at e; exact absurd e (hf _ _ ha')
    · rw [upd_ne na, upd_ne nb] at e; exact h.inj _ _ _ _ ha' hb' e
theorem RQ.enone (h : RQ g L ids) {k : Nat} (hk : g.T ≤ k) : g.E k = none := by
  cases hq : g.E k with
  | none => rfl
  | some x => have := (h.ev k x hq).2.1; omega
/-- A Put takes a position. -/
theorem RQ.claimP (h : RQ g L ids) (hi : L i = some o) (hs : o.st = 0) (ht : o.tk = false) (z : Int) :
    RQ { g with T := g.T + 1, B := upd g.B g.T (ids i), h := (Ev.put g.T, z) :: g.h } (upd L i (some { o with st := 1, p := g.T })) ids := by
  have g0 := h.pi i o hi ht
  refine ⟨h.s1, h.cp, h.gz, h.full, h.ein, h.blk, fun k x hk => ?_, fun k k1 k2 => ?_, fun k y hk => ?_, fun k => ?_, fun j x hx hxt => ?_, fun j x hx hxt => ?_, inj_upd h.inj hi _⟩
  · obtain ⟨a, b, y, c⟩ := h.ev k x hk
    exact ⟨a, by simp only; omega, y, List.mem_cons_of_mem _ c⟩
  · obtain ⟨j, x, a1, a2, a3, a4, a5, a6⟩ := h.live k k1 k2
    have e : j ≠ i := by
      rintro rfl
      rw [hi] at a1; cases a1
      rw [ht] at a2; cases a2
    exact ⟨j, x, by rw [upd_ne e]; exact a1, a2, a3, a4, a5, a6⟩
  · rcases List.mem_cons.1 hk with e | hk
    · cases e; simp only; omega
    · have := h.hT k y hk; simp only; omega
  · rw [h.hH k]
    constructor
    · rintro ⟨y, hy⟩; exact ⟨y, List.mem_cons_of_mem _ hy⟩
    · rintro ⟨y, hy⟩
      rcases List.mem_cons.1 hy with e | hy
      · cases e
      · exact ⟨y, hy⟩
  · rcases upd_some hx with ⟨rfl, e⟩ | ⟨e, hx⟩
    · cases e
      exact ⟨g0.v, by simp, fun _ _ => ⟨by simp, h.enone (Nat.le_refl _), upd_same _ _ _, z, List.mem_cons_self ..⟩, fun a _ => by simp at a, fun a _ => by simp at a⟩
    · have g1 := h.pi j x hx hxt
      refine ⟨g1.v, g1.st, fun a b => ?_, g1.d, g1.c⟩
      obtain ⟨c1, c2, c3, y, c4⟩ := g1.att a b
      exact ⟨by simp only; omega, c2, by rw [← c3]; exact upd_ne (by omega), y, List.mem_cons_of_mem _ c4⟩
  · rcases upd_some hx with ⟨rfl, e⟩ | ⟨e, hx⟩
    · cases e
      rw [ht] at hxt; cases hxt
    · have g1 := h.ti j x hx hxt
      refine ⟨g1.st, g1.own, g1.q, g1.p, fun a y hy => ?_, fun a => ?_, g1.m⟩
      · rcases List.mem_cons.1 hy with e | hy
        · cases e
        · exact g1.no a y hy
      · obtain ⟨y, hy⟩ := g1.yes a
        exact ⟨y, List.mem_cons_of_mem _ hy⟩
/-- A Take takes a position. -/
theorem RQ.claimT (h : RQ g L ids) (hi : L i = some o) (hs : o.st = 0) (ht : o.tk = true) (z : Int) :
    RQ { g with hd := g.hd + 1, D := upd g.D g.hd (ids i), h := (Ev.take g.hd, z) :: g.h } (upd L i (some { o with st := 1, p := g.hd })) ids := by
  have g0 := h.ti i o hi ht
  refine ⟨h.s1, h.cp, fun k hk => h.gz k (by simp only at hk; omega), h.full, h.ein, h.blk, fun k x hk => ?_, fun k k1 k2 => ?_, fun k y hk => ?_, fun k => ?_, fun j x hx hxt => ?_, fun j x hx hxt => ?_, inj_upd h.inj hi _⟩
  · obtain ⟨a, b, y, c⟩ := h.ev k x hk
    exact ⟨a, b, y, List.mem_cons_of_mem _ c⟩
  · simp only at k1 k2 ⊢
    by_cases e : k = g.hd
    · subst e
      exact ⟨i, _, upd_same _ _ _, ht, by simp, by simp, rfl, (upd_same _ _ _).symm⟩
    · obtain ⟨j, x, a1, a2, a3, a4, a5, a6⟩ := h.live k (by omega) k2
      have ej : j ≠ i := by
        rintro rfl
        rw [hi] at a1; cases a1
        omega
      exact ⟨j, x, by rw [upd_ne ej]; exact a1, a2, a3, a4, a5, by rw [upd_ne e]; exact a6⟩
  · rcases List.mem_cons.1 hk with e | hk
    · cases e
    · exact h.hT k y hk
  · simp only
    constructor
    · intro hk
      by_cases e : k = g.hd
      · subst e; exact ⟨z, List.mem_cons_self ..⟩
      · obtain ⟨y, hy⟩ := (h.hH k).1 (by omega)
        exact ⟨y, List.mem_cons_of_mem _ hy⟩
    · rintro ⟨y, hy⟩
      rcases List.mem_cons.1 hy with e | hy
      · cases e; omega
      · have := (h.hH k).2 ⟨y, hy⟩; omega
  · rcases upd_some hx with ⟨rfl, e⟩ | ⟨e, hx⟩
    · cases e
      rw [ht] at hxt; cases hxt
    · have g1 := h.pi j x hx hxt
      refine ⟨g1.v, g1.st, fun a b => ?_, g1.d, g1.c⟩
      obtain ⟨c1, c2, c3, y, c4⟩ := g1.att a b
      exact ⟨c1, c2, c3, y, List.mem_cons_of_mem _ c4⟩
  · rcases upd_some hx with ⟨rfl, e⟩ | ⟨e, hx⟩
    · cases e
      refine ⟨by simp, fun _ _ => ⟨by simp, h.gz _ (Nat.le_refl _), upd_same _ _ _⟩, fun a => by simp at a, fun a => by simp at a, fun a y hy => ?_, fun a => by simp at a, fun a => by simp at a⟩
      rcases List.mem_cons.1 hy with e | hy
      · cases e
      · exact g0.no (by omega) y hy
    · have g1 := h.ti j x hx hxt
      refine ⟨g1.st, fun a b => ?_, g1.q, fun a => ?_, fun a y hy => ?_, fun a => ?_, fun a => ?_⟩
      · obtain ⟨c1, c2, c3⟩ := g1.own a b
        exact ⟨by simp only; omega, c2, by rw [← c3]; exact upd_ne (by omega)⟩
      · have := g1.p a; simp only; omega
      · rcases List.mem_cons.1 hy with e | hy
        · cases e
        · exact g1.no a y hy
      · obtain ⟨y, hy⟩ := g1.yes a
        exact ⟨y, List.mem_cons_of_mem _ hy⟩
      · have := g1.m a; simp only; omega
/-- A Take sees that there is none. -/
theorem RQ.non (h : RQ g L ids) (hi : L i = some o) (hs : o.st = 5) (ht : o.tk = true) (z : Int) :
    RQ { g with h := (Ev.non (ids i), z) :: g.h } (upd L i (some { o with st := 6 })) ids := by
  have g0 := h.ti i o hi ht
  refine ⟨h.s1, h.cp, h.gz, h.full, h.ein, h.blk, fun k x hk => ?_, fun k k1 k2 => ?_, fun k y hk => ?_, fun k => ?_, fun j x hx hxt => ?_, fun j x hx hxt => ?_, inj_upd h.inj hi _⟩
  · obtain ⟨a, b, y, c⟩ := h.ev k x hk
    exact ⟨a, b, y, List.mem_cons_of_mem _ c⟩
  · obtain ⟨j, x, a1, a2, a3, a4, a5, a6⟩ := h.live k k1 k2
    have ej : j ≠ i := by
      rintro rfl
      rw [hi] at a1; cases a1
      omega
    exact ⟨j, x, by rw [upd_ne ej]; exact a1, a2, a3, a4, a5, a6⟩
  · rcases List.mem_cons.1 hk with e | hk
    · cases e
    · exact h.hT k y hk
  · rw [h.hH k]
    constructor
    · rintro ⟨y, hy⟩; exact ⟨y, List.mem_cons_of_mem _ hy⟩
    · rintro ⟨y, hy⟩
      rcases List.mem_cons.1 hy with e | hy
      · cases e
      · exact ⟨y, hy⟩
  · rcases upd_some hx with ⟨rfl, e⟩ | ⟨e, hx⟩
    · cases e
      rw [ht] at hxt; cases hxt
    · have g1 := h.pi j x hx hxt
      refine ⟨g1.v, g1.st, fun a b => ?_, g1.d, g1.c⟩
      obtain ⟨c1, c2, c3, y, c4⟩ := g1.att a b
      exact ⟨c1, c2, c3, y, List.mem_cons_of_mem _ c4⟩
  · rcases upd_some hx with ⟨rfl, e⟩ | ⟨e, hx⟩
    · cases e
      exact ⟨by simp, fun _ a => by simp at a, fun a => by simp at a, fun a => by simp at a, fun a => by simp at a, fun _ => ⟨z, List.mem_cons_self ..⟩, fun a => by simp at a⟩
    · have g1 := h.ti j x hx hxt
      refine ⟨g1.st, g1.own, g1.q, g1.p, fun a y hy => ?_, fun a => ?_, g1.m⟩
      · rcases List.mem_cons.1 hy with e2 | hy
        · simp only [Prod.mk.injEq, Ev.non.injEq] at e2
          exact e (h.inj _ _ _ _ hx hi e2.1)
        · exact g1.no a y hy
      · obtain ⟨y, hy⟩ := g1.yes a
        exact ⟨y, List.mem_cons_of_mem _ hy⟩
end
end Go.Proofs.Ytopjhhcncjleaaa
/- DROP A ring that may be closed: positions that are left, and numbers that are laid down. -/
namespace Go.Proofs.Ytopjhhcncjleaaa
set_option linter.unusedSimpArgs false
set_option linter.unusedVariables false
section
variable {g : QS} {L : QL} {ids : Nat → Nat} {i : Nat} {o : QOp}
theorem at_lt (h : RQ g L ids) (k : Nat) : k % g.s < g.s := Nat.mod_lt _ h.s1
/-- A Take leaves its position, of which the cell is another one's. -/
theorem RQ.leaveA (h : RQ g L ids) (hi : L i = some o) (ht : o.tk = true) (h1 : 1 ≤ o.st) (h3 : o.st ≤ 3) (hp : o.p < g.pos (o.p % g.s)) {o' : QOp} (ho : o'.tk = true ∧ o'.st = 5 ∧ o'.p = o.p) :
    g.E o.p = none ∧ RQ { g with gn := upd g.gn o.p true } (upd L i (some o')) ids := by
  have g0 := h.ti i o hi ht
  obtain ⟨w1, w2, w3⟩ := g0.own h1 h3
  have hE : g.E o.p = none := by
    cases hq : g.E o.p with
    | none => rfl
    | some x => have := (h.ein _ x hq w2).1; omega
  have gt : ∀ k, upd g.gn o.p true k = true → k = o.p ∨ g.gn k = true := fun k hk => by
    by_cases e : k = o.p
    · exact .inl e
    · rw [upd_ne e] at hk; exact .inr hk
  have gf : ∀ k, upd g.gn o.p true k = false → k ≠ o.p ∧ g.gn k = false := fun k hk => by
    by_cases e : k = o.p
    · subst e; rw [upd_same] at hk; cases hk
    · rw [upd_ne e] at hk; exact ⟨e, hk⟩
  refine ⟨hE, h.s1, h.cp, fun k hk => ?_, fun c c1 c2 => ?_, fun k x hk hg => h.ein k x hk (gf k hg).2, fun k hg => ?_, h.ev, fun k k1 k2 => ?_, h.hT, h.hH, fun j x hx hxt => ?_, fun j x hx hxt => ?_, inj_upd h.inj hi _⟩
  · show upd g.gn o.p true k = false
    rw [upd_ne (by change g.hd ≤ k at hk; omega)]; exact h.gz k hk
  · obtain ⟨x, x1, x2, x3⟩ := h.full c c1 c2
    refine ⟨x, x1, x2, ?_⟩
    show upd g.gn o.p true _ = false
    rw [upd_ne]
    · exact x3
    · intro e; rw [e, hE] at x1; cases x1
  · rcases gt k hg with rfl | hg
    · exact .inl hp
    · exact h.blk k hg
  · obtain ⟨j, x, a1, a2, a3, a4, a5, a6⟩ := h.live k k1 (gf k k2).2
    have ej : j ≠ i := by
      rintro rfl
      rw [hi] at a1; cases a1
      exact (gf k k2).1 a5.symm
    exact ⟨j, x, by rw [upd_ne ej]; exact a1, a2, a3, a4, a5, a6⟩
  · rcases upd_some hx with ⟨rfl, e⟩ | ⟨e, hx⟩
    · cases e; rw [ho.1] at hxt; cases hxt
    · have g1 := h.pi j x hx hxt
      refine ⟨g1.v, g1.st, g1.att, g1.d, fun a b => ?_⟩
      rcases g1.c a b with c | ⟨c1, c2, c3, c4⟩
      · exact .inl c
      · refine .inr ⟨c1, c2, c3, c4.imp id fun c4 s4 k ks kg => ?_⟩
        rcases gt k kg with rfl | kg
        · have := (g1.d a b).2
          simp only at ks c1
          rw [← ks] at c1
          omega
        · exact c4 s4 k ks kg
  · rcases upd_some hx with ⟨rfl, e⟩ | ⟨e, hx⟩
    · cases e
      exact ⟨by omega, fun _ _ => by omega, fun _ => by omega, fun _ => by rw [ho.2.2]; exact w1, fun _ => g0.no (by omega), fun _ => by omega, fun _ => by omega⟩
    · have g1 := h.ti j x hx hxt
      refine ⟨g1.st, fun a b => ?_, g1.q, g1.p, g1.no, g1.yes, g1.m⟩
      obtain ⟨c1, c2, c3⟩ := g1.own a b
      refine ⟨c1, ?_, c3⟩
      show upd g.gn o.p true _ = false
      rw [upd_ne]
      · exact c2
      · intro e2
        rw [e2, w3] at c3
        exact e (h.inj _ _ _ _ hx hi c3.symm)
/-- A Take lets the cell be a later position's. -/
theorem RQ.leaveB (h : RQ g L ids) (hi : L i = some o) (ht : o.tk = true) (h1 : 1 ≤ o.st) (h3 : o.st ≤ 3) (hq : g.pos (o.p % g.s) ≤ o.p) (hd : g.dt (o.p % g.s) = 0#64 ∨ g.pos (o.p % g.s) = o.p) {y : Option QOp} (ho : ∀ o', y = some o' → o'.tk = true ∧ o'.st = 5 ∧ o'.p = o.p) :
    RQ { g with pos := upd g.pos (o.p % g.s) (o.p + g.s), dt := upd g.dt (o.p % g.s) 0#64, gn := upd g.gn o.p true } (upd L i y) ids := by
  have g0 := h.ti i o hi ht
  have s1 := h.s1
  obtain ⟨w1, w2, w3⟩ := g0.own h1 h3
  have gt : ∀ k, upd g.gn o.p true k = true → k = o.p ∨ g.gn k = true := fun k hk => by
    by_cases e : k = o.p
    · exact .inl e
    · rw [upd_ne e] at hk; exact .inr hk
  have gf : ∀ k, upd g.gn o.p true k = false → k ≠ o.p ∧ g.gn k = false := fun k hk => by
    by_cases e : k = o.p
    · subst e; rw [upd_same] at hk; cases hk
    · rw [upd_ne e] at hk; exact ⟨e, hk⟩
  refine ⟨s1, fun c c1 => ?_, fun k hk => ?_, fun c c1 c2 => ?_, fun k x hk hg => ?_, fun k hg => ?_, h.ev, fun k k1 k2 => ?_, h.hT, h.hH, fun j x hx hxt => ?_, fun j x hx hxt => ?_, inj_upd h.inj hi _⟩
  · show upd g.pos _ _ c % g.s = c
    by_cases e : c = o.p % g.s
    · rw [e, upd_same, Nat.add_mod_right]
    · rw [upd_ne e]; exact h.cp c c1
  · show upd g.gn o.p true k = false
    rw [upd_ne (by change g.hd ≤ k at hk; omega)]; exact h.gz k hk
  · simp only at c2 ⊢
    by_cases e : c = o.p % g.s
    · rw [e, upd_same] at c2; exact absurd rfl c2
    · rw [upd_ne e] at c2 ⊢
      rw [upd_ne e]
      obtain ⟨x, x1, x2, x3⟩ := h.full c c1 c2
      refine ⟨x, x1, x2, ?_⟩
      rw [upd_ne]
      · exact x3
      · intro e2
        have := h.cp c c1
        rw [e2] at this
        exact e this.symm
  · obtain ⟨ne, hg⟩ := gf k hg
    obtain ⟨e1, e2⟩ := h.ein k x hk hg
    have hx := (h.ev k x hk).1
    by_cases e : k % g.s = o.p % g.s
    · exfalso
      rw [e] at e1 e2
      rcases hd with hd | hd
      · rw [hd] at e2; exact hx e2.symm
      · omega
    · simp only
      rw [upd_ne e, upd_ne e]; exact ⟨e1, e2⟩
  · simp only
    by_cases e : k % g.s = o.p % g.s
    · rw [e, upd_same]
      rcases gt k hg with rfl | hg
      · exact .inl (by omega)
      · rcases h.blk k hg with b | b
        · rw [e] at b; exact .inl (by omega)
        · rw [e] at b; exact .inr b
    · rw [upd_ne e]
      rcases gt k hg with rfl | hg
      · exact absurd rfl e
      · exact h.blk k hg
  · obtain ⟨j, x, a1, a2, a3, a4, a5, a6⟩ := h.live k k1 (gf k k2).2
    have ej : j ≠ i := by
      rintro rfl
      rw [hi] at a1; cases a1
      exact (gf k k2).1 a5.symm
    exact ⟨j, x, by rw [upd_ne ej]; exact a1, a2, a3, a4, a5, a6⟩
  · rcases upd_some hx with ⟨rfl, e⟩ | ⟨e, hx⟩
    · rw [(ho x e).1] at hxt; cases hxt
    · have g1 := h.pi j x hx hxt
      refine ⟨g1.v, g1.st, g1.att, g1.d, fun a b => ?_⟩
      by_cases e2 : x.p % g.s = o.p % g.s
      · left
        left
        show x.q < upd g.pos (o.p % g.s) (o.p + g.s) (x.p % g.s)
        rw [e2, upd_same]
        rcases g1.c a b with c | ⟨c1, _⟩
        · rcases c with c | c
          · rw [e2] at c; omega
          · rw [e2] at c; omega
        · rw [e2] at c1; omega
      · unfold Old Stale
        simp only
        rw [upd_ne e2, upd_ne e2]
        rcases g1.c a b with c | ⟨c1, c2, c3, c4⟩
        · exact .inl c
        · refine .inr ⟨c1, c2, c3, c4.imp id fun c4 s4 k ks kg => ?_⟩
          rcases gt k kg with rfl | kg
          · exact absurd ks.symm e2
          · exact c4 s4 k ks kg
  · rcases upd_some hx with ⟨rfl, e⟩ | ⟨e, hx⟩
    · obtain ⟨o1, o2, o3⟩ := ho x e
      exact ⟨by omega, fun _ _ => by omega, fun _ => by omega, fun _ => by rw [o3]; exact w1, fun _ => g0.no (by omega), fun _ => by omega, fun _ => by omega⟩
    · have g1 := h.ti j x hx hxt
      refine ⟨g1.st, fun a b => ?_, g1.q, g1.p, g1.no, g1.yes, g1.m⟩
      obtain ⟨c1, c2, c3⟩ := g1.own a b
      refine ⟨c1, ?_, c3⟩
      show upd g.gn o.p true _ = false
      rw [upd_ne]
      · exact c2
      · intro e2
        rw [e2, w3] at c3
        exact e (h.inj _ _ _ _ hx hi c3.symm)
/-- A Take lets the cell, of an earlier position's number, be not safe. -/
theorem RQ.leaveD (h : RQ g L ids) (hi : L i = some o) (ht : o.tk = true) (h1 : 1 ≤ o.st) (h3 : o.st ≤ 3) (hq : g.pos (o.p % g.s) < o.p) (hd : g.dt (o.p % g.s) ≠ 0#64) {o' : QOp} (ho : o'.tk = true ∧ o'.st = 5 ∧ o'.p = o.p) :
    g.E o.p = none ∧ RQ { g with sf := upd g.sf (o.p % g.s) false, gn := upd g.gn o.p true } (upd L i (some o')) ids := by
  have g0 := h.ti i o hi ht
  have s1 := h.s1
  obtain ⟨w1, w2, w3⟩ := g0.own h1 h3
  have hE : g.E o.p = none := by
    cases hq' : g.E o.p with
    | none => rfl
    | some x => have := (h.ein _ x hq' w2).1; omega
  have gt : ∀ k, upd g.gn o.p true k = true → k = o.p ∨ g.gn k = true := fun k hk => by
    by_cases e : k = o.p
    · exact .inl e
    · rw [upd_ne e] at hk; exact .inr hk
  have gf : ∀ k, upd g.gn o.p true k = false → k ≠ o.p ∧ g.gn k = false := fun k hk => by
    by_cases e : k = o.p
    · subst e; rw [upd_same] at hk; cases hk
    · rw [upd_ne e] at hk; exact ⟨e, hk⟩
  refine ⟨hE, s1, h.cp, fun k hk => ?_, fun c c1 c2 => ?_, fun k x hk hg => h.ein k x hk (gf k hg).2, fun k hg => ?_, h.ev, fun k k1 k2 => ?_, h.hT, h.hH, fun j x hx hxt => ?_, fun j x hx hxt => ?_, inj_upd h.inj hi _⟩
  · show upd g.gn o.p true k = false
    rw [upd_ne (by change g.hd ≤ k at hk; omega)]; exact h.gz k hk
  · obtain ⟨x, x1, x2, x3⟩ := h.full c c1 c2
    refine ⟨x, x1, x2, ?_⟩
    show upd g.gn o.p true _ = false
    rw [upd_ne]
    · exact x3
    · intro e; rw [e, hE] at x1; cases x1
  · simp only
    by_cases e : k % g.s = o.p % g.s
    · right; rw [e, upd_same]
    · rw [upd_ne e]
      rcases gt k hg with rfl | hg
      · exact absurd rfl e
      · exact h.blk k hg
  · obtain ⟨j, x, a1, a2, a3, a4, a5, a6⟩ := h.live k k1 (gf k k2).2
    have ej : j ≠ i := by
      rintro rfl
      rw [hi] at a1; cases a1
      exact (gf k k2).1 a5.symm
    exact ⟨j, x, by rw [upd_ne ej]; exact a1, a2, a3, a4, a5, a6⟩
  · rcases upd_some hx with ⟨rfl, e⟩ | ⟨e, hx⟩
    · cases e; rw [ho.1] at hxt; cases hxt
    · have g1 := h.pi j x hx hxt
      refine ⟨g1.v, g1.st, g1.att, g1.d, fun a b => ?_⟩
      unfold Old Stale
      simp only
      rcases g1.c a b with c | ⟨c1, c2, c3, c4⟩
      · exact .inl c
      · by_cases e2 : x.p % g.s = o.p % g.s
        · rw [e2] at c3; exact absurd c3 hd
        · refine .inr ⟨c1, by rw [upd_ne e2]; exact c2, c3, c4.imp id fun c4 s4 k ks kg => ?_⟩
          rcases gt k kg with rfl | kg
          · exact absurd ks.symm e2
          · exact c4 s4 k ks kg
  · rcases upd_some hx with ⟨rfl, e⟩ | ⟨e, hx⟩
    · cases e
      exact ⟨by omega, fun _ _ => by omega, fun _ => by omega, fun _ => by rw [ho.2.2]; exact w1, fun _ => g0.no (by omega), fun _ => by omega, fun _ => by omega⟩
    · have g1 := h.ti j x hx hxt
      refine ⟨g1.st, fun a b => ?_, g1.q, g1.p, g1.no, g1.yes, g1.m⟩
      obtain ⟨c1, c2, c3⟩ := g1.own a b
      refine ⟨c1, ?_, c3⟩
      show upd g.gn o.p true _ = false
      rw [upd_ne]
      · exact c2
      · intro e2
        rw [e2, w3] at c3
        exact e (h.inj _ _ _ _ hx hi c3.symm)
/-- A Put lays its number down. -/
theorem RQ.lay (h : RQ g L ids) (hi : L i = some o) (ht : o.tk = false) (hs : o.st = 4) (c1 : g.pos (o.p % g.s) = o.q) (c2 : g.sf (o.p % g.s) = o.b) (c3 : g.dt (o.p % g.s) = 0#64) :
    g.gn o.p = false ∧ RQ { g with pos := upd g.pos (o.p % g.s) o.p, sf := upd g.sf (o.p % g.s) true, dt := upd g.dt (o.p % g.s) (o.v + 1#64), E := upd g.E o.p (some o.v) } (upd L i none) ids := by
  have g0 := h.pi i o hi ht
  have s1 := h.s1
  obtain ⟨w1, w2, w3, w4⟩ := g0.att (by omega) (by omega)
  have hqp := (g0.d (by omega) (by omega)).2
  have fresh : o.b = true ∨ ∀ j, j % g.s = o.p % g.s → g.gn j = true → j < o.p := by
    rcases g0.c (by omega) (by omega) with c | ⟨_, _, _, c⟩
    · rcases c with c | c
      · omega
      · exact absurd c3 c.2
    · exact c.imp id fun c => c hs
  have below : ∀ k, k % g.s = o.p % g.s → g.gn k = true → k < o.p := by
    intro k ks kg
    rcases h.blk k kg with b | b
    · rw [ks] at b; omega
    · rw [ks, c2] at b
      rcases fresh with f | f
      · rw [f] at b; cases b
      · exact f k ks kg
  have hg : g.gn o.p = false := by
    cases hq : g.gn o.p
    · rfl
    · have := below _ rfl hq; omega
  refine ⟨hg, s1, fun c d1 => ?_, h.gz, fun c d1 d2 => ?_, fun k x hk hkg => ?_, fun k hkg => ?_, fun k x hk => ?_, fun k k1 k2 => ?_, h.hT, h.hH, fun j x hx hxt => ?_, fun j x hx hxt => ?_, inj_upd h.inj hi _⟩
  · show upd g.pos _ _ c % g.s = c
    by_cases e : c = o.p % g.s
    · rw [e, upd_same]
    · rw [upd_ne e]; exact h.cp c d1
  · simp only at d2 ⊢
    by_cases e : c = o.p % g.s
    · subst e
      rw [upd_same, upd_same, upd_same]
      exact ⟨o.v, rfl, rfl, hg⟩
    · rw [upd_ne e] at d2 ⊢
      rw [upd_ne e]
      obtain ⟨x, x1, x2, x3⟩ := h.full c d1 d2
      refine ⟨x, ?_, x2, x3⟩
      rw [upd_ne]
      · exact x1
      · intro e2
        have := h.cp c d1
        rw [e2] at this
        exact e this.symm
  · simp only at hk hkg ⊢
    by_cases e : k = o.p
    · subst e
      rw [upd_same] at hk; cases hk
      rw [upd_same, upd_same]; exact ⟨rfl, rfl⟩
    · rw [upd_ne e] at hk
      obtain ⟨e1, e2⟩ := h.ein k x hk hkg
      have hx := (h.ev k x hk).1
      by_cases e3 : k % g.s = o.p % g.s
      · rw [e3, c3] at e2; exact absurd e2.symm hx
      · rw [upd_ne e3, upd_ne e3]; exact ⟨e1, e2⟩
  · simp only at hkg ⊢
    by_cases e : k % g.s = o.p % g.s
    · left; rw [e, upd_same]; exact below k e hkg
    · rw [upd_ne e, upd_ne e]; exact h.blk k hkg
  · simp only at hk ⊢
    by_cases e : k = o.p
    · subst e
      rw [upd_same] at hk; cases hk
      exact ⟨g0.v, w1, w4⟩
    · rw [upd_ne e] at hk; exact h.ev k x hk
  · obtain ⟨j, x, a1, a2, a3, a4, a5, a6⟩ := h.live k k1 k2
    have ej : j ≠ i := by
      rintro rfl
      rw [hi] at a1; cases a1
      rw [ht] at a2; cases a2
    exact ⟨j, x, by rw [upd_ne ej]; exact a1, a2, a3, a4, a5, a6⟩
  · rcases upd_some hx with ⟨rfl, e⟩ | ⟨e, hx⟩
    · cases e
    · have g1 := h.pi j x hx hxt
      refine ⟨g1.v, g1.st, fun a b => ?_, g1.d, fun a b => ?_⟩
      · obtain ⟨d1, d2, d3, d4⟩ := g1.att a b
        refine ⟨d1, ?_, d3, d4⟩
        show upd g.E o.p (some o.v) x.p = none
        rw [upd_ne]
        · exact d2
        · intro e2
          rw [e2, w3] at d3
          exact e (h.inj _ _ _ _ hx hi d3.symm)
      · by_cases e2 : x.p % g.s = o.p % g.s
        · left
          unfold Stale
          simp only
          rw [e2, upd_same, upd_same]
          have hv := g0.v
          rcases g1.c a b with c | ⟨f1, _⟩
          · rcases c with c | c
            · rw [e2] at c; left; omega
            · rw [e2] at c; exact absurd c3 c.2
          · rw [e2] at f1
            by_cases e3 : x.q = o.p
            · exact .inr ⟨e3, hv⟩
            · left; omega
        · unfold Old Stale
          simp only
          rw [upd_ne e2, upd_ne e2, upd_ne e2]
          exact g1.c a b
  · rcases upd_some hx with ⟨rfl, e⟩ | ⟨e, hx⟩
    · cases e
    · have g1 := h.ti j x hx hxt
      exact ⟨g1.st, g1.own, g1.q, g1.p, g1.no, g1.yes, g1.m⟩
end
end Go.Proofs.Ytopjhhcncjleaaa
