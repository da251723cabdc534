/- DROP Calls of a ring that may be closed: what holds of them all while no call ends. -/
import Derived.Test.YtopjhhcncjleaaaK5
import Derived.Test.YtopjhhcncjleaaaPK
namespace Go.Proofs.Ytopjhhcncjleaaa
open Go Go.LK
set_option linter.unusedSimpArgs false
set_option linter.unusedVariables false
def qknd (o : QOp) : Int := if o.tk = true then 1 else 0
def QC (v : HV) (j : Nat) (o : QOp) (id : Nat) : Prop := ∃ d, v.l[id]? = some d ∧ d.dn = false ∧ d.th = (j : Int) ∧ d.kind = qknd o ∧ (o.tk = false → d.arg = o.v)
structure CI (g : QS) (L : QL) (v : HV) (ids : Nat → Nat) (N : Nat) : Prop where
  rq : RQ g L ids
  hk : HOK g.h
  hN : ∀ x ∈ g.h, x.2 ≤ v.now
  ec : ∀ i x, g.E i = some x → ∃ d, v.l[g.B i]? = some d ∧ d.dn = true ∧ d.kind = 0 ∧ d.arg = x ∧ d.code = 0 ∧ d.ret = 0#64
  tkn : ∀ i x, g.E i = some x → g.gn i = true → ∃ d, v.l[g.D i]? = some d ∧ d.dn = true ∧ d.kind = 1 ∧ d.code = 0 ∧ d.ret = x
  uB : ∀ i j, (g.E i).isSome = true → (g.E j).isSome = true → g.B i = g.B j → i = j
  uD : ∀ i j, (g.E i).isSome = true → (g.E j).isSome = true → i < g.hd → j < g.hd → g.D i = g.D j → i = j
  nn : ∀ id, HasN g.h id → ∃ d, v.l[id]? = some d ∧ d.kind = 1 ∧ (d.dn = true → d.code = 13 ∧ d.ret = 0#64)
  uN : ∀ id i, HasN g.h id → (g.E i).isSome = true → i < g.hd → g.D i ≠ id
  iB : ∀ i z, (Ev.put i, z) ∈ g.h → InC v.l (g.B i) z
  iD : ∀ i z, (Ev.take i, z) ∈ g.h → InC v.l (g.D i) z
  iN : ∀ id z, (Ev.non id, z) ∈ g.h → InC v.l id z
  iE : ∀ i x z, g.E i = some x → i < g.hd → (Ev.put i, z) ∈ g.h → ∀ d, v.l[g.D i]? = some d → d.dn = true → z ≤ d.to
  ref : ∀ (id : Nat) (d : CallD), v.l[id]? = some d → d.dn = true → d.code = 16 → d.kind = 0 ∧ g.cl = true ∧ ∀ i z, (Ev.put i, z) ∈ g.h → z ≤ d.to
  cls : ∀ (id : Nat) (d : CallD), v.l[id]? = some d → d.dn = true → d.code = 16 ∨ Cl g (fun _ => true) g.h id
  hi : HInv v
  ops : ∀ j o, L j = some o → QC v j o (ids j)
  opn : ∀ (k : Nat) (d : CallD), v.l[k]? = some d → d.dn = false → ∃ j o, L j = some o ∧ ids j = k
  bd : g.T ≤ N ∧ g.hd ≤ N ∧ ∀ c, c < g.s → g.pos c < N + g.s
section
variable {g : QS} {L : QL} {v : HV} {ids : Nat → Nat} {N : Nat} {i : Nat} {o : QOp}
theorem CI.eq (h : CI g L v ids N) {k : Nat} (hk : k < g.hd) : HasT g.h k := (h.rq.hH k).1 hk
/-- The numbers that an operation that goes on is to have. -/
theorem CI.notD (h : CI g L v ids N) (hi : L i = some o) {k : Nat} (hE : (g.E k).isSome = true) (hk : k < g.hd) (hD : g.D k = ids i) : 1 ≤ o.st ∧ o.st ≤ 3 ∧ o.p = k ∧ g.gn k = false := by
  obtain ⟨x, hx⟩ := Option.isSome_iff_exists.1 hE
  obtain ⟨d, d1, d2, _⟩ := h.ops i o hi
  cases hg : g.gn k
  · obtain ⟨j, y, a1, a2, a3, a4, a5, a6⟩ := h.rq.live k hk hg
    rw [hD] at a6
    obtain rfl := h.rq.inj _ _ _ _ a1 hi a6
    rw [hi] at a1; cases a1
    exact ⟨a3, a4, a5, rfl⟩
  · obtain ⟨f, f1, f2, _⟩ := h.tkn k x hx hg
    rw [hD, d1] at f1; cases f1
    rw [d2] at f2; cases f2
theorem CI.notB (h : CI g L v ids N) (hi : L i = some o) {k : Nat} (hE : (g.E k).isSome = true) : g.B k ≠ ids i := by
  intro e
  obtain ⟨x, hx⟩ := Option.isSome_iff_exists.1 hE
  obtain ⟨d, d1, d2, _⟩ := h.ops i o hi
  obtain ⟨f, f1, f2, _⟩ := h.ec k x hx
  rw [e, d1] at f1; cases f1
  rw [d2] at f2; cases f2
theorem CI.ops_upd (h : CI g L v ids N) (hi : L i = some o) {o' : QOp} (ot : o'.tk = o.tk) (ov : o.tk = false → o'.v = o.v) : (∀ j x, upd L i (some o') j = some x → QC v j x (ids j)) ∧ (∀ (k : Nat) (d : CallD), v.l[k]? = some d → d.dn = false → ∃ j x, upd L i (some o') j = some x ∧ ids j = k) := by
  refine ⟨fun j x hx => ?_, fun k d hd hdn => ?_⟩
  · rcases upd_some hx with ⟨rfl, e⟩ | ⟨e, hx⟩
    · cases e
      obtain ⟨d, d1, d2, d3, d4, d5⟩ := h.ops j o hi
      exact ⟨d, d1, d2, d3, by rw [d4]; unfold qknd; rw [ot], fun q => by rw [d5 (by rw [← ot]; exact q), ov (by rw [← ot]; exact q)]⟩
    · exact h.ops j x hx
  · obtain ⟨j, x, hx, e⟩ := h.opn k d hd hdn
    by_cases e2 : j = i
    · subst e2; exact ⟨j, o', upd_same _ _ _, e⟩
    · exact ⟨j, x, by rw [upd_ne e2]; exact hx, e⟩
theorem CI.now_in (h : CI g L v ids N) (hi : L i = some o) : InC v.l (ids i) v.now := by
  obtain ⟨d, d1, d2, _⟩ := h.ops i o hi
  have := (h.hi.fine _ _ d1).f1
  exact ⟨d, d1, this, fun q => by rw [d2] at q; cases q⟩
/-- A step that is noted by none; cells may be others'. -/
theorem CI.cell (h : CI g L v ids N) (hi : L i = some o) {o' : QOp} {pos : Nat → Nat} {sf : Nat → Bool} {dt : Nat → BitVec 64} {gn : Nat → Bool} (rq : RQ { g with pos := pos, sf := sf, dt := dt, gn := gn } (upd L i (some o')) ids)
    (hg : ∀ k x, g.E k = some x → gn k = true → g.gn k = true) (ot : o'.tk = o.tk) (ov : o.tk = false → o'.v = o.v) (hp : ∀ c, c < g.s → pos c < N + 1 + g.s) : CI { g with pos := pos, sf := sf, dt := dt, gn := gn } (upd L i (some o')) v ids (N + 1) := by
  obtain ⟨p1, p2⟩ := h.ops_upd hi ot ov
  have b := h.bd
  exact ⟨rq, h.hk, h.hN, h.ec, fun k x a b => h.tkn k x a (hg k x a b), h.uB, h.uD, h.nn, h.uN, h.iB, h.iD, h.iN, h.iE, h.ref, h.cls, h.hi, p1, p2, by simp only; omega, by simp only; omega, hp⟩
theorem CI.quiet (h : CI g L v ids N) (hi : L i = some o) {o' : QOp} (ht : o'.tk = o.tk) (ov : o.tk = false → o'.v = o.v) (hp : o.tk = false → PutI g (ids i) o') (hk : o.tk = true → TakeI g (ids i) o') (hl : o.tk = true → 1 ≤ o.st → o.st ≤ 3 → 1 ≤ o'.st ∧ o'.st ≤ 3 ∧ o'.p = o.p) : CI g (upd L i (some o')) v ids (N + 1) :=
  h.cell hi (pos := g.pos) (sf := g.sf) (dt := g.dt) (gn := g.gn) (h.rq.quiet hi ht hp hk hl) (fun _ _ _ q => q) ht ov (fun c hc => by have := h.bd.2.2 c hc; omega)
theorem cl_mono {g g' : QS} {K : Nat → Bool} {h h' : Hist} {id : Nat} (s : ∀ x ∈ h, x ∈ h') (hE : ∀ k, (g.E k).isSome = true → (g'.E k).isSome = true) (hB : ∀ k, (g.E k).isSome = true → g'.B k = g.B k) (hD : ∀ k, HasT h k → g'.D k = g.D k) (c : Cl g K h id) : Cl g' K h' id := by
  rcases c with ⟨j, a, b, c⟩ | ⟨j, a, b, c, d⟩ | ⟨a, b⟩
  · exact .inl ⟨j, hE j a, sub_P s b, by rw [hB j a]; exact c⟩
  · exact .inr (.inl ⟨j, hE j a, sub_P s b, sub_T s c, by rw [hD j c]; exact d⟩)
  · exact .inr (.inr ⟨sub_N s a, b⟩)
/-- A Put takes a position. -/
theorem CI.claimP (h : CI g L v ids N) (hi : L i = some o) (hs : o.st = 0) (ht : o.tk = false) (hcl : g.cl = false) :
    CI { g with T := g.T + 1, B := upd g.B g.T (ids i), h := (Ev.put g.T, v.now) :: g.h } (upd L i (some { o with st := 1, p := g.T })) v ids (N + 1) := by
  obtain ⟨p1, p2⟩ := h.ops_upd hi (o' := { o with st := 1, p := g.T }) rfl (fun _ => rfl)
  have b := h.bd
  have hB : ∀ k, (g.E k).isSome = true → upd g.B g.T (ids i) k = g.B k := fun k hk => by
    obtain ⟨x, hx⟩ := Option.isSome_iff_exists.1 hk
    have := (h.rq.ev k x hx).2.1
    exact upd_ne (by omega)
  have hBx : ∀ k x, g.E k = some x → upd g.B g.T (ids i) k = g.B k := fun k x hk => hB k (by rw [hk]; rfl)
  refine ⟨h.rq.claimP hi hs ht v.now, ⟨h.hN, fun j ⟨z, hj⟩ => h.rq.hT j z hj, h.hk⟩, fun x hx => ?_, fun k x hk => ?_, h.tkn, fun a c ha hc e => ?_, h.uD, fun id hid => h.nn id ?_, fun id k hid => h.uN id k ?_, fun k z hk => ?_, fun k z hk => ?_, fun id z hk => ?_, fun k x z hk hd hz => ?_, fun id d h1 h2 h3 => ?_, fun id d h1 h2 => ?_, h.hi, p1, p2, by simp only; omega, by simp only; omega, fun c hc => by have := b.2.2 c hc; simp only; omega⟩
  · rcases List.mem_cons.1 hx with e | hx
    · cases e; exact Int.le_refl _
    · exact h.hN x hx
  · show ∃ d, v.l[upd g.B g.T (ids i) k]? = some d ∧ _
    rw [hBx k x hk]; exact h.ec k x hk
  · have e : upd g.B g.T (ids i) a = upd g.B g.T (ids i) c := e
    rw [hB a ha, hB c hc] at e
    exact h.uB a c ha hc e
  · rcases hasN_cons.1 hid with q | q
    · cases q
    · exact q
  · rcases hasN_cons.1 hid with q | q
    · cases q
    · exact q
  · show InC v.l (upd g.B g.T (ids i) k) z
    rcases List.mem_cons.1 hk with e | hk
    · cases e
      rw [upd_same]; exact h.now_in hi
    · have := h.rq.hT k z hk
      rw [upd_ne (by omega)]; exact h.iB k z hk
  · rcases List.mem_cons.1 hk with e | hk
    · cases e
    · exact h.iD k z hk
  · rcases List.mem_cons.1 hk with e | hk
    · cases e
    · exact h.iN id z hk
  · rcases List.mem_cons.1 hz with e | hz
    · cases e
      have := h.rq.enone (Nat.le_refl g.T)
      rw [this] at hk; cases hk
    · exact h.iE k x z hk hd hz
  · have := (h.ref id d h1 h2 h3).2.1
    rw [hcl] at this; cases this
  · exact (h.cls id d h1 h2).imp _root_.id (cl_mono (g := g) (fun x hx => List.mem_cons_of_mem _ hx) (fun _ q => q) hB (fun _ _ => rfl))
/-- A Take takes a position. -/
theorem CI.claimT (h : CI g L v ids N) (hi : L i = some o) (hs : o.st = 0) (ht : o.tk = true) :
    CI { g with hd := g.hd + 1, D := upd g.D g.hd (ids i), h := (Ev.take g.hd, v.now) :: g.h } (upd L i (some { o with st := 1, p := g.hd })) v ids (N + 1) := by
  obtain ⟨p1, p2⟩ := h.ops_upd hi (o' := { o with st := 1, p := g.hd }) rfl (fun _ => rfl)
  have b := h.bd
  have g0 := h.rq.ti i o hi ht
  obtain ⟨d0, e1, e2, _⟩ := h.ops i o hi
  have none_ : ∀ k, (g.E k).isSome = true → k < g.hd → g.D k ≠ ids i := fun k hk hk2 q => by
    have := (h.notD hi hk hk2 q).1
    omega
  refine ⟨h.rq.claimT hi hs ht v.now, ⟨h.hN, fun j => h.rq.hH j, h.hk⟩, fun x hx => ?_, h.ec, fun k x hk hg => ?_, h.uB, fun a c ha hc la lc e => ?_, fun id hid => h.nn id ?_, fun id k hid hE hk => ?_, fun k z hk => ?_, fun k z hk => ?_, fun id z hk => ?_, fun k x z hk hd hz d hdd hdn => ?_, fun id d h1 h2 h3 => ?_, fun id d h1 h2 => ?_, h.hi, p1, p2, by simp only; omega, by simp only; omega, fun c hc => by have := b.2.2 c hc; simp only; omega⟩
  · rcases List.mem_cons.1 hx with e | hx
    · cases e; exact Int.le_refl _
    · exact h.hN x hx
  · show ∃ d, v.l[upd g.D g.hd (ids i) k]? = some d ∧ _
    have hg : g.gn k = true := hg
    have : k ≠ g.hd := by
      rintro rfl
      rw [h.rq.gz _ (Nat.le_refl _)] at hg; cases hg
    rw [upd_ne this]; exact h.tkn k x hk hg
  · have e : upd g.D g.hd (ids i) a = upd g.D g.hd (ids i) c := e
    simp only at la lc
    by_cases ea : a = g.hd
    · by_cases ec : c = g.hd
      · omega
      · rw [ea, upd_same, upd_ne ec] at e
        exact absurd e.symm (none_ c hc (by omega))
    · by_cases ec : c = g.hd
      · rw [ec, upd_same, upd_ne ea] at e
        exact absurd e (none_ a ha (by omega))
      · rw [upd_ne ea, upd_ne ec] at e
        exact h.uD a c ha hc (by omega) (by omega) e
  · rcases hasN_cons.1 hid with q | q
    · cases q
    · exact q
  · show upd g.D g.hd (ids i) k ≠ id
    have hid : HasN g.h id := by
      rcases hasN_cons.1 hid with q | q
      · cases q
      · exact q
    simp only at hk
    by_cases ek : k = g.hd
    · rw [ek, upd_same]
      rintro rfl
      obtain ⟨z, hz⟩ := hid
      exact g0.no (by omega) z hz
    · rw [upd_ne ek]; exact h.uN id k hid hE (by omega)
  · rcases List.mem_cons.1 hk with e | hk
    · cases e
    · exact h.iB k z hk
  · show InC v.l (upd g.D g.hd (ids i) k) z
    rcases List.mem_cons.1 hk with e | hk
    · cases e
      rw [upd_same]; exact h.now_in hi
    · have := (h.rq.hH k).2 ⟨z, hk⟩
      rw [upd_ne (by omega)]; exact h.iD k z hk
  · rcases List.mem_cons.1 hk with e | hk
    · cases e
    · exact h.iN id z hk
  · have hdd : v.l[upd g.D g.hd (ids i) k]? = some d := hdd
    simp only at hd
    have hz : (Ev.put k, z) ∈ g.h := by
      rcases List.mem_cons.1 hz with e | hz
      · cases e
      · exact hz
    by_cases ek : k = g.hd
    · rw [ek, upd_same, e1] at hdd; cases hdd
      rw [e2] at hdn; cases hdn
    · rw [upd_ne ek] at hdd
      exact h.iE k x z hk (by omega) hz d hdd hdn
  · obtain ⟨r1, r2, r3⟩ := h.ref id d h1 h2 h3
    refine ⟨r1, r2, fun k z hk => ?_⟩
    rcases List.mem_cons.1 hk with e | hk
    · cases e
    · exact r3 k z hk
  · refine (h.cls id d h1 h2).imp _root_.id (cl_mono (g := g) (fun x hx => List.mem_cons_of_mem _ hx) (fun _ q => q) (fun _ _ => rfl) (fun k hk => ?_))
    have := (h.rq.hH k).2 hk
    exact upd_ne (by omega)
/-- A Take sees that there is none. -/
theorem CI.non (h : CI g L v ids N) (hi : L i = some o) (hs : o.st = 5) (ht : o.tk = true) (hT : g.T ≤ g.hd) :
    CI { g with h := (Ev.non (ids i), v.now) :: g.h } (upd L i (some { o with st := 6 })) v ids (N + 1) := by
  obtain ⟨p1, p2⟩ := h.ops_upd hi (o' := { o with st := 6 }) rfl (fun _ => rfl)
  have b := h.bd
  have g0 := h.rq.ti i o hi ht
  obtain ⟨d0, e1, e2, _, e4, _⟩ := h.ops i o hi
  refine ⟨h.rq.non hi hs ht v.now, ⟨h.hN, ⟨fun ⟨z, hz⟩ => g0.no (by omega) z hz, fun k ⟨z, hz⟩ => (h.rq.hH k).1 (by have := h.rq.hT k z hz; omega)⟩, h.hk⟩, fun x hx => ?_, h.ec, h.tkn, h.uB, h.uD, fun id hid => ?_, fun id k hid hE hk => ?_, fun k z hk => ?_, fun k z hk => ?_, fun id z hk => ?_, fun k x z hk hd hz => ?_, fun id d h1 h2 h3 => ?_, fun id d h1 h2 => ?_, h.hi, p1, p2, by simp only; omega, by simp only; omega, fun c hc => by have := b.2.2 c hc; simp only; omega⟩
  · rcases List.mem_cons.1 hx with e | hx
    · cases e; exact Int.le_refl _
    · exact h.hN x hx
  · rcases hasN_cons.1 hid with q | q
    · cases q
      exact ⟨d0, e1, by rw [e4, qknd, ht]; rfl, fun q => by rw [e2] at q; cases q⟩
    · exact h.nn id q
  · rcases hasN_cons.1 hid with q | q
    · cases q
      intro q
      have := (h.notD hi hE hk q).2.1
      omega
    · exact h.uN id k q hE hk
  · rcases List.mem_cons.1 hk with e | hk
    · cases e
    · exact h.iB k z hk
  · rcases List.mem_cons.1 hk with e | hk
    · cases e
    · exact h.iD k z hk
  · rcases List.mem_cons.1 hk with e | hk
    · cases e; exact h.now_in hi
    · exact h.iN id z hk
  · rcases List.mem_cons.1 hz with e | hz
    · cases e
    · exact h.iE k x z hk hd hz
  · obtain ⟨r1, r2, r3⟩ := h.ref id d h1 h2 h3
    refine ⟨r1, r2, fun k z hk => ?_⟩
    rcases List.mem_cons.1 hk with e | hk
    · cases e
    · exact r3 k z hk
  · exact (h.cls id d h1 h2).imp _root_.id (cl_mono (g := g) (fun x hx => List.mem_cons_of_mem _ hx) (fun _ q => q) (fun _ _ => rfl) (fun _ _ => rfl))
end
end Go.Proofs.Ytopjhhcncjleaaa
/- DROP Calls of a ring that may be closed: calls that begin, and end. -/
namespace Go.Proofs.Ytopjhhcncjleaaa
open Go Go.LK
set_option linter.unusedSimpArgs false
set_option linter.unusedVariables false
section
variable {g : QS} {L : QL} {v : HV} {ids : Nat → Nat} {N : Nat} {i : Nat} {o : QOp}
theorem CI.free (h : CI g L v ids N) (hi : L i = none) : v.open i = none := by
  show openF v.op i = none
  cases hq : openF v.op (i : Int) with
  | none => rfl
  | some id =>
    obtain ⟨k, c, _, hc, hth, hdn⟩ := (h.hi.op _ _).1 hq
    obtain ⟨j, x, hj, rfl⟩ := h.opn k c hc hdn
    obtain ⟨d, d1, _, d3, _⟩ := h.ops j x hj
    rw [hc] at d1
    cases d1
    obtain rfl : j = i := by omega
    rw [hi] at hj; cases hj
theorem in_app {C : List CallD} {id : Nat} {z : Int} (c : CallD) (h : InC C id z) : InC (C ++ [c]) id z := by
  obtain ⟨d, d1, d2⟩ := h
  exact ⟨d, by rw [List.getElem?_append_left (List.getElem?_eq_some_iff.1 d1).1]; exact d1, d2⟩
/-- A call begins. -/
theorem CI.begin (h : CI g L v ids N) (hi : L i = none) (h64 : i < 64) (hl : v.l.length < 1024) {o : QOp} (ho : o.st = 0) {kind : Int} {arg : BitVec 64} (hk : kind = qknd o) (ha : o.tk = false → arg = o.v) (hv : o.tk = false → o.v + 1#64 ≠ 0#64) :
    v.begin i kind arg = ((v.begin i kind arg).1, (v.l.length : Int), 0) ∧ (v.begin i kind arg).1.l.length = v.l.length + 1 ∧ (v.begin i kind arg).1.now = v.now + 1 ∧ CI g (upd L i (some o)) (v.begin i kind arg).1 (upd ids i v.l.length) N := by
  have hb : v.begin i kind arg = (({ l := v.l ++ [{ th := i, kind := kind, arg := arg, fr := v.now, to := 0, dn := false, code := 0, ret := 0#64 }], op := v.op ++ [((i : Int), (v.l.length : Int))], now := v.now + 1 } : HV), (v.l.length : Int), (0 : Int)) := by
    rw [HV.begin, if_neg (by omega), if_neg (by rw [h.free hi]; simp), if_neg (by omega)]
  have hh := h.hi.begin (i : Int) kind arg
  rw [hb] at hh ⊢
  have old : ∀ (k : Nat) (d : CallD), v.l[k]? = some d → (v.l ++ [({ th := i, kind := kind, arg := arg, fr := v.now, to := 0, dn := false, code := 0, ret := 0#64 } : CallD)])[k]? = some d := fun k d hk => by
    rw [List.getElem?_append_left (List.getElem?_eq_some_iff.1 hk).1]; exact hk
  have dold : ∀ (k : Nat) (d : CallD), (v.l ++ [({ th := i, kind := kind, arg := arg, fr := v.now, to := 0, dn := false, code := 0, ret := 0#64 } : CallD)])[k]? = some d → d.dn = true → v.l[k]? = some d := fun k d hk hd => by
    rcases get_snoc hk with g | ⟨_, rfl⟩
    · exact g
    · cases hd
  have lt : ∀ j x, L j = some x → ids j < v.l.length := fun j x hx => by
    obtain ⟨d, d1, _⟩ := h.ops j x hx
    exact (List.getElem?_eq_some_iff.1 d1).1
  have nid : ¬ HasN g.h v.l.length := fun q => by
    obtain ⟨d, d1, _⟩ := h.nn _ q
    have := (List.getElem?_eq_some_iff.1 d1).1
    omega
  refine ⟨rfl, by simp, rfl, h.rq.begin hi ho hv (fun z hz => nid ⟨z, hz⟩) (fun j x hx q => by have := lt j x hx; omega), h.hk, fun x hx => by have := h.hN x hx; simp only; omega, fun k x hk => ?_, fun k x hk hg => ?_, h.uB, h.uD, fun id hid => ?_, h.uN, fun k z hk => in_app _ (h.iB k z hk), fun k z hk => in_app _ (h.iD k z hk), fun k z hk => in_app _ (h.iN k z hk), fun k x z hk hd hz d hdd hdn => h.iE k x z hk hd hz d (dold _ d hdd hdn) hdn, fun id d h1 h2 => h.ref id d (dold _ d h1 h2) h2, fun id d h1 h2 => h.cls id d (dold _ d h1 h2) h2, hh, fun j x hx => ?_, fun k d hd hdn => ?_, h.bd⟩
  · obtain ⟨d, d1, d2⟩ := h.ec k x hk
    exact ⟨d, old _ _ d1, d2⟩
  · obtain ⟨d, d1, d2⟩ := h.tkn k x hk hg
    exact ⟨d, old _ _ d1, d2⟩
  · obtain ⟨d, d1, d2⟩ := h.nn id hid
    exact ⟨d, old _ _ d1, d2⟩
  · rcases upd_some hx with ⟨rfl, e⟩ | ⟨e, hx⟩
    · cases e
      rw [upd_same]
      exact ⟨{ th := j, kind := kind, arg := arg, fr := v.now, to := 0, dn := false, code := 0, ret := 0#64 }, by simp, rfl, rfl, hk, ha⟩
    · rw [upd_ne e]
      obtain ⟨d, d1, d2⟩ := h.ops j x hx
      exact ⟨d, old _ _ d1, d2⟩
  · rcases get_snoc hd with hd | ⟨rfl, rfl⟩
    · obtain ⟨j, x, hx, e⟩ := h.opn k d hd hdn
      have ne : j ≠ i := by rintro rfl; rw [hi] at hx; cases hx
      exact ⟨j, x, by rw [upd_ne ne]; exact hx, by rw [upd_ne ne]; exact e⟩
    · exact ⟨i, o, upd_same _ _ _, upd_same _ _ _⟩
/-- A call ends: the log. -/
theorem CI.fin_eq (h : CI g L v ids N) (hi : L i = some o) (code : Int) (ret : BitVec 64) :
    ∃ d, v.l[ids i]? = some d ∧ d.dn = false ∧ d.kind = qknd o ∧ (o.tk = false → d.arg = o.v) ∧ d.fr < v.now ∧ (v.fin (ids i) code ret).1 = ({ l := v.l.set (ids i) { d with dn := true, to := v.now, code := code, ret := ret }, op := dropOp v.op d.th, now := v.now + 1 } : HV) := by
  obtain ⟨d, d1, d2, d3, d4, d5⟩ := h.ops i o hi
  refine ⟨d, d1, d2, d4, d5, (h.hi.fine _ _ d1).f1, ?_⟩
  rw [HV.fin, if_neg (by omega), Int.toNat_natCast, d1]
  simp only [d2, Bool.false_eq_true, if_false]
/-- The calls behind an end. -/
structure Ends (v : HV) (id : Nat) (d d' : CallD) : Prop where
  old : v.l[id]? = some d
  fr : d'.fr = d.fr
  kind : d'.kind = d.kind
  arg : d'.arg = d.arg
  dn : d'.dn = true
  to : d'.to = v.now
section
variable {id : Nat} {d d' : CallD}
theorem Ends.same (e : Ends v id d d') : (v.l.set id d')[id]? = some d' := List.getElem?_set_self (List.getElem?_eq_some_iff.1 e.old).1
theorem Ends.ne (e : Ends v id d d') {k : Nat} (h : k ≠ id) : (v.l.set id d')[k]? = v.l[k]? := List.getElem?_set_ne (fun q => h q.symm)
theorem Ends.inC (e : Ends v id d d') {k : Nat} {z : Int} (h : InC v.l k z) (hz : z ≤ v.now) : InC (v.l.set id d') k z := by
  obtain ⟨f, f1, f2, f3⟩ := h
  by_cases hk : k = id
  · subst hk
    rw [e.old] at f1; cases f1
    exact ⟨d', e.same, by rw [e.fr]; exact f2, fun _ => by rw [e.to]; exact hz⟩
  · exact ⟨f, by rw [e.ne hk]; exact f1, f2, f3⟩
end
theorem CI.ops_end (h : CI g L v ids N) (hi : L i = some o) {d d' : CallD} (e : Ends v (ids i) d d') {op : List (Int × Int)} {now : Int} :
    (∀ j x, upd L i none j = some x → QC ⟨v.l.set (ids i) d', op, now⟩ j x (ids j)) ∧ (∀ (k : Nat) (f : CallD), (v.l.set (ids i) d')[k]? = some f → f.dn = false → ∃ j x, upd L i none j = some x ∧ ids j = k) := by
  refine ⟨fun j x hx => ?_, fun k f hf hfn => ?_⟩
  · rcases upd_some hx with ⟨_, q⟩ | ⟨ne, hx⟩
    · cases q
    · have nid : ids j ≠ ids i := fun q => ne (h.rq.inj _ _ _ _ hx hi q)
      obtain ⟨f, f1, f2⟩ := h.ops j x hx
      exact ⟨f, by show (v.l.set _ _)[_]? = _; rw [e.ne nid]; exact f1, f2⟩
  · by_cases hk : k = ids i
    · subst hk
      rw [e.same] at hf; cases hf
      rw [e.dn] at hfn; cases hfn
    · rw [e.ne hk] at hf
      obtain ⟨j, x, hx, rfl⟩ := h.opn k f hf hfn
      exact ⟨j, x, by rw [upd_ne (by rintro rfl; exact hk rfl)]; exact hx, rfl⟩
theorem cl_end {K : Nat → Bool} {h : Hist} {g g' : QS} {k : Nat} (hE : ∀ k, (g.E k).isSome = true → (g'.E k).isSome = true) (hB : ∀ k, (g.E k).isSome = true → g'.B k = g.B k) (hD : g'.D = g.D) (c : Cl g K h k) : Cl g' K h k :=
  cl_mono (g := g) (fun x hx => hx) hE hB (fun k _ => by rw [hD]) c
/-- A Take finds none, in the end. -/
theorem CI.endN (h : CI g L v ids N) (hi : L i = some o) (ht : o.tk = true) (hs : 6 ≤ o.st) {T' : Nat} (hT : g.T ≤ T') (hT' : T' ≤ N + 1) : CI { g with T := T', cl := g.cl } (upd L i none) (v.fin (ids i) 13 0#64).1 ids (N + 1) := by
  obtain ⟨d, d1, d2, d3, d4, d5, hf⟩ := h.fin_eq hi 13 0#64
  have hh := h.hi.fin (ids i) 13 0#64
  rw [hf] at hh ⊢
  have e : Ends v (ids i) d { d with dn := true, to := v.now, code := 13, ret := 0#64 } := ⟨d1, rfl, rfl, rfl, rfl, rfl⟩
  obtain ⟨p1, p2⟩ := h.ops_end hi e (op := dropOp v.op d.th) (now := v.now + 1)
  have b := h.bd
  have hyes := (h.rq.ti i o hi ht).yes hs
  have nD : ∀ k, (g.E k).isSome = true → k < g.hd → g.D k ≠ ids i := fun k hk hk2 q => by
    have := (h.notD hi hk hk2 q).2.1
    omega
  refine ⟨h.rq.drop hi (fun _ _ q => by omega) hT g.cl, h.hk, fun x hx => by have := h.hN x hx; simp only; omega, fun k x hk => ?_, fun k x hk hg => ?_, h.uB, h.uD, fun id hid => ?_, h.uN, fun k z hk => e.inC (h.iB k z hk) (h.hN _ hk), fun k z hk => e.inC (h.iD k z hk) (h.hN _ hk), fun k z hk => e.inC (h.iN k z hk) (h.hN _ hk), fun k x z hk hd hz f hff hfn => ?_, fun id f h1 h2 h3 => ?_, fun id f h1 h2 => ?_, hh, p1, p2, hT', by simp only; omega, fun c hc => by have := b.2.2 c hc; simp only; omega⟩
  · show ∃ f, (v.l.set _ _)[g.B k]? = some f ∧ _
    rw [e.ne (h.notB hi (by rw [hk]; rfl))]; exact h.ec k x hk
  · show ∃ f, (v.l.set _ _)[g.D k]? = some f ∧ _
    have hg : g.gn k = true := hg
    have hkd : k < g.hd := Nat.lt_of_not_le fun q => by rw [h.rq.gz k q] at hg; cases hg
    rw [e.ne (nD k (by rw [hk]; rfl) hkd)]; exact h.tkn k x hk hg
  · show ∃ f, (v.l.set _ _)[id]? = some f ∧ _
    by_cases q : id = ids i
    · subst q
      rw [e.same]
      exact ⟨_, rfl, by show d.kind = 1; rw [d3, qknd, ht]; rfl, fun _ => ⟨rfl, rfl⟩⟩
    · rw [e.ne q]; exact h.nn id hid
  · have hff : (v.l.set _ _)[g.D k]? = some f := hff
    rw [e.ne (nD k (by rw [hk]; rfl) hd)] at hff
    exact h.iE k x z hk hd hz f hff hfn
  · by_cases q : id = ids i
    · subst q
      rw [e.same] at h1; cases h1
      simp at h3
    · rw [e.ne q] at h1; exact h.ref id f h1 h2 h3
  · by_cases q : id = ids i
    · subst q
      exact .inr (.inr (.inr ⟨hyes, rfl⟩))
    · rw [e.ne q] at h1
      exact (h.cls id f h1 h2).imp _root_.id (cl_end (g := g) (fun _ q => q) (fun _ _ => rfl) rfl)
/-- A call is refused, as the ring is closed. -/
theorem CI.endS (h : CI g L v ids N) (hi : L i = some o) (ht : o.tk = false) {T' : Nat} (hT : g.T ≤ T') (hT' : T' ≤ N + 1) : CI { g with T := T', cl := true } (upd L i none) (v.fin (ids i) 16 0#64).1 ids (N + 1) := by
  obtain ⟨d, d1, d2, d3, d4, d5, hf⟩ := h.fin_eq hi 16 0#64
  have hh := h.hi.fin (ids i) 16 0#64
  rw [hf] at hh ⊢
  have e : Ends v (ids i) d { d with dn := true, to := v.now, code := 16, ret := 0#64 } := ⟨d1, rfl, rfl, rfl, rfl, rfl⟩
  obtain ⟨p1, p2⟩ := h.ops_end hi e (op := dropOp v.op d.th) (now := v.now + 1)
  have b := h.bd
  have k0 : d.kind = 0 := by rw [d3, qknd, ht]; rfl
  have nD : ∀ k, (g.E k).isSome = true → k < g.hd → g.D k ≠ ids i := fun k hk hk2 q => by
    have ⟨q1, q2, q3, q4⟩ := h.notD hi hk hk2 q
    obtain ⟨j, y, a1, a2, a3, a4, a5, a6⟩ := h.rq.live k hk2 q4
    rw [q] at a6
    obtain rfl := h.rq.inj _ _ _ _ a1 hi a6
    rw [hi] at a1; cases a1
    rw [ht] at a2; cases a2
  refine ⟨h.rq.drop hi (fun q _ _ => by rw [ht] at q; cases q) hT true, h.hk, fun x hx => by have := h.hN x hx; simp only; omega, fun k x hk => ?_, fun k x hk hg => ?_, h.uB, h.uD, fun id hid => ?_, h.uN, fun k z hk => e.inC (h.iB k z hk) (h.hN _ hk), fun k z hk => e.inC (h.iD k z hk) (h.hN _ hk), fun k z hk => e.inC (h.iN k z hk) (h.hN _ hk), fun k x z hk hd hz f hff hfn => ?_, fun id f h1 h2 h3 => ?_, fun id f h1 h2 => ?_, hh, p1, p2, hT', by simp only; omega, fun c hc => by have := b.2.2 c hc; simp only; omega⟩
  · show ∃ f, (v.l.set _ _)[g.B k]? = some f ∧ _
    rw [e.ne (h.notB hi (by rw [hk]; rfl))]; exact h.ec k x hk
  · show ∃ f, (v.l.set _ _)[g.D k]? = some f ∧ _
    have hg : g.gn k = true := hg
    have hkd : k < g.hd := Nat.lt_of_not_le fun q => by rw [h.rq.gz k q] at hg; cases hg
    rw [e.ne (nD k (by rw [hk]; rfl) hkd)]; exact h.tkn k x hk hg
  · show ∃ f, (v.l.set _ _)[id]? = some f ∧ _
    by_cases q : id = ids i
    · exfalso
      subst q
      obtain ⟨f, f1, f2, _⟩ := h.nn _ hid
      rw [d1] at f1; cases f1
      omega
    · rw [e.ne q]; exact h.nn id hid
  · have hff : (v.l.set _ _)[g.D k]? = some f := hff
    rw [e.ne (nD k (by rw [hk]; rfl) hd)] at hff
    exact h.iE k x z hk hd hz f hff hfn
  · by_cases q : id = ids i
    · subst q
      rw [e.same] at h1; cases h1
      exact ⟨k0, rfl, fun k z hk => h.hN _ hk⟩
    · rw [e.ne q] at h1
      obtain ⟨r1, _, r3⟩ := h.ref id f h1 h2 h3
      exact ⟨r1, rfl, r3⟩
  · by_cases q : id = ids i
    · subst q
      rw [e.same] at h1; cases h1
      exact .inl rfl
    · rw [e.ne q] at h1
      exact (h.cls id f h1 h2).imp _root_.id (cl_end (g := g) (fun _ q => q) (fun _ _ => rfl) rfl)
/-- A Take has its number. -/
theorem CI.endT (h : CI g L v ids N) (hi : L i = some o) (ht : o.tk = true) (h1 : 1 ≤ o.st) (h3 : o.st ≤ 3) (hq : g.pos (o.p % g.s) = o.p) (hd : g.dt (o.p % g.s) ≠ 0#64) {ret : BitVec 64} (hret : g.dt (o.p % g.s) = ret + 1#64) :
    CI { g with pos := upd g.pos (o.p % g.s) (o.p + g.s), dt := upd g.dt (o.p % g.s) 0#64, gn := upd g.gn o.p true } (upd L i none) (v.fin (ids i) 0 ret).1 ids (N + 1) := by
  obtain ⟨d, d1, d2, d3, d4, d5, hf⟩ := h.fin_eq hi 0 ret
  have hh := h.hi.fin (ids i) 0 ret
  rw [hf] at hh ⊢
  have e : Ends v (ids i) d { d with dn := true, to := v.now, code := 0, ret := ret } := ⟨d1, rfl, rfl, rfl, rfl, rfl⟩
  obtain ⟨p1, p2⟩ := h.ops_end hi e (op := dropOp v.op d.th) (now := v.now + 1)
  have b := h.bd
  have g0 := h.rq.ti i o hi ht
  obtain ⟨w1, w2, w3⟩ := g0.own h1 h3
  have k1 : d.kind = 1 := by rw [d3, qknd, ht]; rfl
  obtain ⟨x0, x1, x2, _⟩ := h.rq.full _ (at_lt h.rq o.p) hd
  rw [hq] at x1
  have hxr : x0 = ret := by
    rw [hret] at x2
    have := congrArg (· - 1#64) x2
    simpa using this.symm
  subst hxr
  have nD : ∀ k, (g.E k).isSome = true → k < g.hd → k ≠ o.p → g.D k ≠ ids i := fun k hk hk2 hne q => hne (h.notD hi hk hk2 q).2.2.1.symm
  have gt : ∀ k, upd g.gn o.p true k = true → k = o.p ∨ (k ≠ o.p ∧ g.gn k = true) := fun k hk => by
    by_cases e : k = o.p
    · exact .inl e
    · rw [upd_ne e] at hk; exact .inr ⟨e, hk⟩
  have hN : ∀ {id : Nat}, HasN g.h id → id ≠ ids i := by
    rintro id ⟨z, hz⟩ rfl
    exact g0.no (by omega) z hz
  refine ⟨h.rq.leaveB hi ht h1 h3 (by omega) (.inr hq) (fun o' ho' => by cases ho'), h.hk, fun x hx => by have := h.hN x hx; simp only; omega, fun k x hk => ?_, fun k x hk hg => ?_, h.uB, h.uD, fun id hid => ?_, h.uN, fun k z hk => e.inC (h.iB k z hk) (h.hN _ hk), fun k z hk => e.inC (h.iD k z hk) (h.hN _ hk), fun k z hk => e.inC (h.iN k z hk) (h.hN _ hk), fun k x z hk hd hz f hff hfn => ?_, fun id f h1 h2 h3 => ?_, fun id f h1 h2 => ?_, hh, p1, p2, by simp only; omega, by simp only; omega, fun c hc => ?_⟩
  · show ∃ f, (v.l.set _ _)[g.B k]? = some f ∧ _
    rw [e.ne (h.notB hi (by rw [hk]; rfl))]; exact h.ec k x hk
  · show ∃ f, (v.l.set _ _)[g.D k]? = some f ∧ _
    rcases gt k hg with rfl | ⟨ne, hg⟩
    · have hk : g.E o.p = some x := hk
      rw [x1] at hk; cases hk
      rw [w3, e.same]
      exact ⟨_, rfl, rfl, k1, rfl, rfl⟩
    · have hkd : k < g.hd := Nat.lt_of_not_le fun q => by rw [h.rq.gz k q] at hg; cases hg
      rw [e.ne (nD k (by rw [hk]; rfl) hkd ne)]; exact h.tkn k x hk hg
  · show ∃ f, (v.l.set _ _)[id]? = some f ∧ _
    rw [e.ne (hN hid)]; exact h.nn id hid
  · have hff : (v.l.set _ _)[g.D k]? = some f := hff
    by_cases q : k = o.p
    · subst q
      rw [w3, e.same] at hff; cases hff
      exact h.hN _ hz
    · rw [e.ne (nD k (by rw [hk]; rfl) hd q)] at hff
      exact h.iE k x z hk hd hz f hff hfn
  · by_cases q : id = ids i
    · subst q
      rw [e.same] at h1; cases h1
      simp at h3
    · rw [e.ne q] at h1; exact h.ref id f h1 h2 h3
  · by_cases q : id = ids i
    · subst q
      exact .inr (.inr (.inl ⟨o.p, by show (g.E o.p).isSome = true; rw [x1]; rfl, (h.rq.ev _ _ x1).2.2, h.eq w1, w3.symm⟩))
    · rw [e.ne q] at h1
      exact (h.cls id f h1 h2).imp _root_.id (cl_end (g := g) (fun _ q => q) (fun _ _ => rfl) rfl)
  · show upd g.pos _ _ c < _
    have := b.2.2 c hc
    by_cases q : c = o.p % g.s
    · rw [q, upd_same]; simp only; omega
    · rw [upd_ne q]; simp only; omega
/-- A Put has laid its number down. -/
theorem CI.endP (h : CI g L v ids N) (hi : L i = some o) (ht : o.tk = false) (hs : o.st = 4) (c1 : g.pos (o.p % g.s) = o.q) (c2 : g.sf (o.p % g.s) = o.b) (c3 : g.dt (o.p % g.s) = 0#64) :
    CI { g with pos := upd g.pos (o.p % g.s) o.p, sf := upd g.sf (o.p % g.s) true, dt := upd g.dt (o.p % g.s) (o.v + 1#64), E := upd g.E o.p (some o.v) } (upd L i none) (v.fin (ids i) 0 0#64).1 ids (N + 1) := by
  obtain ⟨d, d1, d2, d3, d4, d5, hf⟩ := h.fin_eq hi 0 0#64
  have hh := h.hi.fin (ids i) 0 0#64
  rw [hf] at hh ⊢
  have e : Ends v (ids i) d { d with dn := true, to := v.now, code := 0, ret := 0#64 } := ⟨d1, rfl, rfl, rfl, rfl, rfl⟩
  obtain ⟨p1, p2⟩ := h.ops_end hi e (op := dropOp v.op d.th) (now := v.now + 1)
  have b := h.bd
  have g0 := h.rq.pi i o hi ht
  obtain ⟨w1, w2, w3, w4⟩ := g0.att (by omega) (by omega)
  have k0 : d.kind = 0 := by rw [d3, qknd, ht]; rfl
  obtain ⟨hgn, rq⟩ := h.rq.lay hi ht hs c1 c2 c3
  have lv : o.p < g.hd → ∃ j y, L j = some y ∧ y.tk = true ∧ 1 ≤ y.st ∧ y.st ≤ 3 ∧ y.p = o.p ∧ ids j = g.D o.p := fun q => h.rq.live _ q hgn
  have nDp : o.p < g.hd → g.D o.p ≠ ids i := fun q q2 => by
    obtain ⟨j, y, a1, a2, a3, a4, a5, a6⟩ := lv q
    rw [q2] at a6
    obtain rfl := h.rq.inj _ _ _ _ a1 hi a6
    rw [hi] at a1; cases a1
    rw [ht] at a2; cases a2
  have nD : ∀ k, (g.E k).isSome = true → k < g.hd → g.D k ≠ ids i := fun k hk hk2 q => by
    have ⟨q1, q2, q3, q4⟩ := h.notD hi hk hk2 q
    obtain ⟨j, y, a1, a2, a3, a4, a5, a6⟩ := h.rq.live k hk2 q4
    rw [q] at a6
    obtain rfl := h.rq.inj _ _ _ _ a1 hi a6
    rw [hi] at a1; cases a1
    rw [ht] at a2; cases a2
  have hE : ∀ k, (upd g.E o.p (some o.v) k).isSome = true → k = o.p ∨ (k ≠ o.p ∧ (g.E k).isSome = true) := fun k hk => by
    by_cases q : k = o.p
    · exact .inl q
    · rw [upd_ne q] at hk; exact .inr ⟨q, hk⟩
  have hEx : ∀ k x, upd g.E o.p (some o.v) k = some x → (k = o.p ∧ x = o.v) ∨ (k ≠ o.p ∧ g.E k = some x) := fun k x hk => by
    by_cases q : k = o.p
    · subst q; rw [upd_same] at hk; cases hk; exact .inl ⟨rfl, rfl⟩
    · rw [upd_ne q] at hk; exact .inr ⟨q, hk⟩
  have one : ∀ k, (g.E k).isSome = true → k < g.hd → o.p < g.hd → g.D k = g.D o.p → k = o.p := fun k hk hk2 hp q => by
    obtain ⟨j, y, a1, a2, a3, a4, a5, a6⟩ := lv hp
    rw [← a6] at q
    rw [← (h.notD a1 hk hk2 q).2.2.1, a5]
  refine ⟨rq, h.hk, fun x hx => by have := h.hN x hx; simp only; omega, fun k x hk => ?_, fun k x hk hg => ?_, fun a c ha hc q => ?_, fun a c ha hc la lc q => ?_, fun id hid => ?_, fun id k hid hk hkd => ?_, fun k z hk => e.inC (h.iB k z hk) (h.hN _ hk), fun k z hk => e.inC (h.iD k z hk) (h.hN _ hk), fun k z hk => e.inC (h.iN k z hk) (h.hN _ hk), fun k x z hk hd hz f hff hfn => ?_, fun id f h1 h2 h3 => ?_, fun id f h1 h2 => ?_, hh, p1, p2, by simp only; omega, by simp only; omega, fun c hc => ?_⟩
  · show ∃ f, (v.l.set _ _)[g.B k]? = some f ∧ _
    rcases hEx k x hk with ⟨rfl, rfl⟩ | ⟨_, hk⟩
    · rw [w3, e.same]
      exact ⟨_, rfl, rfl, k0, d4 ht, rfl, rfl⟩
    · rw [e.ne (h.notB hi (by rw [hk]; rfl))]; exact h.ec k x hk
  · show ∃ f, (v.l.set _ _)[g.D k]? = some f ∧ _
    have hg : g.gn k = true := hg
    have hkd : k < g.hd := Nat.lt_of_not_le fun q => by rw [h.rq.gz k q] at hg; cases hg
    rcases hEx k x hk with ⟨rfl, rfl⟩ | ⟨_, hk⟩
    · rw [hgn] at hg; cases hg
    · rw [e.ne (nD k (by rw [hk]; rfl) hkd)]; exact h.tkn k x hk hg
  · have q : g.B a = g.B c := q
    rcases hE a ha with ha | ⟨_, ha⟩ <;> rcases hE c hc with hc | ⟨_, hc⟩
    · omega
    · rw [ha, w3] at q; exact absurd q.symm (h.notB hi hc)
    · rw [hc, w3] at q; exact absurd q (h.notB hi ha)
    · exact h.uB a c ha hc q
  · have q : g.D a = g.D c := q
    have la : a < g.hd := la
    have lc : c < g.hd := lc
    rcases hE a ha with ha | ⟨_, ha⟩ <;> rcases hE c hc with hc | ⟨_, hc⟩
    · omega
    · rw [ha] at q la; rw [ha]; exact (one c hc lc la q.symm).symm
    · rw [hc] at q lc; rw [hc]; exact one a ha la lc q
    · exact h.uD a c ha hc la lc q
  · show ∃ f, (v.l.set _ _)[id]? = some f ∧ _
    by_cases q : id = ids i
    · exfalso
      subst q
      obtain ⟨f, f1, f2, _⟩ := h.nn _ hid
      rw [d1] at f1; cases f1
      omega
    · rw [e.ne q]; exact h.nn id hid
  · have hkd : k < g.hd := hkd
    rcases hE k hk with rfl | ⟨_, hk⟩
    · obtain ⟨j, y, a1, a2, a3, a4, a5, a6⟩ := lv hkd
      show g.D o.p ≠ id
      rw [← a6]
      rintro rfl
      obtain ⟨z, hz⟩ := hid
      exact (h.rq.ti j y a1 a2).no (by omega) z hz
    · exact h.uN id k hid hk hkd
  · have hff : (v.l.set _ _)[g.D k]? = some f := hff
    have hd : k < g.hd := hd
    rcases hEx k x hk with ⟨rfl, rfl⟩ | ⟨_, hk⟩
    · exfalso
      rw [e.ne (nDp hd)] at hff
      obtain ⟨j, y, a1, a2, a3, a4, a5, a6⟩ := lv hd
      obtain ⟨f', f1, f2, _⟩ := h.ops j y a1
      rw [a6, hff] at f1; cases f1
      rw [f2] at hfn; cases hfn
    · rw [e.ne (nD k (by rw [hk]; rfl) hd)] at hff
      exact h.iE k x z hk hd hz f hff hfn
  · by_cases q : id = ids i
    · subst q
      rw [e.same] at h1; cases h1
      simp at h3
    · rw [e.ne q] at h1; exact h.ref id f h1 h2 h3
  · by_cases q : id = ids i
    · subst q
      exact .inr (.inl ⟨o.p, by show (upd g.E o.p (some o.v) o.p).isSome = true; rw [upd_same]; rfl, w4, w3.symm⟩)
    · rw [e.ne q] at h1
      refine (h.cls id f h1 h2).imp _root_.id (cl_end (g := g) (fun k hk => ?_) (fun _ _ => rfl) rfl)
      show (upd g.E o.p (some o.v) k).isSome = true
      by_cases q : k = o.p
      · subst q; rw [upd_same]; rfl
      · rw [upd_ne q]; exact hk
  · show upd g.pos _ _ c < _
    have := b.2.2 c hc
    by_cases q : c = o.p % g.s
    · rw [q, upd_same]; simp only; omega
    · rw [upd_ne q]; simp only; omega
end
end Go.Proofs.Ytopjhhcncjleaaa
/- DROP Calls of a ring that may be closed: what is found at the end. -/
namespace Go.Proofs.Ytopjhhcncjleaaa
open Go Go.LK
set_option linter.unusedSimpArgs false
set_option linter.unusedVariables false
def dnOf (v : HV) (id : Nat) : Bool := match v.l[id]? with | some d => d.dn | none => false
section
variable {g : QS} {L : QL} {v : HV} {ids : Nat → Nat} {N : Nat} {i : Nat} {o : QOp}
theorem CI.ff (h : CI g L v ids N) : FF g v.l (dnOf v) := by
  have hh := h.rq.hH
  refine ⟨h.hk, fun k x hk => (h.rq.ev k x hk).2.2, fun k ⟨z, hz⟩ => h.rq.hT k z hz, h.ec, fun k x hk ht => ?_, fun id hid => ?_, h.uB, fun a c ha hc ta tc => h.uD a c ha hc ((hh a).2 ta) ((hh c).2 tc), fun id k hid hk ht => h.uN id k hid hk ((hh k).2 ht), h.iB, h.iD, h.iN, fun k x z hk ht => h.iE k x z hk ((hh k).2 ht)⟩
  · cases hg : g.gn k
    · obtain ⟨j, y, a1, a2, a3, a4, a5, a6⟩ := h.rq.live k ((hh k).2 ht) hg
      obtain ⟨d, d1, d2, _, d4, _⟩ := h.ops j y a1
      rw [a6] at d1
      exact ⟨d, d1, by rw [d4, qknd, a2]; rfl, .inl d2⟩
    · obtain ⟨d, d1, d2, d3, d4, d5⟩ := h.tkn k x hk hg
      exact ⟨d, d1, d3, .inr ⟨d4, d5⟩⟩
  · obtain ⟨d, d1, d2, d3⟩ := h.nn id hid
    refine ⟨d, d1, d2, fun q => ?_⟩
    have : d.dn = true := by
      simp only [dnOf, d1] at q; exact q
    exact ⟨this, d3 this⟩
theorem CI.found (h : CI g L v ids N) (h62 : v.l.length ≤ 62) : (searchF (v.l.filter keepC) (stepM 0 (v.l.filter keepC) 0)).isSome = true := by
  refine h.ff.found h62 (h.hi.right (by omega)) (fun id d hd => by simp only [dnOf, hd]) (fun k d hk hn => ((h.hi.fine k d hk).u hn).2.1) (fun k d hk hc hn => ?_) (fun k d hk => ?_)
  · rcases h.cls k d hk hn with q | q
    · exact absurd q hc
    · rcases q with q | q | ⟨q, _⟩
      · exact .inl q
      · exact .inr (.inl q)
      · exact .inr (.inr ⟨q, by simp only [dnOf, hk]; exact hn⟩)
  · simp only [aheadF, Bool.and_eq_false_iff, decide_eq_false_iff_not]
    cases hdn : d.dn
    · exact .inl rfl
    · have := ((h.hi.fine k d hk).d hdn).1
      exact .inr (by omega)
/-- Behind a refusal all Puts are refused. -/
theorem CI.shut (h : CI g L v ids N) {a b : Nat} {ca cb : CallD} (ha : v.l[a]? = some ca) (hb : v.l[b]? = some cb) (h1 : ca.code = 16) (h2 : aheadF ca cb = true) (h3 : cb.kind = 0) (h4 : cb.dn = true) : cb.code = 16 := by
  simp only [aheadF, Bool.and_eq_true, decide_eq_true_eq] at h2
  obtain ⟨_, _, r3⟩ := h.ref a ca ha h2.1 h1
  rcases h.cls b cb hb h4 with q | ⟨j, p1, ⟨z, p2⟩, p3⟩ | ⟨j, p1, _, p2, p3⟩ | ⟨p1, _⟩
  · exact q
  · exfalso
    obtain ⟨d, d1, d2, _⟩ := h.iB j z p2
    rw [← p3, hb] at d1; cases d1
    have := r3 j z p2
    omega
  · exfalso
    obtain ⟨x, hx⟩ := Option.isSome_iff_exists.1 p1
    obtain ⟨d, d1, d2, _⟩ := h.ff.d j x hx p2
    rw [← p3, hb] at d1; cases d1
    omega
  · exfalso
    obtain ⟨d, d1, d2, _⟩ := h.nn b p1
    rw [hb] at d1; cases d1
    omega
theorem CI.zero {s : Nat} (s1 : 1 ≤ s) : CI ⟨s, 0, 0, false, fun c => c, fun _ => true, fun _ => 0#64, fun _ => false, fun _ => none, fun _ => 0, fun _ => 0, []⟩ (fun _ => none) { l := [], op := [], now := 0 } (fun _ => 0) 0 := by
  refine ⟨⟨s1, fun c hc => Nat.mod_eq_of_lt hc, fun _ _ => rfl, fun c _ h => absurd rfl h, fun k x h => by simp at h, fun k h => by simp at h, fun k x h => by simp at h, fun k h => absurd h (Nat.not_lt_zero _), fun k z h => by simp at h, fun k => ⟨fun h => absurd h (Nat.not_lt_zero _), fun ⟨z, h⟩ => by simp at h⟩, fun j o h => by simp at h, fun j o h => by simp at h, fun a b x y h => by simp at h⟩, trivial, fun x h => by simp at h, fun k x h => by simp at h, fun k x h => by simp at h, fun a b h => by simp at h, fun a b h => by simp at h, fun id ⟨z, h⟩ => by simp at h, fun id k ⟨z, h⟩ => by simp at h, fun k z h => by simp at h, fun k z h => by simp at h, fun k z h => by simp at h, fun k x z h => by simp at h, fun id d h => by simp at h, fun id d h => by simp at h, HInv.zero, fun j o h => by simp at h, fun k d h => by simp at h, Nat.le_refl _, Nat.le_refl _, fun c hc => by simp only at hc ⊢; omega⟩
end
end Go.Proofs.Ytopjhhcncjleaaa
/- DROP A ring that may be closed, in words. -/
namespace Go.Proofs.Ytopjhhcncjleaaa
open Go Go.LK
set_option linter.unusedSimpArgs false
set_option linter.unusedVariables false
/-- A cell's state. -/
def sW (q : Nat) (b : Bool) : BitVec 64 := BitVec.ofNat 64 (2 * q + if b = true then 1 else 0)
theorem sW_toNat {q : Nat} {b : Bool} (h : q < 1000000) : (sW q b).toNat = 2 * q + if b = true then 1 else 0 := by
  rw [sW, nat64]; split <;> omega
theorem sW_inj {q q' : Nat} {b b' : Bool} (h : q < 1000000) (h' : q' < 1000000) : sW q b = sW q' b' ↔ q = q' ∧ b = b' := by
  constructor
  · intro e
    have := congrArg BitVec.toNat e
    rw [sW_toNat h, sW_toNat h'] at this
    cases b <;> cases b' <;> simp at this ⊢ <;> omega
  · rintro ⟨rfl, rfl⟩; rfl
theorem po_sW {q : Nat} {b : Bool} (h : q < 1000000) : poW (sW q b) = BitVec.ofNat 64 q := by
  rw [po_lit]
  apply BitVec.eq_of_toNat_eq
  rw [BitVec.toNat_udiv, nat64 (n := q) (by omega), sW_toNat h]
  show (2 * q + _) / 2 = q
  split <;> omega
theorem odd_sW {q : Nat} {b : Bool} (h : q < 1000000) : (sW q b &&& 1#64 != 0#64) = b := by
  rw [← odd_lit, Bool.eq_iff_iff, beq_iff_eq]
  rw [← BitVec.toNat_inj, BitVec.toNat_umod, sW_toNat h]
  show (2 * q + _) % 2 = 1 ↔ _
  cases b <;> simp <;> omega
theorem st_sW {p q : Nat} {b : Bool} (hp : p < 1000000) (hq : q < 1000000) : stW (BitVec.ofNat 64 p) (sW q b) = sW p b := by
  rw [st_lit]
  apply BitVec.eq_of_toNat_eq
  rw [BitVec.toNat_add, BitVec.toNat_mul, BitVec.toNat_umod, nat64 (n := p) (by omega), sW_toNat hq, sW_toNat hp]
  show ((2 * p) % 18446744073709551616 + (2 * q + _) % 2) % 18446744073709551616 = _
  cases b <;> simp <;> omega
theorem st_one_sW {p : Nat} (hp : p < 1000000) : stW (BitVec.ofNat 64 p) 1#64 = sW p true := by
  rw [show (1#64 : BitVec 64) = sW 0 true from rfl]
  exact st_sW hp (by omega)
theorem st_zero_sW {p : Nat} (hp : p < 1000000) : stW (BitVec.ofNat 64 p) 0#64 = sW p false := by
  rw [show (0#64 : BitVec 64) = sW 0 false from rfl]
  exact st_sW hp (by omega)
theorem eq_of64 {a b : Nat} (ha : a < 1000000) (hb : b < 1000000) : BitVec.ofNat 64 a = BitVec.ofNat 64 b ↔ a = b := by
  constructor
  · intro e
    have := congrArg BitVec.toNat e
    rwa [nat64 (by omega), nat64 (by omega)] at this
  · rintro rfl; rfl
theorem tw_inj {T T' : Nat} {b b' : Bool} (h : T < 1000000) (h' : T' < 1000000) : tw T b = tw T' b' ↔ T = T' ∧ b = b' := by
  constructor
  · intro e
    have := congrArg BitVec.toNat e
    rw [tw_toNat h, tw_toNat h'] at this
    cases b <;> cases b' <;> simp at this ⊢ <;> omega
  · rintro ⟨rfl, rfl⟩; rfl
theorem add64 (a b : Nat) : BitVec.ofNat 64 a + BitVec.ofInt 64 (b : Int) = BitVec.ofNat 64 (a + b) := by
  apply BitVec.eq_of_toNat_eq
  simp [BitVec.toNat_add]
/-- The words tell the ring. -/
structure WQ (g : QS) (w : List (BitVec 64)) : Prop where
  len : w.length = 4 + 2 * g.s
  w0 : w.getD 0 0 = BitVec.ofNat 64 g.hd
  w1 : w.getD 1 0 = tw g.T g.cl
  st : ∀ c, c < g.s → w.getD (4 + 2 * c) 0 = sW (g.pos c) (g.sf c)
  dt : ∀ c, c < g.s → w.getD (5 + 2 * c) 0 = g.dt c
section
variable {g : QS} {w : List (BitVec 64)}
theorem WQ.setH (h : WQ g w) (k : Nat) (D : Nat → Nat) (hi : List (Ev × Int)) : WQ { g with hd := k, D := D, h := hi } (w.set 0 (BitVec.ofNat 64 k)) :=
  ⟨by rw [List.length_set]; exact h.len, set_getD_self (by rw [h.len]; omega), by rw [set_getD (by omega)]; exact h.w1, fun c hc => by rw [set_getD (by omega)]; exact h.st c hc, fun c hc => by rw [set_getD (by omega)]; exact h.dt c hc⟩
theorem WQ.setT (h : WQ g w) (T : Nat) (cl : Bool) (B : Nat → Nat) (hi : List (Ev × Int)) : WQ { g with T := T, cl := cl, B := B, h := hi } (w.set 1 (tw T cl)) :=
  ⟨by rw [List.length_set]; exact h.len, by rw [set_getD (by omega)]; exact h.w0, set_getD_self (by rw [h.len]; omega), fun c hc => by rw [set_getD (by omega)]; exact h.st c hc, fun c hc => by rw [set_getD (by omega)]; exact h.dt c hc⟩
theorem WQ.setC (h : WQ g w) {c : Nat} (hc : c < g.s) (q : Nat) (b : Bool) (d : BitVec 64) (gn : Nat → Bool) (E : Nat → Option (BitVec 64)) : WQ { g with pos := upd g.pos c q, sf := upd g.sf c b, dt := upd g.dt c d, gn := gn, E := E } ((w.set (4 + 2 * c) (sW q b)).set (5 + 2 * c) d) := by
  have hl := h.len
  refine ⟨by rw [List.length_set, List.length_set]; exact hl, by rw [set_getD (by omega), set_getD (by omega)]; exact h.w0, by rw [set_getD (by omega), set_getD (by omega)]; exact h.w1, fun k hk => ?_, fun k hk => ?_⟩
  · show _ = sW (upd g.pos c q k) (upd g.sf c b k)
    rw [set_getD (by omega)]
    by_cases e : k = c
    · subst e; rw [set_getD_self (by omega), upd_same, upd_same]
    · rw [set_getD (by omega), upd_ne e, upd_ne e]; exact h.st k hk
  · show _ = upd g.dt c d k
    by_cases e : k = c
    · subst e; rw [set_getD_self (by rw [List.length_set]; omega), upd_same]
    · rw [set_getD (by omega), set_getD (by omega), upd_ne e]; exact h.dt k hk
theorem WQ.gn (h : WQ g w) (gn : Nat → Bool) : WQ { g with gn := gn } w := ⟨h.len, h.w0, h.w1, h.st, h.dt⟩
theorem WQ.hist (h : WQ g w) (hi : List (Ev × Int)) : WQ { g with h := hi } w := ⟨h.len, h.w0, h.w1, h.st, h.dt⟩
end
theorem upd_id {α : Type} (f : Nat → α) (c : Nat) : upd f c (f c) = f := by
  funext k
  by_cases e : k = c
  · subst e; exact upd_same _ _ _
  · exact upd_ne e
/-- An operation, in words. -/
structure VQ (s N : Nat) (x : COp) (o : QOp) : Prop where
  r : x.r = ⟨0, s⟩
  kd : x.kind = if o.tk = true then 1 else 0
  st : x.at_ = (o.st : Int)
  v : o.tk = false → x.v = o.v
  p : 1 ≤ o.st → x.p = BitVec.ofNat 64 o.p
  d : 2 ≤ o.st → o.st ≤ 4 → x.d = o.d
  sw : 3 ≤ o.st → o.st ≤ 4 → x.s = sW o.q o.b
  tl : 7 ≤ o.st → o.tl < 1000000 ∧ ∃ b, x.tail = tw o.tl b
  hh : o.st = 8 → x.head = BitVec.ofNat 64 o.hh
  tr : 0 ≤ x.tried ∧ x.tried ≤ N
/-- Where one step leaves them. -/
def QStep (g : QS) (L : QL) (v : HV) (ids : Nat → Nat) (N i : Nat) (z : COp × List (BitVec 64)) : Prop := ∃ g', WQ g' z.2 ∧ g'.s = g.s ∧
  ((z.1.at_ ≠ 9 ∧ ∃ o', VQ g.s (N + 1) z.1 o' ∧ CI g' (upd L i (some o')) v ids (N + 1)) ∨
   (z.1.at_ = 9 ∧ CI g' (upd L i none) (v.fin (ids i) z.1.code z.1.ret).1 ids (N + 1)))
section
variable {s : Nat} {w : List (BitVec 64)} {v d st tl hd rt p : BitVec 64} {tr c : Int} {q : Nat} {k : Int}
theorem w_state0 (hq : q < 1000000) {q' : Nat} {b : Bool} (hq' : q' < 1000000) (hs : w.getD (4 + 2 * (q % s)) 0 = sW q' b) :
    wst (⟨⟨0, s⟩, 0, v, 2, BitVec.ofNat 64 q, d, st, tl, hd, tr, c, rt⟩, w) = (⟨⟨0, s⟩, 0, v, if d ≠ 0#64 ∨ q < q' then 5 else if b = true then 4 else 3, BitVec.ofNat 64 q, d, sW q' b, tl, hd, tr, c, rt⟩, w) := by
  obtain ⟨c1, c2⟩ := cellN (s := s) hq
  have o := odd_sW (b := b) hq'
  have p := po_sW (b := b) hq'
  have lt := lt_of64 (a := q) (b := q') (by omega) (by omega)
  simp only [wst, COp.use, wuse, COp.next, c1, hs, Int.reduceEq, if_true, if_false, o, p]
  by_cases hd : d = 0#64
  · have hd1 : (d != 0#64) = false := by simp [hd]
    by_cases hl : q < q'
    · have := lt.2 hl
      simp [hd1, hl, this]
    · have := mt lt.1 hl
      simp [hd1, hd, hl, this]
  · have hd1 : (d != 0#64) = true := by simp [hd]
    simp [hd1, hd]
theorem w_state1 (hq : q < 1000000) {q' : Nat} {b : Bool} (hq' : q' < 1000000) (hs : w.getD (4 + 2 * (q % s)) 0 = sW q' b) :
    wst (⟨⟨0, s⟩, 1, v, 2, BitVec.ofNat 64 q, d, st, tl, hd, tr, c, rt⟩, w) = (⟨⟨0, s⟩, 1, v, if q < q' then 5 else 3, BitVec.ofNat 64 q, d, sW q' b, tl, hd, tr, c, rt⟩, w) := by
  obtain ⟨c1, c2⟩ := cellN (s := s) hq
  have p := po_sW (b := b) hq'
  have lt := lt_of64 (a := q) (b := q') (by omega) (by omega)
  simp only [wst, COp.use, wuse, COp.next, c1, hs, Int.reduceEq, if_true, if_false, p]
  by_cases hl : q < q'
  · have := lt.2 hl
    simp [hl, this]
  · have := mt lt.1 hl
    simp [hl, this]
theorem w_turn0 {h : Nat} (hq : q < 1000000) (hh : h < 1000000) (g : w.getD 0 0 = BitVec.ofNat 64 h) :
    wst (⟨⟨0, s⟩, 0, v, 3, BitVec.ofNat 64 q, d, st, tl, hd, tr, c, rt⟩, w) = (⟨⟨0, s⟩, 0, v, if h ≤ q then 4 else 5, BitVec.ofNat 64 q, d, st, tl, hd, tr, c, rt⟩, w) := by
  have le := le_of64 (a := h) (b := q) (by omega) (by omega)
  simp only [wst, COp.use, wuse, COp.next, Int.reduceEq, if_true, if_false]
  rw [show (0 : Int).toNat = 0 from rfl, g]
  simp only [le]
theorem w_lay (hq : q < 1000000) :
    wst (⟨⟨0, s⟩, 0, v, 4, BitVec.ofNat 64 q, d, st, tl, hd, tr, c, rt⟩, w) = (if w.getD (4 + 2 * (q % s)) 0 = st ∧ w.getD (5 + 2 * (q % s)) 0 = d then (⟨⟨0, s⟩, 0, v, 9, BitVec.ofNat 64 q, d, st, tl, hd, tr, 0, 0#64⟩, (w.set (4 + 2 * (q % s)) (sW q true)).set (5 + 2 * (q % s)) (v + 1#64)) else (⟨⟨0, s⟩, 0, v, 5, BitVec.ofNat 64 q, d, st, tl, hd, tr, c, rt⟩, w)) := by
  obtain ⟨c1, c2⟩ := cellN (s := s) hq
  simp only [wst, COp.use, wuse, COp.next, Int.reduceEq, if_true, if_false, c1, c2, st_one_sW hq]
  by_cases h : w.getD (4 + 2 * (q % s)) 0 = st ∧ w.getD (5 + 2 * (q % s)) 0 = d
  · rw [if_pos h, if_pos h]
    obtain ⟨h1, h2⟩ := h
    simp only [h1, h2, beq_self_eq_true, Bool.and_self, and_self, if_true, COp.fin]
  · rw [if_neg h, if_neg h]
    have : (w.getD (4 + 2 * (q % s)) 0 == st && w.getD (5 + 2 * (q % s)) 0 == d) = false := by
      rw [Bool.and_eq_false_iff, beq_eq_false_iff_ne, beq_eq_false_iff_ne]
      by_cases e : w.getD (4 + 2 * (q % s)) 0 = st
      · exact .inr fun e2 => h ⟨e, e2⟩
      · exact .inl e
    rw [this]
    simp
theorem w_asks0 : ∃ a : Nat, (a = 0 ∨ a = 6) ∧ wst (⟨⟨0, s⟩, 0, v, 5, p, d, st, tl, hd, tr, c, rt⟩, w) = (⟨⟨0, s⟩, 0, v, (a : Int), p, d, st, tl, hd, tr + 1, c, rt⟩, w) := by
  simp only [wst, COp.use, wuse, COp.next, Int.reduceEq, if_true, if_false]
  split
  · exact ⟨6, .inr rfl, rfl⟩
  · exact ⟨0, .inl rfl, rfl⟩
theorem w_shut {T : Nat} {cl : Bool} (g : w.getD 1 0 = tw T cl) (hT : T < 1000000) : wst (⟨⟨0, s⟩, 0, v, 6, p, d, st, tl, hd, tr, c, rt⟩, w) = (⟨⟨0, s⟩, 0, v, 9, p, d, st, tl, hd, tr, 16, 0#64⟩, w.set 1 (tw T true)) := by
  simp only [wst, COp.use, wuse, COp.next, Int.reduceEq, if_true, if_false]
  rw [show ((0 : Int) + 1).toNat = 1 from rfl, g, tw_or hT]
  rfl
theorem w_asks1 {T : Nat} {cl : Bool} (g : w.getD 1 0 = tw T cl) (hT : T < 1000000) (hq : q < 1000000) : wst (⟨⟨0, s⟩, 1, v, 5, BitVec.ofNat 64 q, d, st, tl, hd, tr, c, rt⟩, w) = (⟨⟨0, s⟩, 1, v, if T ≤ q + 1 then 6 else 0, BitVec.ofNat 64 q, d, st, tl, hd, tr, c, rt⟩, w) := by
  have le := le_of64 (a := T) (b := q + 1) (by omega) (by omega)
  simp only [wst, COp.use, wuse, COp.next, Int.reduceEq, if_true, if_false]
  rw [show ((0 : Int) + 1).toNat = 1 from rfl, g, tw_low hT, one64]
  simp only [le]
theorem w_tail : wst (⟨⟨0, s⟩, 1, v, 6, p, d, st, tl, hd, tr, c, rt⟩, w) = (⟨⟨0, s⟩, 1, v, 7, p, d, st, w.getD 1 0, hd, tr, c, rt⟩, w) := by
  simp only [wst, COp.use, wuse, COp.next, Int.reduceEq, if_true, if_false]
  rfl
theorem w_head {T h : Nat} {b : Bool} (g : w.getD 0 0 = BitVec.ofNat 64 h) (hh : h < 1000000) (hT : T < 1000000) : wst (⟨⟨0, s⟩, 1, v, 7, p, d, st, tw T b, hd, tr, c, rt⟩, w) = (if h ≤ T then ⟨⟨0, s⟩, 1, v, 9, p, d, st, tw T b, BitVec.ofNat 64 h, tr, 13, 0#64⟩ else ⟨⟨0, s⟩, 1, v, 8, p, d, st, tw T b, BitVec.ofNat 64 h, tr, c, rt⟩, w) := by
  have le := le_of64 (a := h) (b := T) (by omega) (by omega)
  simp only [wst, COp.use, wuse, COp.next, Int.reduceEq, if_true, if_false]
  rw [show (0 : Int).toNat = 0 from rfl, g, tw_low hT]
  simp only [le]
  rfl
theorem w_move {T h : Nat} {b : Bool} (hh : h < 1000000) (hT : T < 1000000) : wst (⟨⟨0, s⟩, 1, v, 8, p, d, st, tw T b, BitVec.ofNat 64 h, tr, c, rt⟩, w) = (if w.getD 1 0 = tw T b then (⟨⟨0, s⟩, 1, v, 9, p, d, st, tw T b, BitVec.ofNat 64 h, tr, 13, 0#64⟩, w.set 1 (tw h b)) else (⟨⟨0, s⟩, 1, v, 6, p, d, st, tw T b, BitVec.ofNat 64 h, tr, c, rt⟩, w)) := by
  simp only [wst, COp.use, wuse, COp.next, Int.reduceEq, if_true, if_false]
  rw [show ((0 : Int) + 1).toNat = 1 from rfl, head_or hT hh]
  by_cases e : w.getD 1 0 = tw T b
  · rw [if_pos e, if_pos e, e]
    simp [COp.fin]
  · rw [if_neg e, if_neg e]
    have : (w.getD 1 0 == tw T b) = false := by simpa using e
    rw [this]
    simp
/-- A Take turns its cell. -/
theorem w_turn1 (hq : q < 1000000) {q' : Nat} {b : Bool} (hq' : q' < 1000000) (hsq : q + s < 1000000) :
    wst (⟨⟨0, s⟩, 1, v, 3, BitVec.ofNat 64 q, d, sW q' b, tl, hd, tr, c, rt⟩, w) = (if w.getD (4 + 2 * (q % s)) 0 = sW q' b ∧ w.getD (5 + 2 * (q % s)) 0 = d then
      (if d = 0#64 then (⟨⟨0, s⟩, 1, v, 5, BitVec.ofNat 64 q, d, sW q' b, tl, hd, tr, c, rt⟩, (w.set (4 + 2 * (q % s)) (sW (q + s) b)).set (5 + 2 * (q % s)) 0#64)
       else if q' = q then (⟨⟨0, s⟩, 1, v, 9, BitVec.ofNat 64 q, d, sW q' b, tl, hd, tr, 0, d - 1#64⟩, (w.set (4 + 2 * (q % s)) (sW (q + s) b)).set (5 + 2 * (q % s)) 0#64)
       else (⟨⟨0, s⟩, 1, v, 5, BitVec.ofNat 64 q, d, sW q' b, tl, hd, tr, c, rt⟩, (w.set (4 + 2 * (q % s)) (sW q' false)).set (5 + 2 * (q % s)) d))
      else (⟨⟨0, s⟩, 1, v, 1, BitVec.ofNat 64 q, d, sW q' b, tl, hd, tr, c, rt⟩, w)) := by
  obtain ⟨c1, c2⟩ := cellN (s := s) hq
  have po := po_sW (b := b) hq'
  have pe : (BitVec.ofNat 64 q' == BitVec.ofNat 64 q) = decide (q' = q) := by
    rw [Bool.eq_iff_iff, beq_iff_eq, decide_eq_true_eq]; exact eq_of64 hq' hq
  have s1 : stW (BitVec.ofNat 64 q + BitVec.ofInt 64 (s : Int)) (sW q' b) = sW (q + s) b := by rw [add64, st_sW hsq hq']
  have s2 : stW (BitVec.ofNat 64 q') 0#64 = sW q' false := st_zero_sW hq'
  simp only [wst, COp.use, COp.now, COp.own, wuse, COp.next, Int.reduceEq, if_true, if_false, c1, c2, po, pe, s1, s2]
  by_cases h : w.getD (4 + 2 * (q % s)) 0 = sW q' b ∧ w.getD (5 + 2 * (q % s)) 0 = d
  · rw [if_pos h, if_pos h]
    obtain ⟨h1, h2⟩ := h
    simp only [h1, h2, beq_self_eq_true, Bool.and_self, if_true]
    by_cases hd : d = 0#64
    · simp [hd]
    · have hd1 : (d != 0#64) = true := by simp [hd]
      by_cases e : q' = q
      · simp [hd1, hd, e, COp.fin]
      · simp [hd1, hd, e]
  · rw [if_neg h, if_neg h]
    have : (w.getD (4 + 2 * (q % s)) 0 == sW q' b && w.getD (5 + 2 * (q % s)) 0 == d) = false := by
      rw [Bool.and_eq_false_iff, beq_eq_false_iff_ne, beq_eq_false_iff_ne]
      by_cases e : w.getD (4 + 2 * (q % s)) 0 = sW q' b
      · exact .inr fun e2 => h ⟨e, e2⟩
      · exact .inl e
    rw [this]
    simp
end
end Go.Proofs.Ytopjhhcncjleaaa
