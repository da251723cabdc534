/- Calls that go on, of a ring: what each step does to what holds of them all. -/
import Derived.Test.YtgipbamdefjenaaO9
import Derived.Test.YtgipbamdefjenaaJF
import Derived.Test.YtgipbamdefjenaaO8
import Derived.Test.YtgipbamdefjenaaV5
namespace Go.Proofs.Ytgipbamdefjenaa
open Go Go.LK
set_option linter.unusedSimpArgs false
set_option linter.unusedVariables false
def knd (o : LOp) : Int := if o.tk = true then 1 else 0
def prm (R : RS) (o : LOp) : BitVec 64 := if o.tk = true then R.vals o.p else 0#64
/-- A thread's operation, and its call. -/
def OC (R : RS) (v : HV) (pr : Nat → BitVec 64) (r : List Nat) (i : Nat) (o : LOp) (id : Nat) : Prop := ∃ d, v.l[id]? = some d ∧ d.dn = false ∧ d.th = (i : Int) ∧ d.kind = knd o ∧ (o.tk = false → d.arg = o.v) ∧ (o.st < 3 → id ∉ r) ∧ (3 ≤ o.st → id ∈ r ∧ pr id = prm R o)
structure VI (R : RS) (L : LL) (v : HV) (ids : Nat → Nat) (pr : Nat → BitVec 64) (r : List Nat) : Prop where
  ri : RI R L
  oi : OI (R.s : Int) v.l pr r R.q
  hi : HInv v
  ops : ∀ i o, L i = some o → OC R v pr r i o (ids i)
  opn : ∀ k d, v.l[k]? = some d → d.dn = false → ∃ i o, L i = some o ∧ ids i = k
section
variable {R : RS} {L : LL} {v : HV} {ids : Nat → Nat} {pr : Nat → BitVec 64} {r : List Nat} {i : Nat} {o : LOp}
theorem VI.inj (h : VI R L v ids pr r) {j : Nat} {x : LOp} (hi : L i = some o) (hj : L j = some x) (e : ids j = ids i) : j = i := by
  obtain ⟨d, d1, _, d3, _⟩ := h.ops i o hi
  obtain ⟨e', e1, _, e3, _⟩ := h.ops j x hj
  rw [e, d1] at e1
  cases e1
  omega
theorem VI.free (h : VI R L v ids pr r) (hi : L i = none) : v.open i = none := by
  show openF v.op i = none
  cases hq : openF v.op (i : Int) with
  | none => rfl
  | some id =>
    obtain ⟨k, c, _, hc, hth, hdn⟩ := (h.hi.op _ _).1 hq
    obtain ⟨j, x, hj, rfl⟩ := h.opn k c hc hdn
    obtain ⟨d, d1, _, d3, _⟩ := h.ops j x hj
    rw [hc] at d1
    cases d1
    obtain rfl : j = i := by omega
    rw [hi] at hj; cases hj
theorem VI.all (h : VI R L v ids pr r) : ∀ (k : Nat) (e : CallD), v.l[k]? = some e → e.fr ≤ v.now := fun k e he => by
  have := (h.hi.fine k e he).f1; omega
/-- A call begins. -/
theorem VI.begin (h : VI R L v ids pr r) (hi : L i = none) (h64 : i < 64) (hl : v.l.length < 1024) {o : LOp} (ho : o.st = 0) {kind : Int} {arg : BitVec 64} (hk : kind = knd o) (ha : o.tk = false → arg = o.v) :
    v.begin i kind arg = ((v.begin i kind arg).1, (v.l.length : Int), 0) ∧ (v.begin i kind arg).1.l.length = v.l.length + 1 ∧ (v.begin i kind arg).1.now = v.now + 1 ∧ VI R (upd L i (some o)) (v.begin i kind arg).1 (upd ids i v.l.length) pr r := by
  have hb : v.begin i kind arg = (({ l := v.l ++ [{ th := i, kind := kind, arg := arg, fr := v.now, to := 0, dn := false, code := 0, ret := 0#64 }], op := v.op ++ [((i : Int), (v.l.length : Int))], now := v.now + 1 } : HV), (v.l.length : Int), (0 : Int)) := by
    rw [HV.begin, if_neg (by omega), if_neg (by rw [h.free hi]; simp), if_neg (by omega)]
  have hh := h.hi.begin (i : Int) kind arg
  rw [hb] at hh ⊢
  have old : ∀ (k : Nat) (d : CallD), v.l[k]? = some d → (v.l ++ [({ th := i, kind := kind, arg := arg, fr := v.now, to := 0, dn := false, code := 0, ret := 0#64 } : CallD)])[k]? = some d := fun k d hk => by
    rw [List.getElem?_append_left (List.getElem?_eq_some_iff.1 hk).1]; exact hk
  refine ⟨rfl, by simp, rfl, h.ri.begin hi ho, h.oi.begin rfl, hh, fun j x hx => ?_, fun k d hd hdn => ?_⟩
  · by_cases e : j = i
    · subst e
      rw [upd_same] at hx ⊢; cases hx
      refine ⟨{ th := j, kind := kind, arg := arg, fr := v.now, to := 0, dn := false, code := 0, ret := 0#64 }, by simp, rfl, rfl, hk, ha, fun _ g => ?_, fun g => by omega⟩
      have := h.oi.lt _ g
      omega
    · rw [upd_ne e] at hx ⊢
      obtain ⟨d, d1, d2⟩ := h.ops j x hx
      exact ⟨d, old _ _ d1, d2⟩
  · rcases get_snoc hd with hd | ⟨rfl, rfl⟩
    · obtain ⟨j, x, hx, e⟩ := h.opn k d hd hdn
      have ne : j ≠ i := by rintro rfl; rw [hi] at hx; cases hx
      exact ⟨j, x, by rw [upd_ne ne]; exact hx, by rw [upd_ne ne]; exact e⟩
    · exact ⟨i, o, upd_same _ _ _, upd_same _ _ _⟩
/-- A step that is seen by none. -/
theorem VI.idle (h : VI R L v ids pr r) (hi : L i = some o) {R' : RS} {o' : LOp} (hri : RI R' (upd L i (some o'))) (es : R'.s = R.s) (eq : R'.q = R.q) (ev : R'.vals = R.vals)
    (et : o'.tk = o.tk) (ep : 3 ≤ o.st → o'.p = o.p) (ea : o.tk = false → o'.v = o.v) (e3 : 3 ≤ o.st ↔ 3 ≤ o'.st) : VI R' (upd L i (some o')) v ids pr r := by
  refine ⟨hri, by rw [es, eq]; exact h.oi, h.hi, fun j x hx => ?_, fun k d hd hdn => ?_⟩
  · have pe : ∀ y, prm R' y = prm R y := fun y => by unfold prm; rw [ev]
    by_cases e : j = i
    · subst e
      rw [upd_same] at hx; cases hx
      obtain ⟨d, d1, d2, d3, d4, d5, d6, d7⟩ := h.ops j o hi
      refine ⟨d, d1, d2, d3, by rw [d4]; unfold knd; rw [et], fun g => by rw [d5 (by rw [← et]; exact g), ea (by rw [← et]; exact g)], fun g => d6 (by omega), fun g => ⟨(d7 (by omega)).1, ?_⟩⟩
      rw [(d7 (by omega)).2, pe]
      unfold prm
      rw [et, ep (by omega)]
    · rw [upd_ne e] at hx
      obtain ⟨d, d1, d2, d3, d4, d5, d6, d7⟩ := h.ops j x hx
      exact ⟨d, d1, d2, d3, d4, d5, d6, fun g => ⟨(d7 g).1, by rw [pe]; exact (d7 g).2⟩⟩
  · obtain ⟨j, x, hx, e⟩ := h.opn k d hd hdn
    by_cases ej : j = i
    · subst ej; exact ⟨j, o', upd_same _ _ _, e⟩
    · exact ⟨j, x, by rw [upd_ne ej]; exact hx, e⟩
/-- A Put takes its place. -/
theorem VI.claimPut (h : VI R L v ids pr r) (hi : L i = some o) (hs : o.st = 2) (ht : o.tk = false) (hp : o.p = R.T) :
    ∃ pr' r', VI { R with T := R.T + 1, vals := upd R.vals R.T o.v } (upd L i (some { o with st := 3 })) v ids pr' r' := by
  have hri := h.ri.claimPut hi hs ht hp
  have hts := hri.ts
  simp only at hts
  have hot := h.ri.ot
  obtain ⟨d, d1, d2, d3, d4, d5, d6, _⟩ := h.ops i o hi
  have hdo : doF (R.s : Int) R.q d.kind d.arg = (({ R with T := R.T + 1, vals := upd R.vals R.T o.v } : RS).q, 0, 0#64) := by
    rw [d4, d5 ht, q_put hot, doF.eq_def, if_pos (by simp [knd, ht]), if_neg (by rw [RS.q_len]; omega)]
    rfl
  refine ⟨_, _, hri, h.oi.claim d1 d2 (d6 (by omega)) hdo, h.hi, fun j x hx => ?_, fun k e he hen => ?_⟩
  · by_cases e : j = i
    · subst e
      rw [upd_same] at hx; cases hx
      exact ⟨d, d1, d2, d3, d4, d5, fun g => absurd g (by simp), fun _ => ⟨by simp, by simp [prm, ht]⟩⟩
    · rw [upd_ne e] at hx
      obtain ⟨f, f1, f2, f3, f4, f5, f6, f7⟩ := h.ops j x hx
      have ne : ids j ≠ ids i := fun q => e (h.inj hi hx q)
      refine ⟨f, f1, f2, f3, f4, f5, fun g q => ?_, fun g => ⟨List.mem_append_left _ (f7 g).1, ?_⟩⟩
      · rcases List.mem_append.1 q with q | q
        · exact f6 g q
        · exact ne (List.mem_singleton.1 q)
      · simp only [if_neg ne]
        rw [(f7 g).2]
        unfold prm
        split
        · rename_i hx'
          refine (upd_ne ?_).symm
          have := (h.ri.take3 hx g hx').1
          omega
        · rfl
  · obtain ⟨j, x, hx, ej⟩ := h.opn k e he hen
    by_cases e2 : j = i
    · subst e2; exact ⟨j, _, upd_same _ _ _, ej⟩
    · exact ⟨j, x, by rw [upd_ne e2]; exact hx, ej⟩
/-- A Take takes its place. -/
theorem VI.claimTake (h : VI R L v ids pr r) (hi : L i = some o) (hs : o.st = 2) (ht : o.tk = true) (hp : o.p = R.O) :
    ∃ pr' r', VI { R with O := R.O + 1 } (upd L i (some { o with st := 3 })) v ids pr' r' := by
  obtain ⟨hlt, hri⟩ := h.ri.claimTake hi hs ht hp
  obtain ⟨d, d1, d2, d3, d4, d5, d6, _⟩ := h.ops i o hi
  have hdo : doF (R.s : Int) R.q d.kind d.arg = (({ R with O := R.O + 1 } : RS).q, 0, R.vals R.O) := by
    rw [d4, q_take hlt, doF.eq_def, if_neg (by simp [knd, ht]), if_pos (by simp [knd, ht])]
  refine ⟨_, _, hri, h.oi.claim d1 d2 (d6 (by omega)) hdo, h.hi, fun j x hx => ?_, fun k e he hen => ?_⟩
  · by_cases e : j = i
    · subst e
      rw [upd_same] at hx; cases hx
      exact ⟨d, d1, d2, d3, d4, d5, fun g => absurd g (by simp), fun _ => ⟨by simp, by simp [prm, ht, hp]⟩⟩
    · rw [upd_ne e] at hx
      obtain ⟨f, f1, f2, f3, f4, f5, f6, f7⟩ := h.ops j x hx
      have ne : ids j ≠ ids i := fun q => e (h.inj hi hx q)
      refine ⟨f, f1, f2, f3, f4, f5, fun g q => ?_, fun g => ⟨List.mem_append_left _ (f7 g).1, ?_⟩⟩
      · rcases List.mem_append.1 q with q | q
        · exact f6 g q
        · exact ne (List.mem_singleton.1 q)
      · simp only [if_neg ne]
        rw [(f7 g).2]; rfl
  · obtain ⟨j, x, hx, ej⟩ := h.opn k e he hen
    by_cases e2 : j = i
    · subst e2; exact ⟨j, _, upd_same _ _ _, ej⟩
    · exact ⟨j, x, by rw [upd_ne e2]; exact hx, ej⟩
theorem fin_eq (h : VI R L v ids pr r) (hi : L i = some o) (code : Int) (ret : BitVec 64) :
    ∃ d, v.l[ids i]? = some d ∧ (v.fin (ids i) code ret).1 = ({ l := v.l.set (ids i) { d with dn := true, to := v.now, code := code, ret := ret }, op := dropOp v.op d.th, now := v.now + 1 } : HV) := by
  obtain ⟨d, d1, d2, _⟩ := h.ops i o hi
  refine ⟨d, d1, ?_⟩
  rw [HV.fin, if_neg (by omega), Int.toNat_natCast, d1]
  simp only [d2, Bool.false_eq_true, if_false]
/-- What is left when one has ended. -/
theorem VI.ended (h : VI R L v ids pr r) (hi : L i = some o) {d d' : CallD} (hd : v.l[ids i]? = some d) (hdn : d'.dn = true) {R' : RS} (ev : R'.vals = R.vals) {r' : List Nat} (hr : ∀ k, k ≠ ids i → (k ∈ r' ↔ k ∈ r)) {op : List (Int × Int)} {now : Int} :
    (∀ j x, upd L i none j = some x → OC R' ⟨v.l.set (ids i) d', op, now⟩ pr r' j x (ids j)) ∧ (∀ k e, (v.l.set (ids i) d')[k]? = some e → e.dn = false → ∃ j x, upd L i none j = some x ∧ ids j = k) := by
  refine ⟨fun j x hx => ?_, fun k e he hen => ?_⟩
  · obtain ⟨ne, hx⟩ := gone hx
    have nid : ids j ≠ ids i := fun q => ne (h.inj hi hx q)
    obtain ⟨f, f1, f2, f3, f4, f5, f6, f7⟩ := h.ops j x hx
    refine ⟨f, by show (v.l.set _ _)[_]? = _; rw [List.getElem?_set_ne nid.symm]; exact f1, f2, f3, f4, f5, fun g q => f6 g ((hr _ nid).1 q), fun g => ⟨(hr _ nid).2 (f7 g).1, ?_⟩⟩
    rw [(f7 g).2]; unfold prm; rw [ev]
  · rcases get_set he with ⟨ne, he⟩ | ⟨_, rfl⟩
    · obtain ⟨j, x, hx, rfl⟩ := h.opn k e he hen
      exact ⟨j, x, stays (by rintro rfl; exact ne rfl) hx, rfl⟩
    · rw [hdn] at hen; cases hen
/-- An operation ends well. -/
theorem VI.fin (h : VI R L v ids pr r) (hi : L i = some o) (h3 : 3 ≤ o.st) {R' : RS} (hri : RI R' (upd L i none)) (es : R'.s = R.s) (eq : R'.q = R.q) (ev : R'.vals = R.vals) {ret : BitVec 64} (hret : ret = prm R o) :
    VI R' (upd L i none) (v.fin (ids i) 0 ret).1 ids pr r := by
  obtain ⟨d, d1, hf⟩ := fin_eq h hi 0 ret
  obtain ⟨d', e1, d2, d3, d4, d5, d6, d7⟩ := h.ops i o hi
  rw [d1] at e1; cases e1
  have hh := h.hi.fin (ids i) 0 ret
  rw [hf] at hh ⊢
  obtain ⟨k1, k2⟩ := h.ended hi d1 (d' := { d with dn := true, to := v.now, code := 0, ret := ret }) rfl ev (r' := r) (fun _ _ => Iff.rfl) (op := dropOp v.op d.th) (now := v.now + 1)
  exact ⟨hri, by rw [es, eq]; exact h.oi.fin d1 d2 (d7 h3).1 h.all rfl rfl rfl rfl rfl rfl (by rw [(d7 h3).2]; exact hret), hh, k1, k2⟩
/-- A call is refused. -/
theorem VI.refuse (h : VI R L v ids pr r) (hi : L i = some o) (h3 : o.st < 3) (hw : if o.tk = true then R.T = R.O ∨ ∃ j x, L j = some x ∧ x.tk = false ∧ 3 ≤ x.st else R.T = R.O + R.s ∨ ∃ j x, L j = some x ∧ x.tk = true ∧ 3 ≤ x.st) :
    ∃ r', VI R (upd L i none) (v.fin (ids i) (if o.tk = true then 13 else 15) 0#64).1 ids pr r' := by
  obtain ⟨d, d1, hf⟩ := fin_eq h hi (if o.tk = true then 13 else 15) 0#64
  obtain ⟨d', e1, d2, d3, d4, d5, d6, d7⟩ := h.ops i o hi
  rw [d1] at e1; cases e1
  have hh := h.hi.fin (ids i) (if o.tk = true then 13 else 15) 0#64
  rw [hf] at hh ⊢
  have s2 := h.ri.s2
  have hfr := (h.hi.fine _ _ d1).f1
  have idl := (List.getElem?_eq_some_iff.1 d1).1
  have meets : ∀ j x (b : Bool), L j = some x → x.tk = b → x.tk ≠ o.tk → MeetsK (v.l.set (ids i) { d with dn := true, to := v.now, code := (if o.tk = true then 13 else 15), ret := 0#64 }) (ids i) { d with dn := true, to := v.now, code := (if o.tk = true then 13 else 15), ret := 0#64 } (if b = true then 1 else 0) := by
    intro j x b hx hb hne
    have nij : j ≠ i := by rintro rfl; rw [hi] at hx; cases hx; exact hne rfl
    have nid : ids j ≠ ids i := fun q => nij (h.inj hi hx q)
    obtain ⟨f, f1, f2, f3, f4, _⟩ := h.ops j x hx
    refine ⟨ids j, f, by rw [List.getElem?_set_ne nid.symm]; exact f1, nid, by rw [f4, knd, hb], ?_, fun q => by rw [f2] at q; cases q⟩
    exact h.all _ _ f1
  have may : MayE (R.s : Int) (v.l.set (ids i) { d with dn := true, to := v.now, code := (if o.tk = true then 13 else 15), ret := 0#64 }) pr (ids i) R.q R.q := by
    refine ⟨_, List.getElem?_set_self idl, .inr ⟨rfl, rfl, rfl, by omega, ?_⟩⟩
    cases ht : o.tk
    · rw [ht] at hw meets
      refine .inl ⟨by show d.kind = 0; rw [d4, knd, ht]; rfl, rfl, ?_⟩
      simp only [Bool.false_eq_true, if_false] at hw meets ⊢
      rcases hw with g | ⟨j, x, hx, hxt, _⟩
      · left
        rw [doF.eq_def, if_pos rfl, if_pos (by rw [RS.q_len]; omega)]
        rfl
      · right
        exact meets j x true hx hxt (by rw [hxt]; decide)
    · rw [ht] at hw meets
      refine .inr ⟨by show d.kind = 1; rw [d4, knd, ht]; rfl, rfl, ?_⟩
      simp only [if_true] at hw meets ⊢
      rcases hw with g | ⟨j, x, hx, hxt, _⟩
      · left
        rw [doF.eq_def, if_neg (by decide), if_pos rfl, q_none (by omega)]
        rfl
      · right
        exact meets j x false hx hxt (by rw [hxt]; decide)
  obtain ⟨k1, k2⟩ := h.ended hi d1 (d' := { d with dn := true, to := v.now, code := (if o.tk = true then 13 else 15), ret := 0#64 }) rfl (R' := R) rfl (r' := r ++ [ids i]) (fun k hk => by simp [hk]) (op := dropOp v.op d.th) (now := v.now + 1)
  exact ⟨r ++ [ids i], h.ri.drop hi h3, h.oi.refuse d1 (d6 h3) h.all rfl rfl rfl rfl may, hh, k1, k2⟩
/-- At the end an order is found. -/
theorem VI.found (h : VI R L v ids pr r) (h62 : v.l.length ≤ 62) : (searchF v.l (stepM (R.s : Int) v.l 2)).isSome = true := by
  refine h.oi.search h62 (h.hi.right (by omega)) fun k d hd => ?_
  have hf := h.hi.fine k d hd
  simp only [aheadF, Bool.and_eq_false_iff, decide_eq_false_iff_not]
  cases hdn : d.dn
  · exact .inl rfl
  · exact .inr (by have := (hf.d hdn).1; omega)
end
end Go.Proofs.Ytgipbamdefjenaa
/- A ring of numbers: an operation's step is one of those. -/
namespace Go.Proofs.Ytgipbamdefjenaa
open Go Go.LK
set_option linter.unusedSimpArgs false
set_option linter.unusedVariables false
structure VR (s : Nat) (x : VOp) (o : LOp) : Prop where
  r : x.r = ⟨0, s⟩
  tk : x.takes = o.tk
  st : x.at_ = (o.st : Int)
  p : x.p = BitVec.ofNat 64 o.p
  v : x.v = o.v
  code : x.code = 0
theorem small_eq {a b : Nat} (ha : a < 1000000) (hb : b < 1000000) : BitVec.ofNat 64 a = BitVec.ofNat 64 b ↔ a = b := ⟨small_inj ha hb, fun h => by rw [h]⟩
section
variable {R : RS} {L : LL} {i : Nat} {o : LOp}
theorem RI.sq_lt (h : RI R L) {j : Nat} (hj : j < R.s) : R.sq j < R.T + R.s := by
  have h2 := h.s2
  have hm := Nat.mod_lt R.T (show 0 < R.s by omega)
  have hk := Nat.mod_lt (j + R.s - R.T % R.s) (show 0 < R.s by omega)
  have e : (R.T + (j + R.s - R.T % R.s) % R.s) % R.s = j := by
    rw [Nat.add_mod, Nat.mod_mod, ← Nat.add_mod, Nat.add_mod]
    have e1 : (R.T + (j + R.s - R.T % R.s)) = j + R.s * (R.T / R.s + 1) := by
      have := Nat.div_add_mod R.T R.s
      rw [Nat.mul_add, Nat.mul_one]; omega
    rw [← Nat.add_mod, e1, Nat.add_mul_mod_self_left, Nat.mod_eq_of_lt hj]
  have := h.hi (R.T + (j + R.s - R.T % R.s) % R.s) (by omega)
  rw [e] at this
  omega
theorem RI.stages (h : RI R L) (hi : L i = some o) : o.st < 5 := by
  rcases h.op i o hi with g | g | g | g | g | g | g | g <;> omega
theorem RI.ples (h : RI R L) (hi : L i = some o) (h1 : 1 ≤ o.st) : o.p ≤ if o.tk = true then R.O else R.T := by
  rcases h.op i o hi with g | g | g | g | g | g | g | g
  · omega
  · exact g.2
  · rw [g.2.1]; exact g.2.2.1
  · rw [g.2.1]; exact g.2.2.1
  · rw [g.2.1]; exact Nat.le_of_lt g.2.2.1
  · rw [g.2.1]; exact Nat.le_of_lt g.2.2.1
  · rw [g.2.1]; exact Nat.le_of_lt g.2.2.1
  · rw [g.2.1]; exact Nat.le_of_lt g.2.2.1
end
/-- Where one step leaves them. -/
def Stepped (R : RS) (L : LL) (v : HV) (ids : Nat → Nat) (i : Nat) (z : VOp × MV) : Prop := ∃ w' R', Clean z.2 w' ∧ WR R' w' ∧ R'.s = R.s ∧ R'.T ≤ R.T + 1 ∧
  ((z.1.at_ ≠ 5 ∧ ∃ o' pr' r', VR R.s z.1 o' ∧ VI R' (upd L i (some o')) v ids pr' r') ∨
   (z.1.at_ = 5 ∧ ∃ pr' r', VI R' (upd L i none) (v.fin (ids i) z.1.code z.1.v).1 ids pr' r'))
section
variable {R : RS} {L : LL} {v : HV} {ids : Nat → Nat} {pr : Nat → BitVec 64} {r : List Nat} {i : Nat} {o : LOp} {x : VOp} {m : MV} {w : List (BitVec 64)}
theorem join_step (h : VI R L v ids pr r) (hi : L i = some o) (hx : VR R.s x o) (c : Clean m w) (hw : WR R w) (hT : R.T < 100000) (hs : R.s ≤ 8) : Stepped R L v ids i (x.step m) := by
  have h2 := h.ri.s2
  have hot := h.ri.ot
  have hlen := hw.len
  obtain ⟨xr, xt, xv, xa, xp, xc⟩ := x
  obtain ⟨rfl, rfl, rfl, rfl, rfl, rfl⟩ := hx
  have hst := h.ri.stages hi
  have hhead : (VOp.mk ⟨0, R.s⟩ o.tk o.v o.st (BitVec.ofNat 64 o.p) 0).head = if o.tk = true then 1 else 0 := by
    cases ht : o.tk <;> simp [VOp.head]
  have hcl : o.p < 200000 → RV.cell ⟨0, R.s⟩ (BitVec.ofNat 64 o.p) = ((2 + 2 * (o.p % R.s) : Nat) : Int) := fun hp => cell_of (by omega)
  have hm : o.p % R.s < R.s := Nat.mod_lt _ (by omega)
  have hst' : o.st = 0 ∨ o.st = 1 ∨ o.st = 2 ∨ o.st = 3 ∨ o.st = 4 := by omega
  have hple : 1 ≤ o.st → o.p ≤ R.T := fun g => by
    have := h.ri.ples hi g
    split at this <;> omega
  rcases hst' with g | g | g | g | g
  · -- look
    have es : (VOp.mk ⟨0, R.s⟩ o.tk o.v o.st (BitVec.ofNat 64 o.p) 0).step m = (VOp.mk ⟨0, R.s⟩ o.tk o.v 1 (m.load (if o.tk = true then 1 else 0)) 0, m.use 0 (if o.tk = true then 1 else 0) id) := by
      rw [← hhead]
      simp [VOp.step, g]
    rw [es]
    have a0 : (0 : Int) ≤ (if o.tk = true then 1 else 0) := by split <;> omega
    have a1 : (if o.tk = true then 1 else 0 : Int) < w.length := by rw [hlen]; split <;> omega
    have hld : m.load (if o.tk = true then 1 else 0) = BitVec.ofNat 64 (if o.tk = true then R.O else R.T) := by
      rw [load_cl c a0 a1]
      cases ht : o.tk
      · exact hw.w0
      · exact hw.w1
    refine ⟨w, R, c.use_id a0 a1 0, hw, rfl, by omega, .inl ⟨by simp, { o with st := 1, p := if o.tk = true then R.O else R.T }, pr, r, ⟨rfl, rfl, rfl, hld, rfl, rfl⟩, ?_⟩⟩
    refine h.idle hi (h.ri.idle hi (by omega) (.inr (.inl ⟨rfl, Nat.le_refl _⟩)) (by simp)) rfl rfl rfl rfl (fun q => by omega) (fun _ => rfl) (by simp only; omega)
  · -- ask
    have hp := hple (by omega)
    have hp' := h.ri.ples hi (by omega)
    have hsq := h.ri.sq_lt hm
    have a0 : (0 : Int) ≤ ((2 + 2 * (o.p % R.s) : Nat) : Int) := by omega
    have a1 : ((2 + 2 * (o.p % R.s) : Nat) : Int) < w.length := by rw [hlen]; omega
    have hld : m.load (RV.cell ⟨0, R.s⟩ (BitVec.ofNat 64 o.p)) = BitVec.ofNat 64 (R.sq (o.p % R.s)) := by
      rw [hcl (by omega), load_cl c a0 a1, Int.toNat_natCast]; exact hw.sq _ hm
    have hd : (m.load (RV.cell ⟨0, R.s⟩ (BitVec.ofNat 64 o.p)) - (if o.tk = true then BitVec.ofNat 64 o.p + 1#64 else BitVec.ofNat 64 o.p)).toInt = (R.sq (o.p % R.s) : Int) - ((if o.tk = true then o.p + 1 else o.p : Nat) : Int) := by
      rw [hld]
      cases ht : o.tk
      · exact small_sub (by omega) (by omega)
      · rw [if_pos rfl, if_pos rfl, small_succ]; exact small_sub (by omega) (by omega)
    have cl := c.use_id a0 a1 0
    rw [← hcl (by omega)] at cl
    have es : (VOp.mk ⟨0, R.s⟩ o.tk o.v o.st (BitVec.ofNat 64 o.p) 0).step m = (if (R.sq (o.p % R.s) : Int) - ((if o.tk = true then o.p + 1 else o.p : Nat) : Int) = 0 then VOp.mk ⟨0, R.s⟩ o.tk o.v 2 (BitVec.ofNat 64 o.p) 0 else if (R.sq (o.p % R.s) : Int) - ((if o.tk = true then o.p + 1 else o.p : Nat) : Int) < 0 then (VOp.mk ⟨0, R.s⟩ o.tk o.v o.st (BitVec.ofNat 64 o.p) 0).fin (if o.tk = true then 13 else 15) else VOp.mk ⟨0, R.s⟩ o.tk o.v 0 (BitVec.ofNat 64 o.p) 0, m.use 0 (RV.cell ⟨0, R.s⟩ (BitVec.ofNat 64 o.p)) id) := by
      rw [← hd]
      simp [VOp.step, g]
    rw [es]
    by_cases d0 : (R.sq (o.p % R.s) : Int) - ((if o.tk = true then o.p + 1 else o.p : Nat) : Int) = 0
    · rw [if_pos d0]
      refine ⟨w, R, cl, hw, rfl, by omega, .inl ⟨by simp, { o with st := 2 }, pr, r, ⟨rfl, rfl, rfl, rfl, rfl, rfl⟩, ?_⟩⟩
      refine h.idle hi (h.ri.idle hi (by omega) ?_ (by simp)) rfl rfl rfl rfl (fun q => by omega) (fun _ => rfl) (by simp only; omega)
      cases ht : o.tk
      · rw [ht] at d0 hp'
        simp only [Bool.false_eq_true, if_false] at d0 hp'
        exact .inr (.inr (.inl ⟨rfl, rfl, hp', fun _ => by simp only; omega⟩))
      · rw [ht] at d0 hp'
        simp only [if_true] at d0 hp'
        exact .inr (.inr (.inr (.inl ⟨rfl, rfl, hp', fun _ => by simp only; omega⟩)))
    · rw [if_neg d0]
      by_cases d1 : (R.sq (o.p % R.s) : Int) - ((if o.tk = true then o.p + 1 else o.p : Nat) : Int) < 0
      · rw [if_pos d1]
        obtain ⟨r', hv⟩ := h.refuse hi (by omega) (by
          cases ht : o.tk
          · rw [ht] at d1 hp'
            simp only [Bool.false_eq_true, if_false] at d1 hp' ⊢
            exact h.ri.full hp' (by omega)
          · rw [ht] at d1 hp'
            simp only [if_true] at d1 hp' ⊢
            exact h.ri.empty hp' (by omega))
        refine ⟨w, R, cl, hw, rfl, by omega, .inr ⟨rfl, pr, r', ?_⟩⟩
        have e1 : ((VOp.mk ⟨0, R.s⟩ o.tk o.v o.st (BitVec.ofNat 64 o.p) 0).fin (if o.tk = true then 13 else 15)).code = if o.tk = true then 13 else 15 := rfl
        have e2 : ((VOp.mk ⟨0, R.s⟩ o.tk o.v o.st (BitVec.ofNat 64 o.p) 0).fin (if o.tk = true then 13 else 15)).v = 0#64 := by
          simp only [VOp.fin]
          rw [if_pos]; left; split <;> decide
        simp only
        rw [e1, e2]
        exact hv
      · rw [if_neg d1]
        refine ⟨w, R, cl, hw, rfl, by omega, .inl ⟨by simp, { o with st := 0 }, pr, r, ⟨rfl, rfl, rfl, rfl, rfl, rfl⟩, ?_⟩⟩
        exact h.idle hi (h.ri.idle hi (by omega) (.inl rfl) (by simp)) rfl rfl rfl rfl (fun q => by omega) (fun _ => rfl) (by simp only; omega)
  · -- claim
    have hp := hple (by omega)
    have hp' := h.ri.ples hi (by omega)
    have a0 : (0 : Int) ≤ (if o.tk = true then 1 else 0) := by split <;> omega
    have a1 : (if o.tk = true then 1 else 0 : Int) < w.length := by rw [hlen]; split <;> omega
    have hat : w.getD (if o.tk = true then 1 else 0 : Int).toNat 0 = BitVec.ofNat 64 (if o.tk = true then R.O else R.T) := by
      cases ht : o.tk
      · exact hw.w0
      · exact hw.w1
    have hsw : m.swaps (if o.tk = true then 1 else 0) (BitVec.ofNat 64 o.p) = decide (o.p = if o.tk = true then R.O else R.T) := by
      rw [MV.swaps, c.bad a0 a1, c.at, hat, Bool.eq_iff_iff]
      simp only [Bool.not_false, Bool.true_and, beq_iff_eq, decide_eq_true_eq]
      rw [small_eq (by split <;> omega) (by omega)]
      exact ⟨fun q => q.symm, fun q => q.symm⟩
    have es : (VOp.mk ⟨0, R.s⟩ o.tk o.v o.st (BitVec.ofNat 64 o.p) 0).step m = (if o.p = (if o.tk = true then R.O else R.T) then VOp.mk ⟨0, R.s⟩ o.tk o.v 3 (BitVec.ofNat 64 o.p) 0 else VOp.mk ⟨0, R.s⟩ o.tk o.v 0 (BitVec.ofNat 64 o.p) 0, m.use 2 (if o.tk = true then 1 else 0) (fun z => if z = BitVec.ofNat 64 o.p then BitVec.ofNat 64 o.p + 1#64 else z)) := by
      have : (VOp.mk ⟨0, R.s⟩ o.tk o.v o.st (BitVec.ofNat 64 o.p) 0).step m = (if m.swaps (VOp.mk ⟨0, R.s⟩ o.tk o.v o.st (BitVec.ofNat 64 o.p) 0).head (BitVec.ofNat 64 o.p) = true then VOp.mk ⟨0, R.s⟩ o.tk o.v 3 (BitVec.ofNat 64 o.p) 0 else VOp.mk ⟨0, R.s⟩ o.tk o.v 0 (BitVec.ofNat 64 o.p) 0, m.use 2 (VOp.mk ⟨0, R.s⟩ o.tk o.v o.st (BitVec.ofNat 64 o.p) 0).head (fun z => if z = BitVec.ofNat 64 o.p then BitVec.ofNat 64 o.p + 1#64 else z)) := by
        simp [VOp.step, g]
      rw [this, hhead, hsw]
      simp only [decide_eq_true_eq]
    rw [es, small_succ]
    have cl := c.use a0 a1 2 (fun z => if z = BitVec.ofNat 64 o.p then BitVec.ofNat 64 o.p + 1#64 else z)
    rw [hat] at cl
    by_cases d0 : o.p = if o.tk = true then R.O else R.T
    · rw [if_pos d0]
      rw [← d0, if_pos rfl, small_succ] at cl
      cases ht : o.tk
      · rw [ht] at cl d0
        simp only [Bool.false_eq_true, if_false] at cl d0 ⊢
        obtain ⟨pr', r', hv⟩ := h.claimPut hi g ht d0
        refine ⟨_, { R with T := R.T + 1, vals := upd R.vals R.T o.v }, cl, ?_, rfl, Nat.le_refl _, .inl ⟨by simp, { o with st := 3 }, pr', r', ⟨rfl, ht.symm, rfl, rfl, rfl, rfl⟩, hv⟩⟩
        rw [d0]
        exact hw.setT _ _
      · rw [ht] at cl d0
        simp only [if_true] at cl d0 ⊢
        obtain ⟨pr', r', hv⟩ := h.claimTake hi g ht d0
        refine ⟨_, { R with O := R.O + 1 }, cl, ?_, rfl, by simp only; omega, .inl ⟨by simp, { o with st := 3 }, pr', r', ⟨rfl, ht.symm, rfl, rfl, rfl, rfl⟩, hv⟩⟩
        rw [d0]
        exact hw.setO _
    · rw [if_neg d0]
      rw [if_neg (fun q => d0 (small_inj (by split <;> omega) (by omega) q).symm), ← hat] at cl
      have e2 : w.set (if o.tk = true then 1 else 0 : Int).toNat (w.getD (if o.tk = true then 1 else 0 : Int).toNat 0) = w := by
        have h := MV.set_at (c.bad a0 a1)
        rw [MV.at, c.ws] at h; exact h
      rw [e2, small_succ] at cl
      refine ⟨w, R, cl, hw, rfl, by omega, .inl ⟨by simp, { o with st := 0 }, pr, r, ⟨rfl, rfl, rfl, rfl, rfl, rfl⟩, ?_⟩⟩
      exact h.idle hi (h.ri.idle hi (by omega) (.inl rfl) (by simp)) rfl rfl rfl rfl (fun q => by omega) (fun _ => rfl) (by simp only; omega)
  · -- move
    have hp := hple (by omega)
    have a0 : (0 : Int) ≤ ((2 + 2 * (o.p % R.s) : Nat) : Int) + 1 := by omega
    have a1 : ((2 + 2 * (o.p % R.s) : Nat) : Int) + 1 < w.length := by rw [hlen]; omega
    have en : (((2 + 2 * (o.p % R.s) : Nat) : Int) + 1).toNat = 3 + 2 * (o.p % R.s) := by omega
    cases ht : o.tk
    · have es : (VOp.mk ⟨0, R.s⟩ false o.v o.st (BitVec.ofNat 64 o.p) 0).step m = (VOp.mk ⟨0, R.s⟩ false o.v 4 (BitVec.ofNat 64 o.p) 0, m.use 1 (((2 + 2 * (o.p % R.s) : Nat) : Int) + 1) (fun _ => o.v)) := by
        rw [← hcl (by omega)]
        simp [VOp.step, g]
      rw [es]
      have cl := c.use a0 a1 1 (fun _ => o.v)
      rw [en] at cl
      refine ⟨_, { R with dat := upd R.dat (o.p % R.s) o.v }, cl, hw.setDat hm _, rfl, by simp only; omega, .inl ⟨by simp, { o with st := 4 }, pr, r, ⟨rfl, ht.symm, rfl, rfl, rfl, rfl⟩, ?_⟩⟩
      exact h.idle hi (h.ri.movePut hi g ht) rfl rfl rfl rfl (fun _ => rfl) (fun _ => rfl) (by simp only; omega)
    · have es : (VOp.mk ⟨0, R.s⟩ true o.v o.st (BitVec.ofNat 64 o.p) 0).step m = (VOp.mk ⟨0, R.s⟩ true (m.load (((2 + 2 * (o.p % R.s) : Nat) : Int) + 1)) 4 (BitVec.ofNat 64 o.p) 0, m.use 0 (((2 + 2 * (o.p % R.s) : Nat) : Int) + 1) id) := by
        rw [← hcl (by omega)]
        simp [VOp.step, g]
      rw [es, load_cl c a0 a1, en, hw.dat _ hm]
      refine ⟨w, R, c.use_id a0 a1 0, hw, rfl, by omega, .inl ⟨by simp, { o with st := 4, v := R.dat (o.p % R.s) }, pr, r, ⟨rfl, ht.symm, rfl, rfl, rfl, rfl⟩, ?_⟩⟩
      exact h.idle hi (h.ri.moveTake hi g ht) rfl rfl rfl rfl (fun _ => rfl) (fun q => by rw [ht] at q; cases q) (by simp only; omega)
  · -- free
    have hp := hple (by omega)
    have a0 : (0 : Int) ≤ ((2 + 2 * (o.p % R.s) : Nat) : Int) := by omega
    have a1 : ((2 + 2 * (o.p % R.s) : Nat) : Int) < w.length := by rw [hlen]; omega
    cases ht : o.tk
    · have es : (VOp.mk ⟨0, R.s⟩ false o.v o.st (BitVec.ofNat 64 o.p) 0).step m = (VOp.mk ⟨0, R.s⟩ false 0#64 5 (BitVec.ofNat 64 o.p) 0, m.use 1 ((2 + 2 * (o.p % R.s) : Nat) : Int) (fun _ => BitVec.ofNat 64 (o.p + 1))) := by
        rw [← hcl (by omega), ← small_succ]
        simp [VOp.step, VOp.fin, g]
      rw [es]
      have cl := c.use a0 a1 1 (fun _ => BitVec.ofNat 64 (o.p + 1))
      rw [Int.toNat_natCast] at cl
      refine ⟨_, { R with sq := upd R.sq (o.p % R.s) (o.p + 1) }, cl, hw.setSq hm _, rfl, by simp only; omega, .inr ⟨rfl, pr, r, ?_⟩⟩
      exact h.fin hi (by omega) (h.ri.freePut hi g ht) rfl rfl rfl (by simp [prm, ht])
    · have es : (VOp.mk ⟨0, R.s⟩ true o.v o.st (BitVec.ofNat 64 o.p) 0).step m = (VOp.mk ⟨0, R.s⟩ true o.v 5 (BitVec.ofNat 64 o.p) 0, m.use 1 ((2 + 2 * (o.p % R.s) : Nat) : Int) (fun _ => BitVec.ofNat 64 (o.p + R.s))) := by
        rw [← hcl (by omega), ← small_add]
        simp [VOp.step, VOp.fin, g]
      rw [es]
      have cl := c.use a0 a1 1 (fun _ => BitVec.ofNat 64 (o.p + R.s))
      rw [Int.toNat_natCast] at cl
      obtain ⟨hv, hri⟩ := h.ri.freeTake hi g ht
      refine ⟨_, { R with sq := upd R.sq (o.p % R.s) (o.p + R.s) }, cl, hw.setSq hm _, rfl, by simp only; omega, .inr ⟨rfl, pr, r, ?_⟩⟩
      exact h.fin hi (by omega) hri rfl rfl rfl (by simp only [prm, ht, if_true]; exact hv)
end
end Go.Proofs.Ytgipbamdefjenaa
/- Orders of a ring: what threads ask for. -/
namespace Go.Proofs.Ytgipbamdefjenaa
open Go Go.LK
set_option linter.unusedSimpArgs false
set_option linter.unusedVariables false
theorem step_len (x : VOp) (m : MV) : (x.step m).2.w.length = m.w.length ∧ (x.step m).2.bar = m.bar := by
  unfold VOp.step
  split; · exact ⟨rfl, rfl⟩
  split; · exact MV.use_len _ _ _ _
  split; · exact MV.use_len _ _ _ _
  split
  · split <;> exact MV.use_len _ _ _ _
  split <;> exact MV.use_len _ _ _ _
theorem right_two {s : Nat} (h : s = 2 ∨ s = 4 ∨ s = 8) : (RV.mk 0 s).right = true := by
  rcases h with rfl | rfl | rfl <;> decide
structure Ask where
  th : Int
  kind : Int
  arg : BitVec 64
def Ask.cells (c : Ask) : List Value := [.int .i64 c.th, .int .i64 c.kind, w64 c.arg]
theorem Ask.len (c : Ask) : c.cells.length = 3 := rfl
def Ask.Ok (c : Ask) : Prop := (-9223372036854775808 ≤ c.th ∧ c.th ≤ 9223372036854775807) ∧ (-9223372036854775808 ≤ c.kind ∧ c.kind ≤ 9223372036854775807)
theorem Ask.row (r : List Value) (h_0 : Row2 CellIs [.int .i64, .int .i64, .int .u64] r) : ∃ x, r = Ask.cells x ∧ Ask.Ok x := by
  obtain ⟨_, _, rfl, k0, h_1⟩ := row_cons h_0
  obtain ⟨x0, rfl, y0⟩ := is_i64 k0
  obtain ⟨_, _, rfl, k1, h_2⟩ := row_cons h_1
  obtain ⟨x1, rfl, y1⟩ := is_i64 k1
  obtain ⟨_, _, rfl, k2, h_3⟩ := row_cons h_2
  obtain ⟨x2, rfl⟩ := is_u64 k2
  obtain rfl := row_nil h_3
  exact ⟨⟨x0, x1, x2⟩, rfl, ⟨y0, y1⟩⟩

theorem two_ev (lim : Nat) (H : LHeap) (n : Int) : ∃ s : Nat, (s = 2 ∨ s = 4 ∨ s = 8) ∧ callE T 22 lim [i64 n] H fun v H' => v = i64 s ∧ H' = H := by
  obtain ⟨d, hd, d0, d3⟩ := andK n 3 (by decide)
  have d3 : d ≤ 3 := d3
  have : d = 0 ∨ d = 1 ∨ d = 2 ∨ d = 3 := by omega
  rcases this with rfl | rfl | rfl | rfl
  · refine ⟨2, .inl rfl, ?_⟩
    refine callE_pop rfl (by simp) rfl ?_
    have e1 : Int.tmod 0 3 = 0 := by decide
    have e2 : lbin .shl (i64 2) (w64 (BitVec.ofInt 64 0)) = some (i64 2) := by rfl
    simp -dsimp only [go_sem, Nat.reduceEqDiff, Nat.reduceAdd, Nat.reduceSub, Nat.reduceMul, Nat.reduceLeDiff, Nat.reduceLT, Nat.reduceBEq, Int.reduceLT, Int.reduceLE, Int.reduceGT, Int.reduceGE, Int.reduceEq, Int.reduceNe, Int.reduceBEq, Int.reduceBNe, Int.reduceAdd, Int.reduceSub, Int.reduceMul, Int.reduceToNat, Int.reduceNeg, ↓reduceIte, ↓reduceDIte, hd, e1, e2]
  · refine ⟨4, .inr (.inl rfl), ?_⟩
    refine callE_pop rfl (by simp) rfl ?_
    have e1 : Int.tmod 1 3 = 1 := by decide
    have e2 : lbin .shl (i64 2) (w64 (BitVec.ofInt 64 1)) = some (i64 4) := by rfl
    simp -dsimp only [go_sem, Nat.reduceEqDiff, Nat.reduceAdd, Nat.reduceSub, Nat.reduceMul, Nat.reduceLeDiff, Nat.reduceLT, Nat.reduceBEq, Int.reduceLT, Int.reduceLE, Int.reduceGT, Int.reduceGE, Int.reduceEq, Int.reduceNe, Int.reduceBEq, Int.reduceBNe, Int.reduceAdd, Int.reduceSub, Int.reduceMul, Int.reduceToNat, Int.reduceNeg, ↓reduceIte, ↓reduceDIte, hd, e1, e2]
  · refine ⟨8, .inr (.inr rfl), ?_⟩
    refine callE_pop rfl (by simp) rfl ?_
    have e1 : Int.tmod 2 3 = 2 := by decide
    have e2 : lbin .shl (i64 2) (w64 (BitVec.ofInt 64 2)) = some (i64 8) := by rfl
    simp -dsimp only [go_sem, Nat.reduceEqDiff, Nat.reduceAdd, Nat.reduceSub, Nat.reduceMul, Nat.reduceLeDiff, Nat.reduceLT, Nat.reduceBEq, Int.reduceLT, Int.reduceLE, Int.reduceGT, Int.reduceGE, Int.reduceEq, Int.reduceNe, Int.reduceBEq, Int.reduceBNe, Int.reduceAdd, Int.reduceSub, Int.reduceMul, Int.reduceToNat, Int.reduceNeg, ↓reduceIte, ↓reduceDIte, hd, e1, e2]
  · refine ⟨2, .inl rfl, ?_⟩
    refine callE_pop rfl (by simp) rfl ?_
    have e1 : Int.tmod 3 3 = 0 := by decide
    have e2 : lbin .shl (i64 2) (w64 (BitVec.ofInt 64 0)) = some (i64 2) := by rfl
    simp -dsimp only [go_sem, Nat.reduceEqDiff, Nat.reduceAdd, Nat.reduceSub, Nat.reduceMul, Nat.reduceLeDiff, Nat.reduceLT, Nat.reduceBEq, Int.reduceLT, Int.reduceLE, Int.reduceGT, Int.reduceGE, Int.reduceEq, Int.reduceNe, Int.reduceBEq, Int.reduceBNe, Int.reduceAdd, Int.reduceSub, Int.reduceMul, Int.reduceToNat, Int.reduceNeg, ↓reduceIte, ↓reduceDIte, hd, e1, e2]
/-- The operation that is asked for. -/
def Ask.op (r : RV) (c : Ask) (d : Int) : VOp := if d = 0 then ⟨r, false, c.arg, 0, 0#64, 0⟩ else ⟨r, true, 0#64, 0, 0#64, 0⟩
theorem abegin_ev {lim : Nat} {H : LHeap} {r : RV} {c : Ask} {d : Int} (hl : lim ≤ H.length) (hr : r.right = true) (hd : IntKind.i64.wrap ((BitVec.ofInt IntKind.i64.bits c.kind &&& BitVec.ofInt IntKind.i64.bits 1).toNat : Int) = d) :
    callE T 24 lim [r.v, .agg #[i64 c.th, i64 c.kind, w64 c.arg]] H fun v H' => ∃ u1 u2 u3 u4, v = ptr (H.length + 4) ∧ H' = H ++ [u1, u2, u3, u4, vrw (c.op r d)] := by
  refine callE_stay rfl (by simp) rfl ?_
  by_cases h0 : d = 0
  · have e0 : (d == 0) = true := by simp [h0]
    simp -dsimp only [go_sem, Nat.reduceEqDiff, Nat.reduceAdd, Nat.reduceSub, Nat.reduceMul, Nat.reduceLeDiff, Nat.reduceLT, Nat.reduceBEq, Int.reduceLT, Int.reduceLE, Int.reduceGT, Int.reduceGE, Int.reduceEq, Int.reduceNe, Int.reduceBEq, Int.reduceBNe, Int.reduceAdd, Int.reduceSub, Int.reduceMul, Int.reduceToNat, Int.reduceNeg, ↓reduceIte, ↓reduceDIte, hd, e0, hl]
    refine CT_of (vput_ev (by simp; omega)) ?_
    rintro _ _ ⟨u1, u2, rfl, rfl⟩
    rw [if_pos hr]
    simp -dsimp only [go_sem, Nat.reduceEqDiff, Nat.reduceAdd, Nat.reduceSub, Nat.reduceMul, Nat.reduceLeDiff, Nat.reduceLT, Nat.reduceBEq, Int.reduceLT, Int.reduceLE, Int.reduceGT, Int.reduceGE, Int.reduceEq, Int.reduceNe, Int.reduceBEq, Int.reduceBNe, Int.reduceAdd, Int.reduceSub, Int.reduceMul, Int.reduceToNat, Int.reduceNeg, ↓reduceIte, ↓reduceDIte, Nat.add_assoc]
    exact ⟨.row false 0 [i64 r.a, i64 r.s], .row false 0 [i64 c.th, i64 c.kind, w64 c.arg], u1, u2, by simp [Ask.op, h0]⟩
  · have e0 : (d == 0) = false := by simp [h0]
    simp -dsimp only [go_sem, Nat.reduceEqDiff, Nat.reduceAdd, Nat.reduceSub, Nat.reduceMul, Nat.reduceLeDiff, Nat.reduceLT, Nat.reduceBEq, Int.reduceLT, Int.reduceLE, Int.reduceGT, Int.reduceGE, Int.reduceEq, Int.reduceNe, Int.reduceBEq, Int.reduceBNe, Int.reduceAdd, Int.reduceSub, Int.reduceMul, Int.reduceToNat, Int.reduceNeg, ↓reduceIte, ↓reduceDIte, hd, e0, hl]
    refine CT_of (vtake_ev (by simp; omega)) ?_
    rintro _ _ ⟨u1, u2, rfl, rfl⟩
    rw [if_pos hr]
    simp -dsimp only [go_sem, Nat.reduceEqDiff, Nat.reduceAdd, Nat.reduceSub, Nat.reduceMul, Nat.reduceLeDiff, Nat.reduceLT, Nat.reduceBEq, Int.reduceLT, Int.reduceLE, Int.reduceGT, Int.reduceGE, Int.reduceEq, Int.reduceNe, Int.reduceBEq, Int.reduceBNe, Int.reduceAdd, Int.reduceSub, Int.reduceMul, Int.reduceToNat, Int.reduceNeg, ↓reduceIte, ↓reduceDIte, Nat.add_assoc]
    exact ⟨.row false 0 [i64 r.a, i64 r.s], .row false 0 [i64 c.th, i64 c.kind, w64 c.arg], u1, u2, by simp [Ask.op, h0]⟩
end Go.Proofs.Ytgipbamdefjenaa
/- Orders of a ring: threads' operations, their calls and the log, plain. -/
namespace Go.Proofs.Ytgipbamdefjenaa
open Go Go.LK
set_option linter.unusedSimpArgs false
set_option linter.unusedVariables false
/-- What holds of threads' operations. -/
def PJ (s i : Nat) (m : MV) (v : HV) (L : List (Option (Nat × VOp))) (I : List Int) : Prop :=
  ∃ (w : List (BitVec 64)) (R : RS) (Lp : LL) (ids : Nat → Nat) (pr : Nat → BitVec 64) (r : List Nat), Clean m w ∧ WR R w ∧ R.s = s ∧ R.T ≤ i ∧ VI R Lp v ids pr r ∧ L.length = 4 ∧ I.length = 4 ∧
    (∀ j o, Lp j = some o → ∃ q x, L[j]? = some (some (q, x)) ∧ VR s x o ∧ I[j]? = some (ids j : Int)) ∧
    (∀ j q x, L[j]? = some (some (q, x)) → ∃ o, Lp j = some o)
theorem OI.zero (cap : Int) (pr : Nat → BitVec 64) : OI cap [] pr [] [] := ⟨rfl, List.nodup_nil, fun id h => by simp at h, List.Pairwise.nil, fun k d h => by simp at h⟩
theorem WR.zero {s : Nat} (h2 : 2 ≤ s) : WR ⟨s, 0, 0, fun j => j, fun _ => 0#64, fun _ => 0#64⟩ (vlay (2 + 2 * s) 0 s) := by
  have g := fun j (hj : j < 2 + 2 * s) => vlay_get (2 + 2 * s) 0 s j hj
  refine ⟨vlay_len _ _ _, ?_, ?_, fun j hj => ?_, fun j hj => ?_⟩
  · rw [List.getD, g 0 (by omega)]; rfl
  · rw [List.getD, g 1 (by omega)]; rfl
  · change j < s at hj
    rw [List.getD, g _ (by omega), if_pos (by omega), show (2 + 2 * j - 0 - 2) / 2 = j by omega]; rfl
  · change j < s at hj
    rw [List.getD, g _ (by omega), if_neg (by omega)]; rfl
theorem PJ.zero {s : Nat} (h2 : 2 ≤ s) {m : MV} (c : Clean m (vlay (2 + 2 * s) 0 s)) : PJ s 0 m { l := [], op := [], now := 0 } (List.replicate 4 none) (List.replicate 4 0) := by
  refine ⟨_, _, fun _ => none, fun _ => 0, fun _ => 0#64, [], c, WR.zero h2, rfl, Nat.le_refl _, ⟨RI.new h2 _ _, OI.zero _ _, HInv.zero, fun i o h => by simp at h, fun k d h => by simp at h⟩, rfl, rfl, fun j o h => by simp at h, fun j q x h => ?_⟩
  rw [List.getElem?_replicate] at h
  split at h <;> simp at h
section
variable {s i : Nat} {m : MV} {v : HV} {L : List (Option (Nat × VOp))} {I : List Int}
theorem PJ.hi (h : PJ s i m v L I) : HInv v := by
  obtain ⟨_, _, _, _, _, _, _, _, _, _, h, _⟩ := h
  exact h.hi
theorem PJ.ll (h : PJ s i m v L I) : L.length = 4 := by
  obtain ⟨_, _, _, _, _, _, _, _, _, _, _, h, _⟩ := h
  exact h
theorem PJ.li (h : PJ s i m v L I) : I.length = 4 := by
  obtain ⟨_, _, _, _, _, _, _, _, _, _, _, _, h, _⟩ := h
  exact h
theorem PJ.cl (h : PJ s i m v L I) : ∃ w, Clean m w := by
  obtain ⟨w, _, _, _, _, _, h, _⟩ := h
  exact ⟨w, h⟩
theorem PJ.up (h : PJ s i m v L I) {i' : Nat} (hi : i ≤ i') : PJ s i' m v L I := by
  obtain ⟨w, R, Lp, ids, pr, r, h1, h2, h3, h4, h5⟩ := h
  exact ⟨w, R, Lp, ids, pr, r, h1, h2, h3, by omega, h5⟩
theorem PJ.found (h : PJ s i m v L I) (h62 : v.l.length ≤ 62) : (searchF v.l (stepM (s : Int) v.l 2)).isSome = true := by
  obtain ⟨_, R, _, _, _, _, _, _, rfl, _, h, _⟩ := h
  exact h.found h62
theorem PJ.begin (h : PJ s i m v L I) {j q : Nat} (hj : L[j]? = some none) (hl : v.l.length < 1024) (c : Ask) {d : Int} (hd : d = 0 ∨ d = 1) :
    v.begin j d c.arg = ((v.begin j d c.arg).1, (v.l.length : Int), 0) ∧ (v.begin j d c.arg).1.l.length = v.l.length + 1 ∧ (v.begin j d c.arg).1.now = v.now + 1 ∧
      PJ s i m (v.begin j d c.arg).1 (L.set j (some (q, c.op ⟨0, s⟩ d))) (I.set j (v.l.length : Int)) := by
  obtain ⟨w, R, Lp, ids, pr, r, h1, h2, h3, h4, h5, ll, li, h6, h7⟩ := h
  have j4 : j < 4 := by rw [← ll]; exact (List.getElem?_eq_some_iff.1 hj).1
  have hn : Lp j = none := by
    cases hq : Lp j with
    | none => rfl
    | some o =>
      obtain ⟨q', x, g, _⟩ := h6 j o hq
      rw [hj] at g; cases g
  have main : ∀ o : LOp, o.st = 0 → d = knd o → (o.tk = false → c.arg = o.v) → VR s (c.op ⟨0, s⟩ d) o → v.begin j d c.arg = ((v.begin j d c.arg).1, (v.l.length : Int), 0) ∧ (v.begin j d c.arg).1.l.length = v.l.length + 1 ∧ (v.begin j d c.arg).1.now = v.now + 1 ∧
      PJ s i m (v.begin j d c.arg).1 (L.set j (some (q, c.op ⟨0, s⟩ d))) (I.set j (v.l.length : Int)) := by
    intro o o0 ok oa ov
    obtain ⟨g1, g2, g3, g4⟩ := h5.begin hn (by omega) hl o0 ok oa
    refine ⟨g1, g2, g3, w, R, _, _, pr, r, h1, h2, h3, h4, g4, by simp [ll], by simp [li], fun k o' hk => ?_, fun k q' x hk => ?_⟩
    · by_cases e : k = j
      · subst e
        rw [upd_same] at hk ⊢; cases hk
        exact ⟨q, _, List.getElem?_set_self (by omega), ov, List.getElem?_set_self (by omega)⟩
      · rw [upd_ne e] at hk ⊢
        rw [List.getElem?_set_ne (fun z => e z.symm), List.getElem?_set_ne (fun z => e z.symm)]
        exact h6 k o' hk
    · by_cases e : k = j
      · subst e; exact ⟨o, upd_same _ _ _⟩
      · rw [upd_ne e]
        rw [List.getElem?_set_ne (fun z => e z.symm)] at hk
        exact h7 k q' x hk
  rcases hd with rfl | rfl
  · exact main ⟨false, 0, 0, c.arg⟩ rfl rfl (fun _ => rfl) ⟨rfl, rfl, rfl, rfl, rfl, rfl⟩
  · exact main ⟨true, 0, 0, 0#64⟩ rfl rfl (fun q => by cases q) ⟨rfl, rfl, rfl, rfl, rfl, rfl⟩
theorem PJ.right (h : PJ s i m v L I) {j q : Nat} {x : VOp} (hj : L[j]? = some (some (q, x))) : x.r = ⟨0, s⟩ := by
  obtain ⟨w, R, Lp, ids, pr, r, h1, h2, h3, h4, h5, ll, li, h6, h7⟩ := h
  obtain ⟨o, ho⟩ := h7 j q x hj
  obtain ⟨q', x', g, ov, _⟩ := h6 j o ho
  rw [hj] at g; cases g
  exact ov.r
theorem PJ.step (h : PJ s i m v L I) (hs : s ≤ 8) (hi : i < 1000) {j q : Nat} {x : VOp} (hj : L[j]? = some (some (q, x))) :
    ((x.step m).1.at_ ≠ 5 ∧ PJ s (i + 1) (x.step m).2 v (L.set j (some (q, (x.step m).1))) I) ∨
    ((x.step m).1.at_ = 5 ∧ ∃ id, I[j]? = some id ∧ PJ s (i + 1) (x.step m).2 (v.fin id (x.step m).1.code (x.step m).1.v).1 (L.set j none) I ∧ (v.fin id (x.step m).1.code (x.step m).1.v).1.l.length = v.l.length ∧ (v.fin id (x.step m).1.code (x.step m).1.v).1.now = v.now + 1) := by
  obtain ⟨w, R, Lp, ids, pr, r, h1, h2, h3, h4, h5, ll, li, h6, h7⟩ := h
  have j4 : j < 4 := by rw [← ll]; exact (List.getElem?_eq_some_iff.1 hj).1
  subst h3
  obtain ⟨o, ho⟩ := h7 j q x hj
  obtain ⟨q', x', g, ov, oi⟩ := h6 j o ho
  rw [hj] at g; cases g
  obtain ⟨w', R', c', hw', es, et, hh⟩ := join_step h5 ho ov h1 h2 (by omega) hs
  rcases hh with ⟨h5', o', pr', r', ov', hv'⟩ | ⟨h5', pr', r', hv'⟩
  · refine .inl ⟨h5', w', R', _, ids, pr', r', c', hw', es, by omega, hv', by simp [ll], li, fun k y hk => ?_, fun k q' y hk => ?_⟩
    · by_cases e : k = j
      · subst e
        rw [upd_same] at hk; cases hk
        exact ⟨q, _, List.getElem?_set_self (by omega), ov', oi⟩
      · rw [upd_ne e] at hk
        rw [List.getElem?_set_ne (fun z => e z.symm)]
        exact h6 k y hk
    · by_cases e : k = j
      · subst e; exact ⟨o', upd_same _ _ _⟩
      · rw [upd_ne e]
        rw [List.getElem?_set_ne (fun z => e z.symm)] at hk
        exact h7 k q' y hk
  · obtain ⟨d, hd, hf⟩ := fin_eq h5 ho (x.step m).1.code (x.step m).1.v
    refine .inr ⟨h5', _, oi, ⟨w', R', _, ids, pr', r', c', hw', es, by omega, hv', by simp [ll], li, fun k y hk => ?_, fun k q' y hk => ?_⟩, by rw [hf]; simp, by rw [hf]⟩
    · obtain ⟨e, hk⟩ := gone hk
      rw [List.getElem?_set_ne (fun z => e z.symm)]
      exact h6 k y hk
    · by_cases e : k = j
      · subst e
        rw [List.getElem?_set_self (by omega)] at hk; cases hk
      · rw [List.getElem?_set_ne (fun z => e z.symm)] at hk
        obtain ⟨o', ho'⟩ := h7 k q' y hk
        exact ⟨o', stays e ho'⟩
end
end Go.Proofs.Ytgipbamdefjenaa
