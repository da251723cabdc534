/- DROP A ring that may be closed: an operation's step is one of those. -/
import Derived.Test.YtopjhhcncjleaaaK9
namespace Go.Proofs.Ytopjhhcncjleaaa
open Go Go.LK
set_option linter.unusedSimpArgs false
set_option linter.unusedVariables false
section
variable {g : QS} {L : QL} {v : HV} {ids : Nat → Nat} {N : Nat} {i : Nat} {o : QOp} {w : List (BitVec 64)} {x : COp}
theorem join_put (h : CI g L v ids N) (hi : L i = some o) (hx : VQ g.s N x o) (hw : WQ g w) (hN : N < 100000) (hs : g.s ≤ 8) (ht : o.tk = false) : QStep g L v ids N i (wst (x, w)) := by
  have s1 := h.rq.s1
  obtain ⟨bT, bH, bP⟩ := h.bd
  have hlen := hw.len
  have g0 := h.rq.pi i o hi ht
  obtain ⟨xr, xk, xv, xa, xp, xd, xs, xt, xh, xtr, xc, xrt⟩ := x
  obtain ⟨rfl, kd, rfl, hv, hp, hd, hsw, htl, hhh, htr⟩ := hx
  rw [ht] at kd
  simp only [Bool.false_eq_true, if_false] at kd hp hd hsw htl hhh htr hv
  have hv := hv ht
  subst kd hv
  have hm : o.p % g.s < g.s := Nat.mod_lt _ s1
  have hst := g0.st
  have hcases : o.st = 0 ∨ o.st = 1 ∨ o.st = 2 ∨ o.st = 3 ∨ o.st = 4 ∨ o.st = 5 ∨ o.st = 6 := by omega
  have nk : ∀ {o' : QOp}, o.tk = true → TakeI g (ids i) o' := fun q => by rw [ht] at q; cases q
  have nl : ∀ {P : Prop}, o.tk = true → P := fun q => by rw [ht] at q; cases q
  rcases hcases with e | e | e | e | e | e | e
  · rw [e]
    cases hcl : g.cl
    · have e1 := e_claim0 (s := g.s) (v := o.v) (d := xd) (st := xs) (tl := xt) (hd := xh) (tr := xtr) (c := xc) (rt := xrt) (p := xp) (w := w) (T := g.T) (by rw [← hcl]; exact hw.w1) (by omega)
      have e1 : wst (⟨⟨0, g.s⟩, 0, o.v, ((0 : Nat) : Int), xp, xd, xs, xt, xh, xtr, xc, xrt⟩, w) = _ := e1
      rw [e1]
      have h2 := h.claimP hi e ht hcl
      have h3 := hw.setT (g.T + 1) g.cl (upd g.B g.T (ids i)) ((Ev.put g.T, v.now) :: g.h)
      have h4 : w.set 1 (tw (g.T + 1) false) = w.set 1 (tw (g.T + 1) g.cl) := by rw [hcl]
      rw [h4]
      exact ⟨{ g with T := g.T + 1, B := upd g.B g.T (ids i), h := (Ev.put g.T, v.now) :: g.h }, h3, rfl, .inl ⟨by simp, { o with st := 1, p := g.T }, ⟨rfl, by rw [ht]; rfl, rfl, fun _ => rfl, fun _ => rfl, fun q => by simp at q, fun q => by simp at q, fun q => by simp at q, fun q => by simp at q, by simp only; omega⟩, h2⟩⟩
    · have e1 := e_claim0c (s := g.s) (v := o.v) (d := xd) (st := xs) (tl := xt) (hd := xh) (tr := xtr) (c := xc) (rt := xrt) (p := xp) (w := w) (T := g.T) (by rw [← hcl]; exact hw.w1) (by omega)
      have e1 : wst (⟨⟨0, g.s⟩, 0, o.v, ((0 : Nat) : Int), xp, xd, xs, xt, xh, xtr, xc, xrt⟩, w) = _ := e1
      rw [e1]
      exact ⟨_, hw.setT (g.T + 1) true g.B g.h, rfl, .inr ⟨rfl, h.endS hi ht (by omega) (by omega)⟩⟩
  · obtain ⟨a1, a2, a3, a4⟩ := g0.att (by omega) (by omega)
    have hp := hp (by omega)
    subst hp
    have e1 := e_data (s := g.s) (k := 0) (v := o.v) (d := xd) (st := xs) (tl := xt) (hd := xh) (tr := xtr) (c := xc) (rt := xrt) (q := o.p) (w := w) (.inl rfl) (by omega)
    rw [hw.dt _ hm] at e1
    rw [e]
    have e1 : wst (⟨⟨0, g.s⟩, 0, o.v, ((1 : Nat) : Int), BitVec.ofNat 64 o.p, xd, xs, xt, xh, xtr, xc, xrt⟩, w) = _ := e1
    rw [e1]
    refine ⟨g, hw, rfl, .inl ⟨by simp, { o with st := 2, d := g.dt (o.p % g.s) }, ⟨rfl, by rw [ht]; rfl, rfl, fun _ => rfl, fun _ => rfl, fun _ _ => rfl, fun q => by simp at q, fun q => by simp at q, fun q => by simp at q, by simp only; omega⟩, ?_⟩⟩
    exact h.quiet hi rfl (fun _ => rfl) (fun _ => ⟨g0.v, by simp, fun _ _ => ⟨a1, a2, a3, a4⟩, fun q => by simp at q, fun q => by simp at q⟩) nk nl
  · obtain ⟨a1, a2, a3, a4⟩ := g0.att (by omega) (by omega)
    have hp := hp (by omega)
    subst hp
    have hd := hd (by omega) (by omega)
    subst hd
    have hpos := bP _ hm
    have e1 := w_state0 (s := g.s) (v := o.v) (d := o.d) (st := xs) (tl := xt) (hd := xh) (tr := xtr) (c := xc) (rt := xrt) (q := o.p) (w := w) (by omega) (q' := g.pos (o.p % g.s)) (b := g.sf (o.p % g.s)) (by omega) (hw.st _ hm)
    rw [e]
    have e1 : wst (⟨⟨0, g.s⟩, 0, o.v, ((2 : Nat) : Int), BitVec.ofNat 64 o.p, o.d, xs, xt, xh, xtr, xc, xrt⟩, w) = _ := e1
    rw [e1]
    by_cases c1 : o.d ≠ 0#64 ∨ o.p < g.pos (o.p % g.s)
    · rw [if_pos c1]
      refine ⟨g, hw, rfl, .inl ⟨by simp, { o with st := 5 }, ⟨rfl, by rw [ht]; rfl, rfl, fun _ => rfl, fun _ => rfl, fun _ q => by simp at q, fun _ q => by simp at q, fun q => by simp at q, fun q => by simp at q, by simp only; omega⟩, ?_⟩⟩
      exact h.quiet hi rfl (fun _ => rfl) (fun _ => ⟨g0.v, by simp, fun _ q => by simp at q, fun _ q => by simp at q, fun _ q => by simp at q⟩) nk nl
    · rw [if_neg c1]
      have c2 : o.d = 0#64 := by
        by_cases q : o.d = 0#64
        · exact q
        · exact absurd (.inl q) c1
      have c3 : g.pos (o.p % g.s) ≤ o.p := Nat.le_of_not_lt fun q => c1 (.inr q)
      by_cases c4 : g.sf (o.p % g.s) = true
      · rw [if_pos c4]
        refine ⟨g, hw, rfl, .inl ⟨by simp, { o with st := 4, q := g.pos (o.p % g.s), b := g.sf (o.p % g.s) }, ⟨rfl, by rw [ht]; rfl, rfl, fun _ => rfl, fun _ => rfl, fun _ _ => rfl, fun _ _ => rfl, fun q => by simp at q, fun q => by simp at q, by simp only; omega⟩, ?_⟩⟩
        refine h.quiet hi rfl (fun _ => rfl) (fun _ => ⟨g0.v, by simp, fun _ _ => ⟨a1, a2, a3, a4⟩, fun _ _ => ⟨c2, c3⟩, fun _ _ => ?_⟩) nk nl
        by_cases c5 : g.dt (o.p % g.s) = 0#64
        · exact .inr ⟨rfl, rfl, c5, .inl c4⟩
        · exact .inl (.inr ⟨rfl, c5⟩)
      · rw [if_neg c4]
        refine ⟨g, hw, rfl, .inl ⟨by simp, { o with st := 3, q := g.pos (o.p % g.s), b := g.sf (o.p % g.s) }, ⟨rfl, by rw [ht]; rfl, rfl, fun _ => rfl, fun _ => rfl, fun _ _ => rfl, fun _ _ => rfl, fun q => by simp at q, fun q => by simp at q, by simp only; omega⟩, ?_⟩⟩
        refine h.quiet hi rfl (fun _ => rfl) (fun _ => ⟨g0.v, by simp, fun _ _ => ⟨a1, a2, a3, a4⟩, fun _ _ => ⟨c2, c3⟩, fun _ _ => ?_⟩) nk nl
        by_cases c5 : g.dt (o.p % g.s) = 0#64
        · exact .inr ⟨rfl, rfl, c5, .inr fun q => by simp at q⟩
        · exact .inl (.inr ⟨rfl, c5⟩)
  · obtain ⟨a1, a2, a3, a4⟩ := g0.att (by omega) (by omega)
    obtain ⟨b1, b2⟩ := g0.d (by omega) (by omega)
    have b3 := g0.c (by omega) (by omega)
    have hp := hp (by omega)
    subst hp
    have hd := hd (by omega) (by omega)
    subst hd
    have hsw := hsw (by omega) (by omega)
    subst hsw
    have e1 := w_turn0 (s := g.s) (v := o.v) (d := o.d) (st := sW o.q o.b) (tl := xt) (hd := xh) (tr := xtr) (c := xc) (rt := xrt) (q := o.p) (w := w) (h := g.hd) (by omega) (by omega) hw.w0
    rw [e]
    have e1 : wst (⟨⟨0, g.s⟩, 0, o.v, ((3 : Nat) : Int), BitVec.ofNat 64 o.p, o.d, sW o.q o.b, xt, xh, xtr, xc, xrt⟩, w) = _ := e1
    rw [e1]
    by_cases c1 : g.hd ≤ o.p
    · rw [if_pos c1]
      refine ⟨g, hw, rfl, .inl ⟨by simp, { o with st := 4 }, ⟨rfl, by rw [ht]; rfl, rfl, fun _ => rfl, fun _ => rfl, fun _ _ => rfl, fun _ _ => rfl, fun q => by simp at q, fun q => by simp at q, by simp only; omega⟩, ?_⟩⟩
      refine h.quiet hi rfl (fun _ => rfl) (fun _ => ⟨g0.v, by simp, fun _ _ => ⟨a1, a2, a3, a4⟩, fun _ _ => ⟨b1, b2⟩, fun _ _ => ?_⟩) nk nl
      rcases b3 with b3 | ⟨d1, d2, d3, _⟩
      · exact .inl b3
      · refine .inr ⟨d1, d2, d3, .inr fun _ j _ jg => ?_⟩
        refine Nat.lt_of_not_le fun q => ?_
        simp only at q
        rw [h.rq.gz j (by omega)] at jg
        cases jg
    · rw [if_neg c1]
      refine ⟨g, hw, rfl, .inl ⟨by simp, { o with st := 5 }, ⟨rfl, by rw [ht]; rfl, rfl, fun _ => rfl, fun _ => rfl, fun _ q => by simp at q, fun _ q => by simp at q, fun q => by simp at q, fun q => by simp at q, by simp only; omega⟩, ?_⟩⟩
      exact h.quiet hi rfl (fun _ => rfl) (fun _ => ⟨g0.v, by simp, fun _ q => by simp at q, fun _ q => by simp at q, fun _ q => by simp at q⟩) nk nl
  · obtain ⟨a1, a2, a3, a4⟩ := g0.att (by omega) (by omega)
    obtain ⟨b1, b2⟩ := g0.d (by omega) (by omega)
    have hp := hp (by omega)
    subst hp
    have hd := hd (by omega) (by omega)
    subst hd
    have hsw := hsw (by omega) (by omega)
    subst hsw
    have hpos := bP _ hm
    have e1 := w_lay (s := g.s) (v := o.v) (d := o.d) (st := sW o.q o.b) (tl := xt) (hd := xh) (tr := xtr) (c := xc) (rt := xrt) (q := o.p) (w := w) (by omega)
    have e2 := e
    rw [e]
    have e1 : wst (⟨⟨0, g.s⟩, 0, o.v, ((4 : Nat) : Int), BitVec.ofNat 64 o.p, o.d, sW o.q o.b, xt, xh, xtr, xc, xrt⟩, w) = _ := e1
    rw [e1, hw.st _ hm, hw.dt _ hm]
    by_cases c1 : sW (g.pos (o.p % g.s)) (g.sf (o.p % g.s)) = sW o.q o.b ∧ g.dt (o.p % g.s) = o.d
    · rw [if_pos c1]
      obtain ⟨c2, c3⟩ := (sW_inj (by omega) (by omega)).1 c1.1
      have c4 := c1.2.trans b1
      exact ⟨_, hw.setC hm o.p true (o.v + 1#64) g.gn (upd g.E o.p (some o.v)), rfl, .inr ⟨rfl, h.endP hi ht e2 c2 c3 c4⟩⟩
    · rw [if_neg c1]
      refine ⟨g, hw, rfl, .inl ⟨by simp, { o with st := 5 }, ⟨rfl, by rw [ht]; rfl, rfl, fun _ => rfl, fun _ => rfl, fun _ q => by simp at q, fun _ q => by simp at q, fun q => by simp at q, fun q => by simp at q, by simp only; omega⟩, ?_⟩⟩
      exact h.quiet hi rfl (fun _ => rfl) (fun _ => ⟨g0.v, by simp, fun _ q => by simp at q, fun _ q => by simp at q, fun _ q => by simp at q⟩) nk nl
  · obtain ⟨a, ha, e1⟩ := w_asks0 (s := g.s) (v := o.v) (p := xp) (d := xd) (st := xs) (tl := xt) (hd := xh) (tr := xtr) (c := xc) (rt := xrt) (w := w)
    have hp := hp (by omega)
    rw [e]
    have e1 : wst (⟨⟨0, g.s⟩, 0, o.v, ((5 : Nat) : Int), xp, xd, xs, xt, xh, xtr, xc, xrt⟩, w) = _ := e1
    rw [e1]
    refine ⟨g, hw, rfl, .inl ⟨by simp only; omega, { o with st := a }, ⟨rfl, by rw [ht]; rfl, rfl, fun _ => rfl, fun _ => hp, fun q q2 => by simp only at q q2; omega, fun q q2 => by simp only at q q2; omega, fun q => by simp only at q; omega, fun q => by simp only at q; omega, by simp only; omega⟩, ?_⟩⟩
    exact h.quiet hi rfl (fun _ => rfl) (fun _ => ⟨g0.v, by simp only; omega, fun q q2 => by simp only at q q2; omega, fun q q2 => by simp only at q q2; omega, fun q q2 => by simp only at q q2; omega⟩) nk nl
  · have e1 := w_shut (s := g.s) (v := o.v) (p := xp) (d := xd) (st := xs) (tl := xt) (hd := xh) (tr := xtr) (c := xc) (rt := xrt) (w := w) (T := g.T) (cl := g.cl) hw.w1 (by omega)
    rw [e]
    have e1 : wst (⟨⟨0, g.s⟩, 0, o.v, ((6 : Nat) : Int), xp, xd, xs, xt, xh, xtr, xc, xrt⟩, w) = _ := e1
    rw [e1]
    exact ⟨_, hw.setT g.T true g.B g.h, rfl, .inr ⟨rfl, h.endS hi ht (Nat.le_refl _) (by omega)⟩⟩
end
end Go.Proofs.Ytopjhhcncjleaaa
/- DROP A ring that may be closed: a Take's step is one of those. -/
namespace Go.Proofs.Ytopjhhcncjleaaa
open Go Go.LK
set_option linter.unusedSimpArgs false
set_option linter.unusedVariables false
section
variable {g : QS} {L : QL} {v : HV} {ids : Nat → Nat} {N : Nat} {i : Nat} {o : QOp} {w : List (BitVec 64)} {x : COp}
theorem join_take (h : CI g L v ids N) (hi : L i = some o) (hx : VQ g.s N x o) (hw : WQ g w) (hN : N < 100000) (hs : g.s ≤ 8) (ht : o.tk = true) : QStep g L v ids N i (wst (x, w)) := by
  have s1 := h.rq.s1
  obtain ⟨bT, bH, bP⟩ := h.bd
  have hlen := hw.len
  have g0 := h.rq.ti i o hi ht
  obtain ⟨xr, xk, xv, xa, xp, xd, xs, xt, xh, xtr, xc, xrt⟩ := x
  obtain ⟨rfl, kd, rfl, hv, hp, hd, hsw, htl, hhh, htr⟩ := hx
  rw [ht] at kd
  simp only [if_true] at kd hp hd hsw htl hhh htr
  subst kd
  have hm : o.p % g.s < g.s := Nat.mod_lt _ s1
  obtain ⟨hst, hst4⟩ := g0.st
  have hcases : o.st = 0 ∨ o.st = 1 ∨ o.st = 2 ∨ o.st = 3 ∨ o.st = 5 ∨ o.st = 6 ∨ o.st = 7 ∨ o.st = 8 := by omega
  have nk : ∀ {o' : QOp}, o.tk = false → PutI g (ids i) o' := fun q => by rw [ht] at q; cases q
  have nv : ∀ {P : Prop}, o.tk = false → P := fun q => by rw [ht] at q; cases q
  have hpos := bP _ hm
  rcases hcases with e | e | e | e | e | e | e | e
  · have e1 := e_claim1 (s := g.s) (v := xv) (d := xd) (st := xs) (tl := xt) (hd := xh) (tr := xtr) (c := xc) (rt := xrt) (p := xp) (w := w) (h := g.hd) hw.w0
    rw [e]
    have e1 : wst (⟨⟨0, g.s⟩, 1, xv, ((0 : Nat) : Int), xp, xd, xs, xt, xh, xtr, xc, xrt⟩, w) = _ := e1
    rw [e1]
    have h2 := h.claimT hi e ht
    exact ⟨_, hw.setH (g.hd + 1) (upd g.D g.hd (ids i)) ((Ev.take g.hd, v.now) :: g.h), rfl, .inl ⟨by simp, { o with st := 1, p := g.hd }, ⟨rfl, by rw [ht]; rfl, rfl, nv, fun _ => rfl, fun q => by simp at q, fun q => by simp at q, fun q => by simp at q, fun q => by simp at q, by simp only; omega⟩, h2⟩⟩
  · obtain ⟨a1, a2, a3⟩ := g0.own (by omega) (by omega)
    have hno := g0.no (by omega)
    have hp := hp (by omega)
    subst hp
    have e1 := e_data (s := g.s) (k := 1) (v := xv) (d := xd) (st := xs) (tl := xt) (hd := xh) (tr := xtr) (c := xc) (rt := xrt) (q := o.p) (w := w) (.inr rfl) (by omega)
    rw [hw.dt _ hm] at e1
    rw [e]
    have e1 : wst (⟨⟨0, g.s⟩, 1, xv, ((1 : Nat) : Int), BitVec.ofNat 64 o.p, xd, xs, xt, xh, xtr, xc, xrt⟩, w) = _ := e1
    rw [e1]
    refine ⟨g, hw, rfl, .inl ⟨by simp, { o with st := 2, d := g.dt (o.p % g.s) }, ⟨rfl, by rw [ht]; rfl, rfl, nv, fun _ => rfl, fun _ _ => rfl, fun q => by simp at q, fun q => by simp at q, fun q => by simp at q, by simp only; omega⟩, ?_⟩⟩
    exact h.quiet hi rfl (fun _ => rfl) nk (fun _ => ⟨by simp, fun _ _ => ⟨a1, a2, a3⟩, fun q => by simp at q, fun q => by simp at q, fun _ => hno, fun q => by simp at q, fun q => by simp at q⟩) (fun _ _ _ => ⟨by simp, by simp, rfl⟩)
  · obtain ⟨a1, a2, a3⟩ := g0.own (by omega) (by omega)
    have hno := g0.no (by omega)
    have hp := hp (by omega)
    subst hp
    have hd := hd (by omega) (by omega)
    subst hd
    have e1 := w_state1 (s := g.s) (v := xv) (d := o.d) (st := xs) (tl := xt) (hd := xh) (tr := xtr) (c := xc) (rt := xrt) (q := o.p) (w := w) (by omega) (q' := g.pos (o.p % g.s)) (b := g.sf (o.p % g.s)) (by omega) (hw.st _ hm)
    have e2 := e
    rw [e]
    have e1 : wst (⟨⟨0, g.s⟩, 1, xv, ((2 : Nat) : Int), BitVec.ofNat 64 o.p, o.d, xs, xt, xh, xtr, xc, xrt⟩, w) = _ := e1
    rw [e1]
    by_cases c1 : o.p < g.pos (o.p % g.s)
    · rw [if_pos c1]
      obtain ⟨hE, rq⟩ := h.rq.leaveA hi ht (by omega) (by omega) c1 (o' := { o with st := 5 }) ⟨ht, rfl, rfl⟩
      refine ⟨{ g with gn := upd g.gn o.p true }, hw.gn _, rfl, .inl ⟨by simp, { o with st := 5 }, ⟨rfl, by rw [ht]; rfl, rfl, nv, fun _ => rfl, fun _ q => by simp at q, fun _ q => by simp at q, fun q => by simp at q, fun q => by simp at q, by simp only; omega⟩, ?_⟩⟩
      refine h.cell hi (pos := g.pos) (sf := g.sf) (dt := g.dt) (gn := upd g.gn o.p true) rq (fun k x hk hg => ?_) rfl (fun _ => rfl) (fun c hc => by have := bP c hc; omega)
      by_cases q : k = o.p
      · subst q; rw [hE] at hk; cases hk
      · rw [upd_ne q] at hg; exact hg
    · rw [if_neg c1]
      refine ⟨g, hw, rfl, .inl ⟨by simp, { o with st := 3, q := g.pos (o.p % g.s), b := g.sf (o.p % g.s) }, ⟨rfl, by rw [ht]; rfl, rfl, nv, fun _ => rfl, fun _ _ => rfl, fun _ _ => rfl, fun q => by simp at q, fun q => by simp at q, by simp only; omega⟩, ?_⟩⟩
      exact h.quiet hi rfl (fun _ => rfl) nk (fun _ => ⟨by simp, fun _ _ => ⟨a1, a2, a3⟩, fun _ => Nat.le_of_not_lt c1, fun q => by simp at q, fun _ => hno, fun q => by simp at q, fun q => by simp at q⟩) (fun _ _ _ => ⟨by simp, by simp, rfl⟩)
  · obtain ⟨a1, a2, a3⟩ := g0.own (by omega) (by omega)
    have hno := g0.no (by omega)
    have hq := g0.q e
    have hp := hp (by omega)
    subst hp
    have hd := hd (by omega) (by omega)
    subst hd
    have hsw := hsw (by omega) (by omega)
    subst hsw
    have e1 := w_turn1 (s := g.s) (v := xv) (d := o.d) (tl := xt) (hd := xh) (tr := xtr) (c := xc) (rt := xrt) (q := o.p) (w := w) (by omega) (q' := o.q) (b := o.b) (by omega) (by omega)
    have e2 := e
    rw [e]
    have e1 : wst (⟨⟨0, g.s⟩, 1, xv, ((3 : Nat) : Int), BitVec.ofNat 64 o.p, o.d, sW o.q o.b, xt, xh, xtr, xc, xrt⟩, w) = _ := e1
    rw [e1, hw.st _ hm, hw.dt _ hm]
    have posB : ∀ q, q < N + 1 + g.s → ∀ c, c < g.s → upd g.pos (o.p % g.s) q c < N + 1 + g.s := fun q hq c hc => by
      by_cases e : c = o.p % g.s
      · rw [e, upd_same]; exact hq
      · rw [upd_ne e]; have := bP c hc; omega
    by_cases c1 : sW (g.pos (o.p % g.s)) (g.sf (o.p % g.s)) = sW o.q o.b ∧ g.dt (o.p % g.s) = o.d
    · rw [if_pos c1]
      obtain ⟨c2, c3⟩ := (sW_inj (by omega) (by omega)).1 c1.1
      have c4 := c1.2
      by_cases d0 : o.d = 0#64
      · rw [if_pos d0]
        have rq := h.rq.leaveB hi ht (by omega) (by omega) (by omega) (.inl (c4.trans d0)) (y := some { o with st := 5 }) (fun o' ho' => by cases ho'; exact ⟨ht, rfl, rfl⟩)
        have hE : g.E o.p = none := by
          cases hq : g.E o.p with
          | none => rfl
          | some x =>
            have := (h.rq.ein _ x hq a2).2
            rw [c4, d0] at this
            exact absurd this.symm (h.rq.ev _ x hq).1
        have hw2 := hw.setC hm (o.p + g.s) o.b 0#64 (upd g.gn o.p true) g.E
        have us : upd g.sf (o.p % g.s) o.b = g.sf := by rw [← c3]; exact upd_id _ _
        rw [us] at hw2
        refine ⟨_, hw2, rfl, .inl ⟨by simp, { o with st := 5 }, ⟨rfl, by rw [ht]; rfl, rfl, nv, fun _ => rfl, fun _ q => by simp at q, fun _ q => by simp at q, fun q => by simp at q, fun q => by simp at q, by simp only; omega⟩, ?_⟩⟩
        refine h.cell hi (pos := upd g.pos (o.p % g.s) (o.p + g.s)) (sf := g.sf) (dt := upd g.dt (o.p % g.s) 0#64) (gn := upd g.gn o.p true) rq (fun k x hk hg => ?_) rfl (fun _ => rfl) (posB _ (by omega))
        by_cases q : k = o.p
        · subst q; rw [hE] at hk; cases hk
        · rw [upd_ne q] at hg; exact hg
      · rw [if_neg d0]
        by_cases d1 : o.q = o.p
        · rw [if_pos d1]
          have h2 := h.endT hi ht (by omega) (by omega) (c2.trans d1) (by rw [c4]; exact d0) (ret := o.d - 1#64) (by rw [c4]; exact (BitVec.sub_add_cancel _ _).symm)
          have hw2 := hw.setC hm (o.p + g.s) o.b 0#64 (upd g.gn o.p true) g.E
          have us : upd g.sf (o.p % g.s) o.b = g.sf := by rw [← c3]; exact upd_id _ _
          rw [us] at hw2
          exact ⟨_, hw2, rfl, .inr ⟨rfl, h2⟩⟩
        · rw [if_neg d1]
          obtain ⟨hE, rq⟩ := h.rq.leaveD hi ht (by omega) (by omega) (by omega) (by rw [c4]; exact d0) (o' := { o with st := 5 }) ⟨ht, rfl, rfl⟩
          have hw2 := hw.setC hm o.q false o.d (upd g.gn o.p true) g.E
          have up : upd g.pos (o.p % g.s) o.q = g.pos := by rw [← c2]; exact upd_id _ _
          have ud : upd g.dt (o.p % g.s) o.d = g.dt := by rw [← c4]; exact upd_id _ _
          rw [up, ud] at hw2
          refine ⟨_, hw2, rfl, .inl ⟨by simp, { o with st := 5 }, ⟨rfl, by rw [ht]; rfl, rfl, nv, fun _ => rfl, fun _ q => by simp at q, fun _ q => by simp at q, fun q => by simp at q, fun q => by simp at q, by simp only; omega⟩, ?_⟩⟩
          refine h.cell hi (pos := g.pos) (sf := upd g.sf (o.p % g.s) false) (dt := g.dt) (gn := upd g.gn o.p true) rq (fun k x hk hg => ?_) rfl (fun _ => rfl) (fun c hc => by have := bP c hc; omega)
          by_cases q : k = o.p
          · subst q; rw [hE] at hk; cases hk
          · rw [upd_ne q] at hg; exact hg
    · rw [if_neg c1]
      refine ⟨g, hw, rfl, .inl ⟨by simp, { o with st := 1 }, ⟨rfl, by rw [ht]; rfl, rfl, nv, fun _ => rfl, fun q => by simp at q, fun q => by simp at q, fun q => by simp at q, fun q => by simp at q, by simp only; omega⟩, ?_⟩⟩
      exact h.quiet hi rfl (fun _ => rfl) nk (fun _ => ⟨by simp, fun _ _ => ⟨a1, a2, a3⟩, fun q => by simp at q, fun q => by simp at q, fun _ => hno, fun q => by simp at q, fun q => by simp at q⟩) (fun _ _ _ => ⟨by simp, by simp, rfl⟩)
  · have a1 := g0.p e
    have hno := g0.no (by omega)
    have hp := hp (by omega)
    subst hp
    have e1 := w_asks1 (s := g.s) (v := xv) (d := xd) (st := xs) (tl := xt) (hd := xh) (tr := xtr) (c := xc) (rt := xrt) (q := o.p) (w := w) (T := g.T) (cl := g.cl) hw.w1 (by omega) (by omega)
    have e2 := e
    rw [e]
    have e1 : wst (⟨⟨0, g.s⟩, 1, xv, ((5 : Nat) : Int), BitVec.ofNat 64 o.p, xd, xs, xt, xh, xtr, xc, xrt⟩, w) = _ := e1
    rw [e1]
    by_cases c1 : g.T ≤ o.p + 1
    · rw [if_pos c1]
      exact ⟨_, hw.hist ((Ev.non (ids i), v.now) :: g.h), rfl, .inl ⟨by simp, { o with st := 6 }, ⟨rfl, by rw [ht]; rfl, rfl, nv, fun _ => rfl, fun _ q => by simp at q, fun _ q => by simp at q, fun q => by simp at q, fun q => by simp at q, by simp only; omega⟩, h.non hi e2 ht (by omega)⟩⟩
    · rw [if_neg c1]
      refine ⟨g, hw, rfl, .inl ⟨by simp, { o with st := 0 }, ⟨rfl, by rw [ht]; rfl, rfl, nv, fun q => by simp at q, fun q => by simp at q, fun q => by simp at q, fun q => by simp at q, fun q => by simp at q, by simp only; omega⟩, ?_⟩⟩
      exact h.quiet hi rfl (fun _ => rfl) nk (fun _ => ⟨by simp, fun q => by simp at q, fun q => by simp at q, fun q => by simp at q, fun _ => hno, fun q => by simp at q, fun q => by simp at q⟩) (fun _ _ q => by omega)
  · have hyes := g0.yes (by omega)
    have e1 := w_tail (s := g.s) (v := xv) (p := xp) (d := xd) (st := xs) (tl := xt) (hd := xh) (tr := xtr) (c := xc) (rt := xrt) (w := w)
    have hp := hp (by omega)
    have e2 := e
    rw [e]
    have e1 : wst (⟨⟨0, g.s⟩, 1, xv, ((6 : Nat) : Int), xp, xd, xs, xt, xh, xtr, xc, xrt⟩, w) = _ := e1
    rw [e1]
    refine ⟨g, hw, rfl, .inl ⟨by simp, { o with st := 7, tl := g.T }, ⟨rfl, by rw [ht]; rfl, rfl, nv, fun _ => hp, fun _ q => by simp at q, fun _ q => by simp at q, fun _ => ⟨by simp only; omega, g.cl, hw.w1⟩, fun q => by simp at q, by simp only; omega⟩, ?_⟩⟩
    exact h.quiet hi rfl (fun _ => rfl) nk (fun _ => ⟨by simp, fun _ q => by simp at q, fun q => by simp at q, fun q => by simp at q, fun q => by simp at q, fun _ => hyes, fun q => by simp at q⟩) (fun _ _ q => by omega)
  · have hyes := g0.yes (by omega)
    obtain ⟨t1, b, rfl⟩ := htl (by omega)
    have e1 := w_head (s := g.s) (v := xv) (p := xp) (d := xd) (st := xs) (hd := xh) (tr := xtr) (c := xc) (rt := xrt) (w := w) (T := o.tl) (h := g.hd) (b := b) hw.w0 (by omega) t1
    have hp := hp (by omega)
    have e2 := e
    rw [e]
    have e1 : wst (⟨⟨0, g.s⟩, 1, xv, ((7 : Nat) : Int), xp, xd, xs, tw o.tl b, xh, xtr, xc, xrt⟩, w) = _ := e1
    rw [e1]
    by_cases c1 : g.hd ≤ o.tl
    · rw [if_pos c1]
      have := h.endN hi ht (by omega) (T' := g.T) (Nat.le_refl _) (by omega)
      exact ⟨g, hw, rfl, .inr ⟨rfl, this⟩⟩
    · rw [if_neg c1]
      refine ⟨g, hw, rfl, .inl ⟨by simp, { o with st := 8, hh := g.hd }, ⟨rfl, by rw [ht]; rfl, rfl, nv, fun _ => hp, fun _ q => by simp at q, fun _ q => by simp at q, fun _ => ⟨t1, b, rfl⟩, fun _ => rfl, by simp only; omega⟩, ?_⟩⟩
      exact h.quiet hi rfl (fun _ => rfl) nk (fun _ => ⟨by simp, fun _ q => by simp at q, fun q => by simp at q, fun q => by simp at q, fun q => by simp at q, fun _ => hyes, fun _ => ⟨by simp only; omega, Nat.le_refl _⟩⟩) (fun _ _ q => by omega)
  · have hyes := g0.yes (by omega)
    obtain ⟨t1, b, rfl⟩ := htl (by omega)
    obtain ⟨m1, m2⟩ := g0.m e
    have hhh := hhh e
    subst hhh
    have e1 := w_move (s := g.s) (v := xv) (p := xp) (d := xd) (st := xs) (tr := xtr) (c := xc) (rt := xrt) (w := w) (T := o.tl) (h := o.hh) (b := b) (by omega) t1
    have hp := hp (by omega)
    have e2 := e
    rw [e]
    have e1 : wst (⟨⟨0, g.s⟩, 1, xv, ((8 : Nat) : Int), xp, xd, xs, tw o.tl b, BitVec.ofNat 64 o.hh, xtr, xc, xrt⟩, w) = _ := e1
    rw [e1, hw.w1]
    by_cases c1 : tw g.T g.cl = tw o.tl b
    · rw [if_pos c1]
      obtain ⟨c2, c3⟩ := (tw_inj (by omega) t1).1 c1
      subst c3
      have := h.endN hi ht (by omega) (T' := o.hh) (by omega) (by omega)
      exact ⟨_, hw.setT o.hh g.cl g.B g.h, rfl, .inr ⟨rfl, this⟩⟩
    · rw [if_neg c1]
      refine ⟨g, hw, rfl, .inl ⟨by simp, { o with st := 6 }, ⟨rfl, by rw [ht]; rfl, rfl, nv, fun _ => hp, fun _ q => by simp at q, fun _ q => by simp at q, fun q => by simp at q, fun q => by simp at q, by simp only; omega⟩, ?_⟩⟩
      exact h.quiet hi rfl (fun _ => rfl) nk (fun _ => ⟨by simp, fun _ q => by simp at q, fun q => by simp at q, fun q => by simp at q, fun q => by simp at q, fun _ => hyes, fun q => by simp at q⟩) (fun _ _ q => by omega)
theorem join_cq (h : CI g L v ids N) (hi : L i = some o) (hx : VQ g.s N x o) (hw : WQ g w) (hN : N < 100000) (hs : g.s ≤ 8) : QStep g L v ids N i (wst (x, w)) := by
  cases ht : o.tk
  · exact join_put h hi hx hw hN hs ht
  · exact join_take h hi hx hw hN hs ht
end
end Go.Proofs.Ytopjhhcncjleaaa
/- DROP Orders of a ring that may be closed: threads' operations, their calls and the log, plain. -/
namespace Go.Proofs.Ytopjhhcncjleaaa
open Go Go.LK
set_option linter.unusedSimpArgs false
set_option linter.unusedVariables false
theorem VQ.up {s N N' : Nat} {x : COp} {o : QOp} (h : VQ s N x o) (hN : N ≤ N') : VQ s N' x o :=
  ⟨h.r, h.kd, h.st, h.v, h.p, h.d, h.sw, h.tl, h.hh, h.tr.1, by have := h.tr.2; omega⟩
theorem CI.up {g : QS} {L : QL} {v : HV} {ids : Nat → Nat} {N N' : Nat} (h : CI g L v ids N) (hN : N ≤ N') : CI g L v ids N' :=
  { h with bd := ⟨by have := h.bd.1; omega, by have := h.bd.2.1; omega, fun c hc => by have := h.bd.2.2 c hc; omega⟩ }
/-- What holds of threads' operations. -/
def PC (s i : Nat) (m : MV) (v : HV) (L : List (Option (Nat × COp))) (I : List Int) : Prop :=
  ∃ (w : List (BitVec 64)) (g : QS) (Lp : QL) (ids : Nat → Nat), Clean m w ∧ WQ g w ∧ g.s = s ∧ CI g Lp v ids i ∧ L.length = 4 ∧ I.length = 4 ∧
    (∀ j o, Lp j = some o → ∃ q x, L[j]? = some (some (q, x)) ∧ VQ s i x o ∧ I[j]? = some (ids j : Int)) ∧
    (∀ j q x, L[j]? = some (some (q, x)) → ∃ o, Lp j = some o)
theorem WQ.zero {s : Nat} (h1 : 1 ≤ s) (h8 : s ≤ 8) : WQ ⟨s, 0, 0, false, fun c => c, fun _ => true, fun _ => 0#64, fun _ => false, fun _ => none, fun _ => 0, fun _ => 0, []⟩ (clay (4 + 2 * s) 0 s) := by
  have g := fun j (hj : j < 4 + 2 * s) => clay_get (4 + 2 * s) 0 s j hj
  refine ⟨clay_len _ _ _, ?_, ?_, fun j hj => ?_, fun j hj => ?_⟩
  · rw [List.getD, g 0 (by omega)]; rfl
  · rw [List.getD, g 1 (by omega)]; rfl
  · change j < s at hj
    rw [List.getD, g _ (by omega), if_pos (by omega), show (4 + 2 * j - 0 - 4) / 2 = j by omega]
    exact st_one_sW (by omega)
  · change j < s at hj
    rw [List.getD, g _ (by omega), if_neg (by omega)]; rfl
theorem PC.zero {s : Nat} (h1 : 1 ≤ s) (h8 : s ≤ 8) {m : MV} (c : Clean m (clay (4 + 2 * s) 0 s)) : PC s 0 m { l := [], op := [], now := 0 } (List.replicate 4 none) (List.replicate 4 0) := by
  refine ⟨_, _, fun _ => none, fun _ => 0, c, WQ.zero h1 h8, rfl, CI.zero h1, rfl, rfl, fun j o h => by simp at h, fun j q x h => ?_⟩
  rw [List.getElem?_replicate] at h
  split at h <;> simp at h
/-- The operation that is asked for. -/
def qop (r : RV) (d : Int) (x : BitVec 64) : COp := c0 r d (if d = 0 then x else 0#64)
section
variable {s i : Nat} {m : MV} {v : HV} {L : List (Option (Nat × COp))} {I : List Int}
theorem PC.hi (h : PC s i m v L I) : HInv v := by
  obtain ⟨_, _, _, _, _, _, _, h, _⟩ := h
  exact h.hi
theorem PC.ll (h : PC s i m v L I) : L.length = 4 := by
  obtain ⟨_, _, _, _, _, _, _, _, h, _⟩ := h
  exact h
theorem PC.li (h : PC s i m v L I) : I.length = 4 := by
  obtain ⟨_, _, _, _, _, _, _, _, _, h, _⟩ := h
  exact h
theorem PC.cl (h : PC s i m v L I) : ∃ w, Clean m w := by
  obtain ⟨w, _, _, _, h, _⟩ := h
  exact ⟨w, h⟩
theorem PC.up (h : PC s i m v L I) {i' : Nat} (hi : i ≤ i') : PC s i' m v L I := by
  obtain ⟨w, g, Lp, ids, h1, h2, h3, h4, ll, li, h6, h7⟩ := h
  refine ⟨w, g, Lp, ids, h1, h2, h3, h4.up hi, ll, li, fun j o hj => ?_, h7⟩
  obtain ⟨q, x, a, b, c⟩ := h6 j o hj
  exact ⟨q, x, a, b.up hi, c⟩
theorem PC.found (h : PC s i m v L I) (h62 : v.l.length ≤ 62) : (searchF (v.l.filter keepC) (stepM 0 (v.l.filter keepC) 0)).isSome = true := by
  obtain ⟨_, g, _, _, _, _, _, h, _⟩ := h
  exact h.found h62
theorem PC.shut (h : PC s i m v L I) {a b : Nat} {ca cb : CallD} (ha : v.l[a]? = some ca) (hb : v.l[b]? = some cb) (h1 : ca.code = 16) (h2 : aheadF ca cb = true) (h3 : cb.kind = 0) (h4 : cb.dn = true) : cb.code = 16 := by
  obtain ⟨_, g, _, _, _, _, _, h, _⟩ := h
  exact h.shut ha hb h1 h2 h3 h4
theorem PC.begin (h : PC s i m v L I) {j q : Nat} (hj : L[j]? = some none) (hl : v.l.length < 1024) {x : BitVec 64} (hx : x + 1#64 ≠ 0#64) {d : Int} (hd : d = 0 ∨ d = 1) :
    v.begin j d x = ((v.begin j d x).1, (v.l.length : Int), 0) ∧ (v.begin j d x).1.l.length = v.l.length + 1 ∧ (v.begin j d x).1.now = v.now + 1 ∧
      PC s i m (v.begin j d x).1 (L.set j (some (q, qop ⟨0, s⟩ d x))) (I.set j (v.l.length : Int)) := by
  obtain ⟨w, g, Lp, ids, h1, h2, h3, h5, ll, li, h6, h7⟩ := h
  have j4 : j < 4 := by rw [← ll]; exact (List.getElem?_eq_some_iff.1 hj).1
  have hn : Lp j = none := by
    cases hq : Lp j with
    | none => rfl
    | some o =>
      obtain ⟨q', x, g, _⟩ := h6 j o hq
      rw [hj] at g; cases g
  have main : ∀ o : QOp, o.st = 0 → d = qknd o → (o.tk = false → x = o.v) → VQ s i (qop ⟨0, s⟩ d x) o → v.begin j d x = ((v.begin j d x).1, (v.l.length : Int), 0) ∧ (v.begin j d x).1.l.length = v.l.length + 1 ∧ (v.begin j d x).1.now = v.now + 1 ∧
      PC s i m (v.begin j d x).1 (L.set j (some (q, qop ⟨0, s⟩ d x))) (I.set j (v.l.length : Int)) := by
    intro o o0 ok oa ov
    obtain ⟨g1, g2, g3, g4⟩ := h5.begin hn (by omega) hl o0 ok oa (fun q => by rw [← oa q]; exact hx)
    refine ⟨g1, g2, g3, w, g, _, _, h1, h2, h3, g4, by simp [ll], by simp [li], fun k o' hk => ?_, fun k q' y hk => ?_⟩
    · by_cases e : k = j
      · subst e
        rw [upd_same] at hk ⊢; cases hk
        exact ⟨q, _, List.getElem?_set_self (by omega), ov, List.getElem?_set_self (by omega)⟩
      · rw [upd_ne e] at hk ⊢
        rw [List.getElem?_set_ne (fun z => e z.symm), List.getElem?_set_ne (fun z => e z.symm)]
        exact h6 k o' hk
    · by_cases e : k = j
      · subst e; exact ⟨o, upd_same _ _ _⟩
      · rw [upd_ne e]
        rw [List.getElem?_set_ne (fun z => e z.symm)] at hk
        exact h7 k q' y hk
  rcases hd with rfl | rfl
  · exact main ⟨false, 0, 0, 0, false, 0#64, x, 0, 0⟩ rfl rfl (fun _ => rfl) ⟨rfl, rfl, rfl, fun _ => rfl, fun q => by simp at q, fun q => by simp at q, fun q => by simp at q, fun q => by simp at q, fun q => by simp at q, by simp [qop]⟩
  · exact main ⟨true, 0, 0, 0, false, 0#64, 0#64, 0, 0⟩ rfl rfl (fun q => by cases q) ⟨rfl, rfl, rfl, (fun q => by cases q), fun q => by simp at q, fun q => by simp at q, fun q => by simp at q, fun q => by simp at q, fun q => by simp at q, by simp [qop]⟩
theorem PC.right (h : PC s i m v L I) {j q : Nat} {x : COp} (hj : L[j]? = some (some (q, x))) : x.r = ⟨0, s⟩ ∧ 0 ≤ x.tried ∧ x.tried ≤ i := by
  obtain ⟨w, g, Lp, ids, h1, h2, h3, h5, ll, li, h6, h7⟩ := h
  obtain ⟨o, ho⟩ := h7 j q x hj
  obtain ⟨q', x', g, ov, _⟩ := h6 j o ho
  rw [hj] at g; cases g
  exact ⟨ov.r, ov.tr⟩
theorem PC.step (h : PC s i m v L I) (hs : s ≤ 8) (hrr : (RV.mk 0 s).right = true) (hi : i < 1000) {j q : Nat} {x : COp} (hj : L[j]? = some (some (q, x))) :
    ((x.step m).1.at_ ≠ 9 ∧ PC s (i + 1) (x.step m).2 v (L.set j (some (q, (x.step m).1))) I) ∨
    ((x.step m).1.at_ = 9 ∧ ∃ id, I[j]? = some id ∧ PC s (i + 1) (x.step m).2 (v.fin id (x.step m).1.code (x.step m).1.ret).1 (L.set j none) I ∧ (v.fin id (x.step m).1.code (x.step m).1.ret).1.l.length = v.l.length ∧ (v.fin id (x.step m).1.code (x.step m).1.ret).1.now = v.now + 1) := by
  obtain ⟨w, g, Lp, ids, h1, h2, h3, h5, ll, li, h6, h7⟩ := h
  have j4 : j < 4 := by rw [← ll]; exact (List.getElem?_eq_some_iff.1 hj).1
  subst h3
  obtain ⟨o, ho⟩ := h7 j q x hj
  obtain ⟨q', x', g', ov, oi⟩ := h6 j o ho
  rw [hj] at g'; cases g'
  obtain ⟨e1, c'⟩ := step_wst h1 ov.r (by rw [ov.r]; exact hrr) h2.len
  obtain ⟨g', hw', es, hh⟩ := join_cq h5 ho ov h2 (by omega) hs
  rw [← e1] at hh
  rcases hh with ⟨h9, o', ov', hv'⟩ | ⟨h9, hv'⟩
  · refine .inl ⟨h9, _, g', _, ids, c', hw', es, hv', by simp [ll], li, fun k y hk => ?_, fun k q' y hk => ?_⟩
    · rcases upd_some hk with ⟨rfl, e⟩ | ⟨e, hk⟩
      · cases e
        exact ⟨q, _, List.getElem?_set_self (by omega), ov', oi⟩
      · rw [List.getElem?_set_ne (fun z => e z.symm)]
        obtain ⟨a, b, c, d, f⟩ := h6 k y hk
        exact ⟨a, b, c, d.up (by omega), f⟩
    · by_cases e : k = j
      · subst e; exact ⟨o', upd_same _ _ _⟩
      · rw [upd_ne e]
        rw [List.getElem?_set_ne (fun z => e z.symm)] at hk
        exact h7 k q' y hk
  · obtain ⟨d, _, _, _, _, _, hf⟩ := h5.fin_eq ho (x.step m).1.code (x.step m).1.ret
    refine .inr ⟨h9, _, oi, ⟨_, g', _, ids, c', hw', es, hv', by simp [ll], li, fun k y hk => ?_, fun k q' y hk => ?_⟩, by rw [hf]; simp, by rw [hf]⟩
    · rcases upd_some hk with ⟨_, e⟩ | ⟨e, hk⟩
      · cases e
      · rw [List.getElem?_set_ne (fun z => e z.symm)]
        obtain ⟨a, b, c, d, f⟩ := h6 k y hk
        exact ⟨a, b, c, d.up (by omega), f⟩
    · by_cases e : k = j
      · subst e
        rw [List.getElem?_set_self (by omega)] at hk; cases hk
      · rw [List.getElem?_set_ne (fun z => e z.symm)] at hk
        obtain ⟨o', ho'⟩ := h7 k q' y hk
        exact ⟨o', by rw [upd_ne e]; exact ho'⟩
end
end Go.Proofs.Ytopjhhcncjleaaa
