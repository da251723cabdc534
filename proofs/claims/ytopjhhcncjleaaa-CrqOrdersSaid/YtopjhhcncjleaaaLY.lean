/- Code, loops, calls: what the logical machine does is what the model does. -/
import Derived.Test.YtopjhhcncjleaaaLX
namespace Go.LK
open Go Go.RowKit
set_option linter.unusedVariables false
set_option linter.unusedSimpArgs false

def toExit : LExit → Exit
  | .normal => .normal
  | .exit id => .exit id
  | .ret => .ret
section
variable {P : Program} {B : Nat} {L : List Nat} {i : Inj} {H : LHeap} {w : World} {cf : CallF}

theorem at_looks {ops : Array Oper} {o : Oper} {e : List Value} {a : Act} (h : VRs i e a.tmps.toList) : AtLooks i ops o e a := fun t _ => by
  have := h.getD t
  simpa [List.getD, Array.getD_eq_getD_getElem?] using this
theorem put_VRs {e : List Value} {a : Act} (h : VRs i e a.tmps.toList) {d : Option Tmp} {v v' : Value} (hv : VR i v v') : VRs i (putL e d v) (a.put d v').tmps.toList := by
  cases d with
  | none => exact h
  | some d => simpa [putL, Act.put] using h.set d hv

theorem sim_list (hcf : CallsOk P B cf) {ops : Array Oper} {Q : Exit → Act → World → Prop} : ∀ {l : List Oper} {ls : List LStep}, compList P ops l = some ls → ∀ {e : List Value} {H : LHeap} {r : List Value × LHeap}, stepsL cf (lmax L) e H ls = some r →
    ∀ {i : Inj} {w : World} {a : Act}, Rel B L i H w → VRs i e a.tmps.toList → (∀ a' w', Lands P B L i H w a.defers r.1 r.2 a' w' → Q .normal a' w') → wpList P ops Q l a w
  | [], ls, hc, e, H, r, hs, i, w, a, hR, he, hQ => by
    cases hc
    cases hs
    exact hQ a w ⟨i, he, hR, Next.refl B i H w, rfl⟩
  | o :: l, ls, hc, e, H, r, hs, i, w, a, hR, he, hQ => by
    unfold compList at hc
    split at hc
    · rename_i s ls' h1 h2
      cases hc
      simp only [stepsL] at hs
      obtain ⟨⟨e1, H1⟩, g1, g2⟩ := Option.bind_eq_some_iff.1 hs
      obtain ⟨ac, g, rfl⟩ := compStep_dst h1
      obtain ⟨_, v, rfl, hwp⟩ := sim_act hcf hR h1 g1 (at_looks he)
      unfold wpList
      refine hwp (wpList P ops Q l) Q fun v' w' i' hv hrel hnext => ?_
      refine sim_list hcf h2 g2 hrel (put_VRs (he.mono hnext.le) hv) fun a' w'' hL => hQ a' w'' ?_
      obtain ⟨i2, k1, k2, k3, k4⟩ := hL
      exact ⟨i2, k1, k2, hnext.trans k3, by rw [k4, put_defers]⟩
    · cases hc

theorem VRs.erase {keep : List Tmp} : ∀ {e : List Value} {l : List Value} {k : Nat}, VRs i e l → VRs i (eraseL keep k e) l
  | _, _, _, .nil => .nil
  | _, _, k, .cons h t => by
    refine .cons ?_ t.erase
    split
    · exact h
    · exact .undef _
theorem Lands.trans {i : Inj} {H H1 H2 : LHeap} {w w1 w2 : World} {ds : List Deferred} {e1 e2 : List Value} {a1 a2 : Act} {i1 : Inj} (h : Next B i H w i1 H1 w1) (hd : a1.defers = ds) (g : Lands P B L i1 H1 w1 a1.defers e2 H2 a2 w2) : Lands P B L i H w ds e2 H2 a2 w2 := by
  obtain ⟨i2, k1, k2, k3, k4⟩ := g
  exact ⟨i2, k1, k2, h.trans k3, by rw [k4, hd]⟩

/-- What code comes to. -/
def Comes2 (P : Program) (B : Nat) (L : List Nat) (i : Inj) (H : LHeap) (w : World) (ds : List Deferred) (x : LExit) (e' : List Value) (H' : LHeap) : Exit → Act → World → Prop :=
  fun x' a' w' => x' = toExit x ∧ Lands P B L i H w ds e' H' a' w'

theorem sim_loop {c : Code} {body : List Value → LHeap → Option (LExit × List Value × LHeap)} {keep : List Tmp} (hb : ∀ {e H x e' H'}, body e H = some (x, e', H') → ∀ {i : Inj} {w : World} {a : Act}, Rel B L i H w → VRs i e a.tmps.toList → c.wp P (Comes2 P B L i H w a.defers x e' H') a w) :
    ∀ (n : Nat) {e : List Value} {H : LHeap} {x : LExit} {e' : List Value} {H' : LHeap}, loopL body keep n e H = some (x, e', H') → ∀ {i : Inj} {w : World} {a : Act}, Rel B L i H w → VRs i e a.tmps.toList →
      ∀ {Q : Exit → Act → World → Prop}, (∀ a' w', Lands P B L i H w a.defers e' H' a' w' → Q (toExit x) a' w') → Code.rounds P c Q n a w
  | 0, e, H, x, e', H', h, _, _, _, _, _, _, _ => by cases h
  | n + 1, e, H, x, e', H', h, i, w, a, hR, he, Q, hQ => by
    simp only [loopL] at h
    obtain ⟨⟨x1, e1, H1⟩, g1, g2⟩ := Option.bind_eq_some_iff.1 h
    unfold Code.rounds
    refine Code.wp_mono ?_ (hb g1 hR he.erase)
    rintro ex a1 w1 ⟨rfl, hL⟩
    cases x1 with
    | normal =>
      simp only at g2
      obtain ⟨i1, k1, k2, k3, k4⟩ := hL
      exact sim_loop hb n g2 k2 k1 fun a' w' hL' => hQ a' w' (Lands.trans (e1 := e1) k3 k4 hL')
    | exit id => cases g2; exact hQ _ _ hL
    | ret => cases g2; exact hQ _ _ hL

theorem sim_code (hcf : CallsOk P B cf) (pl : Array Oper → Plan) (ks : List (Nat × List Tmp)) (n : Nat) : ∀ (c : Code) {lc : LCode}, compCode P pl ks c = some lc → ∀ {e : List Value} {H : LHeap} {x : LExit} {e' : List Value} {H' : LHeap},
    execL cf n (lmax L) lc e H = some (x, e', H') → ∀ {i : Inj} {w : World} {a : Act}, Rel B L i H w → VRs i e a.tmps.toList → c.wp P (Comes2 P B L i H w a.defers x e' H') a w := by
  intro c
  induction c with
  | skip =>
    intro lc hc e H x e' H' h i w a hR he
    cases hc; cases h
    exact wp_skip ⟨rfl, i, he, hR, Next.refl B i H w, rfl⟩
  | region id ops draw =>
    intro lc hc e H x e' H' h i w a hR he
    cases draw with
    | false =>
      obtain ⟨ls, hls, rfl⟩ := Option.map_eq_some_iff.1 hc
      simp only [execL] at h
      obtain ⟨r, hr, he'⟩ := Option.map_eq_some_iff.1 h
      cases he'
      exact wp_region_list (sim_list hcf hls hr hR he fun a' w' hL => ⟨rfl, hL⟩)
    | true =>
      simp only [compCode] at hc
      split at hc
      · rename_i hk
        simp only [Bool.and_eq_true] at hk
        obtain ⟨ls, hls, rfl⟩ := Option.map_eq_some_iff.1 hc
        simp only [execL] at h
        obtain ⟨r, hr, he'⟩ := Option.map_eq_some_iff.1 h
        cases he'
        exact sim_open hcf hk.1 hk.2 hls hr hR he fun a' w' hL => ⟨rfl, hL⟩
      · cases hc
  | seq c1 c2 ih1 ih2 =>
    intro lc hc e H x e' H' h i w a hR he
    simp only [compCode] at hc
    split at hc
    · rename_i l1 l2 h1 h2
      cases hc
      simp only [execL] at h
      obtain ⟨⟨x1, e1, H1⟩, g1, g2⟩ := Option.bind_eq_some_iff.1 h
      refine wp_seq (Code.wp_mono ?_ (ih1 h1 g1 hR he))
      rintro ex a1 w1 ⟨rfl, hL⟩
      cases x1 with
      | normal =>
        simp only at g2
        obtain ⟨i1, k1, k2, k3, k4⟩ := hL
        refine Code.wp_mono ?_ (ih2 h2 g2 k2 k1)
        rintro ex a2 w2 ⟨rfl, hL2⟩
        exact ⟨rfl, Lands.trans (e1 := e1) k3 k4 hL2⟩
      | exit id => cases g2; exact ⟨rfl, hL⟩
      | ret => cases g2; exact ⟨rfl, hL⟩
    · cases hc
  | cond c c1 c2 ih1 ih2 =>
    intro lc hc e H x e' H' h i w a hR he
    simp only [compCode] at hc
    split at hc
    · rename_i hok
      split at hc
      · rename_i l1 l2 h1 h2
        cases hc
        simp only [execL] at h
        have hv : VR i (leval e c) (a.eval c) := leval_sim hok fun t _ => by
          have := he.getD t
          simpa [List.getD, Array.getD_eq_getD_getElem?] using this
        split at h
        · rename_i t ht
          rw [ht] at hv
          refine wp_cond (bool_inv hv) ?_
          cases t with
          | true => simp only [if_true] at h ⊢; exact ih1 h1 h hR he
          | false => simp only [Bool.false_eq_true, if_false] at h ⊢; exact ih2 h2 h hR he
        · cases h
      · cases hc
    · cases hc
  | block id c ih =>
    intro lc hc e H x e' H' h i w a hR he
    simp only [compCode] at hc
    obtain ⟨l1, h1, rfl⟩ := Option.map_eq_some_iff.1 hc
    simp only [execL] at h
    obtain ⟨⟨x1, e1, H1⟩, g1, g2⟩ := Option.map_eq_some_iff.1 h
    refine wp_block (Code.wp_mono ?_ (ih h1 g1 hR he))
    rintro ex a1 w1 ⟨rfl, hL⟩
    cases x1 with
    | normal => cases g2; exact ⟨rfl, hL⟩
    | exit j =>
      simp only at g2
      by_cases hj : j = id
      · rw [if_pos hj] at g2; cases g2
        simp only [toExit, Exit.inBlock, if_pos hj]
        exact ⟨rfl, hL⟩
      · rw [if_neg hj] at g2; cases g2
        simp only [toExit, Exit.inBlock, if_neg hj]
        exact ⟨rfl, hL⟩
    | ret => cases g2; exact ⟨rfl, hL⟩
  | loop c ih =>
    intro lc hc e H x e' H' h i w a hR he
    simp only [compCode] at hc
    obtain ⟨l1, h1, rfl⟩ := Option.map_eq_some_iff.1 hc
    simp only [execL] at h
    exact wp_loop_rounds n (sim_loop (fun hb => ih h1 hb) n h hR he fun a' w' hL => ⟨rfl, hL⟩)
  | exit id =>
    intro lc hc e H x e' H' h i w a hR he
    cases hc; cases h
    exact wp_exit ⟨rfl, i, he, hR, Next.refl B i H w, rfl⟩
  | ret =>
    intro lc hc e H x e' H' h i w a hR he
    cases hc; cases h
    exact wp_ret ⟨rfl, i, he, hR, Next.refl B i H w, rfl⟩
  | rangeFunc => intro lc hc; cases hc
  | scope c ih =>
    intro lc hc e H x e' H' h i w a hR he
    simp only [compCode] at hc
    refine wp_scope_straight (Code.wp_mono ?_ (ih hc h hR he))
    rintro ex a1 w1 ⟨rfl, hL⟩
    cases x <;> exact ⟨rfl, hL⟩
  | label l =>
    intro lc hc e H x e' H' h i w a hR he
    cases hc; cases h
    exact wp_label ⟨rfl, i, he, hR, Next.refl B i H w, rfl⟩
  | goto => intro lc hc; cases hc
  | refuse => intro lc hc; cases hc

/-! ### calls -/
theorem cut_comm {i : Inj} {b n : Nat} : ∀ {L : List Nat}, cutAt L b (i.cut n) = (cutAt L b i).cut n
  | [] => rfl
  | l :: L => by
    show (if b < l then (cutAt L b (i.cut n)).cut l else cutAt L b (i.cut n)) = (if b < l then (cutAt L b i).cut l else cutAt L b i).cut n
    rw [cut_comm]
    split
    · funext k; unfold Inj.cut; split <;> split <;> rfl
    · rfl
theorem cut_all {i j : Inj} {n : Nat} (hj : j.le i) (h : ∀ b p, i b = some p → b < n) : j.cut n = j := by
  funext k
  unfold Inj.cut
  split
  · rfl
  · rename_i hk
    cases hq : j k with
    | none => rfl
    | some p => exact absurd (h k p (hj k p hq)) hk
theorem Rel.enter (h : Rel B L i H w) : Rel B (H.length :: L) i H w ∧ lmax (H.length :: L) = H.length := by
  have hm : lmax (H.length :: L) = H.length := by show max H.length (lmax L) = H.length; have := h.lim_le; omega
  refine ⟨⟨h.bound, by omega, h.base, fun b p o hp ho => ?_, h.above, h.apart⟩, hm⟩
  show Holds (if b < H.length then (cutAt L b i).cut H.length else cutAt L b i) p w o
  rw [if_pos (h.bound b p hp), cut_all ifcut_le h.bound]
  exact h.holds b p o hp ho
theorem Rel.leave {i1 : Inj} {H1 : LHeap} {w1 : World} (h0 : Rel B L i H w) (hn : Next B i H w i1 H1 w1) (h : Rel B (H.length :: L) i1 H1 w1) : Rel B L (i1.cut H.length) (H1.take H.length) w1 ∧ Next B i H w (i1.cut H.length) (H1.take H.length) w1 := by
  have inv : ∀ b p, (i1.cut H.length) b = some p → b < H.length ∧ i1 b = some p := by
    intro b p hb
    unfold Inj.cut at hb
    split at hb
    · exact ⟨‹_›, hb⟩
    · cases hb
  have hlen : (H1.take H.length).length = H.length := by simp; have := hn.len; omega
  have get : ∀ (b : Nat) (o : LObj), (H1.take H.length)[b]? = some o → H1[b]? = some o := by
    intro b o hb
    rw [List.getElem?_take] at hb
    split at hb
    · exact hb
    · cases hb
  refine ⟨⟨fun b p hb => by rw [hlen]; exact (inv b p hb).1, by rw [hlen]; exact h0.lim_le, h.base, fun b p o hb ho => ?_, fun b p o hb ho => h.above b p o (inv b p hb).2 (get b o ho), fun b b' p p' o o' hne h1 h2 g1 g2 => h.apart b b' p p' o o' hne (inv b p h1).2 (inv b' p' h2).2 (get b o g1) (get b' o' g2)⟩, ?_, by rw [hlen]; exact Nat.le_refl _, ?_, hn.below⟩
  · have := h.holds b p o (inv b p hb).2 (get b o ho)
    rw [cut_comm]
    have e : cutAt (H.length :: L) b i1 = (cutAt L b i1).cut H.length := by
      show (if b < H.length then (cutAt L b i1).cut H.length else cutAt L b i1) = _
      rw [if_pos (inv b p hb).1]
    rwa [e] at this
  · intro b p hb
    unfold Inj.cut
    rw [if_pos (h0.bound b p hb)]
    exact hn.le b p hb
  · intro b hb hnone
    obtain ⟨g1, g2⟩ := hn.pend b hb hnone
    refine ⟨?_, ?_⟩
    · unfold Inj.cut
      rw [if_pos hb]; exact g1
    · rw [List.getElem?_take, if_pos hb]; exact g2

theorem sim_res1 (hR : Rel B L i H w) {e : List Value} {a : Act} (he : VRs i e a.tmps.toList) {v : Value} {rv : ResultVar} {lr : LRes} {rest : List LRes} (hc : compRes P [rv] = some [lr]) (h : resL e H lr = some v) :
    ∃ v', (match rv with
      | .tmp t => pure (a.tmps.getD t undef)
      | .cell ad t => do loadVar t (← asAddr (a.tmps.getD ad undef)) : Sem Value).run P w = .ok v' w ∧ VR i v v' := by
  have hget : ∀ t, VR i (e.getD t undef) (a.tmps.getD t undef) := fun t => by
    have := he.getD t
    simpa [List.getD, Array.getD_eq_getD_getElem?] using this
  cases rv with
  | tmp t =>
    simp only [compRes] at hc
    cases hc
    cases h
    exact ⟨_, rfl, hget t⟩
  | cell ad t =>
    simp only [compRes] at hc
    split at hc
    · rename_i n r hg hn hr
      cases hc
      simp only [resL, lread, leval] at h
      split at h
      · rename_i b o hb
        have hx := hget ad
        rw [hb] at hx
        obtain ⟨p, hp, e'⟩ := ptr_inv hx
        obtain ⟨l, hl1, rfl⟩ := Option.map_eq_some_iff.1 h
        obtain ⟨l', h1, h2, h3⟩ := hR.cells (P := P) hp hl1
        refine ⟨.agg l'.toArray, ?_, .agg _ _ (by simpa using h2)⟩
        simp only [e', asAddr, Sem.run_bind, Sem.run_pure, Result.andThen_ok, loadVar, run_isAgg hg w, if_true, run_sizeOf hn w, h3]
      · cases h
    · rename_i r hg hr
      cases hc
      simp only [resL, lread, leval] at h
      split at h
      · rename_i b o hb
        split at h
        · rename_i ro es c hH
          have hx := hget ad
          rw [hb] at hx
          obtain ⟨p, hp, e'⟩ := ptr_inv hx
          obtain ⟨v', h1, h2⟩ := hR.read hp hH h
          refine ⟨v', ?_, h2⟩
          simp only [e', asAddr, Sem.run_bind, Sem.run_pure, Result.andThen_ok, loadVar, run_isAgg hg w, Bool.false_eq_true, if_false, run_load, h1]
        · cases h
      · cases h
    · cases hc
theorem compRes_cons {rv : ResultVar} {l : List ResultVar} {r : List LRes} (h : compRes P (rv :: l) = some r) : ∃ lr rs, r = lr :: rs ∧ compRes P [rv] = some [lr] ∧ compRes P l = some rs := by
  cases rv with
  | tmp t =>
    simp only [compRes] at h
    obtain ⟨rs, h1, rfl⟩ := Option.map_eq_some_iff.1 h
    exact ⟨_, _, rfl, rfl, h1⟩
  | cell ad t =>
    simp only [compRes] at h
    split at h
    · rename_i n r' hg hn hr
      cases h
      exact ⟨_, _, rfl, by simp [compRes, hg, hn], hr⟩
    · rename_i r' hg hr
      cases h
      exact ⟨_, _, rfl, by simp [compRes, hg], hr⟩
    · cases h
theorem sim_ress (hR : Rel B L i H w) {e : List Value} {a : Act} (he : VRs i e a.tmps.toList) : ∀ {l : List ResultVar} {rs : List LRes} {vs : List Value}, compRes P l = some rs → resLs e H rs = some vs →
    ∃ vs', (l.mapM fun
      | .tmp t => pure (a.tmps.getD t undef)
      | .cell ad t => do loadVar t (← asAddr (a.tmps.getD ad undef)) : Sem (List Value)).run P w = .ok vs' w ∧ VRs i vs vs'
  | [], rs, vs, hc, h => by cases hc; cases h; exact ⟨[], rfl, .nil⟩
  | rv :: l, rs, vs, hc, h => by
    obtain ⟨lr, rs', rfl, h1, h2⟩ := compRes_cons hc
    simp only [resLs] at h
    obtain ⟨v, g1, g2⟩ := Option.bind_eq_some_iff.1 h
    obtain ⟨vs1, g3, rfl⟩ := Option.map_eq_some_iff.1 g2
    obtain ⟨v', k1, k2⟩ := sim_res1 (rest := []) hR he h1 g1
    obtain ⟨vs', k3, k4⟩ := sim_ress hR he h2 g3
    refine ⟨v' :: vs', ?_, .cons k2 k4⟩
    rw [List.mapM_cons, Sem.run_bind]
    refine Eq.trans (congrArg (fun x => Result.andThen x _) k1) ?_
    rw [Result.andThen_ok, Sem.run_bind, k3]
    rfl
theorem sim_results (hR : Rel B L i H w) {e : List Value} {a : Act} (he : VRs i e a.tmps.toList) {fn : Func} {rs : List LRes} {vs : List Value} (hc : compRes P fn.results.toList = some rs) (h : resLs e H rs = some vs) :
    ∃ v', (results fn a.tmps).run P w = .ok v' w ∧ VR i (resV vs) v' := by
  obtain ⟨vs', h1, h2⟩ := sim_ress hR he hc h
  refine ⟨if h : vs'.toArray.size = 1 then vs'.toArray[0] else .tuple vs'.toArray, ?_, ?_⟩
  · unfold results
    rw [Sem.run_bind]
    have : (fn.results.mapM fun
      | .tmp t => pure (a.tmps.getD t undef)
      | .cell ad t => do loadVar t (← asAddr (a.tmps.getD ad undef)) : Sem (Array Value)).run P w = .ok vs'.toArray w := by
      generalize fn.results = res at h1
      obtain ⟨l⟩ := res
      rw [List.mapM_toArray, Sem.run_map, h1]; rfl
    refine Eq.trans (congrArg (fun x => Result.andThen x _) this) ?_
    rfl
  · cases h2 with
    | nil => exact .undef _
    | cons hv t =>
      cases t with
      | nil => exact hv
      | cons h' t' =>
        rw [dif_neg (by simp)]
        exact .tuple _ _ (by simpa using VRs.cons hv (.cons h' t'))

theorem run_ok {cf : CallF} (ih : CallsOk P B cf) {n : Nat} {k : FuncId} {f : LFun} {pl : Array Oper → Plan} {ks : List (Nat × List Tmp)} (hcf : compFn P pl ks f.pop k = some { f with iso := false }) {lim : Nat} {args : List Value} {H : LHeap} {v : Value} {H' : LHeap}
    (h : runL cf n f lim args H = some (v, H')) (L : List Nat) (i : Inj) (w : World) (args' : Array Value) (hlim : lim = lmax L) (hR : Rel B L i H w) (hargs : VRs i args args'.toList) :
    (∃ fn c, P.funcs[k]? = some fn ∧ (fn.name == "runtime.NumGoroutine") = false ∧ fn.body = some c) ∧
    Calls P k args' w fun e w' => ∃ v' i', e = .returned v' ∧ VR i' v v' ∧ Rel B L i' H' w' ∧ Go.LK.Next B i H w i' H' w' := by
  simp only [runL] at h
  unfold compFn at hcf
  split at hcf
  · rename_i fn hfn
    split at hcf
    · rename_i c hbody
      split at hcf
      · cases hcf
      · rename_i hname
        split at hcf
        · rename_i lc rs hlc hrs
          injection hcf with hcf
          have e1 : f.n = fn.ntmps := by have := congrArg LFun.n hcf; simpa using this.symm
          have e2 : f.code = lc := by have := congrArg LFun.code hcf; simpa using this.symm
          have e3 : f.res = rs := by have := congrArg LFun.res hcf; simpa using this.symm
          refine ⟨⟨fn, c, hfn, by simpa using hname, hbody⟩, ?_⟩
          obtain ⟨⟨x, e', H1⟩, g1, g2⟩ := Option.bind_eq_some_iff.1 h
          have henv : VRs i (args ++ List.replicate (f.n - args.length) undef) ({ tmps := args' ++ Array.replicate (fn.ntmps - args'.size) undef, defers := [] } : Act).tmps.toList := by
            have hl : args.length = args'.size := by rw [hargs.length]; simp
            simp only [Array.toList_append, Array.toList_replicate]
            rw [e1, hl]
            exact hargs.append (VRs.replicate (.undef _) _)
          rw [e2] at g1
          refine calls_of_wp hfn hbody ?_
          have fin : ∀ (L' : List Nat), Rel B L' i H w → (if f.pop then H.length else lim) = lmax L' → (∀ i1 w1 v', VR i1 (v) v' → (f.pop = true → scalarR v = true ∧ H' = H1.take H.length) → (f.pop = false → H' = H1) → Rel B L' i1 H1 w1 → Next B i H w i1 H1 w1 → ∃ i', VR i' v v' ∧ Rel B L i' H' w1 ∧ Next B i H w i' H' w1) →
              c.wp P (bodyPost P fn fun e w' => ∃ v' i', e = .returned v' ∧ VR i' v v' ∧ Rel B L i' H' w' ∧ Next B i H w i' H' w') { tmps := args' ++ Array.replicate (fn.ntmps - args'.size) undef, defers := [] } w := by
            intro L' hR' hl' hpost
            rw [hl'] at g1
            refine Code.wp_mono ?_ (sim_code ih pl ks n c hlc g1 hR' henv)
            rintro ex a1 w1 ⟨rfl, i1, k1, k2, k3, k4⟩
            have main : ∀ vs, resLs e' H1 f.res = some vs → (if f.pop then (if scalarR (resV vs) then some (resV vs, H1.take H.length) else none) else some (resV vs, H1)) = some (v, H') →
                a1.defers = [] ∧ ∃ v0, (results fn a1.tmps).run P w1 = .ok v0 w1 ∧ ∃ v' i', Ending.returned v0 = .returned v' ∧ VR i' v v' ∧ Rel B L i' H' w1 ∧ Next B i H w i' H' w1 := by
              intro vs hvs hif
              refine ⟨k4, ?_⟩
              rw [e3] at hvs
              obtain ⟨v0, r1, r2⟩ := sim_results k2 k1 hrs hvs
              refine ⟨v0, r1, v0, ?_⟩
              have hcase : resV vs = v ∧ (f.pop = true → scalarR v = true ∧ H' = H1.take H.length) ∧ (f.pop = false → H' = H1) := by
                cases hp : f.pop with
                | true =>
                  rw [hp] at hif
                  simp only [if_true] at hif
                  split at hif
                  · rename_i hsc; cases hif; exact ⟨rfl, fun _ => ⟨hsc, rfl⟩, fun q => (by cases q)⟩
                  · cases hif
                | false =>
                  rw [hp] at hif
                  simp only [Bool.false_eq_true, if_false] at hif
                  cases hif; exact ⟨rfl, fun q => (by cases q), fun _ => rfl⟩
              rw [hcase.1] at r2
              obtain ⟨i', s1, s2, s3⟩ := hpost i1 w1 v0 r2 hcase.2.1 hcase.2.2 k2 k3
              exact ⟨i', rfl, s1, s2, s3⟩
            cases x with
            | normal =>
              simp only at g2
              obtain ⟨vs, t1, t2⟩ := Option.bind_eq_some_iff.1 g2
              exact main vs t1 t2
            | ret =>
              simp only at g2
              obtain ⟨vs, t1, t2⟩ := Option.bind_eq_some_iff.1 g2
              exact main vs t1 t2
            | exit id => cases g2
          cases hp : f.pop with
          | false =>
            refine fin L hR (by rw [hp]; simpa using hlim) fun i1 w1 v' hv _ h2 hr hn => ?_
            rw [h2 hp]
            exact ⟨i1, hv, hr, hn⟩
          | true =>
            obtain ⟨hR', hm⟩ := hR.enter
            refine fin (H.length :: L) hR' (by rw [hp, hm]; rfl) fun i1 w1 v' hv h1 _ hr hn => ?_
            obtain ⟨hs, hH⟩ := h1 hp
            obtain ⟨q1, q2⟩ := hR.leave hn hr
            rw [hH]
            exact ⟨_, hv.scalarR hs, q1, q2⟩
        · cases hcf
    · cases hcf
  · cases hcf
theorem Rel.isolate (h : Rel B L i H w) {w1 : World} (hb : Below w.heap.size w w1) : Rel B L i H w1 := by
  have hold : ∀ (j : Inj) (p : Place) (o : LObj), Holds j p w o → Holds j p w1 o := by
    intro j p o ho
    have get : ∀ {x}, w.heap[p.pb]? = some x → w1.heap[p.pb]? = some x := fun {x} hx => by
      rw [hb.block _ (Array.getElem?_eq_some_iff.1 hx).1]; exact hx
    cases o with
    | row ro es c =>
      obtain ⟨h1, h2, cs, e, fz, h3, h4⟩ := ho
      exact ⟨h1, h2, cs, e, fz, get h3, h4⟩
    | map es =>
      obtain ⟨h1, h2, ms, cl, h3, h4⟩ := ho
      exact ⟨h1, h2, ms, cl, get h3, h4⟩
    | dead => trivial
  exact ⟨h.bound, h.lim_le, Nat.le_trans h.base hb.size, fun b p o hp ho => hold _ _ _ (h.holds b p o hp ho), h.above, h.apart⟩
theorem calls_ok {T : FuncId → Option LFun} (hT : TableOk P T) : ∀ n, CallsOk P B (callL T n) := by
  intro n
  induction n generalizing B with
  | zero => intro k lim args H v H' h; cases h
  | succ n ih =>
    intro k lim args H v H' h L i w args' hlim hR hargs
    simp only [callL] at h
    split at h
    · cases h
    · rename_i f hf
      obtain ⟨pl, ks, hcf⟩ := hT k f hf
      split at h
      · split at h
        · rename_i hsc
          obtain ⟨⟨v1, H1⟩, g1, g2⟩ := Option.bind_eq_some_iff.1 h
          simp only at g2
          split at g2
          · rename_i hs
            cases g2
            have hargs0 : VRs (fun _ => none) args args'.toList := hargs.scalars hsc
            have hR0 : Rel w.heap.size [] (fun _ => none) [] w :=
              ⟨fun b p h => (by cases h), Nat.le_refl _, Nat.le_refl _, fun b p o h => (by cases h), fun b p o h => (by cases h), fun b b' p p' o o' _ h => (by cases h)⟩
            have hrun := run_ok (ih (B := w.heap.size)) hcf g1 [] _ w args' rfl hR0 hargs0
            refine ⟨hrun.1, Calls.mono hrun.2 ?_⟩
            rintro e w1 ⟨v', i', rfl, h2, h3, h4⟩
            exact ⟨v', i, rfl, h2.scalarR hs, hR.isolate h4.below, Inj.le_refl i, Nat.le_refl _, fun b _ hn => ⟨hn, rfl⟩, h4.below.mono hR.base⟩
          · cases g2
        · cases h
      · exact run_ok ih hcf h L i w args' hlim hR hargs
end
end Go.LK
