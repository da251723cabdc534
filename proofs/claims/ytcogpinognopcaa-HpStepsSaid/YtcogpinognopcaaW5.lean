/- The statement HpSteps: the walk, from the picks on. -/
import Derived.Test.YtcogpinognopcaaW4
import Derived.Test.YtcogpinognopcaaC2
namespace Go.Proofs.Ytcogpinognopcaa
open Go Go.LK
set_option linter.unusedSimpArgs false
set_option linter.unusedVariables false
section
variable {H K : LHeap} {l0 lo b pw pb bx : Nat} {m mr : MV} {w : List (BitVec 64)} {aw ab ao ap aq : Option Addr} {L : List (Nat × HZ)} {e : Env} {Q : LExit → Env → LHeap → Prop} {g : GV}
set_option maxHeartbeats 1000000 in
theorem spE_ev (h : HS12 H l0 lo b pw pb bx K m mr w aw ab ao ap L) (e8 : LK.look e 8 = ptr b) (e10 : LK.look e 10 = ptr bx) (e_12 : LK.look e 12 = .slice ap L.length L.length) (e_13 : LK.look e 13 = .slice ao L.length L.length)
    (hL : ∀ (j p : Nat) (z : HZ), L[j]? = some (p, z) → Rel g z.x z.y) (hn : L.length ≤ 12)
    (hQ : ∀ e' H', LK.look e' 6 = .bool true → Q .ret e' H') : XW (callE T) H.length spE e K Q := by
  unfold spE
  have hKl : H.length ≤ K.length := by
    obtain ⟨t, rfl⟩ := h.keep
    simp
  simp -dsimp only [go_sem, Nat.reduceEqDiff, Nat.reduceAdd, Nat.reduceSub, Nat.reduceMul, Nat.reduceLeDiff, Nat.reduceLT, Nat.reduceBEq, Int.reduceLT, Int.reduceLE, Int.reduceGT, Int.reduceGE, Int.reduceEq, Int.reduceNe, Int.reduceBEq, Int.reduceBNe, Int.reduceAdd, Int.reduceSub, Int.reduceMul, Int.reduceToNat, Int.reduceNeg, ↓reduceIte, ↓reduceDIte, e8]
  refine CT_of (peek_ev hKl h.mem (by decide)) ?_
  rintro _ _ ⟨aq, t, rfl, rfl, own⟩
  have okm := h.cl.ok
  rw [h.wl] at okm
  have hpk : m.peek 0 12 = w := by
    have := okm.peek_all
    rw [h.cl.ws] at this
    exact this
  rw [hpk] at own ⊢
  rw [h.wl]
  have h' := h.app t
  generalize K ++ t = K' at own h' ⊢
  clear h hKl
  simp -dsimp only [go_sem, Nat.reduceEqDiff, Nat.reduceAdd, Nat.reduceSub, Nat.reduceMul, Nat.reduceLeDiff, Nat.reduceLT, Nat.reduceBEq, Int.reduceLT, Int.reduceLE, Int.reduceGT, Int.reduceGE, Int.reduceEq, Int.reduceNe, Int.reduceBEq, Int.reduceBNe, Int.reduceAdd, Int.reduceSub, Int.reduceMul, Int.reduceToNat, Int.reduceNeg, ↓reduceIte, ↓reduceDIte, e8]
  refine LT_of (fun i : Nat => [(10, ptr bx), (12, .slice ap L.length L.length), (13, .slice ao L.length L.length), (24, .slice aq 12 12), (25, i64 i)]) (fun _ => K') (fun i => i ≤ 12) (fun i => 12 - i) 0 (by simp [restrict, LK.look, e10, e_12, e_13]) rfl (by omega) ?_
  intro i hi
  by_cases c1 : i < 12
  · have c1' : (i : Int) < 12 := by omega
    have i0 : 0 ≤ (i : Int) := by omega
    have w1 : IntKind.i64.wrap ((i : Int) + 1) = ((i + 1 : Nat) : Int) := by rw [wrap_i64] <;> omega
    have hwl := h'.wl
    have hlen : (w.map w64).length = 12 := by simp [hwl]
    obtain ⟨b1, o1, rfl, _, g1⟩ := own.sl.all (by omega)
    have r2 := h'.ref.ws
    rw [h'.clr.ws] at r2
    obtain ⟨b2, o2, e2, _, g2⟩ := r2.all (by omega)
    have hb := h'.box
    rw [e2] at hb
    have hv : (w.map w64)[i]? = some (w64 (w.getD i 0)) := by
      rw [List.getElem?_map, List.getD, List.getElem?_eq_getElem (by omega)]; rfl
    have g1 := g1 [] i _ hv
    have g2 := g2 [] i _ hv
    rw [List.append_nil] at g1 g2
    simp -dsimp only [go_sem, Nat.reduceEqDiff, Nat.reduceAdd, Nat.reduceSub, Nat.reduceMul, Nat.reduceLeDiff, Nat.reduceLT, Nat.reduceBEq, Int.reduceLT, Int.reduceLE, Int.reduceGT, Int.reduceGE, Int.reduceEq, Int.reduceNe, Int.reduceBEq, Int.reduceBNe, Int.reduceAdd, Int.reduceSub, Int.reduceMul, Int.reduceToNat, Int.reduceNeg, ↓reduceIte, ↓reduceDIte, c1', i0, g1, g2, lget_at hb, w1]
    exact ⟨i + 1, rfl, by omega, by omega⟩
  · have c1' : ¬ (i : Int) < 12 := by omega
    simp -dsimp only [go_sem, Nat.reduceEqDiff, Nat.reduceAdd, Nat.reduceSub, Nat.reduceMul, Nat.reduceLeDiff, Nat.reduceLT, Nat.reduceBEq, Int.reduceLT, Int.reduceLE, Int.reduceGT, Int.reduceGE, Int.reduceEq, Int.reduceNe, Int.reduceBEq, Int.reduceBNe, Int.reduceAdd, Int.reduceSub, Int.reduceMul, Int.reduceToNat, Int.reduceNeg, ↓reduceIte, ↓reduceDIte, c1']
    refine spF_ev (aq := aq) h' ?_ ?_ ?_ hL hn hQ
    all_goals rfl
theorem pick_in (a : Int) {n : Nat} (hn : 0 < n) (h2 : n ≤ 1000) : ∃ j : Nat, j < n ∧ Int.tmod (IntKind.i64.wrap (Int.tmod a n + n)) n = j := by
  have h1 := Int.tmod_lt_of_pos a (show (0 : Int) < n by omega)
  have h3 : -(n : Int) < Int.tmod a n := by
    have := Int.lt_tmod_of_pos a (show (0 : Int) < n by omega)
    omega
  rw [wrap_i64 (by omega) (by omega)]
  have h4 : 0 ≤ Int.tmod (Int.tmod a n + n) n := Int.tmod_nonneg _ (by omega)
  have h5 := Int.tmod_lt_of_pos (Int.tmod a n + n) (show (0 : Int) < n by omega)
  exact ⟨(Int.tmod (Int.tmod a n + n) n).toNat, by omega, by omega⟩
structure PS where
  i : Nat
  K : LHeap
  m : MV
  mr : MV
  w : List (BitVec 64)
  aw : Option Addr
  L : List (Nat × HZ)
structure PI (H : LHeap) (l0 lo b pw pb bx n : Nat) (g : GV) (ab ao ap : Option Addr) (q : PS) : Prop where
  hi : q.i ≤ 200
  si : HS12 H l0 lo b pw pb bx q.K q.m q.mr q.w q.aw ab ao ap q.L
  hw : ∀ x, q.aw = some x → H.length ≤ x.block
  ok : ∀ (j p : Nat) (z : HZ), q.L[j]? = some (p, z) → Rel g z.x z.y
  len : q.L.length = n
set_option maxHeartbeats 2000000 in
theorem spP_ev {a2 : Option Addr} {P : List Int} (h : HS12 H l0 lo b pw pb bx K m mr w aw ab ao ap L) (hw : ∀ x, aw = some x → H.length ≤ x.block) (ga : g.a = 4) (gw : 1 ≤ g.words ∧ g.words ≤ 8) (gr : g.right = true) (hp : Sl 1 H a2 (P.map i64)) (e2 : LK.look e 2 = .slice a2 P.length P.length) (e8 : LK.look e 8 = ptr b) (e10 : LK.look e 10 = ptr bx) (e12 : LK.look e 12 = .slice ap L.length L.length) (e13 : LK.look e 13 = .slice ao L.length L.length)
    (hL : ∀ (j p : Nat) (z : HZ), L[j]? = some (p, z) → Rel g z.x z.y) (hn : L.length ≤ 12)
    (hQ : ∀ e' H', LK.look e' 6 = .bool true → Q .ret e' H') : XW (callE T) H.length spP e K Q := by
  unfold spP
  simp -dsimp only [go_sem, Nat.reduceEqDiff, Nat.reduceAdd, Nat.reduceSub, Nat.reduceMul, Nat.reduceLeDiff, Nat.reduceLT, Nat.reduceBEq, Int.reduceLT, Int.reduceLE, Int.reduceGT, Int.reduceGE, Int.reduceEq, Int.reduceNe, Int.reduceBEq, Int.reduceBNe, Int.reduceAdd, Int.reduceSub, Int.reduceMul, Int.reduceToNat, Int.reduceNeg, ↓reduceIte, ↓reduceDIte]
  refine LT_of (fun q : PS => [(2, .slice a2 P.length P.length), (8, ptr b), (10, ptr bx), (12, .slice ap L.length L.length), (13, .slice ao L.length L.length), (20, i64 q.i)]) (fun q => q.K) (PI H l0 lo b pw pb bx L.length g ab ao ap) (fun q => 200 - q.i)
    ⟨0, K, m, mr, w, aw, L⟩ (by simp [restrict, LK.look, e2, e8, e10, e12, e13]) rfl ⟨by simp, h, hw, hL, rfl⟩ ?_
  clear h hL hw
  rintro ⟨i, K, m, mr, w, aw, L'⟩ ⟨hi, h, hw, hL, hLn⟩
  simp only at hi h hw hL hLn ⊢
  rw [← hLn]
  have fin : ∀ e', LK.look e' 8 = ptr b → LK.look e' 10 = ptr bx → LK.look e' 12 = .slice ap L'.length L'.length → LK.look e' 13 = .slice ao L'.length L'.length → XW (callE T) H.length spE e' K Q :=
    fun e' e8 e10 e12 e13 => spE_ev h e8 e10 e12 e13 hL (by omega) hQ
  by_cases c1 : i < P.length
  · have c1' : (i : Int) < P.length := by omega
    by_cases c2 : i < 200
    · have c2' : (i : Int) < 200 := by omega
      by_cases c3 : 0 < L'.length
      · have c3' : (0 : Int) < L'.length := by omega
        have i0 : 0 ≤ (i : Int) := by omega
        have w1 : IntKind.i64.wrap ((i : Int) + 1) = ((i + 1 : Nat) : Int) := by rw [wrap_i64] <;> omega
        have n0 : ¬ (L'.length : Int) = 0 := by omega
        obtain ⟨t0, ht0⟩ := h.keep
        obtain ⟨b2, o2, rfl, hb2, gp⟩ := hp.all (by simp; omega)
        have gp := gp t0 i _ (show (P.map i64)[i]? = some (i64 P[i]) by simp [c1])
        rw [← ht0] at gp
        obtain ⟨d, hd, d0, d31⟩ := andK P[i] 31 (by decide)
        by_cases hst : d = 31
        · have hst' : (d == 31) = true := by simp [hst]
          obtain ⟨q5, h5⟩ : ∃ z, lbin .shr (i64 P[i]) (w64 5#64) = some (i64 z) := ⟨_, lbin_shr_iw _ _ _⟩
          obtain ⟨q7, h7⟩ : ∃ z, lbin .shr (i64 P[i]) (w64 7#64) = some (i64 z) := ⟨_, lbin_shr_iw _ _ _⟩
          obtain ⟨ad, had, ad0, ad3⟩ := andK q5 3 (by decide)
          have ad3 : ad ≤ 3 := ad3
          obtain ⟨vd, hvd, vd0, vd7⟩ := andK q7 7 (by decide)
          obtain ⟨an, rfl⟩ := Int.eq_ofNat_of_zero_le ad0
          have hwl := h.wl
          simp -dsimp only [go_sem, Nat.reduceEqDiff, Nat.reduceAdd, Nat.reduceSub, Nat.reduceMul, Nat.reduceLeDiff, Nat.reduceLT, Nat.reduceBEq, Int.reduceLT, Int.reduceLE, Int.reduceGT, Int.reduceGE, Int.reduceEq, Int.reduceNe, Int.reduceBEq, Int.reduceBNe, Int.reduceAdd, Int.reduceSub, Int.reduceMul, Int.reduceToNat, Int.reduceNeg, ↓reduceIte, ↓reduceDIte, c1', c2', c3', i0, gp, n0, hd, hst', h5, h7, had, hvd]
          refine CT_of (store_c h.mem h.cl (by omega) (by omega)) ?_
          rintro _ _ ⟨m', cl', rfl⟩
          rw [Int.toNat_natCast] at cl'
          obtain ⟨bw, ew, wr⟩ := h.ws
          have hbw := hw _ ew
          simp only at hbw
          obtain ⟨l1, l2, l3, l4, l5, l6, l7, l8, n1, n2, n3⟩ := h.lb
          have ob : bw ≠ b := fun e => h.fw.b _ ew e
          have opw : bw ≠ pw := fun e => h.fw.pw _ ew e
          have opb : bw ≠ pb := fun e => h.fw.pb _ ew e
          have gx : (memPut K b pw pb m')[bx]? = some (xrow (some ⟨bw, 0, none⟩) ab 12 mr) := by
            rw [memPut_get _ n1.symm n2.symm n3.symm, h.box, ew]
          have gw2 : (memPut K b pw pb m')[bw]? = some (.row false 1 (mr.w.map w64)) := by
            rw [memPut_get _ ob.symm opw.symm opb.symm]; exact wr
          have gp2 : ∀ k, lget (memPut K b pw pb m') b2 k = lget K b2 k := fun k => by
            rw [lget, lget, memPut_get _ (by omega) (by omega) (by omega)]
          have an4 : (an : Int) < 12 := by omega
          have an0 : 0 ≤ (an : Int) := by omega
          have an5 : an + 1 ≤ 12 := by omega
          have mrl : (mr.w.map w64).length = 12 := by rw [List.length_map, h.clr.ws, hwl]
          simp -dsimp only [go_sem, Nat.reduceEqDiff, Nat.reduceAdd, Nat.reduceSub, Nat.reduceMul, Nat.reduceLeDiff, Nat.reduceLT, Nat.reduceBEq, Int.reduceLT, Int.reduceLE, Int.reduceGT, Int.reduceGE, Int.reduceEq, Int.reduceNe, Int.reduceBEq, Int.reduceBNe, Int.reduceAdd, Int.reduceSub, Int.reduceMul, Int.reduceToNat, Int.reduceNeg, ↓reduceIte, ↓reduceDIte, gp2, gp, i0, c1', lget_at gx, h5, h7, had, hvd, an4, an0, gw2, mrl, an5, hbw, w1]
          refine ⟨⟨i + 1, _, m', mr.setw (w.set an (BitVec.ofInt 64 vd)), w.set an (BitVec.ofInt 64 vd), aw, L'⟩, rfl, rfl, ⟨by simp only; omega, ?_, hw, hL, rfl⟩, by simp only; omega⟩
          have hs := h.store cl' (by simp [hwl]) ew hbw
          rw [List.map_set, ← h.clr.ws] at hs
          rw [← h.clr.ws]
          exact hs
        · have hst' : (d == 31) = false := by simp [hst]
          obtain ⟨j, hj, hje⟩ := pick_in P[i] c3 (by omega)
          have j0 : 0 ≤ (j : Int) := by omega
          have j1 : (j : Int) < L'.length := by omega
          obtain ⟨⟨p, z⟩, hx⟩ : ∃ z, L'[j]? = some z := ⟨_, List.getElem?_eq_getElem hj⟩
          obtain ⟨bp, bo, ea, eo, g1, g2, g3, g4⟩ := h.read hx
          have ok := hL j p z hx
          have hb := h.box
          have g1' := g1 []; have g2' := g2 []
          rw [List.append_nil] at g1' g2'
          rw [ea, eo]
          have hb10 : lcells K bx 0 10 = some (refC aw ab 12 mr) := lcells_of hb rfl
          have hKl : H.length ≤ K.length := by rw [ht0]; simp
          simp -dsimp only [go_sem, Nat.reduceEqDiff, Nat.reduceAdd, Nat.reduceSub, Nat.reduceMul, Nat.reduceLeDiff, Nat.reduceLT, Nat.reduceBEq, Int.reduceLT, Int.reduceLE, Int.reduceGT, Int.reduceGE, Int.reduceEq, Int.reduceNe, Int.reduceBEq, Int.reduceBNe, Int.reduceAdd, Int.reduceSub, Int.reduceMul, Int.reduceToNat, Int.reduceNeg, ↓reduceIte, ↓reduceDIte, c1', c2', c3', i0, gp, n0, hd, hst', hje, j0, j1, g2', hb10]
          have ml := ok.ml
          refine CT_of (rstep_ev (y := z.y) (am := z.a2) (by simp; omega) (h.ref.app _) ((h.s2 j p z hx).1.app _) ok.k2 ⟨ok.pc0, by have := ok.pc1; omega⟩ ok.ya (by omega)) ?_
          rintro _ _ ⟨am', aw', t1, rfl, rfl, sm1, sl1, q1, qm1, qd⟩
          obtain ⟨rel', w', cl', clr', hw'⟩ := rel_step ok ga gw h.cl h.clr h.wl
          have hst := fun t => hstep_ev ((h.app t).ahd hx (Nat.le_refl H.length)) (by rw [ok.gg]; exact gr) (by have := ok.xa; omega) rfl (by rw [ok.met]; omega)
          generalize hx' : (z.x.step m).1 = x' at *
          generalize (z.x.step m).2 = m' at *
          generalize (z.y.step mr).1 = y' at *
          generalize (z.y.step mr).2 = mr' at *
          have hdn := rel'.done
          have hle1 : H.length ≤ K.length + 1 := by omega
          simp -dsimp only [go_sem, Nat.reduceEqDiff, Nat.reduceAdd, Nat.reduceSub, Nat.reduceMul, Nat.reduceLeDiff, Nat.reduceLT, Nat.reduceBEq, Int.reduceLT, Int.reduceLE, Int.reduceGT, Int.reduceGE, Int.reduceEq, Int.reduceNe, Int.reduceBEq, Int.reduceBNe, Int.reduceAdd, Int.reduceSub, Int.reduceMul, Int.reduceToNat, Int.reduceNeg, ↓reduceIte, ↓reduceDIte, Nat.add_assoc, g1, j0, j1, hle1, hKl]
          have sl2 : Sl 1 (K ++ LObj.row false 0 (y'.cells am') :: xrow aw' ab 12 mr' :: t1) aw' (mr'.w.map w64) := sl1.boxed (by decide) (by simp [unbox_app, unbox_cons, unboxO_box])
          have sm2 : Sl 1 (K ++ LObj.row false 0 (y'.cells am') :: xrow aw' ab 12 mr' :: t1) am' (y'.met.map w64) := sm1.boxed (by decide) (by simp [unbox_app, unbox_cons, unboxO_box])
          have fr : aw' = aw ∨ Own 1 (K ++ LObj.row false 0 (y'.cells am') :: xrow aw' ab 12 mr' :: t1) K.length aw' (mr'.w.map w64) := q1.imp id fun o => Own.into o (by decide) (by simp) (by simp [unbox_app, unbox_cons, unboxO_box])
          have frm : am' = z.a2 ∨ Fresh K.length am' := qm1.imp id fun o => o.mono (by simp)
          refine CT_of (hst _) ?_
          rintro _ K2 ⟨rfl, a1', st⟩
          obtain ⟨bo', c, ea', b1, b2', b3, b4, b5, b6, b7⟩ := h.turn hx st sl2 fr sm2 frm qd cl' clr' hw'
          rw [eo] at ea'
          cases ea'
          have z1 := b5 K.length (Nat.le_refl _) (by simp)
          have z2 := b5 (K.length + 1) (by omega) (by simp)
          rw [get_app0] at z1
          rw [get_app] at z2
          simp only [List.getElem?_cons_zero, List.getElem?_cons_succ] at z1 z2
          have z19 : lcells K2 K.length 0 9 = some (y'.cells am') := lcells_of z1 rfl
          have z210 : lcells K2 (K.length + 1) 0 10 = some (refC aw' ab 12 mr') := lcells_of z2 rfl
          have bb : ∀ a : Bool, (a == a) = true := fun a => by cases a <;> rfl
          have hcl : j * 9 + 9 ≤ c.length := by rw [b2']; omega
          have hne : bo ≠ K.length + 1 := by
            rintro rfl
            rw [z2] at b1
            cases b1
          have hbx : H.length ≤ bx := h.lb.h4
          have hbo : H.length ≤ bo := by have := h.lb.l1; have := h.lb.h1; omega
          simp -dsimp only [go_sem, Nat.reduceEqDiff, Nat.reduceAdd, Nat.reduceSub, Nat.reduceMul, Nat.reduceLeDiff, Nat.reduceLT, Nat.reduceBEq, Int.reduceLT, Int.reduceLE, Int.reduceGT, Int.reduceGE, Int.reduceEq, Int.reduceNe, Int.reduceBEq, Int.reduceBNe, Int.reduceAdd, Int.reduceSub, Int.reduceMul, Int.reduceToNat, Int.reduceNeg, ↓reduceIte, ↓reduceDIte, bb, lget_at z1, hdn, z19, z210, j0, j1, b1, hcl, lcells_set_ne hne, get_set_ne b3, b6, hbx, hbo, w1]
          refine ⟨⟨i + 1, _, m', mr', w', aw', L'.set j (p, ⟨x', a1', y', am'⟩)⟩, rfl, rfl, ⟨by simp only; omega, ?_, ?_, ?_, by simp⟩, by simp only; omega⟩
          · rw [ea, eo] at b7
            exact b7
          · intro x hx2
            rcases fr with e | o
            · exact hw x (by rw [← e]; exact hx2)
            · have := o.fresh x hx2
              omega
          · intro i2 p2 y2 hy
            simp only at hy
            by_cases e : j = i2
            · subst e
              rw [List.getElem?_set_self hj] at hy
              cases hy
              exact rel'
            · rw [List.getElem?_set_ne e] at hy
              exact hL i2 p2 y2 hy
      · have c3' : ¬ (0 : Int) < L'.length := by omega
        simp -dsimp only [go_sem, Nat.reduceEqDiff, Nat.reduceAdd, Nat.reduceSub, Nat.reduceMul, Nat.reduceLeDiff, Nat.reduceLT, Nat.reduceBEq, Int.reduceLT, Int.reduceLE, Int.reduceGT, Int.reduceGE, Int.reduceEq, Int.reduceNe, Int.reduceBEq, Int.reduceBNe, Int.reduceAdd, Int.reduceSub, Int.reduceMul, Int.reduceToNat, Int.reduceNeg, ↓reduceIte, ↓reduceDIte, c1', c2', c3']
        exact fin _ rfl rfl rfl rfl
    · have c2' : ¬ (i : Int) < 200 := by omega
      simp -dsimp only [go_sem, Nat.reduceEqDiff, Nat.reduceAdd, Nat.reduceSub, Nat.reduceMul, Nat.reduceLeDiff, Nat.reduceLT, Nat.reduceBEq, Int.reduceLT, Int.reduceLE, Int.reduceGT, Int.reduceGE, Int.reduceEq, Int.reduceNe, Int.reduceBEq, Int.reduceBNe, Int.reduceAdd, Int.reduceSub, Int.reduceMul, Int.reduceToNat, Int.reduceNeg, ↓reduceIte, ↓reduceDIte, c1', c2']
      exact fin _ rfl rfl rfl rfl
  · have c1' : ¬ (i : Int) < P.length := by omega
    simp -dsimp only [go_sem, Nat.reduceEqDiff, Nat.reduceAdd, Nat.reduceSub, Nat.reduceMul, Nat.reduceLeDiff, Nat.reduceLT, Nat.reduceBEq, Int.reduceLT, Int.reduceLE, Int.reduceGT, Int.reduceGE, Int.reduceEq, Int.reduceNe, Int.reduceBEq, Int.reduceBNe, Int.reduceAdd, Int.reduceSub, Int.reduceMul, Int.reduceToNat, Int.reduceNeg, ↓reduceIte, ↓reduceDIte, c1']
    exact fin _ rfl rfl rfl rfl
end
end Go.Proofs.Ytcogpinognopcaa
