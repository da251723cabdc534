/- The statement CrqSteps: the walk, from the picks on. -/
import Derived.Test.YtopjhhcncjleaaaS4
namespace Go.Proofs.Ytopjhhcncjleaaa
open Go Go.LK
set_option linter.unusedSimpArgs false
set_option linter.unusedVariables false
section
variable {H B K : LHeap} {lo b pw pb bx s : Nat} {m mr : MV} {w : List (BitVec 64)} {aw ab ao ap aq : Option Addr} {L : List (Nat × (COp × DOp))} {e : Env} {Q : LExit → Env → LHeap → Prop}
set_option maxHeartbeats 2000000 in
theorem csE_ev (hB : B = H ++ [rro ⟨2, s⟩]) (hs : s = 1 ∨ s = 2 ∨ s = 4 ∨ s = 8) (h : CSI B lo b pw pb bx K m mr w aw ab ao ap L) (e7 : LK.look e 7 = ptr H.length) (e8 : LK.look e 8 = ptr b) (e10 : LK.look e 10 = ptr bx) (e13 : LK.look e 13 = .slice ap L.length L.length) (e14 : LK.look e 14 = .slice ao L.length L.length)
    (hL : ∀ (j p : Nat) (z : COp × DOp), L[j]? = some (p, z) → COk s z) (hn : L.length ≤ 12)
    (hQ : ∀ e' H', LK.look e' 6 = .bool true → Q .ret e' H') : XW (callE T) H.length csE e K Q := by
  unfold csE
  have hKl : H.length ≤ K.length := by have := (CSI.rr hB h).2; omega
  simp -dsimp only [go_sem, Nat.reduceEqDiff, Nat.reduceAdd, Nat.reduceSub, Nat.reduceMul, Nat.reduceLeDiff, Nat.reduceLT, Nat.reduceBEq, Int.reduceLT, Int.reduceLE, Int.reduceGT, Int.reduceGE, Int.reduceEq, Int.reduceNe, Int.reduceBEq, Int.reduceBNe, Int.reduceAdd, Int.reduceSub, Int.reduceMul, Int.reduceToNat, Int.reduceNeg, ↓reduceIte, ↓reduceDIte, e8]
  refine CT_of (peek_ev hKl h.mem (by decide)) ?_
  rintro _ _ ⟨aq, t, rfl, rfl, own⟩
  have okm := h.cl.ok
  rw [h.wl] at okm
  have hpk : m.peek 0 22 = w := by
    have := okm.peek_all
    rw [h.cl.ws] at this
    exact this
  rw [hpk] at own ⊢
  rw [h.wl]
  have h' := h.app t
  generalize K ++ t = K' at own h' ⊢
  clear h hKl
  simp -dsimp only [go_sem, Nat.reduceEqDiff, Nat.reduceAdd, Nat.reduceSub, Nat.reduceMul, Nat.reduceLeDiff, Nat.reduceLT, Nat.reduceBEq, Int.reduceLT, Int.reduceLE, Int.reduceGT, Int.reduceGE, Int.reduceEq, Int.reduceNe, Int.reduceBEq, Int.reduceBNe, Int.reduceAdd, Int.reduceSub, Int.reduceMul, Int.reduceToNat, Int.reduceNeg, ↓reduceIte, ↓reduceDIte, e8]
  refine LT_of (fun i : Nat => [(7, ptr H.length), (8, ptr b), (10, ptr bx), (13, .slice ap L.length L.length), (14, .slice ao L.length L.length), (22, .slice aq 22 22), (23, i64 (keptN 2 (min ((i - 6) / 2) s) w)), (24, i64 i)]) (fun _ => K') (fun i => i ≤ 22) (fun i => 22 - i) 0 (by simp [restrict, LK.look, e7, e8, e10, e13, e14, keptN]) rfl (by omega) ?_
  intro i hi
  by_cases c1 : i < 22
  · have c1' : (i : Int) < 22 := by omega
    have i0 : 0 ≤ (i : Int) := by omega
    have w1 : IntKind.i64.wrap ((i : Int) + 1) = ((i + 1 : Nat) : Int) := by rw [wrap_i64] <;> omega
    have hwl := h'.wl
    have hlen : (w.map w64).length = 22 := by simp [hwl]
    obtain ⟨b1, o1, rfl, _, g1⟩ := own.sl.all (by omega)
    have r2 := h'.ref.ws
    rw [h'.clr.ws] at r2
    obtain ⟨b2, o2, e2, _, g2⟩ := r2.all (by omega)
    have hb := h'.box
    rw [e2] at hb
    have hv : (w.map w64)[i]? = some (w64 (w.getD i 0)) := by
      rw [List.getElem?_map, List.getD, List.getElem?_eq_getElem (by omega)]; rfl
    have g1 := g1 [] i _ hv
    have g2 := g2 [] i _ hv
    rw [List.append_nil] at g1 g2
    obtain ⟨hrr, _⟩ := CSI.rr hB h'
    have tm : Int.tmod (i : Int) 2 = ((i % 2 : Nat) : Int) := by
      rw [Int.tmod_eq_emod_of_nonneg (by omega)]; omega
    have v1 : IntKind.i64.wrap (2 * (s : Int)) = 2 * s := by rw [wrap_i64] <;> omega
    have v2 : IntKind.i64.wrap (6 + 2 * (s : Int)) = 6 + 2 * s := by rw [wrap_i64] <;> omega
    have same : (i + 1 - 6) / 2 = (i - 6) / 2 → min ((i + 1 - 6) / 2) s = min ((i - 6) / 2) s := fun q => by rw [q]
    by_cases q6 : 6 ≤ i
    · have q6' : (6 : Int) ≤ i := by omega
      by_cases qo : i % 2 = 1
      · have qo' : (((i % 2 : Nat) : Int) == 1) = true := by simp [qo]
        by_cases qs : i < 6 + 2 * s
        · have qs' : (i : Int) < 6 + 2 * s := by omega
          have ek := keptN_succ 2 ((i - 6) / 2) w
          rw [show 2 + 5 + 2 * ((i - 6) / 2) = i by omega] at ek
          have m1 : min ((i + 1 - 6) / 2) s = (i - 6) / 2 + 1 := by omega
          have m2 : min ((i - 6) / 2) s = (i - 6) / 2 := by omega
          have kle := keptN_le 2 w ((i - 6) / 2)
          cases hz : (w.getD i 0 != 0#64)
          · rw [hz, if_neg (by simp)] at ek
            simp -dsimp only [go_sem, Nat.reduceEqDiff, Nat.reduceAdd, Nat.reduceSub, Nat.reduceMul, Nat.reduceLeDiff, Nat.reduceLT, Nat.reduceBEq, Int.reduceLT, Int.reduceLE, Int.reduceGT, Int.reduceGE, Int.reduceEq, Int.reduceNe, Int.reduceBEq, Int.reduceBNe, Int.reduceAdd, Int.reduceSub, Int.reduceMul, Int.reduceToNat, Int.reduceNeg, ↓reduceIte, ↓reduceDIte, c1', i0, g1, g2, lget_at hb, lget_at hrr, w1, q6', tm, qo', v1, v2, qs', hz]
            exact ⟨i + 1, by simp only [m1, m2, ek, Nat.add_zero], by omega, by omega⟩
          · rw [hz, if_pos rfl] at ek
            have wk : IntKind.i64.wrap ((keptN 2 (min ((i - 6) / 2) s) w : Int) + 1) = ((keptN 2 ((i - 6) / 2 + 1) w : Nat) : Int) := by rw [m2, ek, wrap_i64] <;> omega
            simp -dsimp only [go_sem, Nat.reduceEqDiff, Nat.reduceAdd, Nat.reduceSub, Nat.reduceMul, Nat.reduceLeDiff, Nat.reduceLT, Nat.reduceBEq, Int.reduceLT, Int.reduceLE, Int.reduceGT, Int.reduceGE, Int.reduceEq, Int.reduceNe, Int.reduceBEq, Int.reduceBNe, Int.reduceAdd, Int.reduceSub, Int.reduceMul, Int.reduceToNat, Int.reduceNeg, ↓reduceIte, ↓reduceDIte, c1', i0, g1, g2, lget_at hb, lget_at hrr, w1, q6', tm, qo', v1, v2, qs', hz, wk]
            exact ⟨i + 1, by rw [m1], by omega, by omega⟩
        · have qs' : ¬ (i : Int) < 6 + 2 * s := by omega
          simp -dsimp only [go_sem, Nat.reduceEqDiff, Nat.reduceAdd, Nat.reduceSub, Nat.reduceMul, Nat.reduceLeDiff, Nat.reduceLT, Nat.reduceBEq, Int.reduceLT, Int.reduceLE, Int.reduceGT, Int.reduceGE, Int.reduceEq, Int.reduceNe, Int.reduceBEq, Int.reduceBNe, Int.reduceAdd, Int.reduceSub, Int.reduceMul, Int.reduceToNat, Int.reduceNeg, ↓reduceIte, ↓reduceDIte, c1', i0, g1, g2, lget_at hb, lget_at hrr, w1, q6', tm, qo', v1, v2, qs']
          exact ⟨i + 1, by rw [show min ((i + 1 - 6) / 2) s = s by omega, show min ((i - 6) / 2) s = s by omega], by omega, by omega⟩
      · have qo' : (((i % 2 : Nat) : Int) == 1) = false := by simp; omega
        simp -dsimp only [go_sem, Nat.reduceEqDiff, Nat.reduceAdd, Nat.reduceSub, Nat.reduceMul, Nat.reduceLeDiff, Nat.reduceLT, Nat.reduceBEq, Int.reduceLT, Int.reduceLE, Int.reduceGT, Int.reduceGE, Int.reduceEq, Int.reduceNe, Int.reduceBEq, Int.reduceBNe, Int.reduceAdd, Int.reduceSub, Int.reduceMul, Int.reduceToNat, Int.reduceNeg, ↓reduceIte, ↓reduceDIte, c1', i0, g1, g2, lget_at hb, lget_at hrr, w1, q6', tm, qo']
        exact ⟨i + 1, by rw [same (by omega)], by omega, by omega⟩
    · have q6' : ¬ (6 : Int) ≤ i := by omega
      simp -dsimp only [go_sem, Nat.reduceEqDiff, Nat.reduceAdd, Nat.reduceSub, Nat.reduceMul, Nat.reduceLeDiff, Nat.reduceLT, Nat.reduceBEq, Int.reduceLT, Int.reduceLE, Int.reduceGT, Int.reduceGE, Int.reduceEq, Int.reduceNe, Int.reduceBEq, Int.reduceBNe, Int.reduceAdd, Int.reduceSub, Int.reduceMul, Int.reduceToNat, Int.reduceNeg, ↓reduceIte, ↓reduceDIte, c1', i0, g1, g2, lget_at hb, lget_at hrr, w1, q6']
      exact ⟨i + 1, by rw [same (by omega)], by omega, by omega⟩
  · have c1' : ¬ (i : Int) < 22 := by omega
    obtain rfl : i = 22 := by omega
    simp -dsimp only [go_sem, Nat.reduceEqDiff, Nat.reduceAdd, Nat.reduceSub, Nat.reduceMul, Nat.reduceLeDiff, Nat.reduceLT, Nat.reduceBEq, Int.reduceLT, Int.reduceLE, Int.reduceGT, Int.reduceGE, Int.reduceEq, Int.reduceNe, Int.reduceBEq, Int.reduceBNe, Int.reduceAdd, Int.reduceSub, Int.reduceMul, Int.reduceToNat, Int.reduceNeg, ↓reduceIte, ↓reduceDIte, c1']
    refine csF_ev (aq := aq) hB hs h' ?_ ?_ ?_ ?_ ?_ ?_ ?_ hL hn hQ
    all_goals first | rfl | (show i64 (keptN 2 (min ((22 - 6) / 2) s) w) = _; rw [show min ((22 - 6) / 2) s = s by omega])
theorem pick_in (a : Int) {n : Nat} (hn : 0 < n) (h2 : n ≤ 1000) : ∃ j : Nat, j < n ∧ Int.tmod (IntKind.i64.wrap (Int.tmod a n + n)) n = j := by
  have h1 := Int.tmod_lt_of_pos a (show (0 : Int) < n by omega)
  have h3 : -(n : Int) < Int.tmod a n := by
    have := Int.lt_tmod_of_pos a (show (0 : Int) < n by omega)
    omega
  rw [wrap_i64 (by omega) (by omega)]
  have h4 : 0 ≤ Int.tmod (Int.tmod a n + n) n := Int.tmod_nonneg _ (by omega)
  have h5 := Int.tmod_lt_of_pos (Int.tmod a n + n) (show (0 : Int) < n by omega)
  exact ⟨(Int.tmod (Int.tmod a n + n) n).toNat, by omega, by omega⟩
structure PS where
  i : Nat
  K : LHeap
  m : MV
  mr : MV
  w : List (BitVec 64)
  aw : Option Addr
  L : List (Nat × (COp × DOp))
structure PI (B : LHeap) (lo b pw pb bx s n : Nat) (ab ao ap : Option Addr) (q : PS) : Prop where
  hi : q.i ≤ 250
  si : CSI B lo b pw pb bx q.K q.m q.mr q.w q.aw ab ao ap q.L
  ok : ∀ (j p : Nat) (z : COp × DOp), q.L[j]? = some (p, z) → COk s z
  len : q.L.length = n
set_option maxHeartbeats 1000000 in
theorem csP_ev {a2 : Option Addr} {P : List Int} (hB : B = H ++ [rro ⟨2, s⟩]) (h : CSI B lo b pw pb bx K m mr w aw ab ao ap L) (hs : s = 1 ∨ s = 2 ∨ s = 4 ∨ s = 8) (hp : Sl 1 H a2 (P.map i64)) (e2 : LK.look e 2 = .slice a2 P.length P.length) (e7 : LK.look e 7 = ptr H.length) (e8 : LK.look e 8 = ptr b) (e10 : LK.look e 10 = ptr bx) (e13 : LK.look e 13 = .slice ap L.length L.length) (e14 : LK.look e 14 = .slice ao L.length L.length)
    (hL : ∀ (j p : Nat) (z : COp × DOp), L[j]? = some (p, z) → COk s z) (hn : L.length ≤ 12)
    (hQ : ∀ e' H', LK.look e' 6 = .bool true → Q .ret e' H') : XW (callE T) H.length csP e K Q := by
  unfold csP
  simp -dsimp only [go_sem, Nat.reduceEqDiff, Nat.reduceAdd, Nat.reduceSub, Nat.reduceMul, Nat.reduceLeDiff, Nat.reduceLT, Nat.reduceBEq, Int.reduceLT, Int.reduceLE, Int.reduceGT, Int.reduceGE, Int.reduceEq, Int.reduceNe, Int.reduceBEq, Int.reduceBNe, Int.reduceAdd, Int.reduceSub, Int.reduceMul, Int.reduceToNat, Int.reduceNeg, ↓reduceIte, ↓reduceDIte]
  refine LT_of (fun q : PS => [(2, .slice a2 P.length P.length), (7, ptr H.length), (8, ptr b), (10, ptr bx), (13, .slice ap L.length L.length), (14, .slice ao L.length L.length), (18, i64 q.i)]) (fun q => q.K) (PI B lo b pw pb bx s L.length ab ao ap) (fun q => 250 - q.i)
    ⟨0, K, m, mr, w, aw, L⟩ (by simp [restrict, LK.look, e2, e7, e8, e10, e13, e14]) rfl ⟨by simp, h, hL, rfl⟩ ?_
  clear h hL
  rintro ⟨i, K, m, mr, w, aw, L'⟩ ⟨hi, h, hL, hLn⟩
  simp only at hi h hL hLn ⊢
  rw [← hLn]
  have fin : ∀ e', LK.look e' 7 = ptr H.length → LK.look e' 8 = ptr b → LK.look e' 10 = ptr bx → LK.look e' 13 = .slice ap L'.length L'.length → LK.look e' 14 = .slice ao L'.length L'.length → XW (callE T) H.length csE e' K Q :=
    fun e' e7 e8 e10 e13 e14 => csE_ev hB hs h e7 e8 e10 e13 e14 hL (by omega) hQ
  by_cases c1 : i < P.length
  · have c1' : (i : Int) < P.length := by omega
    by_cases c2 : i < 250
    · have c2' : (i : Int) < 250 := by omega
      by_cases c3 : 0 < L'.length
      · have c3' : (0 : Int) < L'.length := by omega
        have i0 : 0 ≤ (i : Int) := by omega
        have w1 : IntKind.i64.wrap ((i : Int) + 1) = ((i + 1 : Nat) : Int) := by rw [wrap_i64] <;> omega
        have n0 : ¬ (L'.length : Int) = 0 := by omega
        obtain ⟨t0, ht0⟩ : ∃ t0, K = H ++ t0 := by
          obtain ⟨t0, ht0⟩ := h.keep
          exact ⟨[rro ⟨2, s⟩] ++ t0, by rw [ht0, hB, List.append_assoc]⟩
        have hp' := hp.app t0
        rw [← ht0] at hp'
        obtain ⟨b2, o2, rfl, _, gp⟩ := hp'.all (by simp; omega)
        have gp := gp [] i _ (show (P.map i64)[i]? = some (i64 P[i]) by simp [c1])
        rw [List.append_nil] at gp
        obtain ⟨j, hj, hje⟩ := pick_in P[i] c3 (by omega)
        have j0 : 0 ≤ (j : Int) := by omega
        have j1 : (j : Int) < L'.length := by omega
        obtain ⟨⟨p, x, y⟩, hx⟩ : ∃ z, L'[j]? = some z := ⟨_, List.getElem?_eq_getElem hj⟩
        obtain ⟨bp, bo, ea, eo, g1, g2, g3, g4, g5⟩ := h.read cdc12 (by decide) hx
        have ok := hL j p _ hx
        have hb := h.box
        have g1' := g1 []; have g2' := g2 []
        rw [List.append_nil] at g1' g2'
        rw [ea, eo]
        have hb10 : lcells K bx 0 10 = some (refC aw ab 22 mr) := lcells_of hb rfl
        have hKl : H.length ≤ K.length := by rw [ht0]; simp
        have hrr : x.r.right = true := by
          rw [ok.r]
          exact rights hs
        simp -dsimp only [go_sem, Nat.reduceEqDiff, Nat.reduceAdd, Nat.reduceSub, Nat.reduceMul, Nat.reduceLeDiff, Nat.reduceLT, Nat.reduceBEq, Int.reduceLT, Int.reduceLE, Int.reduceGT, Int.reduceGE, Int.reduceEq, Int.reduceNe, Int.reduceBEq, Int.reduceBNe, Int.reduceAdd, Int.reduceSub, Int.reduceMul, Int.reduceToNat, Int.reduceNeg, ↓reduceIte, ↓reduceDIte, c1', c2', c3', i0, gp, n0, hje, j0, j1, g2', hb10]
        refine CT_of (dstep_ev (by simp; omega) (h.ref.app _) hrr ok.rel) ?_
        rintro _ _ ⟨y', aw', t1, rfl, rel', rfl, sl1, q1⟩
        obtain ⟨ex, okr, w', cl', clr', hw'⟩ := cturn hs ok.r ok.rel h.cl h.clr h.wl
        have htr := ok.rel.tr
        have hst := fun t => cstep_ev (lim := H.length) (x := x) (g4 t) (h.app t).mem (by have := h.lb.l1; omega) (by have := h.lb.l2; omega) (by have := h.lb.l3; omega) hrr (by simp only at htr; omega)
        simp only at ex okr cl' clr'
        rw [← ex] at rel'
        clear ex
        generalize hx' : (x.step m).1 = x' at *
        generalize (x.step m).2 = m' at *
        generalize (x.step mr).2 = mr' at *
        have hpc := rel'.pc
        have hd5 : decide (9 ≤ y'.pc) = (x'.at_ == 9) := by
          have := rel'.at_
          rw [Bool.eq_iff_iff]; simp; omega
        have fr : aw' = aw ∨ Fresh K.length aw' := q1.imp id fun o => o.fresh.mono (by simp)
        have hle1 : H.length ≤ K.length + 1 := by omega
        simp -dsimp only [go_sem, Nat.reduceEqDiff, Nat.reduceAdd, Nat.reduceSub, Nat.reduceMul, Nat.reduceLeDiff, Nat.reduceLT, Nat.reduceBEq, Int.reduceLT, Int.reduceLE, Int.reduceGT, Int.reduceGE, Int.reduceEq, Int.reduceNe, Int.reduceBEq, Int.reduceBNe, Int.reduceAdd, Int.reduceSub, Int.reduceMul, Int.reduceToNat, Int.reduceNeg, ↓reduceIte, ↓reduceDIte, Nat.add_assoc, g1, j0, j1, hle1]
        have sl2 : Sl 1 (K ++ LObj.row false 0 y'.dc :: xrow aw' ab 22 mr' :: t1) aw' (mr'.w.map w64) := sl1.boxed (by decide) (by simp [unbox_app, unbox_cons, unboxO_box])
        obtain ⟨bo', c, ea', b1, b2, b3, b4, b5, b6, b7, b8, b10, b9⟩ := h.turn (x' := (x', y')) crow0 cdc12 (by decide) sl2 fr hx cl' clr' hw'
        rw [eo] at ea'
        cases ea'
        refine CT_of (hst _) ?_
        rintro _ _ ⟨rfl, rfl⟩
        rw [hd5]
        have zl : (memPut ((K ++ (LObj.row false 0 y'.dc :: xrow aw' ab 22 mr' :: t1)).set p (crw x')) b pw pb m').length = K.length + (t1.length + 2) := by
          rw [memPut_len]; simp
        have z1 := b8 K.length (Nat.le_refl _)
        have z2 := b8 (K.length + 1) (by omega)
        rw [get_app0] at z1
        rw [get_app] at z2
        simp only [List.getElem?_cons_zero, List.getElem?_cons_succ] at z1 z2
        generalize memPut ((K ++ (LObj.row false 0 y'.dc :: xrow aw' ab 22 mr' :: t1)).set p (crw x')) b pw pb m' = Z at *
        have p1 := b6 []; have p2 := b7 []; have p3 := b1 []; have p4 := b9 []
        rw [List.append_nil] at p1 p2 p3 p4
        have pp := p1.sl
        rw [ea] at pp
        obtain ⟨_, _, q3, _, gq⟩ := pp.all (by simp; omega)
        cases q3
        have gq := gq [] j (ptr p) (by simp [hx])
        rw [List.append_nil, Nat.zero_add] at gq
        simp -dsimp only [go_sem, Nat.reduceEqDiff, Nat.reduceAdd, Nat.reduceSub, Nat.reduceMul, Nat.reduceLeDiff, Nat.reduceLT, Nat.reduceBEq, Int.reduceLT, Int.reduceLE, Int.reduceGT, Int.reduceGE, Int.reduceEq, Int.reduceNe, Int.reduceBEq, Int.reduceBNe, Int.reduceAdd, Int.reduceSub, Int.reduceMul, Int.reduceToNat, Int.reduceNeg, ↓reduceIte, ↓reduceDIte, lget_at z1, gq, j0, j1]
        refine CT_val (cat_ev p2) ?_
        have ne0 : (x'.at_ != y'.pc) = false := by simp [hpc]
        have z17 : lcells Z K.length 0 12 = some y'.dc := lcells_of z1 rfl
        have z210 : lcells Z (K.length + 1) 0 10 = some (refC aw' ab 22 mr') := lcells_of z2 rfl
        have hcl : j * 12 + 12 ≤ c.length := by
          rw [b2]; omega
        have hne : bo ≠ K.length + 1 := by
          rintro rfl
          rw [z2] at p3
          cases p3
        have hbx : H.length ≤ bx := by have := h.lb.h4; rw [hB] at this; simp at this; omega
        simp -dsimp only [go_sem, Nat.reduceEqDiff, Nat.reduceAdd, Nat.reduceSub, Nat.reduceMul, Nat.reduceLeDiff, Nat.reduceLT, Nat.reduceBEq, Int.reduceLT, Int.reduceLE, Int.reduceGT, Int.reduceGE, Int.reduceEq, Int.reduceNe, Int.reduceBEq, Int.reduceBNe, Int.reduceAdd, Int.reduceSub, Int.reduceMul, Int.reduceToNat, Int.reduceNeg, ↓reduceIte, ↓reduceDIte, lget_at z1, ne0, z17, z210, j0, j1, p3, hcl, lcells_set_ne hne, get_set_ne b3, b10, hbx, w1]
        refine ⟨⟨i + 1, _, m', mr', w', aw', L'.set j (p, x', y')⟩, rfl, rfl, ⟨by simp only; omega, ?_, ?_, by simp⟩, by simp only; omega⟩
        · rw [ea, eo] at p4
          exact p4
        · intro i2 p2 y hy
          simp only at hy
          by_cases e : j = i2
          · subst e
            rw [List.getElem?_set_self hj] at hy
            cases hy
            exact ⟨okr, rel'⟩
          · rw [List.getElem?_set_ne e] at hy
            exact hL i2 p2 y hy
      · have c3' : ¬ (0 : Int) < L'.length := by omega
        simp -dsimp only [go_sem, Nat.reduceEqDiff, Nat.reduceAdd, Nat.reduceSub, Nat.reduceMul, Nat.reduceLeDiff, Nat.reduceLT, Nat.reduceBEq, Int.reduceLT, Int.reduceLE, Int.reduceGT, Int.reduceGE, Int.reduceEq, Int.reduceNe, Int.reduceBEq, Int.reduceBNe, Int.reduceAdd, Int.reduceSub, Int.reduceMul, Int.reduceToNat, Int.reduceNeg, ↓reduceIte, ↓reduceDIte, c1', c2', c3']
        exact fin _ rfl rfl rfl rfl rfl
    · have c2' : ¬ (i : Int) < 250 := by omega
      simp -dsimp only [go_sem, Nat.reduceEqDiff, Nat.reduceAdd, Nat.reduceSub, Nat.reduceMul, Nat.reduceLeDiff, Nat.reduceLT, Nat.reduceBEq, Int.reduceLT, Int.reduceLE, Int.reduceGT, Int.reduceGE, Int.reduceEq, Int.reduceNe, Int.reduceBEq, Int.reduceBNe, Int.reduceAdd, Int.reduceSub, Int.reduceMul, Int.reduceToNat, Int.reduceNeg, ↓reduceIte, ↓reduceDIte, c1', c2']
      exact fin _ rfl rfl rfl rfl rfl
  · have c1' : ¬ (i : Int) < P.length := by omega
    simp -dsimp only [go_sem, Nat.reduceEqDiff, Nat.reduceAdd, Nat.reduceSub, Nat.reduceMul, Nat.reduceLeDiff, Nat.reduceLT, Nat.reduceBEq, Int.reduceLT, Int.reduceLE, Int.reduceGT, Int.reduceGE, Int.reduceEq, Int.reduceNe, Int.reduceBEq, Int.reduceBNe, Int.reduceAdd, Int.reduceSub, Int.reduceMul, Int.reduceToNat, Int.reduceNeg, ↓reduceIte, ↓reduceDIte, c1']
    exact fin _ rfl rfl rfl rfl rfl
end
end Go.Proofs.Ytopjhhcncjleaaa
