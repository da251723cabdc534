/- The document's operations of a ring that may be closed: behind a step. -/
import Derived.Test.YtopjhhcncjleaaaS2
namespace Go.Proofs.Ytopjhhcncjleaaa
open Go Go.LK
set_option linter.unusedSimpArgs false
set_option linter.unusedVariables false
section
variable {lim : Nat} {aw ab : Option Addr} {n : Nat} {m : MV} {x : COp} {y : DOp} {H : LHeap}
theorem dput_ev {told : BitVec 64} {ok : Bool} (h : Rel x y) (h9 : x.at_ ≠ 9) (hk : x.kind = 0) : callE T 45 lim [y.dv, w64 told, .bool ok] H fun v H' => ∃ y', v = DOp.dv y' ∧ Rel (x.next told ok) y' ∧ H' = H := by
  refine callE_pop rfl (by simp) rfl ?_
  obtain ⟨q1, q2, q3, q4, q5, q6, q7, q8, q9, q10, q11, q12, q13⟩ := h
  obtain ⟨xr, xk, xv, xa, xp, xd, xs, xtl, xhd, xt, xc, xrt⟩ := x
  obtain ⟨ya, ys, yk, yv, ypc, yp, yd, yst, yt, ytr, yc, yrt⟩ := y
  simp only at q1 q2 q3 q4 q5 q6 q7 q8 q9 q10 q11 q12 q13 h9 hk
  obtain ⟨rfl, rfl⟩ := q8 h9
  obtain ⟨rfl, t0, t1, t2⟩ := q9
  subst q1 q2 q3 q5 q6 hk
  have r2 : ∀ z, lbin .rem (w64 z) (w64 2#64) = some (w64 (z % 2#64)) := fun z => lbin_rem _ _ (by decide)
  have d2 : ∀ z, lbin .quo (w64 z) (w64 2#64) = some (w64 (z / 2#64)) := fun z => lbin_quo _ _ (by decide)
  have wt : IntKind.i64.wrap (ytr + 1) = ytr + 1 := by rw [wrap_i64] <;> omega
  have hx : ypc = 0 ∨ ypc = 1 ∨ ypc = 2 ∨ ypc = 3 ∨ ypc = 4 ∨ ypc = 5 ∨ ypc = 6 := by omega
  rcases hx with rfl | rfl | rfl | rfl | rfl | rfl | rfl
  · have hd := q10 (by decide)
    subst hd
    by_cases hc : clo ≤ told
    · have e := clo_ge told
      rw [decide_eq_true hc] at e
      simp -dsimp only [go_sem, Nat.reduceEqDiff, Nat.reduceAdd, Nat.reduceSub, Nat.reduceMul, Nat.reduceLeDiff, Nat.reduceLT, Nat.reduceBEq, Int.reduceLT, Int.reduceLE, Int.reduceGT, Int.reduceGE, Int.reduceEq, Int.reduceNe, Int.reduceBEq, Int.reduceBNe, Int.reduceAdd, Int.reduceSub, Int.reduceMul, Int.reduceToNat, Int.reduceNeg, ↓reduceIte, ↓reduceDIte, hc]
      refine CT_val (dend_ev (y := ⟨xr.a, xr.s, 0, yv, 0, yp, yd, yst, yt, ytr, yc, yrt⟩)) ?_
      simp -dsimp only [go_sem, Nat.reduceEqDiff, Nat.reduceAdd, Nat.reduceSub, Nat.reduceMul, Nat.reduceLeDiff, Nat.reduceLT, Nat.reduceBEq, Int.reduceLT, Int.reduceLE, Int.reduceGT, Int.reduceGE, Int.reduceEq, Int.reduceNe, Int.reduceBEq, Int.reduceBNe, Int.reduceAdd, Int.reduceSub, Int.reduceMul, Int.reduceToNat, Int.reduceNeg, ↓reduceIte, ↓reduceDIte]
      refine ⟨⟨xr.a, xr.s, 0, yv, 9, yp, yd, yst, yt, ytr, 16, 0#64⟩, rfl, ?_⟩
      simp only [COp.next, COp.fin, if_true, if_false, e]
      constructor <;> simp <;> omega
    · have e := clo_ge told
      rw [decide_eq_false hc] at e
      simp -dsimp only [go_sem, Nat.reduceEqDiff, Nat.reduceAdd, Nat.reduceSub, Nat.reduceMul, Nat.reduceLeDiff, Nat.reduceLT, Nat.reduceBEq, Int.reduceLT, Int.reduceLE, Int.reduceGT, Int.reduceGE, Int.reduceEq, Int.reduceNe, Int.reduceBEq, Int.reduceBNe, Int.reduceAdd, Int.reduceSub, Int.reduceMul, Int.reduceToNat, Int.reduceNeg, ↓reduceIte, ↓reduceDIte, hc]
      refine CT_val (dto_ev (y := ⟨xr.a, xr.s, 0, yv, 0, told, yd, yst, yt, ytr, yc, yrt⟩)) ?_
      simp -dsimp only [go_sem, Nat.reduceEqDiff, Nat.reduceAdd, Nat.reduceSub, Nat.reduceMul, Nat.reduceLeDiff, Nat.reduceLT, Nat.reduceBEq, Int.reduceLT, Int.reduceLE, Int.reduceGT, Int.reduceGE, Int.reduceEq, Int.reduceNe, Int.reduceBEq, Int.reduceBNe, Int.reduceAdd, Int.reduceSub, Int.reduceMul, Int.reduceToNat, Int.reduceNeg, ↓reduceIte, ↓reduceDIte]
      refine ⟨⟨xr.a, xr.s, 0, yv, 1, told, yd, yst, yt, ytr, yc, yrt⟩, rfl, ?_⟩
      simp only [COp.next, if_true, if_false, e,Bool.false_eq_true]
      constructor <;> simp <;> omega
  · simp -dsimp only [go_sem, Nat.reduceEqDiff, Nat.reduceAdd, Nat.reduceSub, Nat.reduceMul, Nat.reduceLeDiff, Nat.reduceLT, Nat.reduceBEq, Int.reduceLT, Int.reduceLE, Int.reduceGT, Int.reduceGE, Int.reduceEq, Int.reduceNe, Int.reduceBEq, Int.reduceBNe, Int.reduceAdd, Int.reduceSub, Int.reduceMul, Int.reduceToNat, Int.reduceNeg, ↓reduceIte, ↓reduceDIte]
    refine CT_val (dto_ev (y := ⟨xr.a, xr.s, 0, yv, 1, yp, told, yst, yt, ytr, yc, yrt⟩)) ?_
    simp -dsimp only [go_sem, Nat.reduceEqDiff, Nat.reduceAdd, Nat.reduceSub, Nat.reduceMul, Nat.reduceLeDiff, Nat.reduceLT, Nat.reduceBEq, Int.reduceLT, Int.reduceLE, Int.reduceGT, Int.reduceGE, Int.reduceEq, Int.reduceNe, Int.reduceBEq, Int.reduceBNe, Int.reduceAdd, Int.reduceSub, Int.reduceMul, Int.reduceToNat, Int.reduceNeg, ↓reduceIte, ↓reduceDIte]
    refine ⟨⟨xr.a, xr.s, 0, yv, 2, yp, told, yst, yt, ytr, yc, yrt⟩, rfl, ?_⟩
    simp only [COp.next, if_true, if_false, Int.reduceEq]
    constructor <;> simp <;> omega
  · have hd := q10 (by decide)
    subst hd
    by_cases hd : yd = 0#64
    · have hd1 : (yd == 0#64) = true := by simp [hd]
      have hd2 : (yd != 0#64) = false := by simp [hd]
      by_cases hp : yp < told / 2#64
      · have hp' : yp < poW told := by rw [po_lit]; exact hp
        simp -dsimp only [go_sem, Nat.reduceEqDiff, Nat.reduceAdd, Nat.reduceSub, Nat.reduceMul, Nat.reduceLeDiff, Nat.reduceLT, Nat.reduceBEq, Int.reduceLT, Int.reduceLE, Int.reduceGT, Int.reduceGE, Int.reduceEq, Int.reduceNe, Int.reduceBEq, Int.reduceBNe, Int.reduceAdd, Int.reduceSub, Int.reduceMul, Int.reduceToNat, Int.reduceNeg, ↓reduceIte, ↓reduceDIte, hd2, d2, hp]
        refine CT_val (dto_ev (y := ⟨xr.a, xr.s, 0, yv, 2, yp, yd, told, yt, ytr, yc, yrt⟩)) ?_
        simp -dsimp only [go_sem, Nat.reduceEqDiff, Nat.reduceAdd, Nat.reduceSub, Nat.reduceMul, Nat.reduceLeDiff, Nat.reduceLT, Nat.reduceBEq, Int.reduceLT, Int.reduceLE, Int.reduceGT, Int.reduceGE, Int.reduceEq, Int.reduceNe, Int.reduceBEq, Int.reduceBNe, Int.reduceAdd, Int.reduceSub, Int.reduceMul, Int.reduceToNat, Int.reduceNeg, ↓reduceIte, ↓reduceDIte]
        refine ⟨⟨xr.a, xr.s, 0, yv, 5, yp, yd, told, yt, ytr, yc, yrt⟩, rfl, ?_⟩
        simp only [COp.next, if_true, if_false, Int.reduceEq,hd2,hp',decide_true,Bool.or_true]
        constructor <;> simp <;> omega
      · have hp' : ¬ yp < poW told := by rw [po_lit]; exact hp
        have ho := odd_lit told
        cases hz : (told &&& 1#64 != 0#64)
        · rw [hz] at ho
          simp -dsimp only [go_sem, Nat.reduceEqDiff, Nat.reduceAdd, Nat.reduceSub, Nat.reduceMul, Nat.reduceLeDiff, Nat.reduceLT, Nat.reduceBEq, Int.reduceLT, Int.reduceLE, Int.reduceGT, Int.reduceGE, Int.reduceEq, Int.reduceNe, Int.reduceBEq, Int.reduceBNe, Int.reduceAdd, Int.reduceSub, Int.reduceMul, Int.reduceToNat, Int.reduceNeg, ↓reduceIte, ↓reduceDIte, hd2, d2, hp, r2, ho]
          refine CT_val (dto_ev (y := ⟨xr.a, xr.s, 0, yv, 2, yp, yd, told, yt, ytr, yc, yrt⟩)) ?_
          simp -dsimp only [go_sem, Nat.reduceEqDiff, Nat.reduceAdd, Nat.reduceSub, Nat.reduceMul, Nat.reduceLeDiff, Nat.reduceLT, Nat.reduceBEq, Int.reduceLT, Int.reduceLE, Int.reduceGT, Int.reduceGE, Int.reduceEq, Int.reduceNe, Int.reduceBEq, Int.reduceBNe, Int.reduceAdd, Int.reduceSub, Int.reduceMul, Int.reduceToNat, Int.reduceNeg, ↓reduceIte, ↓reduceDIte]
          refine ⟨⟨xr.a, xr.s, 0, yv, 3, yp, yd, told, yt, ytr, yc, yrt⟩, rfl, ?_⟩
          simp only [COp.next, if_true, if_false, Int.reduceEq,hd2,hp',decide_false,Bool.or_false,hz,Bool.false_eq_true]
          constructor <;> simp <;> omega
        · rw [hz] at ho
          simp -dsimp only [go_sem, Nat.reduceEqDiff, Nat.reduceAdd, Nat.reduceSub, Nat.reduceMul, Nat.reduceLeDiff, Nat.reduceLT, Nat.reduceBEq, Int.reduceLT, Int.reduceLE, Int.reduceGT, Int.reduceGE, Int.reduceEq, Int.reduceNe, Int.reduceBEq, Int.reduceBNe, Int.reduceAdd, Int.reduceSub, Int.reduceMul, Int.reduceToNat, Int.reduceNeg, ↓reduceIte, ↓reduceDIte, hd2, d2, hp, r2, ho]
          refine CT_val (dto_ev (y := ⟨xr.a, xr.s, 0, yv, 2, yp, yd, told, yt, ytr, yc, yrt⟩)) ?_
          simp -dsimp only [go_sem, Nat.reduceEqDiff, Nat.reduceAdd, Nat.reduceSub, Nat.reduceMul, Nat.reduceLeDiff, Nat.reduceLT, Nat.reduceBEq, Int.reduceLT, Int.reduceLE, Int.reduceGT, Int.reduceGE, Int.reduceEq, Int.reduceNe, Int.reduceBEq, Int.reduceBNe, Int.reduceAdd, Int.reduceSub, Int.reduceMul, Int.reduceToNat, Int.reduceNeg, ↓reduceIte, ↓reduceDIte]
          refine ⟨⟨xr.a, xr.s, 0, yv, 4, yp, yd, told, yt, ytr, yc, yrt⟩, rfl, ?_⟩
          simp only [COp.next, if_true, if_false, Int.reduceEq,hd2,hp',decide_false,Bool.or_false,hz,Bool.false_eq_true]
          constructor <;> simp <;> omega
    · have hd2 : (yd != 0#64) = true := by simp [hd]
      simp -dsimp only [go_sem, Nat.reduceEqDiff, Nat.reduceAdd, Nat.reduceSub, Nat.reduceMul, Nat.reduceLeDiff, Nat.reduceLT, Nat.reduceBEq, Int.reduceLT, Int.reduceLE, Int.reduceGT, Int.reduceGE, Int.reduceEq, Int.reduceNe, Int.reduceBEq, Int.reduceBNe, Int.reduceAdd, Int.reduceSub, Int.reduceMul, Int.reduceToNat, Int.reduceNeg, ↓reduceIte, ↓reduceDIte, hd2]
      refine CT_val (dto_ev (y := ⟨xr.a, xr.s, 0, yv, 2, yp, yd, told, yt, ytr, yc, yrt⟩)) ?_
      simp -dsimp only [go_sem, Nat.reduceEqDiff, Nat.reduceAdd, Nat.reduceSub, Nat.reduceMul, Nat.reduceLeDiff, Nat.reduceLT, Nat.reduceBEq, Int.reduceLT, Int.reduceLE, Int.reduceGT, Int.reduceGE, Int.reduceEq, Int.reduceNe, Int.reduceBEq, Int.reduceBNe, Int.reduceAdd, Int.reduceSub, Int.reduceMul, Int.reduceToNat, Int.reduceNeg, ↓reduceIte, ↓reduceDIte]
      refine ⟨⟨xr.a, xr.s, 0, yv, 5, yp, yd, told, yt, ytr, yc, yrt⟩, rfl, ?_⟩
      simp only [COp.next, if_true, if_false, Int.reduceEq,hd2,Bool.true_or]
      constructor <;> simp <;> omega
  · have hd := q10 (by decide)
    subst hd
    by_cases hp : told ≤ yp
    · simp -dsimp only [go_sem, Nat.reduceEqDiff, Nat.reduceAdd, Nat.reduceSub, Nat.reduceMul, Nat.reduceLeDiff, Nat.reduceLT, Nat.reduceBEq, Int.reduceLT, Int.reduceLE, Int.reduceGT, Int.reduceGE, Int.reduceEq, Int.reduceNe, Int.reduceBEq, Int.reduceBNe, Int.reduceAdd, Int.reduceSub, Int.reduceMul, Int.reduceToNat, Int.reduceNeg, ↓reduceIte, ↓reduceDIte, hp]
      refine CT_val (dto_ev (y := ⟨xr.a, xr.s, 0, yv, 3, yp, yd, yst, yt, ytr, yc, yrt⟩)) ?_
      simp -dsimp only [go_sem, Nat.reduceEqDiff, Nat.reduceAdd, Nat.reduceSub, Nat.reduceMul, Nat.reduceLeDiff, Nat.reduceLT, Nat.reduceBEq, Int.reduceLT, Int.reduceLE, Int.reduceGT, Int.reduceGE, Int.reduceEq, Int.reduceNe, Int.reduceBEq, Int.reduceBNe, Int.reduceAdd, Int.reduceSub, Int.reduceMul, Int.reduceToNat, Int.reduceNeg, ↓reduceIte, ↓reduceDIte]
      refine ⟨⟨xr.a, xr.s, 0, yv, 4, yp, yd, yst, yt, ytr, yc, yrt⟩, rfl, ?_⟩
      simp only [COp.next, if_true, if_false, Int.reduceEq,hp]
      constructor <;> simp <;> omega
    · simp -dsimp only [go_sem, Nat.reduceEqDiff, Nat.reduceAdd, Nat.reduceSub, Nat.reduceMul, Nat.reduceLeDiff, Nat.reduceLT, Nat.reduceBEq, Int.reduceLT, Int.reduceLE, Int.reduceGT, Int.reduceGE, Int.reduceEq, Int.reduceNe, Int.reduceBEq, Int.reduceBNe, Int.reduceAdd, Int.reduceSub, Int.reduceMul, Int.reduceToNat, Int.reduceNeg, ↓reduceIte, ↓reduceDIte, hp]
      refine CT_val (dto_ev (y := ⟨xr.a, xr.s, 0, yv, 3, yp, yd, yst, yt, ytr, yc, yrt⟩)) ?_
      simp -dsimp only [go_sem, Nat.reduceEqDiff, Nat.reduceAdd, Nat.reduceSub, Nat.reduceMul, Nat.reduceLeDiff, Nat.reduceLT, Nat.reduceBEq, Int.reduceLT, Int.reduceLE, Int.reduceGT, Int.reduceGE, Int.reduceEq, Int.reduceNe, Int.reduceBEq, Int.reduceBNe, Int.reduceAdd, Int.reduceSub, Int.reduceMul, Int.reduceToNat, Int.reduceNeg, ↓reduceIte, ↓reduceDIte]
      refine ⟨⟨xr.a, xr.s, 0, yv, 5, yp, yd, yst, yt, ytr, yc, yrt⟩, rfl, ?_⟩
      simp only [COp.next, if_true, if_false, Int.reduceEq,hp]
      constructor <;> simp <;> omega
  · have hd := q10 (by decide)
    subst hd
    cases ok
    · simp -dsimp only [go_sem, Nat.reduceEqDiff, Nat.reduceAdd, Nat.reduceSub, Nat.reduceMul, Nat.reduceLeDiff, Nat.reduceLT, Nat.reduceBEq, Int.reduceLT, Int.reduceLE, Int.reduceGT, Int.reduceGE, Int.reduceEq, Int.reduceNe, Int.reduceBEq, Int.reduceBNe, Int.reduceAdd, Int.reduceSub, Int.reduceMul, Int.reduceToNat, Int.reduceNeg, ↓reduceIte, ↓reduceDIte]
      refine CT_val (dto_ev (y := ⟨xr.a, xr.s, 0, yv, 4, yp, yd, yst, yt, ytr, yc, yrt⟩)) ?_
      simp -dsimp only [go_sem, Nat.reduceEqDiff, Nat.reduceAdd, Nat.reduceSub, Nat.reduceMul, Nat.reduceLeDiff, Nat.reduceLT, Nat.reduceBEq, Int.reduceLT, Int.reduceLE, Int.reduceGT, Int.reduceGE, Int.reduceEq, Int.reduceNe, Int.reduceBEq, Int.reduceBNe, Int.reduceAdd, Int.reduceSub, Int.reduceMul, Int.reduceToNat, Int.reduceNeg, ↓reduceIte, ↓reduceDIte]
      refine ⟨⟨xr.a, xr.s, 0, yv, 5, yp, yd, yst, yt, ytr, yc, yrt⟩, rfl, ?_⟩
      simp only [COp.next, if_true, if_false, Int.reduceEq,Bool.false_eq_true]
      constructor <;> simp <;> omega
    · simp -dsimp only [go_sem, Nat.reduceEqDiff, Nat.reduceAdd, Nat.reduceSub, Nat.reduceMul, Nat.reduceLeDiff, Nat.reduceLT, Nat.reduceBEq, Int.reduceLT, Int.reduceLE, Int.reduceGT, Int.reduceGE, Int.reduceEq, Int.reduceNe, Int.reduceBEq, Int.reduceBNe, Int.reduceAdd, Int.reduceSub, Int.reduceMul, Int.reduceToNat, Int.reduceNeg, ↓reduceIte, ↓reduceDIte]
      refine CT_val (dend_ev (y := ⟨xr.a, xr.s, 0, yv, 4, yp, yd, yst, yt, ytr, yc, yrt⟩)) ?_
      simp -dsimp only [go_sem, Nat.reduceEqDiff, Nat.reduceAdd, Nat.reduceSub, Nat.reduceMul, Nat.reduceLeDiff, Nat.reduceLT, Nat.reduceBEq, Int.reduceLT, Int.reduceLE, Int.reduceGT, Int.reduceGE, Int.reduceEq, Int.reduceNe, Int.reduceBEq, Int.reduceBNe, Int.reduceAdd, Int.reduceSub, Int.reduceMul, Int.reduceToNat, Int.reduceNeg, ↓reduceIte, ↓reduceDIte]
      refine ⟨⟨xr.a, xr.s, 0, yv, 9, yp, yd, yst, yt, ytr, 0, 0#64⟩, rfl, ?_⟩
      simp only [COp.next, COp.fin, if_true, if_false, Int.reduceEq]
      constructor <;> simp <;> omega
  · have hd := q10 (by decide)
    subst hd
    have t2 := t2 (by decide)
    by_cases q1 : told ≤ yp
    · by_cases q2 : BitVec.ofInt 64 xr.s ≤ yp - told
      · simp -dsimp only [go_sem, Nat.reduceEqDiff, Nat.reduceAdd, Nat.reduceSub, Nat.reduceMul, Nat.reduceLeDiff, Nat.reduceLT, Nat.reduceBEq, Int.reduceLT, Int.reduceLE, Int.reduceGT, Int.reduceGE, Int.reduceEq, Int.reduceNe, Int.reduceBEq, Int.reduceBNe, Int.reduceAdd, Int.reduceSub, Int.reduceMul, Int.reduceToNat, Int.reduceNeg, ↓reduceIte, ↓reduceDIte, wt, q1, q2]
        refine CT_val (dto_ev (y := ⟨xr.a, xr.s, 0, yv, 5, yp, yd, yst, yt, (ytr + 1), yc, yrt⟩)) ?_
        simp -dsimp only [go_sem, Nat.reduceEqDiff, Nat.reduceAdd, Nat.reduceSub, Nat.reduceMul, Nat.reduceLeDiff, Nat.reduceLT, Nat.reduceBEq, Int.reduceLT, Int.reduceLE, Int.reduceGT, Int.reduceGE, Int.reduceEq, Int.reduceNe, Int.reduceBEq, Int.reduceBNe, Int.reduceAdd, Int.reduceSub, Int.reduceMul, Int.reduceToNat, Int.reduceNeg, ↓reduceIte, ↓reduceDIte]
        refine ⟨⟨xr.a, xr.s, 0, yv, 6, yp, yd, yst, yt, (ytr + 1), yc, yrt⟩, rfl, ?_⟩
        simp only [COp.next, if_true, if_false, Int.reduceEq,q1,q2,and_self,true_or]
        constructor <;> simp <;> omega
      · by_cases q3 : 10 ≤ ytr + 1
        · simp -dsimp only [go_sem, Nat.reduceEqDiff, Nat.reduceAdd, Nat.reduceSub, Nat.reduceMul, Nat.reduceLeDiff, Nat.reduceLT, Nat.reduceBEq, Int.reduceLT, Int.reduceLE, Int.reduceGT, Int.reduceGE, Int.reduceEq, Int.reduceNe, Int.reduceBEq, Int.reduceBNe, Int.reduceAdd, Int.reduceSub, Int.reduceMul, Int.reduceToNat, Int.reduceNeg, ↓reduceIte, ↓reduceDIte, wt, q1, q2, q3]
          refine CT_val (dto_ev (y := ⟨xr.a, xr.s, 0, yv, 5, yp, yd, yst, yt, (ytr + 1), yc, yrt⟩)) ?_
          simp -dsimp only [go_sem, Nat.reduceEqDiff, Nat.reduceAdd, Nat.reduceSub, Nat.reduceMul, Nat.reduceLeDiff, Nat.reduceLT, Nat.reduceBEq, Int.reduceLT, Int.reduceLE, Int.reduceGT, Int.reduceGE, Int.reduceEq, Int.reduceNe, Int.reduceBEq, Int.reduceBNe, Int.reduceAdd, Int.reduceSub, Int.reduceMul, Int.reduceToNat, Int.reduceNeg, ↓reduceIte, ↓reduceDIte]
          refine ⟨⟨xr.a, xr.s, 0, yv, 6, yp, yd, yst, yt, (ytr + 1), yc, yrt⟩, rfl, ?_⟩
          simp only [COp.next, if_true, if_false, Int.reduceEq,q1,q2,q3,or_true]
          constructor <;> simp <;> omega
        · simp -dsimp only [go_sem, Nat.reduceEqDiff, Nat.reduceAdd, Nat.reduceSub, Nat.reduceMul, Nat.reduceLeDiff, Nat.reduceLT, Nat.reduceBEq, Int.reduceLT, Int.reduceLE, Int.reduceGT, Int.reduceGE, Int.reduceEq, Int.reduceNe, Int.reduceBEq, Int.reduceBNe, Int.reduceAdd, Int.reduceSub, Int.reduceMul, Int.reduceToNat, Int.reduceNeg, ↓reduceIte, ↓reduceDIte, wt, q1, q2, q3]
          refine CT_val (dto_ev (y := ⟨xr.a, xr.s, 0, yv, 5, yp, yd, yst, yt, (ytr + 1), yc, yrt⟩)) ?_
          simp -dsimp only [go_sem, Nat.reduceEqDiff, Nat.reduceAdd, Nat.reduceSub, Nat.reduceMul, Nat.reduceLeDiff, Nat.reduceLT, Nat.reduceBEq, Int.reduceLT, Int.reduceLE, Int.reduceGT, Int.reduceGE, Int.reduceEq, Int.reduceNe, Int.reduceBEq, Int.reduceBNe, Int.reduceAdd, Int.reduceSub, Int.reduceMul, Int.reduceToNat, Int.reduceNeg, ↓reduceIte, ↓reduceDIte]
          refine ⟨⟨xr.a, xr.s, 0, yv, 0, yp, yd, yst, yt, (ytr + 1), yc, yrt⟩, rfl, ?_⟩
          simp only [COp.next, if_true, if_false, Int.reduceEq,q1,q2,q3,or_self,and_false]
          constructor <;> simp <;> omega
    · by_cases q3 : 10 ≤ ytr + 1
      · simp -dsimp only [go_sem, Nat.reduceEqDiff, Nat.reduceAdd, Nat.reduceSub, Nat.reduceMul, Nat.reduceLeDiff, Nat.reduceLT, Nat.reduceBEq, Int.reduceLT, Int.reduceLE, Int.reduceGT, Int.reduceGE, Int.reduceEq, Int.reduceNe, Int.reduceBEq, Int.reduceBNe, Int.reduceAdd, Int.reduceSub, Int.reduceMul, Int.reduceToNat, Int.reduceNeg, ↓reduceIte, ↓reduceDIte, wt, q1, q3]
        refine CT_val (dto_ev (y := ⟨xr.a, xr.s, 0, yv, 5, yp, yd, yst, yt, (ytr + 1), yc, yrt⟩)) ?_
        simp -dsimp only [go_sem, Nat.reduceEqDiff, Nat.reduceAdd, Nat.reduceSub, Nat.reduceMul, Nat.reduceLeDiff, Nat.reduceLT, Nat.reduceBEq, Int.reduceLT, Int.reduceLE, Int.reduceGT, Int.reduceGE, Int.reduceEq, Int.reduceNe, Int.reduceBEq, Int.reduceBNe, Int.reduceAdd, Int.reduceSub, Int.reduceMul, Int.reduceToNat, Int.reduceNeg, ↓reduceIte, ↓reduceDIte]
        refine ⟨⟨xr.a, xr.s, 0, yv, 6, yp, yd, yst, yt, (ytr + 1), yc, yrt⟩, rfl, ?_⟩
        simp only [COp.next, if_true, if_false, Int.reduceEq,q1,q3,or_true]
        constructor <;> simp <;> omega
      · simp -dsimp only [go_sem, Nat.reduceEqDiff, Nat.reduceAdd, Nat.reduceSub, Nat.reduceMul, Nat.reduceLeDiff, Nat.reduceLT, Nat.reduceBEq, Int.reduceLT, Int.reduceLE, Int.reduceGT, Int.reduceGE, Int.reduceEq, Int.reduceNe, Int.reduceBEq, Int.reduceBNe, Int.reduceAdd, Int.reduceSub, Int.reduceMul, Int.reduceToNat, Int.reduceNeg, ↓reduceIte, ↓reduceDIte, wt, q1, q3]
        refine CT_val (dto_ev (y := ⟨xr.a, xr.s, 0, yv, 5, yp, yd, yst, yt, (ytr + 1), yc, yrt⟩)) ?_
        simp -dsimp only [go_sem, Nat.reduceEqDiff, Nat.reduceAdd, Nat.reduceSub, Nat.reduceMul, Nat.reduceLeDiff, Nat.reduceLT, Nat.reduceBEq, Int.reduceLT, Int.reduceLE, Int.reduceGT, Int.reduceGE, Int.reduceEq, Int.reduceNe, Int.reduceBEq, Int.reduceBNe, Int.reduceAdd, Int.reduceSub, Int.reduceMul, Int.reduceToNat, Int.reduceNeg, ↓reduceIte, ↓reduceDIte]
        refine ⟨⟨xr.a, xr.s, 0, yv, 0, yp, yd, yst, yt, (ytr + 1), yc, yrt⟩, rfl, ?_⟩
        simp only [COp.next, if_true, if_false, Int.reduceEq,q1,q3,or_self,false_and]
        constructor <;> simp <;> omega
  · simp -dsimp only [go_sem, Nat.reduceEqDiff, Nat.reduceAdd, Nat.reduceSub, Nat.reduceMul, Nat.reduceLeDiff, Nat.reduceLT, Nat.reduceBEq, Int.reduceLT, Int.reduceLE, Int.reduceGT, Int.reduceGE, Int.reduceEq, Int.reduceNe, Int.reduceBEq, Int.reduceBNe, Int.reduceAdd, Int.reduceSub, Int.reduceMul, Int.reduceToNat, Int.reduceNeg, ↓reduceIte, ↓reduceDIte]
    refine CT_val (dend_ev (y := ⟨xr.a, xr.s, 0, yv, 6, yp, yd, yst, yt, ytr, yc, yrt⟩)) ?_
    simp -dsimp only [go_sem, Nat.reduceEqDiff, Nat.reduceAdd, Nat.reduceSub, Nat.reduceMul, Nat.reduceLeDiff, Nat.reduceLT, Nat.reduceBEq, Int.reduceLT, Int.reduceLE, Int.reduceGT, Int.reduceGE, Int.reduceEq, Int.reduceNe, Int.reduceBEq, Int.reduceBNe, Int.reduceAdd, Int.reduceSub, Int.reduceMul, Int.reduceToNat, Int.reduceNeg, ↓reduceIte, ↓reduceDIte]
    refine ⟨⟨xr.a, xr.s, 0, yv, 9, yp, yd, yst, yt, ytr, 16, 0#64⟩, rfl, ?_⟩
    simp only [COp.next, COp.fin, if_true, if_false, Int.reduceEq]
    constructor <;> simp <;> omega
theorem dtake_ev {told : BitVec 64} {ok : Bool} (h : Rel x y) (h9 : x.at_ ≠ 9) (hk : x.kind = 1) : callE T 46 lim [y.dv, w64 told, .bool ok] H fun v H' => ∃ y', v = DOp.dv y' ∧ Rel (x.next told ok) y' ∧ H' = H := by
  refine callE_pop rfl (by simp) rfl ?_
  obtain ⟨q1, q2, q3, q4, q5, q6, q7, q8, q9, q10, q11, q12, q13⟩ := h
  obtain ⟨xr, xk, xv, xa, xp, xd, xs, xtl, xhd, xt, xc, xrt⟩ := x
  obtain ⟨ya, ys, yk, yv, ypc, yp, yd, yst, yt, ytr, yc, yrt⟩ := y
  simp only at q1 q2 q3 q4 q5 q6 q7 q8 q9 q10 q11 q12 q13 h9 hk
  obtain ⟨rfl, rfl⟩ := q8 h9
  obtain ⟨rfl, t0, t1, t2⟩ := q9
  subst q1 q2 q3 q5 q6 hk
  have r2 : ∀ z, lbin .rem (w64 z) (w64 2#64) = some (w64 (z % 2#64)) := fun z => lbin_rem _ _ (by decide)
  have d2 : ∀ z, lbin .quo (w64 z) (w64 2#64) = some (w64 (z / 2#64)) := fun z => lbin_quo _ _ (by decide)
  have rc : ∀ z, lbin .rem (w64 z) (w64 clo) = some (w64 (z % clo)) := fun z => lbin_rem _ _ (by decide)
  have hx : ypc = 0 ∨ ypc = 1 ∨ ypc = 2 ∨ ypc = 3 ∨ ypc = 5 ∨ ypc = 6 ∨ ypc = 7 ∨ ypc = 8 := by omega
  rcases hx with rfl | rfl | rfl | rfl | rfl | rfl | rfl | rfl
  · have hd := q10 (by decide)
    subst hd
    simp -dsimp only [go_sem, Nat.reduceEqDiff, Nat.reduceAdd, Nat.reduceSub, Nat.reduceMul, Nat.reduceLeDiff, Nat.reduceLT, Nat.reduceBEq, Int.reduceLT, Int.reduceLE, Int.reduceGT, Int.reduceGE, Int.reduceEq, Int.reduceNe, Int.reduceBEq, Int.reduceBNe, Int.reduceAdd, Int.reduceSub, Int.reduceMul, Int.reduceToNat, Int.reduceNeg, ↓reduceIte, ↓reduceDIte]
    refine CT_val (dto_ev (y := ⟨xr.a, xr.s, 1, yv, 0, told, yd, yst, yt, ytr, yc, yrt⟩)) ?_
    simp -dsimp only [go_sem, Nat.reduceEqDiff, Nat.reduceAdd, Nat.reduceSub, Nat.reduceMul, Nat.reduceLeDiff, Nat.reduceLT, Nat.reduceBEq, Int.reduceLT, Int.reduceLE, Int.reduceGT, Int.reduceGE, Int.reduceEq, Int.reduceNe, Int.reduceBEq, Int.reduceBNe, Int.reduceAdd, Int.reduceSub, Int.reduceMul, Int.reduceToNat, Int.reduceNeg, ↓reduceIte, ↓reduceDIte]
    refine ⟨⟨xr.a, xr.s, 1, yv, 1, told, yd, yst, yt, ytr, yc, yrt⟩, rfl, ?_⟩
    simp only [COp.next, if_true, if_false, Int.reduceEq]
    constructor <;> simp <;> omega
  · simp -dsimp only [go_sem, Nat.reduceEqDiff, Nat.reduceAdd, Nat.reduceSub, Nat.reduceMul, Nat.reduceLeDiff, Nat.reduceLT, Nat.reduceBEq, Int.reduceLT, Int.reduceLE, Int.reduceGT, Int.reduceGE, Int.reduceEq, Int.reduceNe, Int.reduceBEq, Int.reduceBNe, Int.reduceAdd, Int.reduceSub, Int.reduceMul, Int.reduceToNat, Int.reduceNeg, ↓reduceIte, ↓reduceDIte]
    refine CT_val (dto_ev (y := ⟨xr.a, xr.s, 1, yv, 1, yp, told, yst, yt, ytr, yc, yrt⟩)) ?_
    simp -dsimp only [go_sem, Nat.reduceEqDiff, Nat.reduceAdd, Nat.reduceSub, Nat.reduceMul, Nat.reduceLeDiff, Nat.reduceLT, Nat.reduceBEq, Int.reduceLT, Int.reduceLE, Int.reduceGT, Int.reduceGE, Int.reduceEq, Int.reduceNe, Int.reduceBEq, Int.reduceBNe, Int.reduceAdd, Int.reduceSub, Int.reduceMul, Int.reduceToNat, Int.reduceNeg, ↓reduceIte, ↓reduceDIte]
    refine ⟨⟨xr.a, xr.s, 1, yv, 2, yp, told, yst, yt, ytr, yc, yrt⟩, rfl, ?_⟩
    simp only [COp.next, if_true, if_false, Int.reduceEq]
    constructor <;> simp <;> omega
  · have hd := q10 (by decide)
    subst hd
    by_cases hp : yp < told / 2#64
    · have hp' : yp < poW told := by rw [po_lit]; exact hp
      simp -dsimp only [go_sem, Nat.reduceEqDiff, Nat.reduceAdd, Nat.reduceSub, Nat.reduceMul, Nat.reduceLeDiff, Nat.reduceLT, Nat.reduceBEq, Int.reduceLT, Int.reduceLE, Int.reduceGT, Int.reduceGE, Int.reduceEq, Int.reduceNe, Int.reduceBEq, Int.reduceBNe, Int.reduceAdd, Int.reduceSub, Int.reduceMul, Int.reduceToNat, Int.reduceNeg, ↓reduceIte, ↓reduceDIte, d2, hp]
      refine CT_val (dto_ev (y := ⟨xr.a, xr.s, 1, yv, 2, yp, yd, told, yt, ytr, yc, yrt⟩)) ?_
      simp -dsimp only [go_sem, Nat.reduceEqDiff, Nat.reduceAdd, Nat.reduceSub, Nat.reduceMul, Nat.reduceLeDiff, Nat.reduceLT, Nat.reduceBEq, Int.reduceLT, Int.reduceLE, Int.reduceGT, Int.reduceGE, Int.reduceEq, Int.reduceNe, Int.reduceBEq, Int.reduceBNe, Int.reduceAdd, Int.reduceSub, Int.reduceMul, Int.reduceToNat, Int.reduceNeg, ↓reduceIte, ↓reduceDIte]
      refine ⟨⟨xr.a, xr.s, 1, yv, 5, yp, yd, told, yt, ytr, yc, yrt⟩, rfl, ?_⟩
      simp only [COp.next, if_true, if_false, Int.reduceEq,hp']
      constructor <;> simp <;> omega
    · have hp' : ¬ yp < poW told := by rw [po_lit]; exact hp
      simp -dsimp only [go_sem, Nat.reduceEqDiff, Nat.reduceAdd, Nat.reduceSub, Nat.reduceMul, Nat.reduceLeDiff, Nat.reduceLT, Nat.reduceBEq, Int.reduceLT, Int.reduceLE, Int.reduceGT, Int.reduceGE, Int.reduceEq, Int.reduceNe, Int.reduceBEq, Int.reduceBNe, Int.reduceAdd, Int.reduceSub, Int.reduceMul, Int.reduceToNat, Int.reduceNeg, ↓reduceIte, ↓reduceDIte, d2, hp]
      refine CT_val (dto_ev (y := ⟨xr.a, xr.s, 1, yv, 2, yp, yd, told, yt, ytr, yc, yrt⟩)) ?_
      simp -dsimp only [go_sem, Nat.reduceEqDiff, Nat.reduceAdd, Nat.reduceSub, Nat.reduceMul, Nat.reduceLeDiff, Nat.reduceLT, Nat.reduceBEq, Int.reduceLT, Int.reduceLE, Int.reduceGT, Int.reduceGE, Int.reduceEq, Int.reduceNe, Int.reduceBEq, Int.reduceBNe, Int.reduceAdd, Int.reduceSub, Int.reduceMul, Int.reduceToNat, Int.reduceNeg, ↓reduceIte, ↓reduceDIte]
      refine ⟨⟨xr.a, xr.s, 1, yv, 3, yp, yd, told, yt, ytr, yc, yrt⟩, rfl, ?_⟩
      simp only [COp.next, if_true, if_false, Int.reduceEq,hp']
      constructor <;> simp <;> omega
  · have hd := q10 (by decide)
    subst hd
    cases ok
    · simp -dsimp only [go_sem, Nat.reduceEqDiff, Nat.reduceAdd, Nat.reduceSub, Nat.reduceMul, Nat.reduceLeDiff, Nat.reduceLT, Nat.reduceBEq, Int.reduceLT, Int.reduceLE, Int.reduceGT, Int.reduceGE, Int.reduceEq, Int.reduceNe, Int.reduceBEq, Int.reduceBNe, Int.reduceAdd, Int.reduceSub, Int.reduceMul, Int.reduceToNat, Int.reduceNeg, ↓reduceIte, ↓reduceDIte]
      refine CT_val (dto_ev (y := ⟨xr.a, xr.s, 1, yv, 3, yp, yd, yst, yt, ytr, yc, yrt⟩)) ?_
      simp -dsimp only [go_sem, Nat.reduceEqDiff, Nat.reduceAdd, Nat.reduceSub, Nat.reduceMul, Nat.reduceLeDiff, Nat.reduceLT, Nat.reduceBEq, Int.reduceLT, Int.reduceLE, Int.reduceGT, Int.reduceGE, Int.reduceEq, Int.reduceNe, Int.reduceBEq, Int.reduceBNe, Int.reduceAdd, Int.reduceSub, Int.reduceMul, Int.reduceToNat, Int.reduceNeg, ↓reduceIte, ↓reduceDIte]
      refine ⟨⟨xr.a, xr.s, 1, yv, 1, yp, yd, yst, yt, ytr, yc, yrt⟩, rfl, ?_⟩
      simp only [COp.next, if_true, if_false, Int.reduceEq,Bool.false_eq_true]
      constructor <;> simp <;> omega
    · cases hd1 : (yd != 0#64)
      · simp -dsimp only [go_sem, Nat.reduceEqDiff, Nat.reduceAdd, Nat.reduceSub, Nat.reduceMul, Nat.reduceLeDiff, Nat.reduceLT, Nat.reduceBEq, Int.reduceLT, Int.reduceLE, Int.reduceGT, Int.reduceGE, Int.reduceEq, Int.reduceNe, Int.reduceBEq, Int.reduceBNe, Int.reduceAdd, Int.reduceSub, Int.reduceMul, Int.reduceToNat, Int.reduceNeg, ↓reduceIte, ↓reduceDIte, hd1]
        refine CT_val (dto_ev (y := ⟨xr.a, xr.s, 1, yv, 3, yp, yd, yst, yt, ytr, yc, yrt⟩)) ?_
        simp -dsimp only [go_sem, Nat.reduceEqDiff, Nat.reduceAdd, Nat.reduceSub, Nat.reduceMul, Nat.reduceLeDiff, Nat.reduceLT, Nat.reduceBEq, Int.reduceLT, Int.reduceLE, Int.reduceGT, Int.reduceGE, Int.reduceEq, Int.reduceNe, Int.reduceBEq, Int.reduceBNe, Int.reduceAdd, Int.reduceSub, Int.reduceMul, Int.reduceToNat, Int.reduceNeg, ↓reduceIte, ↓reduceDIte]
        refine ⟨⟨xr.a, xr.s, 1, yv, 5, yp, yd, yst, yt, ytr, yc, yrt⟩, rfl, ?_⟩
        simp only [COp.next, if_true, if_false, Int.reduceEq,COp.own,hd1,Bool.false_and,Bool.false_eq_true]
        constructor <;> simp <;> omega
      · cases hp : (yst / 2#64 == yp)
        · simp -dsimp only [go_sem, Nat.reduceEqDiff, Nat.reduceAdd, Nat.reduceSub, Nat.reduceMul, Nat.reduceLeDiff, Nat.reduceLT, Nat.reduceBEq, Int.reduceLT, Int.reduceLE, Int.reduceGT, Int.reduceGE, Int.reduceEq, Int.reduceNe, Int.reduceBEq, Int.reduceBNe, Int.reduceAdd, Int.reduceSub, Int.reduceMul, Int.reduceToNat, Int.reduceNeg, ↓reduceIte, ↓reduceDIte, hd1, d2, hp]
          refine CT_val (dto_ev (y := ⟨xr.a, xr.s, 1, yv, 3, yp, yd, yst, yt, ytr, yc, yrt⟩)) ?_
          simp -dsimp only [go_sem, Nat.reduceEqDiff, Nat.reduceAdd, Nat.reduceSub, Nat.reduceMul, Nat.reduceLeDiff, Nat.reduceLT, Nat.reduceBEq, Int.reduceLT, Int.reduceLE, Int.reduceGT, Int.reduceGE, Int.reduceEq, Int.reduceNe, Int.reduceBEq, Int.reduceBNe, Int.reduceAdd, Int.reduceSub, Int.reduceMul, Int.reduceToNat, Int.reduceNeg, ↓reduceIte, ↓reduceDIte]
          refine ⟨⟨xr.a, xr.s, 1, yv, 5, yp, yd, yst, yt, ytr, yc, yrt⟩, rfl, ?_⟩
          simp only [COp.next, if_true, if_false, Int.reduceEq,COp.own,hd1,po_lit,hp,Bool.true_and,Bool.false_eq_true]
          constructor <;> simp <;> omega
        · simp -dsimp only [go_sem, Nat.reduceEqDiff, Nat.reduceAdd, Nat.reduceSub, Nat.reduceMul, Nat.reduceLeDiff, Nat.reduceLT, Nat.reduceBEq, Int.reduceLT, Int.reduceLE, Int.reduceGT, Int.reduceGE, Int.reduceEq, Int.reduceNe, Int.reduceBEq, Int.reduceBNe, Int.reduceAdd, Int.reduceSub, Int.reduceMul, Int.reduceToNat, Int.reduceNeg, ↓reduceIte, ↓reduceDIte, hd1, d2, hp]
          refine CT_val (dend_ev (y := ⟨xr.a, xr.s, 1, yv, 3, yp, yd, yst, yt, ytr, yc, yrt⟩)) ?_
          simp -dsimp only [go_sem, Nat.reduceEqDiff, Nat.reduceAdd, Nat.reduceSub, Nat.reduceMul, Nat.reduceLeDiff, Nat.reduceLT, Nat.reduceBEq, Int.reduceLT, Int.reduceLE, Int.reduceGT, Int.reduceGE, Int.reduceEq, Int.reduceNe, Int.reduceBEq, Int.reduceBNe, Int.reduceAdd, Int.reduceSub, Int.reduceMul, Int.reduceToNat, Int.reduceNeg, ↓reduceIte, ↓reduceDIte]
          refine ⟨⟨xr.a, xr.s, 1, yv, 9, yp, yd, yst, yt, ytr, 0, (yd - 1#64)⟩, rfl, ?_⟩
          simp only [COp.next, COp.fin, if_true, if_false, Int.reduceEq,COp.own,hd1,po_lit,hp,Bool.true_and]
          constructor <;> simp <;> omega
  · have hd := q10 (by decide)
    subst hd
    have hm := clo_mod told
    by_cases hp : told &&& ~~~clo ≤ yp + 1#64
    · simp -dsimp only [go_sem, Nat.reduceEqDiff, Nat.reduceAdd, Nat.reduceSub, Nat.reduceMul, Nat.reduceLeDiff, Nat.reduceLT, Nat.reduceBEq, Int.reduceLT, Int.reduceLE, Int.reduceGT, Int.reduceGE, Int.reduceEq, Int.reduceNe, Int.reduceBEq, Int.reduceBNe, Int.reduceAdd, Int.reduceSub, Int.reduceMul, Int.reduceToNat, Int.reduceNeg, ↓reduceIte, ↓reduceDIte, rc, hm, hp]
      refine CT_val (dto_ev (y := ⟨xr.a, xr.s, 1, yv, 5, yp, yd, yst, yt, ytr, yc, yrt⟩)) ?_
      simp -dsimp only [go_sem, Nat.reduceEqDiff, Nat.reduceAdd, Nat.reduceSub, Nat.reduceMul, Nat.reduceLeDiff, Nat.reduceLT, Nat.reduceBEq, Int.reduceLT, Int.reduceLE, Int.reduceGT, Int.reduceGE, Int.reduceEq, Int.reduceNe, Int.reduceBEq, Int.reduceBNe, Int.reduceAdd, Int.reduceSub, Int.reduceMul, Int.reduceToNat, Int.reduceNeg, ↓reduceIte, ↓reduceDIte]
      refine ⟨⟨xr.a, xr.s, 1, yv, 6, yp, yd, yst, yt, ytr, yc, yrt⟩, rfl, ?_⟩
      simp only [COp.next, if_true, if_false, Int.reduceEq,hp]
      constructor <;> simp <;> omega
    · simp -dsimp only [go_sem, Nat.reduceEqDiff, Nat.reduceAdd, Nat.reduceSub, Nat.reduceMul, Nat.reduceLeDiff, Nat.reduceLT, Nat.reduceBEq, Int.reduceLT, Int.reduceLE, Int.reduceGT, Int.reduceGE, Int.reduceEq, Int.reduceNe, Int.reduceBEq, Int.reduceBNe, Int.reduceAdd, Int.reduceSub, Int.reduceMul, Int.reduceToNat, Int.reduceNeg, ↓reduceIte, ↓reduceDIte, rc, hm, hp]
      refine CT_val (dto_ev (y := ⟨xr.a, xr.s, 1, yv, 5, yp, yd, yst, yt, ytr, yc, yrt⟩)) ?_
      simp -dsimp only [go_sem, Nat.reduceEqDiff, Nat.reduceAdd, Nat.reduceSub, Nat.reduceMul, Nat.reduceLeDiff, Nat.reduceLT, Nat.reduceBEq, Int.reduceLT, Int.reduceLE, Int.reduceGT, Int.reduceGE, Int.reduceEq, Int.reduceNe, Int.reduceBEq, Int.reduceBNe, Int.reduceAdd, Int.reduceSub, Int.reduceMul, Int.reduceToNat, Int.reduceNeg, ↓reduceIte, ↓reduceDIte]
      refine ⟨⟨xr.a, xr.s, 1, yv, 0, yp, yd, yst, yt, ytr, yc, yrt⟩, rfl, ?_⟩
      simp only [COp.next, if_true, if_false, Int.reduceEq,hp]
      constructor <;> simp <;> omega
  · simp -dsimp only [go_sem, Nat.reduceEqDiff, Nat.reduceAdd, Nat.reduceSub, Nat.reduceMul, Nat.reduceLeDiff, Nat.reduceLT, Nat.reduceBEq, Int.reduceLT, Int.reduceLE, Int.reduceGT, Int.reduceGE, Int.reduceEq, Int.reduceNe, Int.reduceBEq, Int.reduceBNe, Int.reduceAdd, Int.reduceSub, Int.reduceMul, Int.reduceToNat, Int.reduceNeg, ↓reduceIte, ↓reduceDIte]
    refine CT_val (dto_ev (y := ⟨xr.a, xr.s, 1, yv, 6, yp, yd, yst, told, ytr, yc, yrt⟩)) ?_
    simp -dsimp only [go_sem, Nat.reduceEqDiff, Nat.reduceAdd, Nat.reduceSub, Nat.reduceMul, Nat.reduceLeDiff, Nat.reduceLT, Nat.reduceBEq, Int.reduceLT, Int.reduceLE, Int.reduceGT, Int.reduceGE, Int.reduceEq, Int.reduceNe, Int.reduceBEq, Int.reduceBNe, Int.reduceAdd, Int.reduceSub, Int.reduceMul, Int.reduceToNat, Int.reduceNeg, ↓reduceIte, ↓reduceDIte]
    refine ⟨⟨xr.a, xr.s, 1, yv, 7, yp, yd, yst, told, ytr, yc, yrt⟩, rfl, ?_⟩
    simp only [COp.next, if_true, if_false, Int.reduceEq]
    constructor <;> simp <;> omega
  · have ht := q11 (.inl rfl)
    subst ht
    have hm := clo_mod yt
    by_cases hp : told ≤ yt &&& ~~~clo
    · have hp' : ¬ yt &&& ~~~clo < told := by rw [BitVec.lt_def]; rw [BitVec.le_def] at hp; omega
      simp -dsimp only [go_sem, Nat.reduceEqDiff, Nat.reduceAdd, Nat.reduceSub, Nat.reduceMul, Nat.reduceLeDiff, Nat.reduceLT, Nat.reduceBEq, Int.reduceLT, Int.reduceLE, Int.reduceGT, Int.reduceGE, Int.reduceEq, Int.reduceNe, Int.reduceBEq, Int.reduceBNe, Int.reduceAdd, Int.reduceSub, Int.reduceMul, Int.reduceToNat, Int.reduceNeg, ↓reduceIte, ↓reduceDIte, rc, hm, hp']
      refine CT_val (dend_ev (y := ⟨xr.a, xr.s, 1, yv, 7, yp, told, yst, yt, ytr, yc, yrt⟩)) ?_
      simp -dsimp only [go_sem, Nat.reduceEqDiff, Nat.reduceAdd, Nat.reduceSub, Nat.reduceMul, Nat.reduceLeDiff, Nat.reduceLT, Nat.reduceBEq, Int.reduceLT, Int.reduceLE, Int.reduceGT, Int.reduceGE, Int.reduceEq, Int.reduceNe, Int.reduceBEq, Int.reduceBNe, Int.reduceAdd, Int.reduceSub, Int.reduceMul, Int.reduceToNat, Int.reduceNeg, ↓reduceIte, ↓reduceDIte]
      refine ⟨⟨xr.a, xr.s, 1, yv, 9, yp, told, yst, yt, ytr, 13, 0#64⟩, rfl, ?_⟩
      simp only [COp.next, COp.fin, if_true, if_false, Int.reduceEq,hp]
      constructor <;> simp <;> omega
    · have hp' : yt &&& ~~~clo < told := by rw [BitVec.lt_def]; rw [BitVec.le_def] at hp; omega
      simp -dsimp only [go_sem, Nat.reduceEqDiff, Nat.reduceAdd, Nat.reduceSub, Nat.reduceMul, Nat.reduceLeDiff, Nat.reduceLT, Nat.reduceBEq, Int.reduceLT, Int.reduceLE, Int.reduceGT, Int.reduceGE, Int.reduceEq, Int.reduceNe, Int.reduceBEq, Int.reduceBNe, Int.reduceAdd, Int.reduceSub, Int.reduceMul, Int.reduceToNat, Int.reduceNeg, ↓reduceIte, ↓reduceDIte, rc, hm, hp']
      refine CT_val (dto_ev (y := ⟨xr.a, xr.s, 1, yv, 7, yp, told, yst, yt, ytr, yc, yrt⟩)) ?_
      simp -dsimp only [go_sem, Nat.reduceEqDiff, Nat.reduceAdd, Nat.reduceSub, Nat.reduceMul, Nat.reduceLeDiff, Nat.reduceLT, Nat.reduceBEq, Int.reduceLT, Int.reduceLE, Int.reduceGT, Int.reduceGE, Int.reduceEq, Int.reduceNe, Int.reduceBEq, Int.reduceBNe, Int.reduceAdd, Int.reduceSub, Int.reduceMul, Int.reduceToNat, Int.reduceNeg, ↓reduceIte, ↓reduceDIte]
      refine ⟨⟨xr.a, xr.s, 1, yv, 8, yp, told, yst, yt, ytr, yc, yrt⟩, rfl, ?_⟩
      simp only [COp.next, if_true, if_false, Int.reduceEq,hp]
      constructor <;> simp <;> omega
  · have ht := q11 (.inr rfl)
    have hh := q12 rfl
    subst ht hh
    cases ok
    · simp -dsimp only [go_sem, Nat.reduceEqDiff, Nat.reduceAdd, Nat.reduceSub, Nat.reduceMul, Nat.reduceLeDiff, Nat.reduceLT, Nat.reduceBEq, Int.reduceLT, Int.reduceLE, Int.reduceGT, Int.reduceGE, Int.reduceEq, Int.reduceNe, Int.reduceBEq, Int.reduceBNe, Int.reduceAdd, Int.reduceSub, Int.reduceMul, Int.reduceToNat, Int.reduceNeg, ↓reduceIte, ↓reduceDIte]
      refine CT_val (dto_ev (y := ⟨xr.a, xr.s, 1, yv, 8, yp, yd, yst, yt, ytr, yc, yrt⟩)) ?_
      simp -dsimp only [go_sem, Nat.reduceEqDiff, Nat.reduceAdd, Nat.reduceSub, Nat.reduceMul, Nat.reduceLeDiff, Nat.reduceLT, Nat.reduceBEq, Int.reduceLT, Int.reduceLE, Int.reduceGT, Int.reduceGE, Int.reduceEq, Int.reduceNe, Int.reduceBEq, Int.reduceBNe, Int.reduceAdd, Int.reduceSub, Int.reduceMul, Int.reduceToNat, Int.reduceNeg, ↓reduceIte, ↓reduceDIte]
      refine ⟨⟨xr.a, xr.s, 1, yv, 6, yp, yd, yst, yt, ytr, yc, yrt⟩, rfl, ?_⟩
      simp only [COp.next, if_true, if_false, Int.reduceEq,Bool.false_eq_true]
      constructor <;> simp <;> omega
    · simp -dsimp only [go_sem, Nat.reduceEqDiff, Nat.reduceAdd, Nat.reduceSub, Nat.reduceMul, Nat.reduceLeDiff, Nat.reduceLT, Nat.reduceBEq, Int.reduceLT, Int.reduceLE, Int.reduceGT, Int.reduceGE, Int.reduceEq, Int.reduceNe, Int.reduceBEq, Int.reduceBNe, Int.reduceAdd, Int.reduceSub, Int.reduceMul, Int.reduceToNat, Int.reduceNeg, ↓reduceIte, ↓reduceDIte]
      refine CT_val (dend_ev (y := ⟨xr.a, xr.s, 1, yv, 8, yp, yd, yst, yt, ytr, yc, yrt⟩)) ?_
      simp -dsimp only [go_sem, Nat.reduceEqDiff, Nat.reduceAdd, Nat.reduceSub, Nat.reduceMul, Nat.reduceLeDiff, Nat.reduceLT, Nat.reduceBEq, Int.reduceLT, Int.reduceLE, Int.reduceGT, Int.reduceGE, Int.reduceEq, Int.reduceNe, Int.reduceBEq, Int.reduceBNe, Int.reduceAdd, Int.reduceSub, Int.reduceMul, Int.reduceToNat, Int.reduceNeg, ↓reduceIte, ↓reduceDIte]
      refine ⟨⟨xr.a, xr.s, 1, yv, 9, yp, yd, yst, yt, ytr, 13, 0#64⟩, rfl, ?_⟩
      simp only [COp.next, COp.fin, if_true, if_false, Int.reduceEq]
      constructor <;> simp <;> omega
theorem dclose_rel {told : BitVec 64} {ok : Bool} (h : Rel x y) (h9 : x.at_ ≠ 9) (hk : x.kind = 2) : Rel (x.next told ok) { y with pc := 9, code := 0, ret := 0#64 } := by
  obtain ⟨q1, q2, q3, q4, q5, q6, q7, q8, q9, q10, q11, q12, q13⟩ := h
  obtain ⟨xr, xk, xv, xa, xp, xd, xs, xtl, xhd, xt, xc, xrt⟩ := x
  simp only at q1 q2 q3 q4 q5 q6 q7 q8 q9 q10 q11 q12 q13 h9 hk
  subst hk
  simp only [COp.next, COp.fin, Int.reduceEq, if_false]
  constructor <;> simp <;> omega
theorem dstep_ev (hl : lim ≤ H.length) (h : RefAt H aw ab n m) (hr : x.r.right = true) (hy : Rel x y) :
    callE T 14 lim [y.dv, refV aw ab n m] H fun v H' => ∃ y' aw' t, v = .tuple #[DOp.dv y', refV aw' ab n (x.step m).2] ∧ Rel (x.step m).1 y' ∧ H' = H ++ t ∧ Sl 1 (H ++ t) aw' ((x.step m).2.w.map w64) ∧ (aw' = aw ∨ Own 1 (H ++ t) H.length aw' ((x.step m).2.w.map w64)) := by
  refine callE_stay rfl (by simp) rfl ?_
  have hpc := hy.pc
  by_cases p9 : x.at_ = 9
  · have es : x.step m = (x, m) := by simp [COp.step, p9]
    have e9 : (9 : Int) ≤ y.pc := by omega
    rw [es]
    simp -dsimp only [go_sem, Nat.reduceEqDiff, Nat.reduceAdd, Nat.reduceSub, Nat.reduceMul, Nat.reduceLeDiff, Nat.reduceLT, Nat.reduceBEq, Int.reduceLT, Int.reduceLE, Int.reduceGT, Int.reduceGE, Int.reduceEq, Int.reduceNe, Int.reduceBEq, Int.reduceBNe, Int.reduceAdd, Int.reduceSub, Int.reduceMul, Int.reduceToNat, Int.reduceNeg, ↓reduceIte, ↓reduceDIte, hl, e9]
    exact ⟨y, aw, _, rfl, hy, rfl, h.ws.app _, .inl rfl⟩
  · have e9 : ¬ (9 : Int) ≤ y.pc := by
      have := hy.at_
      omega
    have es : x.step m = (x.next (m.step x.use.k x.use.a x.use.v0 x.use.v1 x.use.v2 x.use.v3).2.1 (m.step x.use.k x.use.a x.use.v0 x.use.v1 x.use.v2 x.use.v3).2.2, (m.step x.use.k x.use.a x.use.v0 x.use.v1 x.use.v2 x.use.v3).1) := by rw [COp.step, if_neg p9]
    rw [es]
    have hkd := hy.kind
    simp -dsimp only [go_sem, Nat.reduceEqDiff, Nat.reduceAdd, Nat.reduceSub, Nat.reduceMul, Nat.reduceLeDiff, Nat.reduceLT, Nat.reduceBEq, Int.reduceLT, Int.reduceLE, Int.reduceGT, Int.reduceGE, Int.reduceEq, Int.reduceNe, Int.reduceBEq, Int.reduceBNe, Int.reduceAdd, Int.reduceSub, Int.reduceMul, Int.reduceToNat, Int.reduceNeg, ↓reduceIte, ↓reduceDIte, hl, e9]
    refine CT_val (duse_ev hy hr p9) ?_
    simp -dsimp only [go_sem, Nat.reduceEqDiff, Nat.reduceAdd, Nat.reduceSub, Nat.reduceMul, Nat.reduceLeDiff, Nat.reduceLT, Nat.reduceBEq, Int.reduceLT, Int.reduceLE, Int.reduceGT, Int.reduceGE, Int.reduceEq, Int.reduceNe, Int.reduceBEq, Int.reduceBNe, Int.reduceAdd, Int.reduceSub, Int.reduceMul, Int.reduceToNat, Int.reduceNeg, ↓reduceIte, ↓reduceDIte]
    refine CT_of (refstep_ev (by simp; omega) (h.app _)) ?_
    rintro _ _ ⟨aw1, t1, rfl, rfl, g1, q1⟩
    have hl3 : lim ≤ H.length + 3 := by omega
    have hl2 : lim ≤ H.length + 2 := by omega
    have hl4 : lim ≤ H.length + 4 := by omega
    obtain ⟨ya, ys, yk, yv, ypc, yp, yd, yst, yt, ytr, yc, yrt⟩ := y
    simp only at hkd e9 hpc
    rcases hy.k with k0 | k0 | k0
    · obtain rfl : yk = 0 := by omega
      simp -dsimp only [go_sem, Nat.reduceEqDiff, Nat.reduceAdd, Nat.reduceSub, Nat.reduceMul, Nat.reduceLeDiff, Nat.reduceLT, Nat.reduceBEq, Int.reduceLT, Int.reduceLE, Int.reduceGT, Int.reduceGE, Int.reduceEq, Int.reduceNe, Int.reduceBEq, Int.reduceBNe, Int.reduceAdd, Int.reduceSub, Int.reduceMul, Int.reduceToNat, Int.reduceNeg, ↓reduceIte, ↓reduceDIte, hl, hl2, hl3, hl4]
      refine CT_of (dput_ev (x := x) (y := ⟨ya, ys, 0, yv, ypc, yp, yd, yst, yt, ytr, yc, yrt⟩) hy p9 k0) ?_
      rintro _ _ ⟨y', rfl, hy', rfl⟩
      simp -dsimp only [go_sem, Nat.reduceEqDiff, Nat.reduceAdd, Nat.reduceSub, Nat.reduceMul, Nat.reduceLeDiff, Nat.reduceLT, Nat.reduceBEq, Int.reduceLT, Int.reduceLE, Int.reduceGT, Int.reduceGE, Int.reduceEq, Int.reduceNe, Int.reduceBEq, Int.reduceBNe, Int.reduceAdd, Int.reduceSub, Int.reduceMul, Int.reduceToNat, Int.reduceNeg, ↓reduceIte, ↓reduceDIte, hl2, hl3, hl4]
      exact ⟨y', aw1, _, rfl, hy', rfl, g1.into (by omega) (by simp [unbox_app, unbox_cons, unboxO_box]), q1.imp id (fun q => Own.into q (by decide) (by simp) (by simp [unbox_app, unbox_cons, unboxO_box]))⟩
    · obtain rfl : yk = 1 := by omega
      simp -dsimp only [go_sem, Nat.reduceEqDiff, Nat.reduceAdd, Nat.reduceSub, Nat.reduceMul, Nat.reduceLeDiff, Nat.reduceLT, Nat.reduceBEq, Int.reduceLT, Int.reduceLE, Int.reduceGT, Int.reduceGE, Int.reduceEq, Int.reduceNe, Int.reduceBEq, Int.reduceBNe, Int.reduceAdd, Int.reduceSub, Int.reduceMul, Int.reduceToNat, Int.reduceNeg, ↓reduceIte, ↓reduceDIte, hl, hl2, hl3, hl4]
      refine CT_of (dtake_ev (x := x) (y := ⟨ya, ys, 1, yv, ypc, yp, yd, yst, yt, ytr, yc, yrt⟩) hy p9 k0) ?_
      rintro _ _ ⟨y', rfl, hy', rfl⟩
      simp -dsimp only [go_sem, Nat.reduceEqDiff, Nat.reduceAdd, Nat.reduceSub, Nat.reduceMul, Nat.reduceLeDiff, Nat.reduceLT, Nat.reduceBEq, Int.reduceLT, Int.reduceLE, Int.reduceGT, Int.reduceGE, Int.reduceEq, Int.reduceNe, Int.reduceBEq, Int.reduceBNe, Int.reduceAdd, Int.reduceSub, Int.reduceMul, Int.reduceToNat, Int.reduceNeg, ↓reduceIte, ↓reduceDIte, hl2, hl3, hl4]
      exact ⟨y', aw1, _, rfl, hy', rfl, g1.into (by omega) (by simp [unbox_app, unbox_cons, unboxO_box]), q1.imp id (fun q => Own.into q (by decide) (by simp) (by simp [unbox_app, unbox_cons, unboxO_box]))⟩
    · obtain rfl : yk = 2 := by omega
      simp -dsimp only [go_sem, Nat.reduceEqDiff, Nat.reduceAdd, Nat.reduceSub, Nat.reduceMul, Nat.reduceLeDiff, Nat.reduceLT, Nat.reduceBEq, Int.reduceLT, Int.reduceLE, Int.reduceGT, Int.reduceGE, Int.reduceEq, Int.reduceNe, Int.reduceBEq, Int.reduceBNe, Int.reduceAdd, Int.reduceSub, Int.reduceMul, Int.reduceToNat, Int.reduceNeg, ↓reduceIte, ↓reduceDIte, hl, hl2, hl3, hl4]
      refine CT_val (dend_ev (y := ⟨ya, ys, 2, yv, ypc, yp, yd, yst, yt, ytr, yc, yrt⟩)) ?_
      simp -dsimp only [go_sem, Nat.reduceEqDiff, Nat.reduceAdd, Nat.reduceSub, Nat.reduceMul, Nat.reduceLeDiff, Nat.reduceLT, Nat.reduceBEq, Int.reduceLT, Int.reduceLE, Int.reduceGT, Int.reduceGE, Int.reduceEq, Int.reduceNe, Int.reduceBEq, Int.reduceBNe, Int.reduceAdd, Int.reduceSub, Int.reduceMul, Int.reduceToNat, Int.reduceNeg, ↓reduceIte, ↓reduceDIte, hl2, hl3, hl4]
      exact ⟨_, aw1, _, rfl, dclose_rel hy p9 k0, rfl, g1.into (by omega) (by simp [unbox_app, unbox_cons, unboxO_box]), q1.imp id (fun q => Own.into q (by decide) (by simp) (by simp [unbox_app, unbox_cons, unboxO_box]))⟩
end
end Go.Proofs.Ytopjhhcncjleaaa
