/- The statement TailPasses: operations that begin. -/
import Derived.Test.YtcoejlhlcpkmkaaT9
namespace Go.Proofs.Ytcoejlhlcpkmkaa
open Go Go.LK
set_option linter.unusedSimpArgs false
set_option linter.unusedVariables false
abbrev keep8 : List Tmp := [1, 2, 3, 7, 9, 10, 11, 12, 13, 15]
theorem PI.up {H : LHeap} {h : HD} {n0 i nx : Nat} {W : BitVec 64} {m : MV} {L : List (Option (Nat × TOp))} {P B : List (BitVec 64)} {D : List Bool} {es : List (BitVec 64 × Bool)} {t : LHeap}
    (inv : PI H h n0 ⟨i, nx, W, m, L, P, B, D, es, t⟩) (i' nx' : Nat) (hi : i ≤ i') : PI H h n0 ⟨i', nx', W, m, L, P, B, D, es, t⟩ :=
  ⟨inv.ll, inv.lp, inv.lb, inv.ld, inv.cl, inv.lo, by have := inv.hi; simp only at this ⊢; omega, inv.ps, inv.ops, inv.each⟩
set_option maxHeartbeats 1000000 in
theorem phA_ev {H : LHeap} {h : HD} {n0 i nx : Nat} {W : BitVec 64} {m : MV} {L : List (Option (Nat × TOp))} {P B : List (BitVec 64)} {D : List Bool} {es : List (BitVec 64 × Bool)} {t : LHeap} {e : Env} {Q : LExit → Env → LHeap → Prop}
    {a1 : Option Addr} {l : List Int} (hl : Sl 1 H a1 (l.map i64))
    (inv : PI H h n0 ⟨i, nx, W, m, L, P, B, D, es, t⟩) (hn : n0 + i < 1099511627775) (hnx : nx ≤ i) (hi : i ≤ 1000) {j r1 r2 : Nat} (j4 : j < 4) (hr1 : t[r1]? = some (.row false 1 [w64 W])) (hr2 : t[r2]? = some (hrow (hdOf W)))
    (e1 : LK.look e 1 = .slice a1 l.length l.length) (e7 : LK.look e 7 = ptr (H.length + 3)) (e9 : LK.look e 9 = ptr (H.length + 4)) (e10 : LK.look e 10 = ptr (H.length + 5)) (e11 : LK.look e 11 = ptr (H.length + 6)) (e12 : LK.look e 12 = ptr (H.length + 7)) (e13 : LK.look e 13 = .map (some (H.length + 8)))
    (e14 : LK.look e 14 = i64 nx) (e16 : LK.look e 16 = i64 j) (e17 : LK.look e 17 = .slice (some ⟨H.length + (r1 + 9), 0, none⟩) 1 1) (e18 : LK.look e 18 = ptr (H.length + (r2 + 9)))
    (hQ : ∀ (y : LExit) e' nx' W' m' L' P' B' D' es' t', (y = .normal ∨ y = .exit 1) → restrict keep8 e' = restrict keep8 e → LK.look e' 14 = i64 (nx' : Nat) → nx' ≤ i + 1 → PI H h n0 ⟨i + 1, nx', W', m', L', P', B', D', es', t'⟩ → Q y e' (PG H h m' L' P' B' D' es' t')) :
    XW (callE T) H.length phA e (PG H h m L P B D es t) Q := by
  have inv0 := inv
  obtain ⟨ll, lp, lb, ld, cl, lo, hi2, ps, ops, each⟩ := inv
  simp only at ll lp lb ld cl lo hi2 ps ops each
  have okm := cl.ok
  have j0 : 0 ≤ (j : Int) := by omega
  have j4' : (j : Int) < 4 := by omega
  have kx : ∀ e' e'' : Env, restrict keep7 e' = restrict keep7 e'' → restrict keep8 e'' = restrict keep8 e → restrict keep8 e' = restrict keep8 e := by
    intro e' e'' g g'
    have q : ∀ k ∈ keep7, LK.look e' k = LK.look e'' k := fun k hk => restrict_look g hk
    rw [← g']
    simp only [restrict, List.map_cons, List.map_nil]
    rw [q 1 (by decide), q 2 (by decide), q 3 (by decide), q 7 (by decide), q 9 (by decide), q 10 (by decide), q 11 (by decide), q 12 (by decide), q 13 (by decide), q 15 (by decide)]
  have l1 := (List.getElem?_eq_some_iff.1 hr1).1
  have l2 := (List.getElem?_eq_some_iff.1 hr2).1
  unfold phA
  obtain ⟨o, ho⟩ : ∃ o, L[j]? = some o := ⟨_, List.getElem?_eq_getElem (by omega)⟩
  have hLj : (L.map opv)[j]? = some (opv o) := by rw [List.getElem?_map, ho]; rfl
  cases o with
  | some z =>
    obtain ⟨q, x⟩ := z
    simp -dsimp only [go_sem, Nat.reduceEqDiff, Nat.reduceAdd, Nat.reduceSub, Nat.reduceMul, Nat.reduceLeDiff, Nat.reduceLT, Nat.reduceBEq, Int.reduceLT, Int.reduceLE, Int.reduceGT, Int.reduceGE, Int.reduceEq, Int.reduceNe, Int.reduceBEq, Int.reduceBNe, Int.reduceAdd, Int.reduceSub, Int.reduceMul, Int.reduceToNat, Int.reduceNeg, ↓reduceIte, ↓reduceDIte, e9, e16, j0, j4', hLj, opv]
    refine phB_ev inv0 hn ho hr1 hr2 e7 e9 e10 e11 e12 e13 e16 e17 e18 ?_
    intro y e' W' m' L' es' t' hy he hI
    exact hQ y e' nx W' m' L' P B D es' t' hy (kx _ _ he rfl) ((restrict_look he (by decide)).trans e14) (by omega) hI
  | none =>
    by_cases hnl : l.length ≤ nx
    · have hnl' : (l.length : Int) ≤ nx := by omega
      simp -dsimp only [go_sem, Nat.reduceEqDiff, Nat.reduceAdd, Nat.reduceSub, Nat.reduceMul, Nat.reduceLeDiff, Nat.reduceLT, Nat.reduceBEq, Int.reduceLT, Int.reduceLE, Int.reduceGT, Int.reduceGE, Int.reduceEq, Int.reduceNe, Int.reduceBEq, Int.reduceBNe, Int.reduceAdd, Int.reduceSub, Int.reduceMul, Int.reduceToNat, Int.reduceNeg, ↓reduceIte, ↓reduceDIte, e9, e16, j0, j4', hLj, opv, e14, e1, hnl']
      exact hQ _ _ nx W m L P B D es t (.inr rfl) rfl e14 (by omega) (inv0.up _ _ (by omega))
    · have hnl' : ¬ (l.length : Int) ≤ nx := by omega
      have hlt : nx < l.length := by omega
      have n0' : 0 ≤ (nx : Int) := by omega
      have hlt' : (nx : Int) < l.length := by omega
      obtain ⟨bk, ok', rfl, _, hgk⟩ := hl.all (by simp; omega)
      have gk := fun t => hgk t nx (i64 (l[nx])) (by simp [hlt])
      obtain ⟨k7, hk7, k0, k8⟩ := andK (l[nx]) 7 (by decide)
      have k8 : k7 ≤ 7 := k8
      have jp : j + 1 ≤ 4 := by omega
      have hw1 : IntKind.i64.wrap ((nx : Int) + 1) = ((nx + 1 : Nat) : Int) := by rw [wrap_i64] <;> omega
      simp -dsimp only [go_sem, Nat.reduceEqDiff, Nat.reduceAdd, Nat.reduceSub, Nat.reduceMul, Nat.reduceLeDiff, Nat.reduceLT, Nat.reduceBEq, Int.reduceLT, Int.reduceLE, Int.reduceGT, Int.reduceGE, Int.reduceEq, Int.reduceNe, Int.reduceBEq, Int.reduceBNe, Int.reduceAdd, Int.reduceSub, Int.reduceMul, Int.reduceToNat, Int.reduceNeg, ↓reduceIte, ↓reduceDIte, e9, e16, j0, j4', hLj, opv, e14, e1, hnl', n0', hlt', gk, hk7, lbin_shr_iw]
      generalize (IntKind.i64.wrap ((BitVec.ofInt IntKind.i64.bits ((l[nx]).fdiv (2 ^ min (3#64).toNat 64)) &&& BitVec.ofInt IntKind.i64.bits 1).toNat : Int) == (1 : Int)) = dv
      have hc : lcells t r2 0 3 = some [w64 (hdOf W).n, w64 (hdOf W).t, w64 (hdOf W).i] := lcells_of hr2 rfl
      have eL : ∀ q (x : TOp), (L.map opv).set j (ptr q) = (L.set j (some (q, x))).map opv := fun q x => by rw [List.map_set]; rfl
      have eP : (P.map w64).set j (w64 (hdOf W).n) = (P.set j (hdOf W).n).map w64 := by rw [List.map_set]
      have eB : (B.map w64).set j (w64 W) = (B.set j W).map w64 := by rw [List.map_set]
      have eD : ∀ v, (D.map Value.bool).set j (.bool v) = (D.set j v).map Value.bool := fun v => by rw [List.map_set]
      -- what is held when the operation has begun
      have begun : ∀ v x t' q, Live (hdOf W).n.toNat x (hdOf W).n W v → (PG H h m L P B D es t).length ≤ q → (PG H h m L P B D es (t ++ t'))[q]? = some (trow x) →
          PI H h n0 ⟨i, nx + 1, W, m, L.set j (some (q, x)), P.set j (hdOf W).n, B.set j W, D.set j v, es, t ++ t'⟩ := by
        intro v x t' q lv hq hx
        have hx' : ((PG H h m L P B D es t) ++ t')[q]? = some (trow x) := by rw [← hx]; simp [PG]
        have o1 := ops.new (j := j) hq (by simp [PG] at hq; omega) hx'
        have o2 := (((o1.off (c := H.length + 4) (by omega) (.row false 0 ((L.set j (some (q, x))).map opv))).off (c := H.length + 5) (by omega) (.row false 0 ((P.set j (hdOf W).n).map w64))).off (c := H.length + 6) (by omega) (.row false 0 ((B.set j W).map w64))).off (c := H.length + 7) (by omega) (.row false 0 ((D.set j v).map Value.bool))
        have eq : ((((PG H h m L P B D es t ++ t').set (H.length + 4) (.row false 0 ((L.set j (some (q, x))).map opv))).set (H.length + 5) (.row false 0 ((P.set j (hdOf W).n).map w64))).set (H.length + 6) (.row false 0 ((B.set j W).map w64))).set (H.length + 7) (.row false 0 ((D.set j v).map Value.bool))
            = PG H h m (L.set j (some (q, x))) (P.set j (hdOf W).n) (B.set j W) (D.set j v) es (t ++ t') := by simp [PG, set_app]
        rw [eq] at o2
        refine ⟨by simp [ll], by simp [lp], by simp [lb], by simp [ld], cl, lo, hi2, ps, o2, ?_⟩
        intro j' q' y g
        simp only at g
        by_cases ej : j = j'
        · subst ej
          rw [List.getElem?_set_self (by omega)] at g
          cases g
          exact ⟨(hdOf W).n, W, v, List.getElem?_set_self (by omega), List.getElem?_set_self (by omega), List.getElem?_set_self (by omega), lv⟩
        · rw [List.getElem?_set_ne ej] at g
          obtain ⟨p', b', d', u1, u2, u3, u4⟩ := each j' q' y g
          exact ⟨p', b', d', by simp only; rw [List.getElem?_set_ne ej]; exact u1, by simp only; rw [List.getElem?_set_ne ej]; exact u2, by simp only; rw [List.getElem?_set_ne ej]; exact u3, u4⟩
      cases dv
      · skip
        simp -dsimp only [go_sem, Nat.reduceEqDiff, Nat.reduceAdd, Nat.reduceSub, Nat.reduceMul, Nat.reduceLeDiff, Nat.reduceLT, Nat.reduceBEq, Int.reduceLT, Int.reduceLE, Int.reduceGT, Int.reduceGE, Int.reduceEq, Int.reduceNe, Int.reduceBEq, Int.reduceBNe, Int.reduceAdd, Int.reduceSub, Int.reduceMul, Int.reduceToNat, Int.reduceNeg, ↓reduceIte, ↓reduceDIte, e9, e16, j0, j4', hLj, e12, jp, List.length_map, ll, lp, lb, ld, e18, e17, lget_left l1, lget_left l2, lget_at hr1, lget_at hr2, eD]
        refine CT_val tpass_ev ?_
        have hDj : ((D.set j false).map Value.bool)[j]? = some (.bool false) := by rw [List.getElem?_map, List.getElem?_set_self (by omega)]; rfl
        simp -dsimp only [go_sem, Nat.reduceEqDiff, Nat.reduceAdd, Nat.reduceSub, Nat.reduceMul, Nat.reduceLeDiff, Nat.reduceLT, Nat.reduceBEq, Int.reduceLT, Int.reduceLE, Int.reduceGT, Int.reduceGE, Int.reduceEq, Int.reduceNe, Int.reduceBEq, Int.reduceBNe, Int.reduceAdd, Int.reduceSub, Int.reduceMul, Int.reduceToNat, Int.reduceNeg, ↓reduceIte, ↓reduceDIte, e9, e10, e11, e14, e16, j0, j4', hLj, e12, jp, List.length_map, ll, lp, lb, ld, e18, e17, lget_left l1, lget_left l2, lget_at hr1, lget_at hr2, eD, List.length_set, hDj, hw1]
        rw [eL _ ⟨0, (hdOf W).n, ⟨0#64, 0#64, 0#64⟩, 0, 1, 0, false⟩, eP, eB]
        refine phB_ev (begun false ⟨0, (hdOf W).n, ⟨0#64, 0#64, 0#64⟩, 0, 1, 0, false⟩ [trow ⟨0, (hdOf W).n, ⟨0#64, 0#64, 0#64⟩, 0, 1, 0, false⟩] _ ⟨rfl, Nat.le_refl _, fun a => (by cases a), fun _ => ⟨rfl, .inl rfl⟩⟩ (by simp [PG]) (by simp [PG, get_app, get_app0])) hn
          (List.getElem?_set_self (by omega)) (get_old hr1 _) (get_old hr2 _) (by simp -dsimp only [go_sem, Nat.reduceEqDiff, Nat.reduceAdd, Nat.reduceSub, Nat.reduceMul, Nat.reduceLeDiff, Nat.reduceLT, Nat.reduceBEq, Int.reduceLT, Int.reduceLE, Int.reduceGT, Int.reduceGE, Int.reduceEq, Int.reduceNe, Int.reduceBEq, Int.reduceBNe, Int.reduceAdd, Int.reduceSub, Int.reduceMul, Int.reduceToNat, Int.reduceNeg, ↓reduceIte, ↓reduceDIte, e7]) (by simp -dsimp only [go_sem, Nat.reduceEqDiff, Nat.reduceAdd, Nat.reduceSub, Nat.reduceMul, Nat.reduceLeDiff, Nat.reduceLT, Nat.reduceBEq, Int.reduceLT, Int.reduceLE, Int.reduceGT, Int.reduceGE, Int.reduceEq, Int.reduceNe, Int.reduceBEq, Int.reduceBNe, Int.reduceAdd, Int.reduceSub, Int.reduceMul, Int.reduceToNat, Int.reduceNeg, ↓reduceIte, ↓reduceDIte, e9]) (by simp -dsimp only [go_sem, Nat.reduceEqDiff, Nat.reduceAdd, Nat.reduceSub, Nat.reduceMul, Nat.reduceLeDiff, Nat.reduceLT, Nat.reduceBEq, Int.reduceLT, Int.reduceLE, Int.reduceGT, Int.reduceGE, Int.reduceEq, Int.reduceNe, Int.reduceBEq, Int.reduceBNe, Int.reduceAdd, Int.reduceSub, Int.reduceMul, Int.reduceToNat, Int.reduceNeg, ↓reduceIte, ↓reduceDIte, e10]) (by simp -dsimp only [go_sem, Nat.reduceEqDiff, Nat.reduceAdd, Nat.reduceSub, Nat.reduceMul, Nat.reduceLeDiff, Nat.reduceLT, Nat.reduceBEq, Int.reduceLT, Int.reduceLE, Int.reduceGT, Int.reduceGE, Int.reduceEq, Int.reduceNe, Int.reduceBEq, Int.reduceBNe, Int.reduceAdd, Int.reduceSub, Int.reduceMul, Int.reduceToNat, Int.reduceNeg, ↓reduceIte, ↓reduceDIte, e11]) (by simp -dsimp only [go_sem, Nat.reduceEqDiff, Nat.reduceAdd, Nat.reduceSub, Nat.reduceMul, Nat.reduceLeDiff, Nat.reduceLT, Nat.reduceBEq, Int.reduceLT, Int.reduceLE, Int.reduceGT, Int.reduceGE, Int.reduceEq, Int.reduceNe, Int.reduceBEq, Int.reduceBNe, Int.reduceAdd, Int.reduceSub, Int.reduceMul, Int.reduceToNat, Int.reduceNeg, ↓reduceIte, ↓reduceDIte, e12]) (by simp -dsimp only [go_sem, Nat.reduceEqDiff, Nat.reduceAdd, Nat.reduceSub, Nat.reduceMul, Nat.reduceLeDiff, Nat.reduceLT, Nat.reduceBEq, Int.reduceLT, Int.reduceLE, Int.reduceGT, Int.reduceGE, Int.reduceEq, Int.reduceNe, Int.reduceBEq, Int.reduceBNe, Int.reduceAdd, Int.reduceSub, Int.reduceMul, Int.reduceToNat, Int.reduceNeg, ↓reduceIte, ↓reduceDIte, e13]) (by simp -dsimp only [go_sem, Nat.reduceEqDiff, Nat.reduceAdd, Nat.reduceSub, Nat.reduceMul, Nat.reduceLeDiff, Nat.reduceLT, Nat.reduceBEq, Int.reduceLT, Int.reduceLE, Int.reduceGT, Int.reduceGE, Int.reduceEq, Int.reduceNe, Int.reduceBEq, Int.reduceBNe, Int.reduceAdd, Int.reduceSub, Int.reduceMul, Int.reduceToNat, Int.reduceNeg, ↓reduceIte, ↓reduceDIte, e16]) (by simp -dsimp only [go_sem, Nat.reduceEqDiff, Nat.reduceAdd, Nat.reduceSub, Nat.reduceMul, Nat.reduceLeDiff, Nat.reduceLT, Nat.reduceBEq, Int.reduceLT, Int.reduceLE, Int.reduceGT, Int.reduceGE, Int.reduceEq, Int.reduceNe, Int.reduceBEq, Int.reduceBNe, Int.reduceAdd, Int.reduceSub, Int.reduceMul, Int.reduceToNat, Int.reduceNeg, ↓reduceIte, ↓reduceDIte, e17]) (by simp -dsimp only [go_sem, Nat.reduceEqDiff, Nat.reduceAdd, Nat.reduceSub, Nat.reduceMul, Nat.reduceLeDiff, Nat.reduceLT, Nat.reduceBEq, Int.reduceLT, Int.reduceLE, Int.reduceGT, Int.reduceGE, Int.reduceEq, Int.reduceNe, Int.reduceBEq, Int.reduceBNe, Int.reduceAdd, Int.reduceSub, Int.reduceMul, Int.reduceToNat, Int.reduceNeg, ↓reduceIte, ↓reduceDIte, e18]) ?_
        intro y e' W' m' L' es' t' hy he hI
        refine hQ y e' (nx + 1) W' m' L' _ _ _ es' t' hy (kx _ _ he rfl) ?_ (by omega) hI
        rw [restrict_look he (k := 14) (by decide)]
        simp -dsimp only [go_sem, Nat.reduceEqDiff, Nat.reduceAdd, Nat.reduceSub, Nat.reduceMul, Nat.reduceLeDiff, Nat.reduceLT, Nat.reduceBEq, Int.reduceLT, Int.reduceLE, Int.reduceGT, Int.reduceGE, Int.reduceEq, Int.reduceNe, Int.reduceBEq, Int.reduceBNe, Int.reduceAdd, Int.reduceSub, Int.reduceMul, Int.reduceToNat, Int.reduceNeg, ↓reduceIte, ↓reduceDIte]
      · simp -dsimp only [go_sem, Nat.reduceEqDiff, Nat.reduceAdd, Nat.reduceSub, Nat.reduceMul, Nat.reduceLeDiff, Nat.reduceLT, Nat.reduceBEq, Int.reduceLT, Int.reduceLE, Int.reduceGT, Int.reduceGE, Int.reduceEq, Int.reduceNe, Int.reduceBEq, Int.reduceBNe, Int.reduceAdd, Int.reduceSub, Int.reduceMul, Int.reduceToNat, Int.reduceNeg, ↓reduceIte, ↓reduceDIte, e18, lcells_left l2, hc]
        refine CT_val (has_ev (n := (hdOf W).n) (t := (hdOf W).t) (i := (hdOf W).i)) ?_
        cases hh : hasF (hdOf W).i k7
        · skip
          simp -dsimp only [go_sem, Nat.reduceEqDiff, Nat.reduceAdd, Nat.reduceSub, Nat.reduceMul, Nat.reduceLeDiff, Nat.reduceLT, Nat.reduceBEq, Int.reduceLT, Int.reduceLE, Int.reduceGT, Int.reduceGE, Int.reduceEq, Int.reduceNe, Int.reduceBEq, Int.reduceBNe, Int.reduceAdd, Int.reduceSub, Int.reduceMul, Int.reduceToNat, Int.reduceNeg, ↓reduceIte, ↓reduceDIte, e9, e16, j0, j4', hLj, e12, jp, List.length_map, ll, lp, lb, ld, e18, e17, lget_left l1, lget_left l2, lget_at hr1, lget_at hr2, eD]
          refine CT_val tpass_ev ?_
          have hDj : ((D.set j false).map Value.bool)[j]? = some (.bool false) := by rw [List.getElem?_map, List.getElem?_set_self (by omega)]; rfl
          simp -dsimp only [go_sem, Nat.reduceEqDiff, Nat.reduceAdd, Nat.reduceSub, Nat.reduceMul, Nat.reduceLeDiff, Nat.reduceLT, Nat.reduceBEq, Int.reduceLT, Int.reduceLE, Int.reduceGT, Int.reduceGE, Int.reduceEq, Int.reduceNe, Int.reduceBEq, Int.reduceBNe, Int.reduceAdd, Int.reduceSub, Int.reduceMul, Int.reduceToNat, Int.reduceNeg, ↓reduceIte, ↓reduceDIte, e9, e10, e11, e14, e16, j0, j4', hLj, e12, jp, List.length_map, ll, lp, lb, ld, e18, e17, lget_left l1, lget_left l2, lget_at hr1, lget_at hr2, eD, List.length_set, hDj, hw1]
          rw [eL _ ⟨0, (hdOf W).n, ⟨0#64, 0#64, 0#64⟩, 0, 1, 0, false⟩, eP, eB]
          refine phB_ev (begun false ⟨0, (hdOf W).n, ⟨0#64, 0#64, 0#64⟩, 0, 1, 0, false⟩ [trow ⟨0, (hdOf W).n, ⟨0#64, 0#64, 0#64⟩, 0, 1, 0, false⟩] _ ⟨rfl, Nat.le_refl _, fun a => (by cases a), fun _ => ⟨rfl, .inl rfl⟩⟩ (by simp [PG]) (by simp [PG, get_app, get_app0])) hn
            (List.getElem?_set_self (by omega)) (get_old hr1 _) (get_old hr2 _) (by simp -dsimp only [go_sem, Nat.reduceEqDiff, Nat.reduceAdd, Nat.reduceSub, Nat.reduceMul, Nat.reduceLeDiff, Nat.reduceLT, Nat.reduceBEq, Int.reduceLT, Int.reduceLE, Int.reduceGT, Int.reduceGE, Int.reduceEq, Int.reduceNe, Int.reduceBEq, Int.reduceBNe, Int.reduceAdd, Int.reduceSub, Int.reduceMul, Int.reduceToNat, Int.reduceNeg, ↓reduceIte, ↓reduceDIte, e7]) (by simp -dsimp only [go_sem, Nat.reduceEqDiff, Nat.reduceAdd, Nat.reduceSub, Nat.reduceMul, Nat.reduceLeDiff, Nat.reduceLT, Nat.reduceBEq, Int.reduceLT, Int.reduceLE, Int.reduceGT, Int.reduceGE, Int.reduceEq, Int.reduceNe, Int.reduceBEq, Int.reduceBNe, Int.reduceAdd, Int.reduceSub, Int.reduceMul, Int.reduceToNat, Int.reduceNeg, ↓reduceIte, ↓reduceDIte, e9]) (by simp -dsimp only [go_sem, Nat.reduceEqDiff, Nat.reduceAdd, Nat.reduceSub, Nat.reduceMul, Nat.reduceLeDiff, Nat.reduceLT, Nat.reduceBEq, Int.reduceLT, Int.reduceLE, Int.reduceGT, Int.reduceGE, Int.reduceEq, Int.reduceNe, Int.reduceBEq, Int.reduceBNe, Int.reduceAdd, Int.reduceSub, Int.reduceMul, Int.reduceToNat, Int.reduceNeg, ↓reduceIte, ↓reduceDIte, e10]) (by simp -dsimp only [go_sem, Nat.reduceEqDiff, Nat.reduceAdd, Nat.reduceSub, Nat.reduceMul, Nat.reduceLeDiff, Nat.reduceLT, Nat.reduceBEq, Int.reduceLT, Int.reduceLE, Int.reduceGT, Int.reduceGE, Int.reduceEq, Int.reduceNe, Int.reduceBEq, Int.reduceBNe, Int.reduceAdd, Int.reduceSub, Int.reduceMul, Int.reduceToNat, Int.reduceNeg, ↓reduceIte, ↓reduceDIte, e11]) (by simp -dsimp only [go_sem, Nat.reduceEqDiff, Nat.reduceAdd, Nat.reduceSub, Nat.reduceMul, Nat.reduceLeDiff, Nat.reduceLT, Nat.reduceBEq, Int.reduceLT, Int.reduceLE, Int.reduceGT, Int.reduceGE, Int.reduceEq, Int.reduceNe, Int.reduceBEq, Int.reduceBNe, Int.reduceAdd, Int.reduceSub, Int.reduceMul, Int.reduceToNat, Int.reduceNeg, ↓reduceIte, ↓reduceDIte, e12]) (by simp -dsimp only [go_sem, Nat.reduceEqDiff, Nat.reduceAdd, Nat.reduceSub, Nat.reduceMul, Nat.reduceLeDiff, Nat.reduceLT, Nat.reduceBEq, Int.reduceLT, Int.reduceLE, Int.reduceGT, Int.reduceGE, Int.reduceEq, Int.reduceNe, Int.reduceBEq, Int.reduceBNe, Int.reduceAdd, Int.reduceSub, Int.reduceMul, Int.reduceToNat, Int.reduceNeg, ↓reduceIte, ↓reduceDIte, e13]) (by simp -dsimp only [go_sem, Nat.reduceEqDiff, Nat.reduceAdd, Nat.reduceSub, Nat.reduceMul, Nat.reduceLeDiff, Nat.reduceLT, Nat.reduceBEq, Int.reduceLT, Int.reduceLE, Int.reduceGT, Int.reduceGE, Int.reduceEq, Int.reduceNe, Int.reduceBEq, Int.reduceBNe, Int.reduceAdd, Int.reduceSub, Int.reduceMul, Int.reduceToNat, Int.reduceNeg, ↓reduceIte, ↓reduceDIte, e16]) (by simp -dsimp only [go_sem, Nat.reduceEqDiff, Nat.reduceAdd, Nat.reduceSub, Nat.reduceMul, Nat.reduceLeDiff, Nat.reduceLT, Nat.reduceBEq, Int.reduceLT, Int.reduceLE, Int.reduceGT, Int.reduceGE, Int.reduceEq, Int.reduceNe, Int.reduceBEq, Int.reduceBNe, Int.reduceAdd, Int.reduceSub, Int.reduceMul, Int.reduceToNat, Int.reduceNeg, ↓reduceIte, ↓reduceDIte, e17]) (by simp -dsimp only [go_sem, Nat.reduceEqDiff, Nat.reduceAdd, Nat.reduceSub, Nat.reduceMul, Nat.reduceLeDiff, Nat.reduceLT, Nat.reduceBEq, Int.reduceLT, Int.reduceLE, Int.reduceGT, Int.reduceGE, Int.reduceEq, Int.reduceNe, Int.reduceBEq, Int.reduceBNe, Int.reduceAdd, Int.reduceSub, Int.reduceMul, Int.reduceToNat, Int.reduceNeg, ↓reduceIte, ↓reduceDIte, e18]) ?_
          intro y e' W' m' L' es' t' hy he hI
          refine hQ y e' (nx + 1) W' m' L' _ _ _ es' t' hy (kx _ _ he rfl) ?_ (by omega) hI
          rw [restrict_look he (k := 14) (by decide)]
          simp -dsimp only [go_sem, Nat.reduceEqDiff, Nat.reduceAdd, Nat.reduceSub, Nat.reduceMul, Nat.reduceLeDiff, Nat.reduceLT, Nat.reduceBEq, Int.reduceLT, Int.reduceLE, Int.reduceGT, Int.reduceGE, Int.reduceEq, Int.reduceNe, Int.reduceBEq, Int.reduceBNe, Int.reduceAdd, Int.reduceSub, Int.reduceMul, Int.reduceToNat, Int.reduceNeg, ↓reduceIte, ↓reduceDIte]
        · simp -dsimp only [go_sem, Nat.reduceEqDiff, Nat.reduceAdd, Nat.reduceSub, Nat.reduceMul, Nat.reduceLeDiff, Nat.reduceLT, Nat.reduceBEq, Int.reduceLT, Int.reduceLE, Int.reduceGT, Int.reduceGE, Int.reduceEq, Int.reduceNe, Int.reduceBEq, Int.reduceBNe, Int.reduceAdd, Int.reduceSub, Int.reduceMul, Int.reduceToNat, Int.reduceNeg, ↓reduceIte, ↓reduceDIte, e9, e16, j0, j4', hLj, e12, jp, List.length_map, ll, lp, lb, ld, e18, e17, lget_left l1, lget_left l2, lget_at hr1, lget_at hr2, eD]
          refine CT_val tpass_ev ?_
          have hDj : ((D.set j true).map Value.bool)[j]? = some (.bool true) := by rw [List.getElem?_map, List.getElem?_set_self (by omega)]; rfl
          simp -dsimp only [go_sem, Nat.reduceEqDiff, Nat.reduceAdd, Nat.reduceSub, Nat.reduceMul, Nat.reduceLeDiff, Nat.reduceLT, Nat.reduceBEq, Int.reduceLT, Int.reduceLE, Int.reduceGT, Int.reduceGE, Int.reduceEq, Int.reduceNe, Int.reduceBEq, Int.reduceBNe, Int.reduceAdd, Int.reduceSub, Int.reduceMul, Int.reduceToNat, Int.reduceNeg, ↓reduceIte, ↓reduceDIte, e9, e10, e11, e14, e16, j0, j4', hLj, e12, jp, List.length_map, ll, lp, lb, ld, e18, e17, lget_left l1, lget_left l2, lget_at hr1, lget_at hr2, eD, List.length_set, hDj, hw1, lcells_left l2, hc]
          refine CT_of tdrop_ev ?_
          rintro _ _ ⟨rfl, u, rfl⟩
          rw [if_pos hh]
          simp -dsimp only [go_sem, Nat.reduceEqDiff, Nat.reduceAdd, Nat.reduceSub, Nat.reduceMul, Nat.reduceLeDiff, Nat.reduceLT, Nat.reduceBEq, Int.reduceLT, Int.reduceLE, Int.reduceGT, Int.reduceGE, Int.reduceEq, Int.reduceNe, Int.reduceBEq, Int.reduceBNe, Int.reduceAdd, Int.reduceSub, Int.reduceMul, Int.reduceToNat, Int.reduceNeg, ↓reduceIte, ↓reduceDIte, e9, e10, e11, e14, e16, j0, j4', hLj, e12, jp, List.length_map, ll, lp, lb, ld, e18, e17, lget_left l1, lget_left l2, lget_at hr1, lget_at hr2, eD, List.length_set, hDj, hw1, lcells_left l2, hc, List.set_set]
          rw [eL _ ⟨0, 0#64, hdOf W, k7, 0, 0, false⟩, eP, eB]
          have q3 : H.length + (t.length + 1 + 1 + 1 + 1 + 1 + 1 + 1 + 1 + 1 + 1) + 1 = H.length + (t.length + 2 + 9) := by omega
          refine phB_ev (begun true ⟨0, 0#64, hdOf W, k7, 0, 0, false⟩ [trow ⟨0, (hdOf W).n, ⟨0#64, 0#64, 0#64⟩, 0, 1, 0, false⟩, u, trow ⟨0, 0#64, hdOf W, k7, 0, 0, false⟩] _ ⟨rfl, Nat.le_refl _, fun _ => ⟨rfl, rfl, hh⟩, fun a => (by cases a)⟩ (by simp [PG]; omega) (by rw [q3]; simp [PG, get_app, get_app0])) hn
            (List.getElem?_set_self (by omega)) (get_old hr1 _) (get_old hr2 _) (by simp -dsimp only [go_sem, Nat.reduceEqDiff, Nat.reduceAdd, Nat.reduceSub, Nat.reduceMul, Nat.reduceLeDiff, Nat.reduceLT, Nat.reduceBEq, Int.reduceLT, Int.reduceLE, Int.reduceGT, Int.reduceGE, Int.reduceEq, Int.reduceNe, Int.reduceBEq, Int.reduceBNe, Int.reduceAdd, Int.reduceSub, Int.reduceMul, Int.reduceToNat, Int.reduceNeg, ↓reduceIte, ↓reduceDIte, e7]) (by simp -dsimp only [go_sem, Nat.reduceEqDiff, Nat.reduceAdd, Nat.reduceSub, Nat.reduceMul, Nat.reduceLeDiff, Nat.reduceLT, Nat.reduceBEq, Int.reduceLT, Int.reduceLE, Int.reduceGT, Int.reduceGE, Int.reduceEq, Int.reduceNe, Int.reduceBEq, Int.reduceBNe, Int.reduceAdd, Int.reduceSub, Int.reduceMul, Int.reduceToNat, Int.reduceNeg, ↓reduceIte, ↓reduceDIte, e9]) (by simp -dsimp only [go_sem, Nat.reduceEqDiff, Nat.reduceAdd, Nat.reduceSub, Nat.reduceMul, Nat.reduceLeDiff, Nat.reduceLT, Nat.reduceBEq, Int.reduceLT, Int.reduceLE, Int.reduceGT, Int.reduceGE, Int.reduceEq, Int.reduceNe, Int.reduceBEq, Int.reduceBNe, Int.reduceAdd, Int.reduceSub, Int.reduceMul, Int.reduceToNat, Int.reduceNeg, ↓reduceIte, ↓reduceDIte, e10]) (by simp -dsimp only [go_sem, Nat.reduceEqDiff, Nat.reduceAdd, Nat.reduceSub, Nat.reduceMul, Nat.reduceLeDiff, Nat.reduceLT, Nat.reduceBEq, Int.reduceLT, Int.reduceLE, Int.reduceGT, Int.reduceGE, Int.reduceEq, Int.reduceNe, Int.reduceBEq, Int.reduceBNe, Int.reduceAdd, Int.reduceSub, Int.reduceMul, Int.reduceToNat, Int.reduceNeg, ↓reduceIte, ↓reduceDIte, e11]) (by simp -dsimp only [go_sem, Nat.reduceEqDiff, Nat.reduceAdd, Nat.reduceSub, Nat.reduceMul, Nat.reduceLeDiff, Nat.reduceLT, Nat.reduceBEq, Int.reduceLT, Int.reduceLE, Int.reduceGT, Int.reduceGE, Int.reduceEq, Int.reduceNe, Int.reduceBEq, Int.reduceBNe, Int.reduceAdd, Int.reduceSub, Int.reduceMul, Int.reduceToNat, Int.reduceNeg, ↓reduceIte, ↓reduceDIte, e12]) (by simp -dsimp only [go_sem, Nat.reduceEqDiff, Nat.reduceAdd, Nat.reduceSub, Nat.reduceMul, Nat.reduceLeDiff, Nat.reduceLT, Nat.reduceBEq, Int.reduceLT, Int.reduceLE, Int.reduceGT, Int.reduceGE, Int.reduceEq, Int.reduceNe, Int.reduceBEq, Int.reduceBNe, Int.reduceAdd, Int.reduceSub, Int.reduceMul, Int.reduceToNat, Int.reduceNeg, ↓reduceIte, ↓reduceDIte, e13]) (by simp -dsimp only [go_sem, Nat.reduceEqDiff, Nat.reduceAdd, Nat.reduceSub, Nat.reduceMul, Nat.reduceLeDiff, Nat.reduceLT, Nat.reduceBEq, Int.reduceLT, Int.reduceLE, Int.reduceGT, Int.reduceGE, Int.reduceEq, Int.reduceNe, Int.reduceBEq, Int.reduceBNe, Int.reduceAdd, Int.reduceSub, Int.reduceMul, Int.reduceToNat, Int.reduceNeg, ↓reduceIte, ↓reduceDIte, e16]) (by simp -dsimp only [go_sem, Nat.reduceEqDiff, Nat.reduceAdd, Nat.reduceSub, Nat.reduceMul, Nat.reduceLeDiff, Nat.reduceLT, Nat.reduceBEq, Int.reduceLT, Int.reduceLE, Int.reduceGT, Int.reduceGE, Int.reduceEq, Int.reduceNe, Int.reduceBEq, Int.reduceBNe, Int.reduceAdd, Int.reduceSub, Int.reduceMul, Int.reduceToNat, Int.reduceNeg, ↓reduceIte, ↓reduceDIte, e17]) (by simp -dsimp only [go_sem, Nat.reduceEqDiff, Nat.reduceAdd, Nat.reduceSub, Nat.reduceMul, Nat.reduceLeDiff, Nat.reduceLT, Nat.reduceBEq, Int.reduceLT, Int.reduceLE, Int.reduceGT, Int.reduceGE, Int.reduceEq, Int.reduceNe, Int.reduceBEq, Int.reduceBNe, Int.reduceAdd, Int.reduceSub, Int.reduceMul, Int.reduceToNat, Int.reduceNeg, ↓reduceIte, ↓reduceDIte, e18]) ?_
          intro y e' W' m' L' es' t' hy he hI
          refine hQ y e' (nx + 1) W' m' L' _ _ _ es' t' hy (kx _ _ he rfl) ?_ (by omega) hI
          rw [restrict_look he (k := 14) (by decide)]
          simp -dsimp only [go_sem, Nat.reduceEqDiff, Nat.reduceAdd, Nat.reduceSub, Nat.reduceMul, Nat.reduceLeDiff, Nat.reduceLT, Nat.reduceBEq, Int.reduceLT, Int.reduceLE, Int.reduceGT, Int.reduceGE, Int.reduceEq, Int.reduceNe, Int.reduceBEq, Int.reduceBNe, Int.reduceAdd, Int.reduceSub, Int.reduceMul, Int.reduceToNat, Int.reduceNeg, ↓reduceIte, ↓reduceDIte]
end Go.Proofs.Ytcoejlhlcpkmkaa
