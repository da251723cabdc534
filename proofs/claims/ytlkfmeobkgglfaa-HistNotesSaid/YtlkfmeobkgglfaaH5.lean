/- The document's log of calls. -/
import Derived.Test.YtlkfmeobkgglfaaH4
namespace Go.Proofs.Ytlkfmeobkgglfaa
open Go Go.LK
set_option linter.unusedSimpArgs false
set_option linter.unusedVariables false
abbrev rlog (a : Option Addr) (n : Nat) (now : Int) : Value := .agg #[.slice a n n, i64 now]
/-- The call that a thread does. -/
def OpenIs (l : List CallD) (t k : Int) : Prop :=
  (k = -1 ∧ ∀ (i : Nat) (c : CallD), l[i]? = some c → c.th = t → c.dn = true) ∨ ∃ (i : Nat) (c : CallD), k = (i : Int) ∧ l[i]? = some c ∧ c.th = t ∧ c.dn = false
theorem refopen_ev {lim : Nat} {a : Option Addr} {l : List CallD} {now t : Int} {H : LHeap} (hs : Sl 8 H a (l.flatMap CallD.cells)) (hn : l.length < 1000000) :
    callE T 20 lim [rlog a l.length now, i64 t] H fun r H' => H' = H ∧ ∃ k, r = i64 k ∧ OpenIs l t k := by
  refine callE_pop rfl (by simp) rfl ?_
  simp -dsimp only [go_sem, Nat.reduceEqDiff, Nat.reduceAdd, Nat.reduceSub, Nat.reduceMul, Nat.reduceLeDiff, Nat.reduceLT, Nat.reduceBEq, Int.reduceLT, Int.reduceLE, Int.reduceGT, Int.reduceGE, Int.reduceEq, Int.reduceNe, Int.reduceBEq, Int.reduceBNe, Int.reduceAdd, Int.reduceSub, Int.reduceMul, Int.reduceToNat, Int.reduceNeg, ↓reduceIte, ↓reduceDIte]
  refine LT_of (fun i : Nat => [(1, i64 t), (2, ptr H.length), (5, i64 i)]) (fun _ => H ++ [.row false 0 [.slice a l.length l.length, i64 now]]) (fun i => i ≤ l.length ∧ ∀ (k : Nat) (c : CallD), k < i → l[k]? = some c → c.th = t → c.dn = true) (fun i => l.length - i) 0 (by simp) rfl ⟨by omega, fun k c h => by omega⟩ ?_
  rintro i ⟨hi, hp⟩
  by_cases hlt : i < l.length
  · have h1 : (i : Int) < l.length := by omega
    have h3 : 0 ≤ (i : Int) := by omega
    have k2 : l[i]? = some (l[i]'hlt) := List.getElem?_eq_getElem _
    generalize l[i]'hlt = y at k2
    obtain ⟨b1, o1, rfl, hb1, hg1, hg2⟩ := hs.rowsAt (f := CallD.cells) CallD.len (by omega) (by omega)
    have r0 := fun t => hg2 t i y 0 k2 (by omega)
    have r5 := fun t => hg2 t i y 5 k2 (by omega)
    simp only [CallD.cells, List.getElem?_cons_zero, List.getElem?_cons_succ, Nat.add_zero] at r0 r5
    have hw : IntKind.i64.wrap ((i : Int) + 1) = ((i + 1 : Nat) : Int) := by rw [wrap_i64] <;> omega
    have next : (y.th = t → y.dn = true) → ∀ (k : Nat) (c : CallD), k < i + 1 → l[k]? = some c → c.th = t → c.dn = true := by
      intro hy k c hk hc
      by_cases hki : k < i
      · exact hp k c hki hc
      · obtain rfl : k = i := by omega
        rw [k2] at hc; cases hc; exact hy
    by_cases hth : y.th = t
    · have e1 : (y.th == t) = true := by simpa using hth
      cases hd : y.dn
      · rw [hd] at r5
        simp -dsimp only [go_sem, Nat.reduceEqDiff, Nat.reduceAdd, Nat.reduceSub, Nat.reduceMul, Nat.reduceLeDiff, Nat.reduceLT, Nat.reduceBEq, Int.reduceLT, Int.reduceLE, Int.reduceGT, Int.reduceGE, Int.reduceEq, Int.reduceNe, Int.reduceBEq, Int.reduceBNe, Int.reduceAdd, Int.reduceSub, Int.reduceMul, Int.reduceToNat, Int.reduceNeg, ↓reduceIte, ↓reduceDIte, h1, h3, r0, r5, hw, e1]
        exact ⟨i, rfl, .inr ⟨i, y, rfl, k2, hth, hd⟩⟩
      · rw [hd] at r5
        simp -dsimp only [go_sem, Nat.reduceEqDiff, Nat.reduceAdd, Nat.reduceSub, Nat.reduceMul, Nat.reduceLeDiff, Nat.reduceLT, Nat.reduceBEq, Int.reduceLT, Int.reduceLE, Int.reduceGT, Int.reduceGE, Int.reduceEq, Int.reduceNe, Int.reduceBEq, Int.reduceBNe, Int.reduceAdd, Int.reduceSub, Int.reduceMul, Int.reduceToNat, Int.reduceNeg, ↓reduceIte, ↓reduceDIte, h1, h3, r0, r5, hw, e1]
        exact ⟨i + 1, rfl, ⟨by omega, next fun _ => hd⟩, by omega⟩
    · have e1 : (y.th == t) = false := by simpa using hth
      simp -dsimp only [go_sem, Nat.reduceEqDiff, Nat.reduceAdd, Nat.reduceSub, Nat.reduceMul, Nat.reduceLeDiff, Nat.reduceLT, Nat.reduceBEq, Int.reduceLT, Int.reduceLE, Int.reduceGT, Int.reduceGE, Int.reduceEq, Int.reduceNe, Int.reduceBEq, Int.reduceBNe, Int.reduceAdd, Int.reduceSub, Int.reduceMul, Int.reduceToNat, Int.reduceNeg, ↓reduceIte, ↓reduceDIte, h1, h3, r0, r5, hw, e1]
      exact ⟨i + 1, rfl, ⟨by omega, next fun h => absurd h hth⟩, by omega⟩
  · have h1 : ¬ (i : Int) < l.length := by omega
    simp -dsimp only [go_sem, Nat.reduceEqDiff, Nat.reduceAdd, Nat.reduceSub, Nat.reduceMul, Nat.reduceLeDiff, Nat.reduceLT, Nat.reduceBEq, Int.reduceLT, Int.reduceLE, Int.reduceGT, Int.reduceGE, Int.reduceEq, Int.reduceNe, Int.reduceBEq, Int.reduceBNe, Int.reduceAdd, Int.reduceSub, Int.reduceMul, Int.reduceToNat, Int.reduceNeg, ↓reduceIte, ↓reduceDIte, h1]
    exact ⟨-1, rfl, .inl ⟨rfl, fun k c hc => hp k c (by have := (List.getElem?_eq_some_iff.1 hc).1; omega) hc⟩⟩
theorem openIs {v : HV} (h : HInv v) {t k : Int} (g : OpenIs v.l t k) : (0 ≤ k ↔ (v.open t).isSome = true) ∧ ∀ id, v.open t = some id → id = k := by
  change (0 ≤ k ↔ (openF v.op t).isSome = true) ∧ ∀ id, openF v.op t = some id → id = k
  rcases g with ⟨rfl, g⟩ | ⟨i, c, rfl, hc, h1, h2⟩
  · have : openF v.op t = none := by
      cases hq : openF v.op t with
      | none => rfl
      | some id =>
        obtain ⟨i, c, _, hc, h1, h2⟩ := (h.op t id).1 hq
        have := g i c hc h1
        rw [h2] at this; cases this
    rw [this]
    exact ⟨by simp, fun id q => by cases q⟩
  · have : openF v.op t = some (i : Int) := (h.op t i).2 ⟨i, c, rfl, hc, h1, h2⟩
    rw [this]
    exact ⟨by simp, fun id q => by cases q; rfl⟩
set_option maxHeartbeats 1000000 in
theorem refbegin_ev {lim : Nat} {a : Option Addr} {v : HV} {t kind : Int} {arg : BitVec 64} {H : LHeap} (hl : lim ≤ H.length) (hI : HInv v) (hs : Sl 8 H a (v.l.flatMap CallD.cells)) (hn : v.l.length ≤ 1000) (hw : v.now < 100000000) :
    callE T 17 lim [rlog a v.l.length v.now, i64 t, i64 kind, w64 arg] H fun r H' => ∃ a' u, r = .tuple #[rlog a' (v.begin t kind arg).1.l.length (v.begin t kind arg).1.now, i64 (v.begin t kind arg).2.1, i64 (v.begin t kind arg).2.2] ∧ H' = H ++ u ∧ Sl 8 (H ++ u) a' ((v.begin t kind arg).1.l.flatMap CallD.cells) ∧ (a' = a ∨ Fresh H.length a') := by
  refine callE_stay rfl (by simp) rfl ?_
  have hl1 : lim ≤ H.length + 1 := by omega
  have hn0 := hI.n0
  have h63 : ¬ (63 < t) ↔ ¬ 64 ≤ t := by omega
  by_cases h1 : t < 0
  · have e : v.begin t kind arg = (v, 0, 2) := by rw [HV.begin, if_pos (.inl h1)]
    simp -dsimp only [go_sem, Nat.reduceEqDiff, Nat.reduceAdd, Nat.reduceSub, Nat.reduceMul, Nat.reduceLeDiff, Nat.reduceLT, Nat.reduceBEq, Int.reduceLT, Int.reduceLE, Int.reduceGT, Int.reduceGE, Int.reduceEq, Int.reduceNe, Int.reduceBEq, Int.reduceBNe, Int.reduceAdd, Int.reduceSub, Int.reduceMul, Int.reduceToNat, Int.reduceNeg, ↓reduceIte, ↓reduceDIte, h1, hl1]
    rw [e]
    exact ⟨a, _, rfl, rfl, hs.app _, .inl rfl⟩
  by_cases h2 : 63 < t
  · have e : v.begin t kind arg = (v, 0, 2) := by rw [HV.begin, if_pos (.inr (by omega))]
    simp -dsimp only [go_sem, Nat.reduceEqDiff, Nat.reduceAdd, Nat.reduceSub, Nat.reduceMul, Nat.reduceLeDiff, Nat.reduceLT, Nat.reduceBEq, Int.reduceLT, Int.reduceLE, Int.reduceGT, Int.reduceGE, Int.reduceEq, Int.reduceNe, Int.reduceBEq, Int.reduceBNe, Int.reduceAdd, Int.reduceSub, Int.reduceMul, Int.reduceToNat, Int.reduceNeg, ↓reduceIte, ↓reduceDIte, h1, h2, hl1]
    rw [e]
    exact ⟨a, _, rfl, rfl, hs.app _, .inl rfl⟩
  simp -dsimp only [go_sem, Nat.reduceEqDiff, Nat.reduceAdd, Nat.reduceSub, Nat.reduceMul, Nat.reduceLeDiff, Nat.reduceLT, Nat.reduceBEq, Int.reduceLT, Int.reduceLE, Int.reduceGT, Int.reduceGE, Int.reduceEq, Int.reduceNe, Int.reduceBEq, Int.reduceBNe, Int.reduceAdd, Int.reduceSub, Int.reduceMul, Int.reduceToNat, Int.reduceNeg, ↓reduceIte, ↓reduceDIte, h1, h2]
  refine CT_of (refopen_ev (hs.app _) (by omega)) ?_
  rintro _ _ ⟨rfl, k, rfl, hk⟩
  obtain ⟨ho1, ho2⟩ := openIs hI hk
  by_cases hb : 0 ≤ k
  · have e : v.begin t kind arg = (v, 0, 16) := by rw [HV.begin, if_neg (by omega), if_pos (ho1.1 hb)]
    simp -dsimp only [go_sem, Nat.reduceEqDiff, Nat.reduceAdd, Nat.reduceSub, Nat.reduceMul, Nat.reduceLeDiff, Nat.reduceLT, Nat.reduceBEq, Int.reduceLT, Int.reduceLE, Int.reduceGT, Int.reduceGE, Int.reduceEq, Int.reduceNe, Int.reduceBEq, Int.reduceBNe, Int.reduceAdd, Int.reduceSub, Int.reduceMul, Int.reduceToNat, Int.reduceNeg, ↓reduceIte, ↓reduceDIte, h1, h2, hb, hl1]
    rw [e]
    exact ⟨a, _, rfl, rfl, hs.app _, .inl rfl⟩
  have k3 : ¬ 1024 ≤ (v.l.length : Int) := by omega
  have e : v.begin t kind arg = (({ l := v.l ++ [{ th := t, kind := kind, arg := arg, fr := v.now, to := 0, dn := false, code := 0, ret := 0#64 }], op := v.op ++ [(t, (v.l.length : Int))], now := v.now + 1 } : HV), (v.l.length : Int), (0 : Int)) := by
    rw [HV.begin, if_neg (by omega), if_neg (by rw [← ho1]; exact hb), if_neg (by omega)]
  have hw1 : IntKind.i64.wrap (v.now + 1) = v.now + 1 := by rw [wrap_i64] <;> omega
  have hw2 : IntKind.i64.wrap (((v.l.length + 1 : Nat) : Int) - 1) = (v.l.length : Int) := by rw [wrap_i64] <;> omega
  have h6 : v.l.length * 64 ≤ 140737488355328 := by omega
  have h7 : v.l.length ≤ 140737488355328 := by omega
  have hno : ¬ (v.l.length + 1 ≤ v.l.length ∧ 0 < v.l.length) := by omega
  have k4 : (v.l.length + 1) * 64 ≤ 140737488355328 := by omega
  have k5 : v.l.length ≤ 140737488355327 := by omega
  have k6 : v.l.length * 8 = (v.l.flatMap CallD.cells).length := (flat_len CallD.len v.l).symm
  have k7 : (v.l.flatMap CallD.cells).take (v.l.length * 8) = v.l.flatMap CallD.cells := List.take_of_length_le (by omega)
  have hsrc := fun t => (hs.app t).src (m := 8) (n := v.l.length) (cap := v.l.length) (by omega) (by rw [flat_len CallD.len])
  simp -dsimp only [go_sem, Nat.reduceEqDiff, Nat.reduceAdd, Nat.reduceSub, Nat.reduceMul, Nat.reduceLeDiff, Nat.reduceLT, Nat.reduceBEq, Int.reduceLT, Int.reduceLE, Int.reduceGT, Int.reduceGE, Int.reduceEq, Int.reduceNe, Int.reduceBEq, Int.reduceBNe, Int.reduceAdd, Int.reduceSub, Int.reduceMul, Int.reduceToNat, Int.reduceNeg, ↓reduceIte, ↓reduceDIte, h1, h2, hb, k3, hw1, hw2, hsrc, cells_one, h6, h7, hno, k4, k5, k6, k7, hl]
  rw [e]
  refine ⟨some ⟨H.length + 5, 0, none⟩, _, by simp, rfl, ?_, .inr (Fresh.mk (by omega))⟩
  have := Sl.row (m := 8) (get_app H [.row false 0 [.slice (some ⟨H.length + 5, 0, none⟩) (v.l.length + 1) (v.l.length + 1), i64 (v.now + 1)], .row false 0 [.slice (some ⟨H.length + 5, 0, none⟩) (v.l.length + 1) (v.l.length + 1), i64 (v.now + 1)], .dead, .row false 8 [i64 t, i64 kind, w64 arg, i64 v.now, i64 0, .bool false, i64 0, w64 0#64], .dead, .row false 8 (v.l.flatMap CallD.cells ++ [i64 t, i64 kind, w64 arg, i64 v.now, i64 0, .bool false, i64 0, w64 0#64])] 5)
  simpa [CallD.cells] using this
set_option maxHeartbeats 1000000 in
theorem refend_ev {lim : Nat} {a : Option Addr} {v : HV} {id code : Int} {ret : BitVec 64} {H : LHeap} (hl : lim ≤ H.length) (hs : Sl 8 H a (v.l.flatMap CallD.cells)) (hn : v.l.length ≤ 1000) (hw : 0 ≤ v.now ∧ v.now < 100000000) :
    callE T 18 lim [rlog a v.l.length v.now, i64 id, i64 code, w64 ret] H fun r H' => ∃ a' u, r = .tuple #[rlog a' (v.fin id code ret).1.l.length (v.fin id code ret).1.now, i64 (v.fin id code ret).2] ∧ H' = H ++ u ∧ Sl 8 (H ++ u) a' ((v.fin id code ret).1.l.flatMap CallD.cells) ∧ (a' = a ∨ Fresh H.length a') := by
  refine callE_stay rfl (by simp) rfl ?_
  have hl1 : lim ≤ H.length + 1 := by omega
  by_cases h1 : id < 0
  · have e : v.fin id code ret = (v, 13) := by rw [HV.fin, if_pos h1]
    simp -dsimp only [go_sem, Nat.reduceEqDiff, Nat.reduceAdd, Nat.reduceSub, Nat.reduceMul, Nat.reduceLeDiff, Nat.reduceLT, Nat.reduceBEq, Int.reduceLT, Int.reduceLE, Int.reduceGT, Int.reduceGE, Int.reduceEq, Int.reduceNe, Int.reduceBEq, Int.reduceBNe, Int.reduceAdd, Int.reduceSub, Int.reduceMul, Int.reduceToNat, Int.reduceNeg, ↓reduceIte, ↓reduceDIte, h1, hl1]
    rw [e]
    exact ⟨a, _, rfl, rfl, hs.app _, .inl rfl⟩
  obtain ⟨i, rfl⟩ := Int.eq_ofNat_of_zero_le (Int.not_lt.1 h1)
  cases hc : v.l[i]? with
  | none =>
    have e : v.fin i code ret = (v, 13) := by simp [HV.fin, hc]
    have k1 : (v.l.length : Int) ≤ (i : Int) := by have := List.getElem?_eq_none_iff.1 hc; omega
    simp -dsimp only [go_sem, Nat.reduceEqDiff, Nat.reduceAdd, Nat.reduceSub, Nat.reduceMul, Nat.reduceLeDiff, Nat.reduceLT, Nat.reduceBEq, Int.reduceLT, Int.reduceLE, Int.reduceGT, Int.reduceGE, Int.reduceEq, Int.reduceNe, Int.reduceBEq, Int.reduceBNe, Int.reduceAdd, Int.reduceSub, Int.reduceMul, Int.reduceToNat, Int.reduceNeg, ↓reduceIte, ↓reduceDIte, h1, k1, hl1]
    rw [e]
    exact ⟨a, _, rfl, rfl, hs.app _, .inl rfl⟩
  | some c =>
    have hi := (List.getElem?_eq_some_iff.1 hc).1
    have k1 : ¬ (v.l.length : Int) ≤ (i : Int) := by omega
    have k2 : (i : Int) < (v.l.length : Int) := by omega
    have k3 : 0 ≤ (i : Int) := by omega
    have hsrc := fun t => (hs.app t).src (m := 8) (n := v.l.length) (cap := v.l.length) (by omega) (by rw [flat_len CallD.len])
    obtain ⟨b1, o1, rfl, hb1, hg1, hg2⟩ := hs.rowsAt (f := CallD.cells) CallD.len (by omega) (by omega)
    have r5 := fun t => hg2 t i c 5 hc (by omega)
    simp only [CallD.cells, List.getElem?_cons_zero, List.getElem?_cons_succ, Nat.add_zero] at r5
    cases hd : c.dn
    rotate_left
    · have e : v.fin i code ret = (v, 16) := by simp [HV.fin, hc, hd]
      rw [hd] at r5
      simp -dsimp only [go_sem, Nat.reduceEqDiff, Nat.reduceAdd, Nat.reduceSub, Nat.reduceMul, Nat.reduceLeDiff, Nat.reduceLT, Nat.reduceBEq, Int.reduceLT, Int.reduceLE, Int.reduceGT, Int.reduceGE, Int.reduceEq, Int.reduceNe, Int.reduceBEq, Int.reduceBNe, Int.reduceAdd, Int.reduceSub, Int.reduceMul, Int.reduceToNat, Int.reduceNeg, ↓reduceIte, ↓reduceDIte, h1, k1, k2, k3, r5, hl1]
      rw [e]
      exact ⟨some ⟨b1, o1, none⟩, _, rfl, rfl, hs.app _, .inl rfl⟩
    rw [hd] at r5
    have e : v.fin i code ret = ({ l := v.l.set i { c with dn := true, to := v.now, code := code, ret := ret }, op := dropOp v.op c.th, now := v.now + 1 }, 0) := by simp [HV.fin, hc, hd]
    have hw1 : IntKind.i64.wrap (v.now + 1) = v.now + 1 := by rw [wrap_i64] <;> omega
    have hfl := flat_len CallD.len v.l
    have f5' : i * 8 + 5 + 1 ≤ (v.l.flatMap CallD.cells).length := by omega
    have f4' : i * 8 + 4 + 1 ≤ (v.l.flatMap CallD.cells).length := by omega
    have f6' : i * 8 + 6 + 1 ≤ (v.l.flatMap CallD.cells).length := by omega
    have f7' : i * 8 + 7 + 1 ≤ (v.l.flatMap CallD.cells).length := by omega
    have h6 : v.l.length * 64 ≤ 140737488355328 := by omega
    have h7 : v.l.length ≤ 140737488355328 := by omega
    have fs := flat_set v.l i c v.now code ret hc
    simp -dsimp only [go_sem, Nat.reduceEqDiff, Nat.reduceAdd, Nat.reduceSub, Nat.reduceMul, Nat.reduceLeDiff, Nat.reduceLT, Nat.reduceBEq, Int.reduceLT, Int.reduceLE, Int.reduceGT, Int.reduceGE, Int.reduceEq, Int.reduceNe, Int.reduceBEq, Int.reduceBNe, Int.reduceAdd, Int.reduceSub, Int.reduceMul, Int.reduceToNat, Int.reduceNeg, ↓reduceIte, ↓reduceDIte, h1, k1, k2, k3, r5, hsrc, cells_one, h6, h7, hl, hw1, f5', f4', f6', f7', List.length_set]
    rw [e]
    refine ⟨some ⟨H.length + 3, 0, none⟩, _, by simp, rfl, ?_, .inr (Fresh.mk (by omega))⟩
    rw [fs]
    exact Sl.row (m := 8) (get_app H _ 3)
/-- The calls, for the reference. -/
theorem own_ev {lim : Nat} {a : Option Addr} {l : List CallD} {H : LHeap} (hl : lim ≤ H.length) (hs : Sl 8 H a (l.flatMap CallD.cells)) (hn : l.length < 1000000) :
    callE T 22 lim [.slice a l.length l.length] H fun v H' => ∃ a' t, v = .slice a' l.length l.length ∧ H' = H ++ t ∧ Own 8 (H ++ t) H.length a' (l.flatMap CallD.cells) := by
  refine callE_stay rfl (by simp) rfl ?_
  simp -dsimp only [go_sem, Nat.reduceEqDiff, Nat.reduceAdd, Nat.reduceSub, Nat.reduceMul, Nat.reduceLeDiff, Nat.reduceLT, Nat.reduceBEq, Int.reduceLT, Int.reduceLE, Int.reduceGT, Int.reduceGE, Int.reduceEq, Int.reduceNe, Int.reduceBEq, Int.reduceBNe, Int.reduceAdd, Int.reduceSub, Int.reduceMul, Int.reduceToNat, Int.reduceNeg, ↓reduceIte, ↓reduceDIte]
  refine LT_of (fun s : Nat × Option Addr × LHeap => [(0, .slice a l.length l.length), (3, .slice s.2.1 s.1 s.1), (4, i64 s.1)]) (fun s => H ++ s.2.2) (fun s => s.1 ≤ l.length ∧ Own 8 (H ++ s.2.2) H.length s.2.1 ((l.take s.1).flatMap CallD.cells)) (fun s => l.length - s.1) (0, none, []) rfl (by simp) ⟨by simp, Own.nil _ _ _⟩ ?_
  rintro ⟨i, a', t⟩ ⟨hi, ho⟩
  simp only at hi ho ⊢
  by_cases hlt : i < l.length
  · have h1 : (i : Int) < l.length := by omega
    have h3 : 0 ≤ (i : Int) := by omega
    have k1 : l[i]? = some (l[i]'hlt) := List.getElem?_eq_getElem _
    generalize l[i]'hlt = c at k1
    obtain ⟨b, o, rfl, hb, hg⟩ := hs.rows (m := 8) CallD.len (by omega) (by omega)
    have g1 := fun t => hg t i c k1
    have g2 := fun u news => ho.grow (k := i) (bytes := 64) (lim := lim) (by rw [flat_len CallD.len]; simp; omega) (by omega) hl (by omega) (by omega) u news
    have hw : IntKind.i64.wrap ((i : Int) + 1) = ((i + 1 : Nat) : Int) := by rw [wrap_i64] <;> omega
    simp -dsimp only [go_sem, Nat.reduceEqDiff, Nat.reduceAdd, Nat.reduceSub, Nat.reduceMul, Nat.reduceLeDiff, Nat.reduceLT, Nat.reduceBEq, Int.reduceLT, Int.reduceLE, Int.reduceGT, Int.reduceGE, Int.reduceEq, Int.reduceNe, Int.reduceBEq, Int.reduceBNe, Int.reduceAdd, Int.reduceSub, Int.reduceMul, Int.reduceToNat, Int.reduceNeg, ↓reduceIte, ↓reduceDIte, h1, h3, g1, g2, hw, CallD.cells]
    have hk : (l.take (i + 1)).flatMap CallD.cells = (l.take i).flatMap CallD.cells ++ c.cells := by
      rw [List.take_add_one, k1]; simp
    refine ⟨(i + 1, some ⟨H.length + (t.length + 2), 0, none⟩, _), rfl, rfl, ⟨by dsimp only; omega, ?_⟩, by dsimp only; omega⟩
    dsimp only
    rw [hk]
    exact Own.grown (u := [_, _]) rfl (by simp) a'
  · have h1 : ¬ (i : Int) < l.length := by omega
    simp -dsimp only [go_sem, Nat.reduceEqDiff, Nat.reduceAdd, Nat.reduceSub, Nat.reduceMul, Nat.reduceLeDiff, Nat.reduceLT, Nat.reduceBEq, Int.reduceLT, Int.reduceLE, Int.reduceGT, Int.reduceGE, Int.reduceEq, Int.reduceNe, Int.reduceBEq, Int.reduceBNe, Int.reduceAdd, Int.reduceSub, Int.reduceMul, Int.reduceToNat, Int.reduceNeg, ↓reduceIte, ↓reduceDIte, h1]
    have : i = l.length := by omega
    subst this
    rw [List.take_length] at ho
    exact ⟨_, _, rfl, rfl, ho⟩
