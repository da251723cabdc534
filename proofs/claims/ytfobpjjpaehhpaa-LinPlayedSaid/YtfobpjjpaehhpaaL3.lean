/- The search, worked out. -/
import Derived.Test.YtfobpjjpaehhpaaL2
namespace Go.Proofs.Ytfobpjjpaehhpaa
open Go Go.LK
set_option linter.unusedSimpArgs false
set_option linter.unusedVariables false
/-- What a search is given: calls' steps and keys, in blocks that stay. -/
structure Given (cap : Int) (P : Prob (List (BitVec 64))) (E : List (Nat × LObj)) (aa : Option Addr) (sk kk : FuncId) (sc kc : List Value) : Prop where
  n : P.n ≤ 62
  ah : ∀ H, Has E H → Sl 1 H aa (((List.range P.n).map P.ah).map w64)
  step : ∀ H lim, Has E H → lim ≤ H.length → ∀ b s (i : Nat), i < P.n → Sl 1 H b (s.map w64) → s.length < 1000 → callE T sk lim ([fifo cap b s.length, i64 i] ++ sc) H fun v H2 => ∃ t, H2 = H ++ t ∧ MayN (H ++ t) H.length b cap (P.step s i) v
  key : ∀ H lim, Has E H → ∀ b s, Sl 1 H b (s.map w64) → s.length < 1000 → callE T kk lim ([fifo cap b s.length] ++ kc) H fun v H2 => v = strV (keyN cap s) ∧ H2 = H
  len : ∀ s i t, P.step s i = some t → t.length ≤ s.length + 1
theorem set_same {α : Type} {l : List α} {i : Nat} {x : α} (h : l[i]? = some x) : l.set i x = l := by
  obtain ⟨h1, rfl⟩ := List.getElem?_eq_some_iff.1 h
  exact List.set_getElem_self h1
set_option maxHeartbeats 4000000 in
theorem find_ev {lim p q : Nat} {cap : Int} {P : Prob (List (BitVec 64))} {E : List (Nat × LObj)} {aa al : Option Addr} {nl ncap : Nat} {sk kk : FuncId} {sc kc : List Value} (hG : Given cap P E aa sk kk sc kc) (hnl : nl = P.n) : ∀ (k : Nat) (u : BitVec 64) (s : List (BitVec 64)) (H : LHeap) (a : Option Addr) (oc : Nat) (o : List Nat) (D : List (List UInt8)) (sb : Option Addr),
    leftN P.n u = k → FI lim cap P p q (.slice al nl ncap) (.slice aa nl nl) (.func (.func sk) #[] sc.toArray) (.func (.func kk) #[] kc.toArray) H a oc o D → Has E H → OffE p q a E → Sl 1 H sb (s.map w64) → OffS p q a sb → s.length + k ≤ 100 → o.length + k ≤ 100 → lim ≤ H.length →
    callE T 31 lim [ptrF p, w64 u, fifo cap sb s.length] H fun v H' => ∃ a' oc' D', v = .bool (P.fnd u s).isSome ∧ FI lim cap P p q (.slice al nl ncap) (.slice aa nl nl) (.func (.func sk) #[] sc.toArray) (.func (.func kk) #[] kc.toArray) H' a' oc' (o ++ (P.fnd u s).getD []) D' ∧ Kp p q a a' H H' := by
  subst hnl
  intro k
  induction k using Nat.strongRecOn with
  | ind k ih =>
  intro u s H a oc o D sb hk hF hE hO hs hso hsl hol hl
  refine callE_stay rfl (by simp) rfl ?_
  have hfe := P.fnd_eq (by have := hG.n; omega) u s
  have r2 : ∀ t, lget (H ++ t) p 2 = some (w64 P.done) := fun t => by rw [lget_at (get_old hF.row t)]; rfl
  have r5 : ∀ t, lget (H ++ t) p 5 = some (.map (some q)) := fun t => by rw [lget_at (get_old hF.row t)]; rfl
  have rq : ∀ t, (H ++ t)[q]? = some (.map (deadE D)) := fun t => get_old hF.mp t
  by_cases hd : P.done &&& ~~~u = 0#64
  · simp -dsimp only [go_sem, Nat.reduceEqDiff, Nat.reduceAdd, Nat.reduceSub, Nat.reduceMul, Nat.reduceLeDiff, Nat.reduceLT, Nat.reduceBEq, Int.reduceLT, Int.reduceLE, Int.reduceGT, Int.reduceGE, Int.reduceEq, Int.reduceNe, Int.reduceBEq, Int.reduceBNe, Int.reduceAdd, Int.reduceSub, Int.reduceMul, Int.reduceToNat, Int.reduceNeg, ↓reduceIte, ↓reduceDIte, r2, hd]
    rw [if_pos hd] at hfe
    rw [hfe]
    refine ⟨a, oc, D, rfl, ?_, Kp.app _⟩
    simpa using hF.app _
  · rw [if_neg hd] at hfe
    have hd' : (P.done &&& ~~~u == 0#64) = false := by simpa using hd
    simp -dsimp only [go_sem, Nat.reduceEqDiff, Nat.reduceAdd, Nat.reduceSub, Nat.reduceMul, Nat.reduceLeDiff, Nat.reduceLT, Nat.reduceBEq, Int.reduceLT, Int.reduceLE, Int.reduceGT, Int.reduceGE, Int.reduceEq, Int.reduceNe, Int.reduceBEq, Int.reduceBNe, Int.reduceAdd, Int.reduceSub, Int.reduceMul, Int.reduceToNat, Int.reduceNeg, ↓reduceIte, ↓reduceDIte, r2, hd']
    refine CT_of (name_ev (get_old hF.row _) (hs.app _) (by omega) (fun t lim' => hG.key _ lim' ((hE.app _).app _) _ _ ((hs.app _).app _) (by omega))) ?_
    rintro _ _ ⟨⟨kn, hkn, hkz, rfl⟩, rfl⟩
    generalize hnm : nameN kn cap u s = nm
    obtain ⟨d1, d2⟩ := dead_find nm D
    by_cases hin : nm ∈ D
    · obtain ⟨di, d3, d4⟩ := d1 hin
      simp -dsimp only [go_sem, Nat.reduceEqDiff, Nat.reduceAdd, Nat.reduceSub, Nat.reduceMul, Nat.reduceLeDiff, Nat.reduceLT, Nat.reduceBEq, Int.reduceLT, Int.reduceLE, Int.reduceGT, Int.reduceGE, Int.reduceEq, Int.reduceNe, Int.reduceBEq, Int.reduceBNe, Int.reduceAdd, Int.reduceSub, Int.reduceMul, Int.reduceToNat, Int.reduceNeg, ↓reduceIte, ↓reduceDIte, r5, rq, d4, Option.getD_some]
      have hno : P.fnd u s = none := hF.sound nm hin kn _ _ hkn hkz hnm.symm
      rw [hno]
      exact ⟨a, oc, D, rfl, by simpa using hF.app _, Kp.app _⟩
    · have d4 := d2 hin
      have r0 : ∀ t, lget (H ++ t) p 0 = some (.slice al P.n ncap) := fun t => by rw [lget_at (get_old hF.row t)]; rfl
      simp -dsimp only [go_sem, Nat.reduceEqDiff, Nat.reduceAdd, Nat.reduceSub, Nat.reduceMul, Nat.reduceLeDiff, Nat.reduceLT, Nat.reduceBEq, Int.reduceLT, Int.reduceLE, Int.reduceGT, Int.reduceGE, Int.reduceEq, Int.reduceNe, Int.reduceBEq, Int.reduceBNe, Int.reduceAdd, Int.reduceSub, Int.reduceMul, Int.reduceToNat, Int.reduceNeg, ↓reduceIte, ↓reduceDIte, r5, rq, d4, Option.getD_none, r0]
      refine LT_of (fun x : Nat × Option Addr × Nat × List (List UInt8) × LHeap => [(0, ptrF p), (1, w64 u), (5, ptrF H.length), (7, strV nm), (32, i64 P.n), (33, i64 x.1)]) (fun x => x.2.2.2.2)
        (fun x => x.1 ≤ P.n ∧ FI lim cap P p q (.slice al P.n ncap) (.slice aa P.n P.n) (.func (.func sk) #[] sc.toArray) (.func (.func kk) #[] kc.toArray) x.2.2.2.2 x.2.1 x.2.2.1 o x.2.2.2.1 ∧ Kp p q a x.2.1 (H ++ [.row false 0 [i64 cap, .slice sb s.length s.length]]) x.2.2.2.2 ∧ ∀ j, j < x.1 → P.tryAt P.fnd u s j = none) (fun x => P.n - x.1)
        (0, a, oc, D, H ++ [.row false 0 [i64 cap, .slice sb s.length s.length]]) (by simp) rfl ⟨by simp, hF.app _, Kp.refl, fun j h => by simp at h⟩ ?_
      rintro ⟨i, a1, oc1, D1, K⟩ ⟨hi, hF1, hKp, htry⟩
      simp only at hi hF1 hKp htry ⊢
      have hpl := (List.getElem?_eq_some_iff.1 hF.row).1
      have hql := (List.getElem?_eq_some_iff.1 hF.mp).1
      have hlK : lim ≤ K.length := by have := hKp.1; simp at this; omega
      by_cases hlt : i < P.n
      · have h1 : (i : Int) < P.n := by omega
        have hn62 := hG.n
        simp -dsimp only [go_sem, Nat.reduceEqDiff, Nat.reduceAdd, Nat.reduceSub, Nat.reduceMul, Nat.reduceLeDiff, Nat.reduceLT, Nat.reduceBEq, Int.reduceLT, Int.reduceLE, Int.reduceGT, Int.reduceGE, Int.reduceEq, Int.reduceNe, Int.reduceBEq, Int.reduceBNe, Int.reduceAdd, Int.reduceSub, Int.reduceMul, Int.reduceToNat, Int.reduceNeg, ↓reduceIte, ↓reduceDIte, h1]
        refine CT_val (has_ev (by omega)) ?_
        have hnext : P.tryAt P.fnd u s i = none → ∀ j, j < i + 1 → P.tryAt P.fnd u s j = none := by
          intro h j hj
          by_cases hji : j < i
          · exact htry j hji
          · obtain rfl : j = i := by omega
            exact h
        have hw : IntKind.i64.wrap ((i : Int) + 1) = ((i + 1 : Nat) : Int) := by rw [wrap_i64] <;> omega
        cases hb : u.getLsbD i
        · obtain ⟨hE1, hO1⟩ := hKp.has (hE.app _) hO
          obtain ⟨hs1, hso1⟩ := hKp.sl (hs.app _) hso
          obtain ⟨ab, ao, hab, hab1, hg⟩ := (hG.ah K hE1).all (by simp; omega)
          have ga := fun t => hg t i (w64 (P.ah i)) (by simp [hlt])
          have ga0 := ga []
          rw [List.append_nil] at ga0
          have k1 : lget K p 1 = some (.slice (some ⟨ab, ao, none⟩) P.n P.n) := by rw [lget_at hF1.row, ← hab]; rfl
          have h3 : 0 ≤ (i : Int) := by omega
          by_cases hz : P.ah i &&& ~~~u = 0#64
          · have k3 : ∀ t, lget (K ++ t) p 3 = some (.func (.func sk) #[] sc.toArray) := fun t => by rw [lget_at (get_old hF1.row t)]; rfl
            have k30 := k3 []
            rw [List.append_nil] at k30
            have kb : ∀ t, lcells (K ++ t) H.length 0 2 = some [i64 cap, .slice sb s.length s.length] := fun t => lcells_of (get_old (hKp.at_ (by omega) (by omega) (hF.ord.off (Nat.le_refl _)) (get_app0 H _)).1 t) rfl
            have kb0 := kb []
            rw [List.append_nil] at kb0
            simp -dsimp only [go_sem, Nat.reduceEqDiff, Nat.reduceAdd, Nat.reduceSub, Nat.reduceMul, Nat.reduceLeDiff, Nat.reduceLT, Nat.reduceBEq, Int.reduceLT, Int.reduceLE, Int.reduceGT, Int.reduceGE, Int.reduceEq, Int.reduceNe, Int.reduceBEq, Int.reduceBNe, Int.reduceAdd, Int.reduceSub, Int.reduceMul, Int.reduceToNat, Int.reduceNeg, ↓reduceIte, ↓reduceDIte, k1, ga0, h1, h3, hz, k30, kb0]
            refine CT_of (hG.step _ _ (hE1.app _) (by simp; omega) sb s i hlt (hs1.app _) (by omega)) ?_
            rintro _ _ ⟨t, rfl, hm⟩
            have k6 : ∀ t, lget (K ++ t) p 6 = some (.slice a1 o.length oc1) := fun t => by rw [lget_at (get_old hF1.row t)]; rfl
            cases hst : P.step s i with
            | none =>
              rw [hst] at hm
              simp only [MayN] at hm
              subst hm
              simp -dsimp only [go_sem, Nat.reduceEqDiff, Nat.reduceAdd, Nat.reduceSub, Nat.reduceMul, Nat.reduceLeDiff, Nat.reduceLT, Nat.reduceBEq, Int.reduceLT, Int.reduceLE, Int.reduceGT, Int.reduceGE, Int.reduceEq, Int.reduceNe, Int.reduceBEq, Int.reduceBNe, Int.reduceAdd, Int.reduceSub, Int.reduceMul, Int.reduceToNat, Int.reduceNeg, ↓reduceIte, ↓reduceDIte, hw, take_app_n, get_app_n, get_app_n0, set_app_n, set_app_n0, lget_app_n, lget_app_n0, lcells_app_n, lcells_app_n0, List.length_set, List.take_of_length_le, List.set_set, get_left, set_left, lget_left, lcells_left, get_set_eq, get_set_ne, lget_set_eq, lget_set_ne, lcells_set_ne]
              refine ⟨(i + 1, a1, oc1, D1, _), rfl, rfl, ⟨by dsimp only; omega, hF1.app _, hKp.trans (Kp.app _), hnext ?_⟩, by dsimp only; omega⟩
              simp [Prob.tryAt, hst]
            | some s' =>
              rw [hst] at hm
              simp only [MayN] at hm
              obtain ⟨b', rfl, hb', hbf⟩ := hm
              generalize hK3 : K ++ LObj.row false 0 [i64 cap, Value.slice b' s'.length s'.length] :: (t ++ [LObj.row false 1 [i64 i]]) = K3
              have hF3 : FI lim cap P p q (.slice al P.n ncap) (.slice aa P.n P.n) (.func (.func sk) #[] sc.toArray) (.func (.func kk) #[] kc.toArray) K3 a1 oc1 o D1 := by rw [← hK3]; exact hF1.app _
              have hp3 := (List.getElem?_eq_some_iff.1 hF3.row).1
              have hq3 := (List.getElem?_eq_some_iff.1 hF3.mp).1
              have hKp3 : Kp p q a1 a1 K K3 := by rw [← hK3]; exact Kp.app _
              have hl3 : lim ≤ K3.length := Nat.le_trans hlK hKp3.1
              obtain ⟨a2, cap2, K4, hap, hO4, hl4, hk4⟩ := hF3.ord.push hl3 (by omega) i
              have hp4 := hk4 p hp3 hF3.offp
              have hq4 := hk4 q hq3 hF3.offq
              have row4 : K4[p]? = _ := hp4.1.trans hF3.row
              have mp4 : K4[q]? = _ := hq4.1.trans hF3.mp
              have limp := hF3.limp
              have n3 : K3[K.length + (t.length + 1)]? = some (.row false 1 [i64 i]) := by rw [← hK3]; simp [List.getElem?_append]
              have b3 : K3[K.length]? = some (.row false 0 [i64 cap, .slice b' s'.length s'.length]) := by rw [← hK3]; simp
              have b4 := (hk4 K.length (by rw [← hK3]; simp) (hF1.ord.off (Nat.le_refl _)))
              have b4' := b4.1.trans b3
              have hsrc : lsrc K3 1 (.slice (some ⟨K.length + (t.length + 1), 0, none⟩) 1 1) = some ([i64 i], 1) := by
                simp only [lsrc, Nat.mul_one, lcells_of (n := 1) n3 rfl]; rfl
              have hpl4 := (List.getElem?_eq_some_iff.1 row4).1
              generalize hK5 : K4.set p (LObj.row false 0 [Value.slice al P.n ncap, Value.slice aa P.n P.n, w64 P.done, Value.func (Fn.func sk) #[] sc.toArray, Value.func (Fn.func kk) #[] kc.toArray, Value.map (some q), Value.slice a2 (o.length + 1) cap2]) = K5
              have hlen1 : (o ++ [i]).length = o.length + 1 := by simp
              have hkk : K.length ≠ p := by have := (List.getElem?_eq_some_iff.1 hF1.row).1; omega
              have hkq : K.length ≠ q := by have := (List.getElem?_eq_some_iff.1 hF1.mp).1; omega
              have b5 : K5[K.length]? = some (.row false 0 [i64 cap, .slice b' s'.length s'.length]) := by rw [← hK5, get_set_ne hkk.symm]; exact b4'
              have lc5 := lcells_of (n := 2) b5 rfl
              have hF5 : FI lim cap P p q (.slice al P.n ncap) (.slice aa P.n P.n) (.func (.func sk) #[] sc.toArray) (.func (.func kk) #[] kc.toArray) K5 a2 cap2 (o ++ [i]) D1 := by
                rw [← hK5, ← hlen1]
                exact ⟨get_set_eq hpl4 _, by rw [get_set_ne hF3.pq]; exact mp4, hO4.set hp4.2 _, hF3.pq, hF3.limp, hF3.limq, hp4.2, hq4.2, hF3.sound⟩
              have hKp5 : Kp p q a1 a2 K K5 := by
                rw [← hK5]
                refine (hKp3.trans ⟨hl4, fun j hj _ _ ho => hk4 j hj ho⟩).trans (Kp.setp _)
              obtain ⟨hE5, hO5⟩ := hKp5.has hE1 hO1
              have hsb5 : Sl 1 K5 b' (s'.map w64) ∧ OffS p q a2 b' := by
                have hKp35 : Kp p q a1 a2 K3 K5 := by
                  rw [← hK5]
                  exact Kp.trans ⟨hl4, fun j hj _ _ ho => hk4 j hj ho⟩ (Kp.setp _)
                have hb3 : Sl 1 K3 b' (s'.map w64) := by
                  have := (hb'.into (H' := K ++ LObj.row false 0 [i64 cap, Value.slice b' s'.length s'.length] :: t) (by omega) (by simp [unbox_app, unbox_cons, unboxO_box])).app [LObj.row false 1 [i64 i]]
                  rw [← hK3]
                  simpa using this
                refine hKp35.sl hb3 fun x hx => ?_
                rcases hbf with rfl | hbf
                · exact hso1 x hx
                · have hx1 := hbf x hx
                  rw [List.length_append, List.length_singleton] at hx1
                  have hpK := (List.getElem?_eq_some_iff.1 hF1.row).1
                  have hqK := (List.getElem?_eq_some_iff.1 hF1.mp).1
                  exact ⟨by omega, by omega, hF1.ord.off (by omega)⟩
              simp -dsimp only [go_sem, Nat.reduceEqDiff, Nat.reduceAdd, Nat.reduceSub, Nat.reduceMul, Nat.reduceLeDiff, Nat.reduceLT, Nat.reduceBEq, Int.reduceLT, Int.reduceLE, Int.reduceGT, Int.reduceGE, Int.reduceEq, Int.reduceNe, Int.reduceBEq, Int.reduceBNe, Int.reduceAdd, Int.reduceSub, Int.reduceMul, Int.reduceToNat, Int.reduceNeg, ↓reduceIte, ↓reduceDIte, hw, k6, hK3, hsrc, hap, hlK, hpl4, row4, limp, hK5, lc5, take_app_n, get_app_n, get_app_n0, set_app_n, set_app_n0, lget_app_n, lget_app_n0, lcells_app_n, lcells_app_n0, List.length_set, List.take_of_length_le, List.set_set, get_left, set_left, lget_left, lcells_left, get_set_eq, get_set_ne, lget_set_eq, lget_set_ne, lcells_set_ne]
              refine CT_val (with_ev (by omega)) ?_
              have hun : leftN P.n (withB u i) + 1 = leftN P.n u := left_with (by omega) hlt hb
              have hsl' := hG.len _ _ _ hst
              simp -dsimp only [go_sem, Nat.reduceEqDiff, Nat.reduceAdd, Nat.reduceSub, Nat.reduceMul, Nat.reduceLeDiff, Nat.reduceLT, Nat.reduceBEq, Int.reduceLT, Int.reduceLE, Int.reduceGT, Int.reduceGE, Int.reduceEq, Int.reduceNe, Int.reduceBEq, Int.reduceBNe, Int.reduceAdd, Int.reduceSub, Int.reduceMul, Int.reduceToNat, Int.reduceNeg, ↓reduceIte, ↓reduceDIte, lc5, hw, take_app_n, get_app_n, get_app_n0, set_app_n, set_app_n0, lget_app_n, lget_app_n0, lcells_app_n, lcells_app_n0, List.length_set, List.take_of_length_le, List.set_set, get_left, set_left, lget_left, lcells_left, get_set_eq, get_set_ne, lget_set_eq, lget_set_ne, lcells_set_ne]
              refine CT_of (ih (leftN P.n (withB u i)) (by omega) (withB u i) s' K5 a2 cap2 (o ++ [i]) D1 b' rfl hF5 hE5 hO5 hsb5.1 hsb5.2 (by omega) (by rw [hlen1]; omega) (Nat.le_trans hlK hKp5.1)) ?_
              rintro _ K6 ⟨a6, oc6, D6, rfl, hF6, hKp6⟩
              have hKp06 := hKp.trans (hKp5.trans hKp6)
              have htr : P.tryAt P.fnd u s i = (P.fnd (withB u i) s').map (i :: ·) := by simp [Prob.tryAt, hst, hb, hz]
              cases hr : P.fnd (withB u i) s' with
              | some r =>
                rw [hr] at hF6 htr
                rw [findSome_at hlt htry htr] at hfe
                simp -dsimp only [go_sem, Nat.reduceEqDiff, Nat.reduceAdd, Nat.reduceSub, Nat.reduceMul, Nat.reduceLeDiff, Nat.reduceLT, Nat.reduceBEq, Int.reduceLT, Int.reduceLE, Int.reduceGT, Int.reduceGE, Int.reduceEq, Int.reduceNe, Int.reduceBEq, Int.reduceBNe, Int.reduceAdd, Int.reduceSub, Int.reduceMul, Int.reduceToNat, Int.reduceNeg, ↓reduceIte, ↓reduceDIte, Option.isSome_some]
                rw [hfe]
                refine ⟨a6, oc6, D6, rfl, by simpa using hF6, (Kp.app _).trans hKp06⟩
              | none =>
                rw [hr] at hF6 htr
                simp only [Option.getD_none, List.append_nil] at hF6
                obtain ⟨hcut, hO6⟩ := hF6.ord.cut
                have hcut0 := hcut []
                rw [List.append_nil] at hcut0
                have row6 := hF6.row
                have q6 : lget K6 p 6 = some (.slice a6 (o.length + 1) oc6) := by rw [lget_at row6, ← hlen1]; rfl
                have hpl6 := (List.getElem?_eq_some_iff.1 row6).1
                have hw1 : IntKind.i64.wrap (((o.length + 1 : Nat) : Int) - 1) = (o.length : Int) := by rw [wrap_i64] <;> omega
                simp -dsimp only [go_sem, Nat.reduceEqDiff, Nat.reduceAdd, Nat.reduceSub, Nat.reduceMul, Nat.reduceLeDiff, Nat.reduceLT, Nat.reduceBEq, Int.reduceLT, Int.reduceLE, Int.reduceGT, Int.reduceGE, Int.reduceEq, Int.reduceNe, Int.reduceBEq, Int.reduceBNe, Int.reduceAdd, Int.reduceSub, Int.reduceMul, Int.reduceToNat, Int.reduceNeg, ↓reduceIte, ↓reduceDIte, Option.isSome_none, q6, hw1, hcut0, row6, hpl6, limp, hw, take_app_n, get_app_n, get_app_n0, set_app_n, set_app_n0, lget_app_n, lget_app_n0, lcells_app_n, lcells_app_n0, List.length_set, List.take_of_length_le, List.set_set, get_left, set_left, lget_left, lcells_left, get_set_eq, get_set_ne, lget_set_eq, lget_set_ne, lcells_set_ne]
                refine ⟨(i + 1, a6, oc6, D6, _), rfl, rfl, ⟨by dsimp only; omega, hF6.setp hO6, hKp06.trans (Kp.setp _), hnext ?_⟩, by dsimp only; omega⟩
                rw [htr]; rfl
          · have hz' : (P.ah i &&& ~~~u != 0#64) = true := by simpa using hz
            simp -dsimp only [go_sem, Nat.reduceEqDiff, Nat.reduceAdd, Nat.reduceSub, Nat.reduceMul, Nat.reduceLeDiff, Nat.reduceLT, Nat.reduceBEq, Int.reduceLT, Int.reduceLE, Int.reduceGT, Int.reduceGE, Int.reduceEq, Int.reduceNe, Int.reduceBEq, Int.reduceBNe, Int.reduceAdd, Int.reduceSub, Int.reduceMul, Int.reduceToNat, Int.reduceNeg, ↓reduceIte, ↓reduceDIte, k1, ga0, h1, h3, hz', hw]
            refine ⟨(i + 1, a1, oc1, D1, K), rfl, rfl, ⟨by dsimp only; omega, hF1, hKp, hnext ?_⟩, by dsimp only; omega⟩
            rw [Prob.tryAt, if_pos (.inr hz)]
        · simp -dsimp only [go_sem, Nat.reduceEqDiff, Nat.reduceAdd, Nat.reduceSub, Nat.reduceMul, Nat.reduceLeDiff, Nat.reduceLT, Nat.reduceBEq, Int.reduceLT, Int.reduceLE, Int.reduceGT, Int.reduceGE, Int.reduceEq, Int.reduceNe, Int.reduceBEq, Int.reduceBNe, Int.reduceAdd, Int.reduceSub, Int.reduceMul, Int.reduceToNat, Int.reduceNeg, ↓reduceIte, ↓reduceDIte, hw]
          refine ⟨(i + 1, a1, oc1, D1, K), rfl, rfl, ⟨by dsimp only; omega, hF1, hKp, hnext ?_⟩, by dsimp only; omega⟩
          rw [Prob.tryAt, if_pos (.inl hb)]
      · have h1 : ¬ (i : Int) < P.n := by omega
        have k5 : lget K p 5 = some (.map (some q)) := by rw [lget_at hF1.row]; rfl
        have kq := hF1.mp
        have hii : i = P.n := by omega
        subst hii
        rw [findSome_none htry] at hfe
        obtain ⟨e1, e2⟩ := dead_find nm D1
        have lq := hF.limq
        by_cases hin1 : nm ∈ D1
        · obtain ⟨di, e3, e4⟩ := e1 hin1
          simp -dsimp only [go_sem, Nat.reduceEqDiff, Nat.reduceAdd, Nat.reduceSub, Nat.reduceMul, Nat.reduceLeDiff, Nat.reduceLT, Nat.reduceBEq, Int.reduceLT, Int.reduceLE, Int.reduceGT, Int.reduceGE, Int.reduceEq, Int.reduceNe, Int.reduceBEq, Int.reduceBNe, Int.reduceAdd, Int.reduceSub, Int.reduceMul, Int.reduceToNat, Int.reduceNeg, ↓reduceIte, ↓reduceDIte, h1, k5, kq, e4, lq]
          rw [hfe, show (deadE D1).set di (strV nm, Value.bool true) = deadE D1 by (unfold deadE; rw [← List.map_set]; congr 1; exact set_same e3)]
          exact ⟨a1, oc1, D1, rfl, by simpa using hF1.kill D1 hF1.sound, (Kp.app _).trans (hKp.trans (Kp.setq _))⟩
        · have e4 := e2 hin1
          simp -dsimp only [go_sem, Nat.reduceEqDiff, Nat.reduceAdd, Nat.reduceSub, Nat.reduceMul, Nat.reduceLeDiff, Nat.reduceLT, Nat.reduceBEq, Int.reduceLT, Int.reduceLE, Int.reduceGT, Int.reduceGE, Int.reduceEq, Int.reduceNe, Int.reduceBEq, Int.reduceBNe, Int.reduceAdd, Int.reduceSub, Int.reduceMul, Int.reduceToNat, Int.reduceNeg, ↓reduceIte, ↓reduceDIte, h1, k5, kq, e4, lq]
          rw [hfe, show deadE D1 ++ [(strV nm, Value.bool true)] = deadE (D1 ++ [nm]) by simp [deadE]]
          refine ⟨a1, oc1, D1 ++ [nm], rfl, ?_, (Kp.app _).trans (hKp.trans (Kp.setq _))⟩
          simp only [Option.getD_none, List.append_nil]
          refine hF1.kill (D1 ++ [nm]) ?_
          intro x hx k' u' s' h1' h2' h3'
          rcases List.mem_append.1 hx with hx | hx
          · exact hF1.sound x hx k' u' s' h1' h2' h3'
          · obtain rfl := List.mem_singleton.1 hx
            obtain ⟨rfl, rfl⟩ := name_inj hkn h1' hkz h2' (hnm.trans h3')
            exact hfe
end Go.Proofs.Ytfobpjjpaehhpaa
