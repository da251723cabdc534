/- Valid, worked out. -/
import Derived.Test.YtfobpjjpaehhpaaM1
namespace Go.Proofs.Ytfobpjjpaehhpaa
open Go Go.LK
set_option linter.unusedSimpArgs false
set_option linter.unusedVariables false
def validF (l : List CallD) (o : List Nat) (cap mode : Int) : Bool := rightL l && (prob l (stepM cap l mode)).vrun o 0#64 []
set_option maxHeartbeats 4000000 in
theorem valid_ev {lim ncap oc : Nat} {cap mode : Int} {al ao : Option Addr} {l : List CallD} {o : List Nat} {H : LHeap} (h62 : l.length ≤ 62) (hs : Sl 8 H al (l.flatMap CallD.cells)) (ho : Sl 1 H ao (o.map fun i : Nat => i64 (i : Int))) (hol : o.length ≤ 900) (hcap : l.length ≤ ncap) (hc : cap ≤ 9223372036854775807) :
    callE T 13 lim [.slice al l.length ncap, .slice ao o.length oc, i64 cap, i64 mode] H fun v H' => v = .bool (validF l o cap mode) ∧ H' = H := by
  refine callE_pop rfl (by simp) rfl ?_
  simp -dsimp only [go_sem, Nat.reduceEqDiff, Nat.reduceAdd, Nat.reduceSub, Nat.reduceMul, Nat.reduceLeDiff, Nat.reduceLT, Nat.reduceBEq, Int.reduceLT, Int.reduceLE, Int.reduceGT, Int.reduceGE, Int.reduceEq, Int.reduceNe, Int.reduceBEq, Int.reduceBNe, Int.reduceAdd, Int.reduceSub, Int.reduceMul, Int.reduceToNat, Int.reduceNeg, ↓reduceIte, ↓reduceDIte]
  refine CT_val (right_cap hcap hs) ?_
  cases hr : rightL l
  · simp -dsimp only [go_sem, Nat.reduceEqDiff, Nat.reduceAdd, Nat.reduceSub, Nat.reduceMul, Nat.reduceLeDiff, Nat.reduceLT, Nat.reduceBEq, Int.reduceLT, Int.reduceLE, Int.reduceGT, Int.reduceGE, Int.reduceEq, Int.reduceNe, Int.reduceBEq, Int.reduceBNe, Int.reduceAdd, Int.reduceSub, Int.reduceMul, Int.reduceToNat, Int.reduceNeg, ↓reduceIte, ↓reduceDIte]
    simp [validF, hr]
  · have hval : validF l o cap mode = (prob l (stepM cap l mode)).vrun o 0#64 [] := by simp [validF, hr]
    rw [hval]
    have n1 : l.length * 1 ≤ 140737488355328 := by omega
    have n2 : l.length ≤ 140737488355328 := by omega
    have n3 : (0 : Int) ≤ (l.length : Int) ∧ (l.length : Int) ≤ (l.length : Int) ∧ 1 * (l.length : Int) ≤ 281474976710656 ∧ (l.length : Int) ≤ 281474976710656 := by omega
    simp -dsimp only [go_sem, Nat.reduceEqDiff, Nat.reduceAdd, Nat.reduceSub, Nat.reduceMul, Nat.reduceLeDiff, Nat.reduceLT, Nat.reduceBEq, Int.reduceLT, Int.reduceLE, Int.reduceGT, Int.reduceGE, Int.reduceEq, Int.reduceNe, Int.reduceBEq, Int.reduceBNe, Int.reduceAdd, Int.reduceSub, Int.reduceMul, Int.reduceToNat, Int.reduceNeg, ↓reduceIte, ↓reduceDIte, n1, n2]
    refine ⟨n3, ?_⟩
    refine LT_of (fun i : Nat => [(0, .slice al l.length ncap), (1, .slice ao o.length oc), (2, i64 cap), (3, i64 mode), (9, .slice (some ⟨H.length, 0, none⟩) l.length l.length), (28, i64 l.length), (29, i64 i)]) (fun i => H ++ [.row false 1 (List.replicate i (.bool true) ++ List.replicate (l.length - i) (.bool false))]) (fun i => i ≤ l.length) (fun i => l.length - i) 0 (by simp) (by simp) (by simp) ?_
    intro i hi
    by_cases hlt : i < l.length
    · have k1 : (i : Int) < l.length := by omega
      have k3 : 0 ≤ (i : Int) := by omega
      have hw : IntKind.i64.wrap ((i : Int) + 1) = ((i + 1 : Nat) : Int) := by rw [wrap_i64] <;> omega
      have k4 : i + 1 ≤ l.length := by omega
      have k5 : i + (l.length - i) = l.length := by omega
      simp -dsimp only [go_sem, Nat.reduceEqDiff, Nat.reduceAdd, Nat.reduceSub, Nat.reduceMul, Nat.reduceLeDiff, Nat.reduceLT, Nat.reduceBEq, Int.reduceLT, Int.reduceLE, Int.reduceGT, Int.reduceGE, Int.reduceEq, Int.reduceNe, Int.reduceBEq, Int.reduceBNe, Int.reduceAdd, Int.reduceSub, Int.reduceMul, Int.reduceToNat, Int.reduceNeg, ↓reduceIte, ↓reduceDIte, k1, k3, hw, k4, k5, List.length_append, List.length_replicate, take_app_n, get_app_n, get_app_n0, set_app_n, set_app_n0, lget_app_n, lget_app_n0, lcells_app_n, lcells_app_n0, List.length_set, List.take_of_length_le, List.set_set, get_left, set_left, lget_left, lcells_left, get_set_eq, get_set_ne, lget_set_eq, lget_set_ne, lcells_set_ne]
      refine ⟨i + 1, rfl, ?_, by omega, by omega⟩
      congr 3
      rw [show l.length - i = (l.length - (i + 1)) + 1 by omega, List.replicate_succ, List.set_append_right _ _ (by simp)]
      simp [List.replicate_succ']
    · have k1 : ¬ (i : Int) < l.length := by omega
      have hii : i = l.length := by omega
      subst hii
      have e0 : List.replicate l.length (Value.bool true) ++ List.replicate (l.length - l.length) (Value.bool false) = leftC l.length 0#64 := by simp [leftC_all]
      rw [e0]
      simp -dsimp only [go_sem, Nat.reduceEqDiff, Nat.reduceAdd, Nat.reduceSub, Nat.reduceMul, Nat.reduceLeDiff, Nat.reduceLT, Nat.reduceBEq, Int.reduceLT, Int.reduceLE, Int.reduceGT, Int.reduceGE, Int.reduceEq, Int.reduceNe, Int.reduceBEq, Int.reduceBNe, Int.reduceAdd, Int.reduceSub, Int.reduceMul, Int.reduceToNat, Int.reduceNeg, ↓reduceIte, ↓reduceDIte, k1]
      refine callE_stay rfl (by simp) rfl ?_
      simp -dsimp only [go_sem, Nat.reduceEqDiff, Nat.reduceAdd, Nat.reduceSub, Nat.reduceMul, Nat.reduceLeDiff, Nat.reduceLT, Nat.reduceBEq, Int.reduceLT, Int.reduceLE, Int.reduceGT, Int.reduceGE, Int.reduceEq, Int.reduceNe, Int.reduceBEq, Int.reduceBNe, Int.reduceAdd, Int.reduceSub, Int.reduceMul, Int.reduceToNat, Int.reduceNeg, ↓reduceIte, ↓reduceDIte]
      generalize hR : (prob l (stepM cap l mode)).vrun o 0#64 [] = R
      refine LT_of (fun x : Nat × BitVec 64 × Queue × Option Addr × LHeap => [(0, .slice al l.length ncap), (9, .slice (some ⟨H.length, 0, none⟩) l.length l.length), (11, ptrF (H.length + 1)), (12, .func (.func 37) #[] #[ptrF (H.length + 2), ptrF (H.length + 3)]), (41, .slice ao o.length oc), (42, i64 o.length), (43, i64 x.1)])
        (fun x => H ++ (.row false 1 (leftC l.length x.2.1) :: .row false 0 [i64 cap, .slice x.2.2.2.1 x.2.2.1.length x.2.2.1.length] :: .row false 0 [.slice al l.length ncap] :: .row false 0 [i64 mode] :: x.2.2.2.2))
        (fun x => x.1 ≤ o.length ∧ Sl 1 (H ++ (.row false 1 (leftC l.length x.2.1) :: .row false 0 [i64 cap, .slice x.2.2.2.1 x.2.2.1.length x.2.2.1.length] :: .row false 0 [.slice al l.length ncap] :: .row false 0 [i64 mode] :: x.2.2.2.2)) x.2.2.2.1 (x.2.2.1.map w64) ∧ Off H.length x.2.2.2.1 ∧ x.2.2.1.length ≤ x.1 ∧ x.1 ≤ 900 ∧ (prob l (stepM cap l mode)).vrun (o.drop x.1) x.2.1 x.2.2.1 = R)
        (fun x => o.length - x.1) (0, 0#64, [], none, []) (by simp) (by simp) ⟨by simp, Sl.nil _ _, fun x hx => (by cases hx), by simp, by simp, hR⟩ ?_
      rintro ⟨j, u, s, b, t⟩ ⟨hj, hb, hob, hsl, hj1, hv⟩
      simp only at hj hb hob hsl hj1 hv ⊢
      by_cases hjt : j < o.length
      · have m1 : (j : Int) < o.length := by omega
        have m3 : 0 ≤ (j : Int) := by omega
        have hw : IntKind.i64.wrap ((j : Int) + 1) = ((j + 1 : Nat) : Int) := by rw [wrap_i64] <;> omega
        have hx := List.getElem?_eq_getElem hjt
        rw [List.drop_eq_getElem_cons hjt] at hv
        generalize o[j]'hjt = x at hx hv
        rw [Prob.vrun] at hv
        obtain ⟨ab, ax, hab, hab1, hg⟩ := ho.all (by simp; omega)
        have gx := fun t => hg t j (i64 x) (by simp [hx])
        subst hab
        by_cases hxl : x < l.length
        · have x1 : ¬ ((x : Int) < 0) := by omega
          have x2 : ¬ ((l.length : Int) ≤ (x : Int)) := by omega
          have x3 : 0 ≤ (x : Int) := by omega
          have x4 : (x : Int) < (l.length : Int) := by omega
          cases hu : u.getLsbD x
          · have gL : ∀ t', lget (H ++ (.row false 1 (leftC l.length u) :: t')) H.length x = some (.bool true) := fun t' => by
              rw [lget_at (get_app0 H _), leftC_at hxl, hu]; rfl
            have hcx : l[x]? = some (l[x]'hxl) := List.getElem?_eq_getElem _
            generalize l[x]'hxl = c at hcx
            obtain ⟨lb, lo, hlab, hlb1, hlg⟩ := hs.rows (f := CallD.cells) CallD.len (by omega) (by omega)
            subst hlab
            have gc := fun t => hlg t x c hcx
            simp only [CallD.cells] at gc
            simp -dsimp only [go_sem, Nat.reduceEqDiff, Nat.reduceAdd, Nat.reduceSub, Nat.reduceMul, Nat.reduceLeDiff, Nat.reduceLT, Nat.reduceBEq, Int.reduceLT, Int.reduceLE, Int.reduceGT, Int.reduceGE, Int.reduceEq, Int.reduceNe, Int.reduceBEq, Int.reduceBNe, Int.reduceAdd, Int.reduceSub, Int.reduceMul, Int.reduceToNat, Int.reduceNeg, ↓reduceIte, ↓reduceDIte, m1, m3, gx, x1, x2, x3, x4, gL]
            have hahx : (prob l (stepM cap l mode)).ah x &&& ~~~u = 0#64 ↔ ∀ k o, l[k]? = some o → k ≠ x → u.getLsbD k = false → aheadF o c = false := ah_sub (by omega) hcx
            refine LT_of (fun y : Nat × LHeap => [(0, .slice (some ⟨lb, lo, none⟩) l.length ncap), (9, .slice (some ⟨H.length, 0, none⟩) l.length l.length), (11, ptrF (H.length + 1)), (12, .func (.func 37) #[] #[ptrF (H.length + 2), ptrF (H.length + 3)]), (14, i64 x), (41, .slice (some ⟨ab, ax, none⟩) o.length oc), (42, i64 o.length), (43, i64 j), (62, .slice (some ⟨lb, lo, none⟩) l.length ncap), (63, i64 l.length), (64, i64 y.1)])
              (fun y => H ++ (.row false 1 (leftC l.length u) :: .row false 0 [i64 cap, .slice b s.length s.length] :: .row false 0 [.slice (some ⟨lb, lo, none⟩) l.length ncap] :: .row false 0 [i64 mode] :: (t ++ y.2)))
              (fun y => y.1 ≤ l.length ∧ ∀ k o, k < y.1 → l[k]? = some o → k ≠ x → u.getLsbD k = false → aheadF o c = false) (fun y => l.length - y.1) (0, []) (by simp) (by simp) ⟨by simp, fun k o h => (by simp at h)⟩ ?_
            rintro ⟨k, v⟩ ⟨hk, hkp⟩
            simp only at hk hkp ⊢
            by_cases hkl : k < l.length
            · have p1 : (k : Int) < l.length := by omega
              have p3 : 0 ≤ (k : Int) := by omega
              have pw : IntKind.i64.wrap ((k : Int) + 1) = ((k + 1 : Nat) : Int) := by rw [wrap_i64] <;> omega
              have hd : l[k]? = some (l[k]'hkl) := List.getElem?_eq_getElem _
              generalize l[k]'hkl = d at hd
              have gd := fun t => hlg t k d hd
              simp only [CallD.cells] at gd
              have gK : ∀ t', lget (H ++ (.row false 1 (leftC l.length u) :: t')) H.length k = some (.bool (!u.getLsbD k)) := fun t' => by
                rw [lget_at (get_app0 H _), leftC_at hkl]
              have next : (k ≠ x → u.getLsbD k = false → aheadF d c = false) → ∀ k' o, k' < k + 1 → l[k']? = some o → k' ≠ x → u.getLsbD k' = false → aheadF o c = false := by
                intro h k' o h1 h2 h3 h4
                by_cases e : k' < k
                · exact hkp k' o e h2 h3 h4
                · obtain rfl : k' = k := by omega
                  rw [hd] at h2; cases h2
                  exact h h3 h4
              cases huk : u.getLsbD k
              · rw [huk] at gK
                by_cases hkx : k = x
                · have e1 : ((k : Int) != (x : Int)) = false := by simp [hkx]
                  simp -dsimp only [go_sem, Nat.reduceEqDiff, Nat.reduceAdd, Nat.reduceSub, Nat.reduceMul, Nat.reduceLeDiff, Nat.reduceLT, Nat.reduceBEq, Int.reduceLT, Int.reduceLE, Int.reduceGT, Int.reduceGE, Int.reduceEq, Int.reduceNe, Int.reduceBEq, Int.reduceBNe, Int.reduceAdd, Int.reduceSub, Int.reduceMul, Int.reduceToNat, Int.reduceNeg, ↓reduceIte, ↓reduceDIte, p1, p3, gd, gK, e1, pw, Bool.not_false, take_app_n, get_app_n, get_app_n0, set_app_n, set_app_n0, lget_app_n, lget_app_n0, lcells_app_n, lcells_app_n0, List.length_set, List.take_of_length_le, List.set_set, get_left, set_left, lget_left, lcells_left, get_set_eq, get_set_ne, lget_set_eq, lget_set_ne, lcells_set_ne]
                  exact ⟨(k + 1, v ++ [.row false 0 d.cells]), rfl, by simp [CallD.cells], ⟨by dsimp only; omega, next fun h => absurd hkx h⟩, by dsimp only; omega⟩
                · have e1 : ((k : Int) != (x : Int)) = true := by simp; omega
                  simp -dsimp only [go_sem, Nat.reduceEqDiff, Nat.reduceAdd, Nat.reduceSub, Nat.reduceMul, Nat.reduceLeDiff, Nat.reduceLT, Nat.reduceBEq, Int.reduceLT, Int.reduceLE, Int.reduceGT, Int.reduceGE, Int.reduceEq, Int.reduceNe, Int.reduceBEq, Int.reduceBNe, Int.reduceAdd, Int.reduceSub, Int.reduceMul, Int.reduceToNat, Int.reduceNeg, ↓reduceIte, ↓reduceDIte, p1, p3, x3, x4, gd, gc, gK, e1, pw, Bool.not_false, take_app_n, get_app_n, get_app_n0, set_app_n, set_app_n0, lget_app_n, lget_app_n0, lcells_app_n, lcells_app_n0, List.length_set, List.take_of_length_le, List.set_set, get_left, set_left, lget_left, lcells_left, get_set_eq, get_set_ne, lget_set_eq, lget_set_ne, lcells_set_ne]
                  refine CT_val (ahead_ev (a := d) (b := c)) ?_
                  cases hac : aheadF d c
                  · simp -dsimp only [go_sem, Nat.reduceEqDiff, Nat.reduceAdd, Nat.reduceSub, Nat.reduceMul, Nat.reduceLeDiff, Nat.reduceLT, Nat.reduceBEq, Int.reduceLT, Int.reduceLE, Int.reduceGT, Int.reduceGE, Int.reduceEq, Int.reduceNe, Int.reduceBEq, Int.reduceBNe, Int.reduceAdd, Int.reduceSub, Int.reduceMul, Int.reduceToNat, Int.reduceNeg, ↓reduceIte, ↓reduceDIte, pw]
                    exact ⟨(k + 1, v ++ [.row false 0 d.cells]), rfl, by simp [CallD.cells], ⟨by dsimp only; omega, next fun _ _ => hac⟩, by dsimp only; omega⟩
                  · simp -dsimp only [go_sem, Nat.reduceEqDiff, Nat.reduceAdd, Nat.reduceSub, Nat.reduceMul, Nat.reduceLeDiff, Nat.reduceLT, Nat.reduceBEq, Int.reduceLT, Int.reduceLE, Int.reduceGT, Int.reduceGE, Int.reduceEq, Int.reduceNe, Int.reduceBEq, Int.reduceBNe, Int.reduceAdd, Int.reduceSub, Int.reduceMul, Int.reduceToNat, Int.reduceNeg, ↓reduceIte, ↓reduceDIte]
                    rw [if_neg (fun h => by have := hahx.1 h.2.2 k d hd hkx huk; rw [hac] at this; cases this)] at hv
                    rw [← hv]
              · rw [huk] at gK
                simp -dsimp only [go_sem, Nat.reduceEqDiff, Nat.reduceAdd, Nat.reduceSub, Nat.reduceMul, Nat.reduceLeDiff, Nat.reduceLT, Nat.reduceBEq, Int.reduceLT, Int.reduceLE, Int.reduceGT, Int.reduceGE, Int.reduceEq, Int.reduceNe, Int.reduceBEq, Int.reduceBNe, Int.reduceAdd, Int.reduceSub, Int.reduceMul, Int.reduceToNat, Int.reduceNeg, ↓reduceIte, ↓reduceDIte, p1, p3, gd, gK, pw, Bool.not_true, take_app_n, get_app_n, get_app_n0, set_app_n, set_app_n0, lget_app_n, lget_app_n0, lcells_app_n, lcells_app_n0, List.length_set, List.take_of_length_le, List.set_set, get_left, set_left, lget_left, lcells_left, get_set_eq, get_set_ne, lget_set_eq, lget_set_ne, lcells_set_ne]
                exact ⟨(k + 1, v ++ [.row false 0 d.cells]), rfl, by simp [CallD.cells], ⟨by dsimp only; omega, next fun _ h => by rw [huk] at h; cases h⟩, by dsimp only; omega⟩
            · have p1 : ¬ (k : Int) < l.length := by omega
              have hkk : k = l.length := by omega
              subst hkk
              rw [if_pos ⟨hxl, hu, hahx.2 fun k o h1 => hkp k o (List.getElem?_eq_some_iff.1 h1).1 h1⟩] at hv
              simp -dsimp only [go_sem, Nat.reduceEqDiff, Nat.reduceAdd, Nat.reduceSub, Nat.reduceMul, Nat.reduceLeDiff, Nat.reduceLT, Nat.reduceBEq, Int.reduceLT, Int.reduceLE, Int.reduceGT, Int.reduceGE, Int.reduceEq, Int.reduceNe, Int.reduceBEq, Int.reduceBNe, Int.reduceAdd, Int.reduceSub, Int.reduceMul, Int.reduceToNat, Int.reduceNeg, ↓reduceIte, ↓reduceDIte, p1, take_app_n, get_app_n, get_app_n0, set_app_n, set_app_n0, lget_app_n, lget_app_n0, lcells_app_n, lcells_app_n0, List.length_set, List.take_of_length_le, List.set_set, get_left, set_left, lget_left, lcells_left, get_set_eq, get_set_ne, lget_set_eq, lget_set_ne, lcells_set_ne]
              generalize hZ : t ++ v = w
              have hbw : Sl 1 (H ++ (.row false 1 (leftC l.length u) :: .row false 0 [i64 cap, .slice b s.length s.length] :: .row false 0 [.slice (some ⟨lb, lo, none⟩) l.length ncap] :: .row false 0 [i64 mode] :: w)) b (s.map w64) := by
                rw [← hZ]; simpa using hb.app v
              refine CT_of (may1_ev (mode := mode) (l := l) (nl := l.length) (ncap := ncap) (al := some ⟨lb, lo, none⟩) (by simp) rfl h62 (by simp [List.getElem?_append]) (by simp [List.getElem?_append]) (hs.app _) hxl hbw (by omega) hc) ?_
              rintro _ _ ⟨t3, rfl, hm⟩
              simp only [show (prob l (stepM cap l mode)).step = stepM cap l mode from rfl] at hv
              cases hst : stepM cap l mode s x with
              | none =>
                rw [hst] at hm hv
                simp only [MayN] at hm
                simp only at hv
                subst hm
                simp -dsimp only [go_sem, Nat.reduceEqDiff, Nat.reduceAdd, Nat.reduceSub, Nat.reduceMul, Nat.reduceLeDiff, Nat.reduceLT, Nat.reduceBEq, Int.reduceLT, Int.reduceLE, Int.reduceGT, Int.reduceGE, Int.reduceEq, Int.reduceNe, Int.reduceBEq, Int.reduceBNe, Int.reduceAdd, Int.reduceSub, Int.reduceMul, Int.reduceToNat, Int.reduceNeg, ↓reduceIte, ↓reduceDIte, take_app_n, get_app_n, get_app_n0, set_app_n, set_app_n0, lget_app_n, lget_app_n0, lcells_app_n, lcells_app_n0, List.length_set, List.take_of_length_le, List.set_set, get_left, set_left, lget_left, lcells_left, get_set_eq, get_set_ne, lget_set_eq, lget_set_ne, lcells_set_ne]
                rw [← hv]
              | some s2 =>
                rw [hst] at hm hv
                simp only [MayN] at hm
                simp only at hv
                obtain ⟨b2, rfl, hm1, hm2⟩ := hm
                have y1 : x + 1 ≤ l.length := by omega
                simp -dsimp only [go_sem, Nat.reduceEqDiff, Nat.reduceAdd, Nat.reduceSub, Nat.reduceMul, Nat.reduceLeDiff, Nat.reduceLT, Nat.reduceBEq, Int.reduceLT, Int.reduceLE, Int.reduceGT, Int.reduceGE, Int.reduceEq, Int.reduceNe, Int.reduceBEq, Int.reduceBNe, Int.reduceAdd, Int.reduceSub, Int.reduceMul, Int.reduceToNat, Int.reduceNeg, ↓reduceIte, ↓reduceDIte, x3, x4, hw, y1, leftC_len, take_app_n, get_app_n, get_app_n0, set_app_n, set_app_n0, lget_app_n, lget_app_n0, lcells_app_n, lcells_app_n0, List.length_set, List.take_of_length_le, List.set_set, get_left, set_left, lget_left, lcells_left, get_set_eq, get_set_ne, lget_set_eq, lget_set_ne, lcells_set_ne]
                have hl2 : s2.length ≤ s.length + 1 := by
                  unfold stepM at hst
                  rw [hcx] at hst
                  exact mayF_len hst
                have hob2 : Off H.length b2 := by
                  rcases hm2 with rfl | hm2
                  · exact hob
                  · exact hm2.off (by simp)
                rw [leftC_set (by omega) hxl]
                refine ⟨(j + 1, withB u x, s2, b2, w ++ (t3 ++ [.row false 0 [i64 cap, .slice b2 s2.length s2.length]])), rfl, rfl, ⟨by dsimp only; omega, ?_, hob2, by dsimp only; omega, by dsimp only; omega, hv⟩, by dsimp only; omega⟩
                have s1 := hm1.set_off hob2 (.row false 1 (leftC l.length (withB u x)))
                have e1 : ∀ z : LHeap, (H ++ LObj.row false 1 (leftC l.length u) :: z).set H.length (.row false 1 (leftC l.length (withB u x))) = H ++ LObj.row false 1 (leftC l.length (withB u x)) :: z := fun z => by
                  rw [List.set_append_right _ _ (Nat.le_refl _), Nat.sub_self]; rfl
                rw [List.append_assoc, List.cons_append, e1] at s1
                refine s1.into (by omega) ?_
                simp [unbox_app, unbox_cons, unboxO_box]
          · have gL : ∀ t', lget (H ++ (.row false 1 (leftC l.length u) :: t')) H.length x = some (.bool false) := fun t' => by
              rw [lget_at (get_app0 H _), leftC_at hxl, hu]; rfl
            simp -dsimp only [go_sem, Nat.reduceEqDiff, Nat.reduceAdd, Nat.reduceSub, Nat.reduceMul, Nat.reduceLeDiff, Nat.reduceLT, Nat.reduceBEq, Int.reduceLT, Int.reduceLE, Int.reduceGT, Int.reduceGE, Int.reduceEq, Int.reduceNe, Int.reduceBEq, Int.reduceBNe, Int.reduceAdd, Int.reduceSub, Int.reduceMul, Int.reduceToNat, Int.reduceNeg, ↓reduceIte, ↓reduceDIte, m1, m3, gx, x1, x2, x3, x4, gL]
            rw [if_neg (by rw [hu]; simp)] at hv
            rw [← hv]
        · have x1 : ¬ ((x : Int) < 0) := by omega
          have x2 : ((l.length : Int) ≤ (x : Int)) := by omega
          simp -dsimp only [go_sem, Nat.reduceEqDiff, Nat.reduceAdd, Nat.reduceSub, Nat.reduceMul, Nat.reduceLeDiff, Nat.reduceLT, Nat.reduceBEq, Int.reduceLT, Int.reduceLE, Int.reduceGT, Int.reduceGE, Int.reduceEq, Int.reduceNe, Int.reduceBEq, Int.reduceBNe, Int.reduceAdd, Int.reduceSub, Int.reduceMul, Int.reduceToNat, Int.reduceNeg, ↓reduceIte, ↓reduceDIte, m1, m3, gx, x1, x2]
          rw [if_neg (fun h => hxl h.1)] at hv
          rw [← hv]
      · have m1 : ¬ (j : Int) < o.length := by omega
        have hjj : j = o.length := by omega
        subst hjj
        simp -dsimp only [go_sem, Nat.reduceEqDiff, Nat.reduceAdd, Nat.reduceSub, Nat.reduceMul, Nat.reduceLeDiff, Nat.reduceLT, Nat.reduceBEq, Int.reduceLT, Int.reduceLE, Int.reduceGT, Int.reduceGE, Int.reduceEq, Int.reduceNe, Int.reduceBEq, Int.reduceBNe, Int.reduceAdd, Int.reduceSub, Int.reduceMul, Int.reduceToNat, Int.reduceNeg, ↓reduceIte, ↓reduceDIte, m1]
        rw [List.drop_length, Prob.vrun] at hv
        have hds : (prob l (stepM cap l mode)).done &&& ~~~u = 0#64 ↔ ∀ k o, l[k]? = some o → u.getLsbD k = false → o.dn = false := done_sub (by omega)
        refine LT_of (fun y : Nat × LHeap => [(9, .slice (some ⟨H.length, 0, none⟩) l.length l.length), (101, .slice al l.length ncap), (102, i64 l.length), (103, i64 y.1)])
          (fun y => H ++ (.row false 1 (leftC l.length u) :: .row false 0 [i64 cap, .slice b s.length s.length] :: .row false 0 [.slice al l.length ncap] :: .row false 0 [i64 mode] :: (t ++ y.2)))
          (fun y => y.1 ≤ l.length ∧ ∀ k o, k < y.1 → l[k]? = some o → u.getLsbD k = false → o.dn = false) (fun y => l.length - y.1) (0, []) (by simp) (by simp) ⟨by simp, fun k o h => (by simp at h)⟩ ?_
        rintro ⟨k, v⟩ ⟨hk, hkp⟩
        simp only at hk hkp ⊢
        by_cases hkl : k < l.length
        · have p1 : (k : Int) < l.length := by omega
          have p3 : 0 ≤ (k : Int) := by omega
          have pw : IntKind.i64.wrap ((k : Int) + 1) = ((k + 1 : Nat) : Int) := by rw [wrap_i64] <;> omega
          have hd : l[k]? = some (l[k]'hkl) := List.getElem?_eq_getElem _
          generalize l[k]'hkl = d at hd
          obtain ⟨lb, lo, hlab, hlb1, hlg⟩ := hs.rows (f := CallD.cells) CallD.len (by omega) (by omega)
          subst hlab
          have gd := fun t => hlg t k d hd
          simp only [CallD.cells] at gd
          have gK : ∀ t', lget (H ++ (.row false 1 (leftC l.length u) :: t')) H.length k = some (.bool (!u.getLsbD k)) := fun t' => by
            rw [lget_at (get_app0 H _), leftC_at hkl]
          have next : (u.getLsbD k = false → d.dn = false) → ∀ k' o, k' < k + 1 → l[k']? = some o → u.getLsbD k' = false → o.dn = false := by
            intro h k' o h1 h2 h4
            by_cases e : k' < k
            · exact hkp k' o e h2 h4
            · obtain rfl : k' = k := by omega
              rw [hd] at h2; cases h2
              exact h h4
          cases hdd : d.dn
          · simp -dsimp only [go_sem, Nat.reduceEqDiff, Nat.reduceAdd, Nat.reduceSub, Nat.reduceMul, Nat.reduceLeDiff, Nat.reduceLT, Nat.reduceBEq, Int.reduceLT, Int.reduceLE, Int.reduceGT, Int.reduceGE, Int.reduceEq, Int.reduceNe, Int.reduceBEq, Int.reduceBNe, Int.reduceAdd, Int.reduceSub, Int.reduceMul, Int.reduceToNat, Int.reduceNeg, ↓reduceIte, ↓reduceDIte, p1, p3, gd, gK, hdd, pw, take_app_n, get_app_n, get_app_n0, set_app_n, set_app_n0, lget_app_n, lget_app_n0, lcells_app_n, lcells_app_n0, List.length_set, List.take_of_length_le, List.set_set, get_left, set_left, lget_left, lcells_left, get_set_eq, get_set_ne, lget_set_eq, lget_set_ne, lcells_set_ne]
            exact ⟨(k + 1, v ++ [.row false 0 d.cells]), rfl, by simp [CallD.cells, hdd], ⟨by dsimp only; omega, next fun _ => hdd⟩, by dsimp only; omega⟩
          · cases huk : u.getLsbD k
            · rw [huk] at gK
              simp -dsimp only [go_sem, Nat.reduceEqDiff, Nat.reduceAdd, Nat.reduceSub, Nat.reduceMul, Nat.reduceLeDiff, Nat.reduceLT, Nat.reduceBEq, Int.reduceLT, Int.reduceLE, Int.reduceGT, Int.reduceGE, Int.reduceEq, Int.reduceNe, Int.reduceBEq, Int.reduceBNe, Int.reduceAdd, Int.reduceSub, Int.reduceMul, Int.reduceToNat, Int.reduceNeg, ↓reduceIte, ↓reduceDIte, p1, p3, gd, gK, hdd, pw, Bool.not_false, take_app_n, get_app_n, get_app_n0, set_app_n, set_app_n0, lget_app_n, lget_app_n0, lcells_app_n, lcells_app_n0, List.length_set, List.take_of_length_le, List.set_set, get_left, set_left, lget_left, lcells_left, get_set_eq, get_set_ne, lget_set_eq, lget_set_ne, lcells_set_ne]
              rw [← hv]
              have : ¬ ((prob l (stepM cap l mode)).done &&& ~~~u = 0#64) := fun h => by
                have := hds.1 h k d hd huk
                rw [hdd] at this; cases this
              simp [this]
            · rw [huk] at gK
              simp -dsimp only [go_sem, Nat.reduceEqDiff, Nat.reduceAdd, Nat.reduceSub, Nat.reduceMul, Nat.reduceLeDiff, Nat.reduceLT, Nat.reduceBEq, Int.reduceLT, Int.reduceLE, Int.reduceGT, Int.reduceGE, Int.reduceEq, Int.reduceNe, Int.reduceBEq, Int.reduceBNe, Int.reduceAdd, Int.reduceSub, Int.reduceMul, Int.reduceToNat, Int.reduceNeg, ↓reduceIte, ↓reduceDIte, p1, p3, gd, gK, hdd, pw, Bool.not_true, take_app_n, get_app_n, get_app_n0, set_app_n, set_app_n0, lget_app_n, lget_app_n0, lcells_app_n, lcells_app_n0, List.length_set, List.take_of_length_le, List.set_set, get_left, set_left, lget_left, lcells_left, get_set_eq, get_set_ne, lget_set_eq, lget_set_ne, lcells_set_ne]
              exact ⟨(k + 1, v ++ [.row false 0 d.cells]), rfl, by simp [CallD.cells, hdd], ⟨by dsimp only; omega, next fun h => by rw [huk] at h; cases h⟩, by dsimp only; omega⟩
        · have p1 : ¬ (k : Int) < l.length := by omega
          have hkk : k = l.length := by omega
          subst hkk
          simp -dsimp only [go_sem, Nat.reduceEqDiff, Nat.reduceAdd, Nat.reduceSub, Nat.reduceMul, Nat.reduceLeDiff, Nat.reduceLT, Nat.reduceBEq, Int.reduceLT, Int.reduceLE, Int.reduceGT, Int.reduceGE, Int.reduceEq, Int.reduceNe, Int.reduceBEq, Int.reduceBNe, Int.reduceAdd, Int.reduceSub, Int.reduceMul, Int.reduceToNat, Int.reduceNeg, ↓reduceIte, ↓reduceDIte, p1]
          rw [← hv]
          have := hds.2 fun k o h1 => hkp k o (List.getElem?_eq_some_iff.1 h1).1 h1
          simp [this]
end Go.Proofs.Ytfobpjjpaehhpaa
