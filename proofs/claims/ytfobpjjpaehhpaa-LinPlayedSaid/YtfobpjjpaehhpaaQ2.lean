/- Calls that a queue did, one behind the other, worked out. -/
import Derived.Test.YtfobpjjpaehhpaaQ0
import Derived.Test.YtfobpjjpaehhpaaQ1
namespace Go.Proofs.Ytfobpjjpaehhpaa
open Go Go.LK
set_option linter.unusedSimpArgs false
set_option linter.unusedVariables false
def playV (cap : Int) (l : List (BitVec 64)) (i : Nat) : HV := { l := (playS cap (l.take i)).1, op := [], now := 2 * (i : Int) }
theorem play_fin {cap : Int} {l : List (BitVec 64)} {i : Nat} {x : BitVec 64} (hi : i < l.length) (h40 : i < 40) (hx : l[i]? = some x) :
    ((playV cap l i).begin (threadOf x) (kindOf x) x).2 = ((i : Int), (0 : Int)) ∧ (((playV cap l i).begin (threadOf x) (kindOf x) x).1.fin i (doF cap (playS cap (l.take i)).2 (kindOf x) x).2.1 (doF cap (playS cap (l.take i)).2 (kindOf x) x).2.2).1 = playV cap l (i + 1) := by
  have ht := thread_range x
  have hl := (playS_len (cap := cap) (l := l) i (by omega)).1
  have e : (playV cap l i).begin (threadOf x) (kindOf x) x = ({ l := (playV cap l i).l ++ [{ th := threadOf x, kind := kindOf x, arg := x, fr := (playV cap l i).now, to := 0, dn := false, code := 0, ret := 0#64 }], op := (playV cap l i).op ++ [(threadOf x, ((playV cap l i).l.length : Int))], now := (playV cap l i).now + 1 }, ((playV cap l i).l.length : Int), 0) := by
    rw [HV.begin, if_neg (by omega), if_neg (by simp [HV.open, playV, mfind]), if_neg (by simp only [playV, hl]; omega)]
  rw [e]
  have hl2 : (playV cap l i).l.length = i := hl
  refine ⟨by simp only [hl2], ?_⟩
  have hg : ((playV cap l i).l ++ [({ th := threadOf x, kind := kindOf x, arg := x, fr := (playV cap l i).now, to := 0, dn := false, code := 0, ret := 0#64 } : CallD)])[i]? = some { th := threadOf x, kind := kindOf x, arg := x, fr := (playV cap l i).now, to := 0, dn := false, code := 0, ret := 0#64 } := by
    rw [List.getElem?_append_right (by omega), hl2, Nat.sub_self]; rfl
  rw [HV.fin, if_neg (by omega)]
  simp only [Int.toNat_natCast]
  rw [hg]
  simp only [Bool.false_eq_true, if_false]
  rw [List.set_append_right _ _ (by omega), hl2, Nat.sub_self]
  unfold playV
  rw [playS_succ hx, hl]
  simp only [List.set_cons_zero, HV.mk.injEq]
  refine ⟨rfl, by simp [dropOp, mfind], by push_cast; omega⟩
theorem new_ev {lim : Nat} {H : LHeap} : callE T 32 lim [] H fun v H' => v = ptrF (H.length + 1) ∧ H' = H ++ [.map [], .row false 0 [.slice none 0 0, .map (some H.length), i64 0]] := by
  refine callE_stay rfl (by simp) rfl ?_
  simp -dsimp only [go_sem, Nat.reduceEqDiff, Nat.reduceAdd, Nat.reduceSub, Nat.reduceMul, Nat.reduceLeDiff, Nat.reduceLT, Nat.reduceBEq, Int.reduceLT, Int.reduceLE, Int.reduceGT, Int.reduceGE, Int.reduceEq, Int.reduceNe, Int.reduceBEq, Int.reduceBNe, Int.reduceAdd, Int.reduceSub, Int.reduceMul, Int.reduceToNat, Int.reduceNeg, ↓reduceIte, ↓reduceDIte]
theorem LogAt.set_off {n b m j : Nat} {H : LHeap} {a : Option Addr} {v : HV} (h : LogAt n H b m a v) (h1 : j ≠ b) (h2 : j ≠ m) (h3 : Off j a) (x : LObj) : LogAt n (H.set j x) b m a v :=
  ⟨by rw [get_set_ne h1]; exact h.row, by rw [get_set_ne h2]; exact h.mp, h.ls.set h3 _, h.nb, h.nm, h.na, h.ne, h.ob, h.om⟩
set_option maxHeartbeats 4000000 in
theorem played_ev {lim ncap : Nat} {cap : Int} {al : Option Addr} {l : List (BitVec 64)} {H : LHeap} (hl : lim ≤ H.length) (hs : Sl 1 H al (l.map w64)) :
    callE T 19 lim [i64 cap, .slice al l.length ncap] H fun v H' => ∃ n a' t, n = min l.length 40 ∧ v = .slice a' n n ∧ H' = H ++ t ∧ Sl 8 (H ++ t) a' ((playS cap (l.take n)).1.flatMap CallD.cells) := by
  refine callE_stay rfl (by simp) rfl ?_
  simp -dsimp only [go_sem, Nat.reduceEqDiff, Nat.reduceAdd, Nat.reduceSub, Nat.reduceMul, Nat.reduceLeDiff, Nat.reduceLT, Nat.reduceBEq, Int.reduceLT, Int.reduceLE, Int.reduceGT, Int.reduceGE, Int.reduceEq, Int.reduceNe, Int.reduceBEq, Int.reduceBNe, Int.reduceAdd, Int.reduceSub, Int.reduceMul, Int.reduceToNat, Int.reduceNeg, ↓reduceIte, ↓reduceDIte]
  refine CT_of new_ev ?_
  rintro _ _ ⟨rfl, rfl⟩
  simp -dsimp only [go_sem, Nat.reduceEqDiff, Nat.reduceAdd, Nat.reduceSub, Nat.reduceMul, Nat.reduceLeDiff, Nat.reduceLT, Nat.reduceBEq, Int.reduceLT, Int.reduceLE, Int.reduceGT, Int.reduceGE, Int.reduceEq, Int.reduceNe, Int.reduceBEq, Int.reduceBNe, Int.reduceAdd, Int.reduceSub, Int.reduceMul, Int.reduceToNat, Int.reduceNeg, ↓reduceIte, ↓reduceDIte, take_app_n, get_app_n, get_app_n0, set_app_n, set_app_n0, lget_app_n, lget_app_n0, lcells_app_n, lcells_app_n0, List.length_set, List.take_of_length_le, List.set_set, get_left, set_left, lget_left, lcells_left, get_set_eq, get_set_ne, lget_set_eq, lget_set_ne, lcells_set_ne]
  refine LT_of (fun x : Nat × Option Addr × Option Addr × LHeap => [(1, .slice al l.length ncap), (5, ptrF (H.length + 1)), (6, ptrF (H.length + 2)), (7, i64 x.1)]) (fun x => x.2.2.2)
    (fun x => x.1 ≤ l.length ∧ x.1 ≤ 40 ∧ LogAt H.length x.2.2.2 (H.length + 1) H.length x.2.1 (playV cap l x.1) ∧ x.2.2.2[H.length + 2]? = some (.row false 0 [i64 cap, .slice x.2.2.1 (playS cap (l.take x.1)).2.length (playS cap (l.take x.1)).2.length]) ∧ Off (H.length + 2) x.2.1 ∧ Sl 1 x.2.2.2 x.2.2.1 ((playS cap (l.take x.1)).2.map w64) ∧ OffS (H.length + 1) H.length x.2.1 x.2.2.1 ∧ Off (H.length + 2) x.2.2.1 ∧ ∀ j, j < H.length → x.2.2.2[j]? = H[j]?)
    (fun x => l.length - x.1) (0, none, none, H ++ [.map [], .row false 0 [.slice none 0 0, .map (some H.length), i64 0], .row false 0 [i64 cap, .slice none 0 0]]) (by simp) (by simp) ?_ ?_
  · refine ⟨by simp, by simp, ⟨by simp [playV, playS], by simp [playV], .inl ⟨rfl, by simp [playV, playS]⟩, by simp, by simp, Fresh.nil _, by simp, (fun x hx => by cases hx), (fun x hx => by cases hx)⟩, by simp [playS], (fun x hx => by cases hx), Sl.nil _ _, (fun x hx => by cases hx), (fun x hx => by cases hx), fun j hj => get_left hj _⟩
  rintro ⟨i, a, b, K⟩ ⟨hi, h40, hL, hf, hfo, hb, hbo, hbf, hold⟩
  simp only at hi h40 hL hf hfo hb hbo hbf hold ⊢
  have final : i = min l.length 40 → callE T 35 lim [ptrF (H.length + 1)] K fun v H' => ∃ a' t, v = .slice a' i i ∧ H' = H ++ t ∧ Sl 8 (H ++ t) a' ((playS cap (l.take i)).1.flatMap CallD.cells) := by
    intro hmin
    have hpl := (playS_len (cap := cap) (l := l) i hi).1
    have hHK : H.length ≤ K.length := by have := (List.getElem?_eq_some_iff.1 hf).1; omega
    refine callE.mono (calls_ev (by omega) hL (by show (playS cap (l.take i)).1.length < _; omega)) ?_
    rintro v H' ⟨a', t, rfl, rfl, h3⟩
    have hbk := back hHK hold
    refine ⟨a', K.drop H.length ++ t, ?_, ?_, ?_⟩
    · show Value.slice a' (playS cap (l.take i)).1.length (playS cap (l.take i)).1.length = _
      rw [hpl]
    · rw [← List.append_assoc, ← hbk]
    · rw [← List.append_assoc, ← hbk]; exact h3
  have hfl := (List.getElem?_eq_some_iff.1 hf).1
  by_cases hlt : i < l.length
  · have k1 : (i : Int) < l.length := by omega
    have k3 : 0 ≤ (i : Int) := by omega
    by_cases hl40 : i < 40
    · have k2 : (i : Int) < 40 := by omega
      have hx : l[i]? = some (l[i]'hlt) := List.getElem?_eq_getElem _
      generalize l[i]'hlt = x at hx
      have hw : IntKind.i64.wrap ((i : Int) + 1) = ((i + 1 : Nat) : Int) := by rw [wrap_i64] <;> omega
      obtain ⟨lb, lo, rfl, hlb1, hlg⟩ := hs.all (by simp; omega)
      have gx := fun t => hlg t i (w64 x) (by simp [hx])
      have hHK0 : H.length ≤ K.length := by omega
      have gx0 := gx (K.drop H.length)
      rw [← back hHK0 hold] at gx0
      have hkd : (x &&& 1#64).toInt = kindOf x := by
        have : (x &&& 1#64).toNat ≤ 1 := by rw [BitVec.toNat_and]; exact Nat.and_le_right
        rw [BitVec.toInt_eq_toNat_of_lt (by omega)]; rfl
      have htd : (x >>> min (8#64).toNat 64 &&& 7#64).toInt = threadOf x := by
        have : (x >>> 8 &&& 7#64).toNat ≤ 7 := by rw [BitVec.toNat_and]; exact Nat.and_le_right
        show (x >>> 8 &&& 7#64).toInt = threadOf x
        rw [BitVec.toInt_eq_toNat_of_lt (by omega)]; rfl
      obtain ⟨pf1, pf2⟩ := play_fin (cap := cap) hlt hl40 hx
      have hpl := playS_len (cap := cap) (l := l) i (by omega)
      have hHK : H.length ≤ K.length := by omega
      have hnow : (playV cap l i).now = 2 * (i : Int) := rfl
      have hvl : (playV cap l i).l.length = i := hpl.1
      simp -dsimp only [go_sem, Nat.reduceEqDiff, Nat.reduceAdd, Nat.reduceSub, Nat.reduceMul, Nat.reduceLeDiff, Nat.reduceLT, Nat.reduceBEq, Int.reduceLT, Int.reduceLE, Int.reduceGT, Int.reduceGE, Int.reduceEq, Int.reduceNe, Int.reduceBEq, Int.reduceBNe, Int.reduceAdd, Int.reduceSub, Int.reduceMul, Int.reduceToNat, Int.reduceNeg, ↓reduceIte, ↓reduceDIte, k1, k2, k3, gx0, hkd, htd]
      refine CT_of (begin_ev (t := threadOf x) (kind := kindOf x) (arg := x) hl hHK hL (by omega) (by omega)) ?_
      rintro _ K1 ⟨a1, rfl, hL1, hk1⟩
      rw [pf1]
      have hKp1 : Kp (H.length + 1) H.length a a1 K K1 := hk1
      obtain ⟨hf1, hfo1⟩ := hKp1.at_ (by omega) (by omega) hfo hf
      obtain ⟨hb1, hbo1⟩ := hKp1.sl hb hbo
      have hol1 : ∀ j, j < H.length → K1[j]? = H[j]? := fun j hj => (hk1.2 j (by omega) (by omega) (by omega) (hL.na.off (by omega))).1.trans (hold j hj)
      have hHK1 : H.length ≤ K1.length := Nat.le_trans hHK hk1.1
      have gx1 : ∀ t, lget (K1 ++ t) lb (lo + i) = some (w64 x) := fun t => by
        have := gx (K1.drop H.length ++ t)
        rw [← List.append_assoc, ← back hHK1 hol1] at this
        exact this
      have gx10 := gx1 []
      rw [List.append_nil] at gx10
      have lf1 : lcells K1 (H.length + 2) 0 2 = some [i64 cap, .slice b (playS cap (l.take i)).2.length (playS cap (l.take i)).2.length] := lcells_of hf1 rfl
      simp -dsimp only [go_sem, Nat.reduceEqDiff, Nat.reduceAdd, Nat.reduceSub, Nat.reduceMul, Nat.reduceLeDiff, Nat.reduceLT, Nat.reduceBEq, Int.reduceLT, Int.reduceLE, Int.reduceGT, Int.reduceGE, Int.reduceEq, Int.reduceNe, Int.reduceBEq, Int.reduceBNe, Int.reduceAdd, Int.reduceSub, Int.reduceMul, Int.reduceToNat, Int.reduceNeg, ↓reduceIte, ↓reduceDIte, k1, k2, k3, gx1, gx10, lf1, hkd, htd]
      refine CT_of (doF_ev (cap := cap) (kind := kindOf x) (x := x) (l := (playS cap (l.take i)).2) (by simp; omega) (hb1.app _) (by omega)) ?_
      rintro _ _ ⟨b2, t2, rfl, rfl, g1, g2⟩
      have hsn := playS_succ (cap := cap) hx
      have hS2 : (playS cap (l.take (i + 1))).2 = (doF cap (playS cap (l.take i)).2 (kindOf x) x).1 := by rw [hsn]
      have hlim : ∀ z : Nat, lim ≤ K1.length + z := fun z => by omega
      have hlim0 : lim ≤ K1.length := by omega
      have hdl := doF_len cap (playS cap (l.take i)).2 (kindOf x) x
      have hsm : (doF cap (playS cap (l.take i)).2 (kindOf x) x).2.1 ≠ 0 → (doF cap (playS cap (l.take i)).2 (kindOf x) x).1 = (playS cap (l.take i)).2 := doF_same
      generalize hq : doF cap (playS cap (l.take i)).2 (kindOf x) x = q at g1 g2 pf2 hS2 hdl hsm ⊢
      obtain ⟨q1, q2, q3⟩ := q
      simp only at g1 g2 pf2 hS2 hdl hsm ⊢
      simp -dsimp only [go_sem, Nat.reduceEqDiff, Nat.reduceAdd, Nat.reduceSub, Nat.reduceMul, Nat.reduceLeDiff, Nat.reduceLT, Nat.reduceBEq, Int.reduceLT, Int.reduceLE, Int.reduceGT, Int.reduceGE, Int.reduceEq, Int.reduceNe, Int.reduceBEq, Int.reduceBNe, Int.reduceAdd, Int.reduceSub, Int.reduceMul, Int.reduceToNat, Int.reduceNeg, ↓reduceIte, ↓reduceDIte, hlim, hlim0, take_app_n, get_app_n, get_app_n0, set_app_n, set_app_n0, lget_app_n, lget_app_n0, lcells_app_n, lcells_app_n0, List.length_set, List.take_of_length_le, List.set_set, get_left, set_left, lget_left, lcells_left, get_set_eq, get_set_ne, lget_set_eq, lget_set_ne, lcells_set_ne]
      have hvl1 : ((playV cap l i).begin (threadOf x) (kindOf x) x).1.l.length ≤ 41 ∧ ((playV cap l i).begin (threadOf x) (kindOf x) x).1.now = 2 * (i : Int) + 1 := by
        have ht := thread_range x
        rw [HV.begin, if_neg (by omega), if_neg (by simp [HV.open, playV, mfind]), if_neg (by omega)]
        exact ⟨by simp [hvl]; omega, rfl⟩
      refine CT_of (fin_ev (lim := lim) (n := H.length) hl (hL1.app _) (by omega) (by omega)) ?_
      rintro _ K3 ⟨rfl, hL3, hk3⟩
      rw [pf2] at hL3
      have hKp3 : Kp (H.length + 1) H.length a1 a1 _ K3 := hk3
      have hKne : K1.length ≠ H.length + 1 ∧ K1.length ≠ H.length := by have := (List.getElem?_eq_some_iff.1 hf1).1; omega
      have hfl1 := (List.getElem?_eq_some_iff.1 hf1).1
      have hoffK : Off K1.length a1 := hL1.sl.off (Nat.le_refl _)
      obtain ⟨hbx, _⟩ := hKp3.at_ hKne.1 hKne.2 hoffK (get_app0 K1 _)
      obtain ⟨hf3, hfo3⟩ := hKp3.at_ (by omega) (by omega) hfo1 (get_old hf1 _)
      have hol3 : ∀ j, j < H.length → K3[j]? = H[j]? := fun j hj => by
        rw [(hk3.2 j (by simp; omega) (by omega) (by omega) (hL1.na.off (by omega))).1, get_left (by omega)]
        exact hol1 j hj
      have hf3l := (List.getElem?_eq_some_iff.1 hf3).1
      have hlf : lim ≤ H.length + 2 := by omega
      have hw2 : IntKind.i64.wrap ((i : Int) + 1) = ((i + 1 : Nat) : Int) := hw
      by_cases hz : q2 = 0
      · subst hz
        have lx : lcells K3 K1.length 0 2 = some [i64 cap, .slice b2 q1.length q1.length] := lcells_of hbx rfl
        simp -dsimp only [go_sem, Nat.reduceEqDiff, Nat.reduceAdd, Nat.reduceSub, Nat.reduceMul, Nat.reduceLeDiff, Nat.reduceLT, Nat.reduceBEq, Int.reduceLT, Int.reduceLE, Int.reduceGT, Int.reduceGE, Int.reduceEq, Int.reduceNe, Int.reduceBEq, Int.reduceBNe, Int.reduceAdd, Int.reduceSub, Int.reduceMul, Int.reduceToNat, Int.reduceNeg, ↓reduceIte, ↓reduceDIte, lx, hf3, hf3l, hlf, hw, take_app_n, get_app_n, get_app_n0, set_app_n, set_app_n0, lget_app_n, lget_app_n0, lcells_app_n, lcells_app_n0, List.length_set, List.take_of_length_le, List.set_set, get_left, set_left, lget_left, lcells_left, get_set_eq, get_set_ne, lget_set_eq, lget_set_ne, lcells_set_ne]
        have hob2 : OffS (H.length + 1) H.length a1 b2 ∧ Off (H.length + 2) b2 := by
          rcases g2 with ⟨rfl, _⟩ | g2
          · exact ⟨hbo1, hbf⟩
          · refine ⟨fun y hy => ?_, g2.off (by simp; omega)⟩
            have := g2 y hy
            simp only [List.length_append, List.length_singleton] at this
            exact ⟨by omega, by omega, hL1.sl.off (by omega)⟩
        have hb3 := (hKp3.sl (g1.into (by omega) (by simp [unbox_app, unbox_cons, unboxO_box])) hob2.1).1
        refine ⟨(i + 1, a1, b2, _), rfl, rfl, ⟨by dsimp only; omega, by dsimp only; omega, hL3.set_off (by omega) (by omega) hfo1 _, ?_, hfo1, ?_, hob2.1, hob2.2, fun j hj => ?_⟩, by dsimp only; omega⟩
        · dsimp only
          rw [hS2, get_set_eq hf3l]
        · dsimp only
          rw [hS2]
          exact hb3.set_off hob2.2 _
        · dsimp only
          rw [get_set_ne (by omega)]; exact hol3 j hj
      · have hz' : (q2 == 0) = false := by simpa using hz
        have hq1 := hsm hz
        simp -dsimp only [go_sem, Nat.reduceEqDiff, Nat.reduceAdd, Nat.reduceSub, Nat.reduceMul, Nat.reduceLeDiff, Nat.reduceLT, Nat.reduceBEq, Int.reduceLT, Int.reduceLE, Int.reduceGT, Int.reduceGE, Int.reduceEq, Int.reduceNe, Int.reduceBEq, Int.reduceBNe, Int.reduceAdd, Int.reduceSub, Int.reduceMul, Int.reduceToNat, Int.reduceNeg, ↓reduceIte, ↓reduceDIte, hz', hw, take_app_n, get_app_n, get_app_n0, set_app_n, set_app_n0, lget_app_n, lget_app_n0, lcells_app_n, lcells_app_n0, List.length_set, List.take_of_length_le, List.set_set, get_left, set_left, lget_left, lcells_left, get_set_eq, get_set_ne, lget_set_eq, lget_set_ne, lcells_set_ne]
        have hb3 := (hKp3.sl (hb1.app _) hbo1).1
        refine ⟨(i + 1, a1, b, K3), rfl, rfl, ⟨by dsimp only; omega, by dsimp only; omega, hL3, ?_, hfo1, ?_, hbo1, hbf, hol3⟩, by dsimp only; omega⟩
        · dsimp only
          rw [hS2, hq1]; exact hf3
        · dsimp only
          rw [hS2, hq1]; exact hb3
    · have k2 : ¬ (i : Int) < 40 := by omega
      simp -dsimp only [go_sem, Nat.reduceEqDiff, Nat.reduceAdd, Nat.reduceSub, Nat.reduceMul, Nat.reduceLeDiff, Nat.reduceLT, Nat.reduceBEq, Int.reduceLT, Int.reduceLE, Int.reduceGT, Int.reduceGE, Int.reduceEq, Int.reduceNe, Int.reduceBEq, Int.reduceBNe, Int.reduceAdd, Int.reduceSub, Int.reduceMul, Int.reduceToNat, Int.reduceNeg, ↓reduceIte, ↓reduceDIte, k1, k2]
      refine CT_of (final (by omega)) ?_
      rintro _ _ ⟨a', t, rfl, rfl, h3⟩
      simp -dsimp only [go_sem, Nat.reduceEqDiff, Nat.reduceAdd, Nat.reduceSub, Nat.reduceMul, Nat.reduceLeDiff, Nat.reduceLT, Nat.reduceBEq, Int.reduceLT, Int.reduceLE, Int.reduceGT, Int.reduceGE, Int.reduceEq, Int.reduceNe, Int.reduceBEq, Int.reduceBNe, Int.reduceAdd, Int.reduceSub, Int.reduceMul, Int.reduceToNat, Int.reduceNeg, ↓reduceIte, ↓reduceDIte]
      exact ⟨i, _, _, by omega, rfl, rfl, h3⟩
  · have k1 : ¬ (i : Int) < l.length := by omega
    simp -dsimp only [go_sem, Nat.reduceEqDiff, Nat.reduceAdd, Nat.reduceSub, Nat.reduceMul, Nat.reduceLeDiff, Nat.reduceLT, Nat.reduceBEq, Int.reduceLT, Int.reduceLE, Int.reduceGT, Int.reduceGE, Int.reduceEq, Int.reduceNe, Int.reduceBEq, Int.reduceBNe, Int.reduceAdd, Int.reduceSub, Int.reduceMul, Int.reduceToNat, Int.reduceNeg, ↓reduceIte, ↓reduceDIte, k1]
    refine CT_of (final (by omega)) ?_
    rintro _ _ ⟨a', t, rfl, rfl, h3⟩
    simp -dsimp only [go_sem, Nat.reduceEqDiff, Nat.reduceAdd, Nat.reduceSub, Nat.reduceMul, Nat.reduceLeDiff, Nat.reduceLT, Nat.reduceBEq, Int.reduceLT, Int.reduceLE, Int.reduceGT, Int.reduceGE, Int.reduceEq, Int.reduceNe, Int.reduceBEq, Int.reduceBNe, Int.reduceAdd, Int.reduceSub, Int.reduceMul, Int.reduceToNat, Int.reduceNeg, ↓reduceIte, ↓reduceDIte]
    exact ⟨i, _, _, by omega, rfl, rfl, h3⟩
end Go.Proofs.Ytfobpjjpaehhpaa
