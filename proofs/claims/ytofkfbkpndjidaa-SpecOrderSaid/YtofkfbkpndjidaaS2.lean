import Derived.Test.YtofkfbkpndjidaaS1
namespace Go.Proofs.Ytofkfbkpndjidaa
open Go Go.LK
set_option linter.unusedSimpArgs false
set_option linter.unusedVariables false
set_option pp.deepTerms false
set_option pp.maxSteps 1500
theorem and15 (c : Int) : ∃ d : Int, IntKind.i64.wrap ((BitVec.ofInt IntKind.i64.bits c &&& BitVec.ofInt IntKind.i64.bits 15).toNat : Int) = d ∧ 0 ≤ d ∧ d ≤ 15 := by
  have h : (BitVec.ofInt IntKind.i64.bits c &&& BitVec.ofInt IntKind.i64.bits 15).toNat ≤ 15 := by
    rw [BitVec.toNat_and]
    exact Nat.le_trans Nat.and_le_right (by decide)
  refine ⟨_, wrap_i64 (by omega) (by omega), by omega, by omega⟩
structure OS where
  i : Nat
  out : Nat
  all : List Int
  fa : Option Addr
  aa : Option Addr
  t : LHeap
def OS.E (H : LHeap) (a : Option Addr) (n : Nat) (d : Int) (s : OS) : Env :=
  [(0, i64 d), (1, .slice a n n), (5, .pointer (some ⟨H.length, 0, none⟩)), (6, i64 s.all.length), (7, i64 s.out), (8, .slice s.aa s.all.length s.all.length), (9, i64 s.i)]
def OS.G (H : LHeap) (d : Int) (s : OS) : LHeap := H ++ (.row false 0 [i64 d, .slice s.fa (s.all.drop s.out).length (s.all.drop s.out).length] :: s.t)
def OS.I (H : LHeap) (d : Int) (n : Nat) (s : OS) : Prop :=
  s.out ≤ s.all.length ∧ s.all.length ≤ s.i ∧ s.i ≤ 80 ∧ s.i ≤ n ∧ Sl 1 (s.G H d) s.fa ((s.all.drop s.out).map u64) ∧
    ((s.aa = none ∧ s.all = []) ∨ ∃ j, s.aa = some ⟨H.length + (j + 1), 0, none⟩ ∧ s.t[j]? = some (.row false 1 (s.all.map u64)) ∧ Off (H.length + (j + 1)) s.fa)
theorem own_keep {H t l : LHeap} {all : List Int} {fa a' aa : Option Addr} {n : Nat}
    (h6 : (aa = none ∧ all = []) ∨ ∃ j, aa = some ⟨H.length + (j + 1), 0, none⟩ ∧ t[j]? = some (.row false 1 (all.map u64)) ∧ Off (H.length + (j + 1)) fa)
    (q : a' = fa ∨ Fresh n a') (hn : H.length + (t.length + 1) ≤ n) :
    (aa = none ∧ all = []) ∨ ∃ j, aa = some ⟨H.length + (j + 1), 0, none⟩ ∧ (t ++ l)[j]? = some (.row false 1 (all.map u64)) ∧ Off (H.length + (j + 1)) a' := by
  rcases h6 with h | ⟨j, h1, h2, h3⟩
  · exact .inl h
  · refine .inr ⟨j, h1, get_old h2 l, ?_⟩
    rcases q with rfl | q
    · exact h3
    · have := (List.getElem?_eq_some_iff.1 h2).1
      exact q.off (by omega)
theorem order_ev {a : Option Addr} {l : List Int} {c : Int} {H : LHeap} (hs : Sl 1 H a (l.map u64)) :
    callE T 3 0 [i64 c, .slice a l.length l.length] H fun v H' => v = .bool true := by
  refine callE_stay rfl (by simp) rfl ?_
  obtain ⟨d, hd, hd0, hd1⟩ := and15 c
  simp -dsimp only [go_sem, Nat.reduceEqDiff, Nat.reduceAdd, Nat.reduceSub, Nat.reduceMul, Nat.reduceLeDiff, Nat.reduceLT, Nat.reduceBEq, Int.reduceLT, Int.reduceLE, Int.reduceGT, Int.reduceGE, Int.reduceEq, Int.reduceNe, Int.reduceBEq, Int.reduceBNe, Int.reduceAdd, Int.reduceSub, Int.reduceMul, Int.reduceToNat, Int.reduceNeg, ↓reduceIte, ↓reduceDIte, hd, Nat.zero_le]
  refine LT_of (OS.E H a l.length d) (OS.G H d) (OS.I H d l.length) (fun s => 80 - s.i) ⟨0, 0, [], none, none, []⟩ rfl rfl ⟨by simp, by simp, by simp, by simp, Sl.nil _ _, .inl ⟨rfl, rfl⟩⟩ ?_
  rintro ⟨i, out, all, fa, aa, t⟩ ⟨h1, h2, h3, h4, h5, h6⟩
  simp only [OS.E, OS.G, OS.I] at h1 h2 h3 h4 h5 h6 ⊢
  by_cases hi : i < l.length ∧ i < 80
  · have hi1 : (i : Int) < l.length := by omega
    have hi2 : (i : Int) < 80 := by omega
    have hi3 : 0 ≤ (i : Int) := by omega
    obtain ⟨b, o, rfl, hb, hg⟩ := hs.all (by simp; omega)
    have k1 : l[i]? = some (l[i]'(by omega)) := List.getElem?_eq_getElem _
    generalize l[i]'(by omega) = x at k1
    have g1 := fun t => hg t i (u64 x) (by simp [k1])
    have hw : IntKind.i64.wrap ((i : Int) + 1) = ((i + 1 : Nat) : Int) := by rw [wrap_i64] <;> omega
    simp -dsimp only [go_sem, Nat.reduceEqDiff, Nat.reduceAdd, Nat.reduceSub, Nat.reduceMul, Nat.reduceLeDiff, Nat.reduceLT, Nat.reduceBEq, Int.reduceLT, Int.reduceLE, Int.reduceGT, Int.reduceGE, Int.reduceEq, Int.reduceNe, Int.reduceBEq, Int.reduceBNe, Int.reduceAdd, Int.reduceSub, Int.reduceMul, Int.reduceToNat, Int.reduceNeg, ↓reduceIte, ↓reduceDIte, hi1, hi2, hi3, g1]
    refine BT_intro (fun hev => ?_) (fun hev => ?_)
    · simp -dsimp only [go_sem, Nat.reduceEqDiff, Nat.reduceAdd, Nat.reduceSub, Nat.reduceMul, Nat.reduceLeDiff, Nat.reduceLT, Nat.reduceBEq, Int.reduceLT, Int.reduceLE, Int.reduceGT, Int.reduceGE, Int.reduceEq, Int.reduceNe, Int.reduceBEq, Int.reduceBNe, Int.reduceAdd, Int.reduceSub, Int.reduceMul, Int.reduceToNat, Int.reduceNeg, ↓reduceIte, ↓reduceDIte, hi1, hi2, hi3, g1]
      refine CT_of (do_ev (l := all.drop out) (by omega) (h5.into (by omega) (by simp [unbox_app, unbox_cons])) (by simp; omega)) ?_
      rintro _ _ ⟨a', t', rfl, rfl, q1, q2⟩
      rcases hq : all.drop out with _ | ⟨y, r⟩
      · have e1 : doF d [] 1 x = ([], 13, 0) := by simp [doF]
        have hlt : ¬ (out : Int) < all.length := by
          have := congrArg List.length hq
          simp at this; omega
        rw [hq] at q1 q2 h5
        rw [e1] at q1 q2
        simp -dsimp only [go_sem, Nat.reduceEqDiff, Nat.reduceAdd, Nat.reduceSub, Nat.reduceMul, Nat.reduceLeDiff, Nat.reduceLT, Nat.reduceBEq, Int.reduceLT, Int.reduceLE, Int.reduceGT, Int.reduceGE, Int.reduceEq, Int.reduceNe, Int.reduceBEq, Int.reduceBNe, Int.reduceAdd, Int.reduceSub, Int.reduceMul, Int.reduceToNat, Int.reduceNeg, ↓reduceIte, ↓reduceDIte, hi1, hi2, hi3, g1, hq, e1, hlt, Nat.zero_le]
        refine CT_of (same_ev (l := []) (m := []) (q1.into (by omega) (by simp [unbox_app, unbox_cons, unboxO_box])) (h5.into (by omega) (by simp [unbox_app, unbox_cons, unboxO_box])) (by simp) (by simp)) ?_
        rintro _ _ ⟨rfl, rfl⟩
        simp -dsimp only [go_sem, Nat.reduceEqDiff, Nat.reduceAdd, Nat.reduceSub, Nat.reduceMul, Nat.reduceLeDiff, Nat.reduceLT, Nat.reduceBEq, Int.reduceLT, Int.reduceLE, Int.reduceGT, Int.reduceGE, Int.reduceEq, Int.reduceNe, Int.reduceBEq, Int.reduceBNe, Int.reduceAdd, Int.reduceSub, Int.reduceMul, Int.reduceToNat, Int.reduceNeg, ↓reduceIte, ↓reduceDIte, hi1, hi2, hi3, g1, hq, e1, hlt, hw, Nat.zero_le]
        refine ⟨⟨i + 1, out, all, a', aa, _⟩, rfl, by dsimp only; rw [hq]; rfl, ⟨h1, by dsimp only; omega, by dsimp only; omega, by dsimp only; omega, ?_, own_keep (n := H.length + (t.length + 2)) h6 (q2.imp And.left fun h => h.mono (by simp)) (by omega)⟩, by dsimp only; omega⟩
        dsimp only
        rw [hq]
        exact q1.into (by omega) (by simp [unbox_app, unbox_cons, unboxO_box])
      · have e1 : doF d (y :: r) 1 x = (r, 0, y) := by simp [doF]
        have hlen := congrArg List.length hq
        simp only [List.length_drop, List.length_cons] at hlen
        have hlt : (out : Int) < all.length := by omega
        have hy : all[out]? = some y := by
          have := congrArg (fun l => l[0]?) hq
          simpa using this
        have hr : all.drop (out + 1) = r := by
          have := congrArg (fun l => l.drop 1) hq
          simpa [List.drop_drop] using this
        have ho : 0 ≤ (out : Int) := by omega
        have hw2 : IntKind.i64.wrap ((out : Int) + 1) = ((out + 1 : Nat) : Int) := by rw [wrap_i64] <;> omega
        rcases h6 with ⟨rfl, rfl⟩ | ⟨j, rfl, hj1, hj2⟩
        · simp at hy
        rw [hq] at q1 q2 h5
        rw [e1] at q1 q2
        have hgt : ∀ l, lget (t ++ l) j out = some (u64 y) := fun l => by
          rw [lget, get_old hj1 l]; simp [hy]
        have hyy : (y != y) = false := by simp
        simp -dsimp only [go_sem, Nat.reduceEqDiff, Nat.reduceAdd, Nat.reduceSub, Nat.reduceMul, Nat.reduceLeDiff, Nat.reduceLT, Nat.reduceBEq, Int.reduceLT, Int.reduceLE, Int.reduceGT, Int.reduceGE, Int.reduceEq, Int.reduceNe, Int.reduceBEq, Int.reduceBNe, Int.reduceAdd, Int.reduceSub, Int.reduceMul, Int.reduceToNat, Int.reduceNeg, ↓reduceIte, ↓reduceDIte, hi1, hi2, hi3, g1, hq, e1, hlt, ho, hgt, hyy, hw, hw2, Nat.zero_le]
        refine ⟨⟨i + 1, out + 1, all, a', _, _⟩, rfl, by dsimp only; rw [hr], ⟨by dsimp only; omega, by dsimp only; omega, by dsimp only; omega, by dsimp only; omega, ?_, own_keep (n := H.length + (t.length + 2)) (.inr ⟨j, rfl, hj1, hj2⟩) (q2.imp And.left fun h => h.mono (by simp)) (by omega)⟩, by dsimp only; omega⟩
        dsimp only
        rw [hr]
        exact q1.into (by omega) (by simp [unbox_app, unbox_cons, unboxO_box])
    · simp -dsimp only [go_sem, Nat.reduceEqDiff, Nat.reduceAdd, Nat.reduceSub, Nat.reduceMul, Nat.reduceLeDiff, Nat.reduceLT, Nat.reduceBEq, Int.reduceLT, Int.reduceLE, Int.reduceGT, Int.reduceGE, Int.reduceEq, Int.reduceNe, Int.reduceBEq, Int.reduceBNe, Int.reduceAdd, Int.reduceSub, Int.reduceMul, Int.reduceToNat, Int.reduceNeg, ↓reduceIte, ↓reduceDIte, hi1, hi2, hi3, g1]
      refine CT_of (do_ev (l := all.drop out) (by omega) (h5.into (by omega) (by simp [unbox_app, unbox_cons])) (by simp; omega)) ?_
      rintro _ _ ⟨a', t', rfl, rfl, q1, q2⟩
      have hwn : IntKind.i64.wrap ((all.length : Int) - out) = (((all.drop out).length : Nat) : Int) := by
        rw [wrap_i64 (by omega) (by omega), List.length_drop]; omega
      by_cases hf : d > 0 ∧ ((all.drop out).length : Int) ≥ d
      · have e1 : doF d (all.drop out) 0 x = (all.drop out, 15, 0) := by simp only [doF, if_true, hf, and_self]
        rw [e1] at q1 q2
        have hd2 : (d == 0) = false := by rw [beq_eq_false_iff_ne]; omega
        have hn : ¬ ((all.drop out).length : Int) < d := by omega
        simp -dsimp only [go_sem, Nat.reduceEqDiff, Nat.reduceAdd, Nat.reduceSub, Nat.reduceMul, Nat.reduceLeDiff, Nat.reduceLT, Nat.reduceBEq, Int.reduceLT, Int.reduceLE, Int.reduceGT, Int.reduceGE, Int.reduceEq, Int.reduceNe, Int.reduceBEq, Int.reduceBNe, Int.reduceAdd, Int.reduceSub, Int.reduceMul, Int.reduceToNat, Int.reduceNeg, ↓reduceIte, ↓reduceDIte, hi1, hi2, hi3, g1, e1, Nat.zero_le, hwn, hd2, hn]
        refine CT_of (same_ev (l := all.drop out) (m := all.drop out) (q1.into (by omega) (by simp [unbox_app, unbox_cons, unboxO_box])) (h5.into (by omega) (by simp [unbox_app, unbox_cons, unboxO_box])) (by simp; omega) (by simp; omega)) ?_
        rintro _ _ ⟨rfl, rfl⟩
        simp -dsimp only [go_sem, Nat.reduceEqDiff, Nat.reduceAdd, Nat.reduceSub, Nat.reduceMul, Nat.reduceLeDiff, Nat.reduceLT, Nat.reduceBEq, Int.reduceLT, Int.reduceLE, Int.reduceGT, Int.reduceGE, Int.reduceEq, Int.reduceNe, Int.reduceBEq, Int.reduceBNe, Int.reduceAdd, Int.reduceSub, Int.reduceMul, Int.reduceToNat, Int.reduceNeg, ↓reduceIte, ↓reduceDIte, hi1, hi2, hi3, g1, hw, Nat.zero_le]
        refine ⟨⟨i + 1, out, all, a', aa, _⟩, rfl, rfl, ⟨h1, by dsimp only; omega, by dsimp only; omega, by dsimp only; omega, ?_, own_keep (n := H.length + (t.length + 2)) h6 (q2.imp And.left fun h => h.mono (by simp)) (by omega)⟩, by dsimp only; omega⟩
        exact q1.into (by omega) (by simp [unbox_app, unbox_cons, unboxO_box])
      · have e1 : doF d (all.drop out) 0 x = (all.drop out ++ [x], 0, 0) := by simp only [doF, if_true, hf, if_false]
        rw [e1] at q1 q2
        have hw3 : IntKind.i64.wrap ((all.length : Int) + 1) = ((all.length + 1 : Nat) : Int) := by rw [wrap_i64] <;> omega
        have hda : (all ++ [x]).drop out = all.drop out ++ [x] := List.drop_append_of_le_length h1
        have hb1 : (1 : Nat) * 8 ≤ 140737488355328 := by decide
        have hall : ((all.length + 1) * 8 ≤ 140737488355328) ∧ all.length + 1 ≤ 140737488355328 := by omega
        by_cases hd2 : d = 0
        · have hd3 : (d == 0) = true := by simp [hd2]
          rcases h6 with ⟨rfl, rfl⟩ | ⟨j, rfl, hj1, hj2⟩
          · obtain rfl : out = 0 := by simpa using h1
            have hw1 : IntKind.i64.wrap 1 = 1 := by decide
            have hw0 : IntKind.i64.wrap 0 = 0 := by decide
            have e1' : doF d [] 0 x = ([x], 0, 0) := by simpa using e1
            simp -dsimp only [go_sem, Nat.reduceEqDiff, Nat.reduceAdd, Nat.reduceSub, Nat.reduceMul, Nat.reduceLeDiff, Nat.reduceLT, Nat.reduceBEq, Int.reduceLT, Int.reduceLE, Int.reduceGT, Int.reduceGE, Int.reduceEq, Int.reduceNe, Int.reduceBEq, Int.reduceBNe, Int.reduceAdd, Int.reduceSub, Int.reduceMul, Int.reduceToNat, Int.reduceNeg, ↓reduceIte, ↓reduceDIte, hi1, hi2, hi3, g1, e1', Nat.zero_le, hwn, hw, hw1, hall, hd3, List.drop_zero]
            refine ⟨⟨i + 1, 0, [x], a', _, _⟩, rfl, rfl, ⟨by simp, by simp, by dsimp only; omega, by dsimp only; omega, ?_, .inr ⟨_, rfl, ?_, ?_⟩⟩, by dsimp only; omega⟩
            · exact q1.into (by omega) (by simp [unbox_app, unbox_cons, unboxO_box])
            · dsimp only; rw [get_app]; simp
            · refine q1.off ?_
              simp <;> omega
          · have hget := fun l => get_old hj1 l
            have htk : (all.map u64).take all.length = all.map u64 := List.take_of_length_le (by simp)
            have hnn : ¬ all.length + 1 ≤ all.length := by omega
            have hjl : j < t.length := (List.getElem?_eq_some_iff.1 hj1).1
            obtain ⟨t0, hl0, hset, ht0⟩ : ∃ t0 : LHeap, t.length = t0.length ∧ (∀ l : LHeap, (t ++ l).set j LObj.dead = t0 ++ l) ∧ t0 = t.set j LObj.dead := ⟨t.set j LObj.dead, by simp, fun l => List.set_append_left _ _ hjl, rfl⟩
            have hc0 : ∀ (l : LHeap) (o n : Nat), lcells (t0 ++ l) t.length o n = lcells l 0 o n := fun l o n => by rw [hl0]; exact lcells_app0 _ _ _ _
            simp -dsimp only [go_sem, Nat.reduceEqDiff, Nat.reduceAdd, Nat.reduceSub, Nat.reduceMul, Nat.reduceLeDiff, Nat.reduceLT, Nat.reduceBEq, Int.reduceLT, Int.reduceLE, Int.reduceGT, Int.reduceGE, Int.reduceEq, Int.reduceNe, Int.reduceBEq, Int.reduceBNe, Int.reduceAdd, Int.reduceSub, Int.reduceMul, Int.reduceToNat, Int.reduceNeg, ↓reduceIte, ↓reduceDIte, hi1, hi2, hi3, g1, e1, Nat.zero_le, hwn, hw, hw3, hget, htk, hnn, hall, hset, hc0, Nat.le_refl, hd3]
            have hfr : Fresh (H.length + (t.length + 2)) a' := by
              rcases q2 with ⟨_, h⟩ | h
              · have := congrArg List.length h
                simp at this
              · exact h.mono (by simp)
            have hda : (all ++ [x]).drop out = all.drop out ++ [x] := List.drop_append_of_le_length h1
            refine ⟨⟨i + 1, out, all ++ [x], a', some ⟨H.length + (t.length + (t'.length + 1 + 1) + 1), 0, none⟩, _⟩, by simp, by simp only [hda, List.length_append, List.length_cons, List.length_nil]; rfl, ⟨by simp; omega, by simp; omega, by dsimp only; omega, by dsimp only; omega, ?_, .inr ⟨t.length + (t'.length + 1 + 1), rfl, ?_, ?_⟩⟩, by dsimp only; omega⟩
            · dsimp only
              rw [hda]
              have := q1.set_off (b := H.length + (j + 1)) (hfr.off (by omega)) .dead
              refine this.into (by omega) ?_
              rw [List.append_assoc, set_app]
              simp only [List.cons_append, List.append_assoc, List.nil_append, List.set_cons_succ, hset]
              simp [unbox_app, unbox_cons, unboxO_box]
            · dsimp only
              rw [hl0, get_app]
              simp [get_app]
            · dsimp only
              refine q1.off ?_
              simp <;> omega
        · have hd3 : (d == 0) = false := by simpa using hd2
          have hz : ((all.drop out).length : Int) < d := by omega
          rcases h6 with ⟨rfl, rfl⟩ | ⟨j, rfl, hj1, hj2⟩
          · obtain rfl : out = 0 := by simpa using h1
            have hw1 : IntKind.i64.wrap 1 = 1 := by decide
            have hw0 : IntKind.i64.wrap 0 = 0 := by decide
            have hz0 : (0 : Int) < d := by omega
            have e1' : doF d [] 0 x = ([x], 0, 0) := by simpa using e1
            simp -dsimp only [go_sem, Nat.reduceEqDiff, Nat.reduceAdd, Nat.reduceSub, Nat.reduceMul, Nat.reduceLeDiff, Nat.reduceLT, Nat.reduceBEq, Int.reduceLT, Int.reduceLE, Int.reduceGT, Int.reduceGE, Int.reduceEq, Int.reduceNe, Int.reduceBEq, Int.reduceBNe, Int.reduceAdd, Int.reduceSub, Int.reduceMul, Int.reduceToNat, Int.reduceNeg, ↓reduceIte, ↓reduceDIte, hi1, hi2, hi3, g1, e1', Nat.zero_le, hwn, hw, hw1, hw0, hz0, hall, hd3, hz, List.drop_zero]
            refine ⟨⟨i + 1, 0, [x], a', _, _⟩, rfl, rfl, ⟨by simp, by simp, by dsimp only; omega, by dsimp only; omega, ?_, .inr ⟨_, rfl, ?_, ?_⟩⟩, by dsimp only; omega⟩
            · exact q1.into (by omega) (by simp [unbox_app, unbox_cons, unboxO_box])
            · dsimp only; rw [get_app]; simp
            · refine q1.off ?_
              simp <;> omega
          · have hget := fun l => get_old hj1 l
            have htk : (all.map u64).take all.length = all.map u64 := List.take_of_length_le (by simp)
            have hnn : ¬ all.length + 1 ≤ all.length := by omega
            have hjl : j < t.length := (List.getElem?_eq_some_iff.1 hj1).1
            obtain ⟨t0, hl0, hset, ht0⟩ : ∃ t0 : LHeap, t.length = t0.length ∧ (∀ l : LHeap, (t ++ l).set j LObj.dead = t0 ++ l) ∧ t0 = t.set j LObj.dead := ⟨t.set j LObj.dead, by simp, fun l => List.set_append_left _ _ hjl, rfl⟩
            have hc0 : ∀ (l : LHeap) (o n : Nat), lcells (t0 ++ l) t.length o n = lcells l 0 o n := fun l o n => by rw [hl0]; exact lcells_app0 _ _ _ _
            simp -dsimp only [go_sem, Nat.reduceEqDiff, Nat.reduceAdd, Nat.reduceSub, Nat.reduceMul, Nat.reduceLeDiff, Nat.reduceLT, Nat.reduceBEq, Int.reduceLT, Int.reduceLE, Int.reduceGT, Int.reduceGE, Int.reduceEq, Int.reduceNe, Int.reduceBEq, Int.reduceBNe, Int.reduceAdd, Int.reduceSub, Int.reduceMul, Int.reduceToNat, Int.reduceNeg, ↓reduceIte, ↓reduceDIte, hi1, hi2, hi3, g1, e1, Nat.zero_le, hwn, hw, hw3, hget, htk, hnn, hall, hset, hc0, Nat.le_refl, hd3, hz]
            have hfr : Fresh (H.length + (t.length + 2)) a' := by
              rcases q2 with ⟨_, h⟩ | h
              · have := congrArg List.length h
                simp at this
              · exact h.mono (by simp)
            have hda : (all ++ [x]).drop out = all.drop out ++ [x] := List.drop_append_of_le_length h1
            refine ⟨⟨i + 1, out, all ++ [x], a', some ⟨H.length + (t.length + (t'.length + 1 + 1) + 1), 0, none⟩, _⟩, by simp, by simp only [hda, List.length_append, List.length_cons, List.length_nil]; rfl, ⟨by simp; omega, by simp; omega, by dsimp only; omega, by dsimp only; omega, ?_, .inr ⟨t.length + (t'.length + 1 + 1), rfl, ?_, ?_⟩⟩, by dsimp only; omega⟩
            · dsimp only
              rw [hda]
              have := q1.set_off (b := H.length + (j + 1)) (hfr.off (by omega)) .dead
              refine this.into (by omega) ?_
              rw [List.append_assoc, set_app]
              simp only [List.cons_append, List.append_assoc, List.nil_append, List.set_cons_succ, hset]
              simp [unbox_app, unbox_cons, unboxO_box]
            · dsimp only
              rw [hl0, get_app]
              simp [get_app]
            · dsimp only
              refine q1.off ?_
              simp <;> omega
  · have hwn : IntKind.i64.wrap ((all.length : Int) - out) = (((all.drop out).length : Nat) : Int) := by
      rw [wrap_i64 (by omega) (by omega), List.length_drop]; omega
    by_cases hi1 : (i : Int) < l.length
    · have hi2 : ¬ (i : Int) < 80 := by omega
      simp -dsimp only [go_sem, Nat.reduceEqDiff, Nat.reduceAdd, Nat.reduceSub, Nat.reduceMul, Nat.reduceLeDiff, Nat.reduceLT, Nat.reduceBEq, Int.reduceLT, Int.reduceLE, Int.reduceGT, Int.reduceGE, Int.reduceEq, Int.reduceNe, Int.reduceBEq, Int.reduceBNe, Int.reduceAdd, Int.reduceSub, Int.reduceMul, Int.reduceToNat, Int.reduceNeg, ↓reduceIte, ↓reduceDIte, hi1, hi2, hwn]
      refine CT_of (one_ev _ _) ?_
      rintro _ _ ⟨rfl, rfl⟩
      simp -dsimp only [go_sem, Nat.reduceEqDiff, Nat.reduceAdd, Nat.reduceSub, Nat.reduceMul, Nat.reduceLeDiff, Nat.reduceLT, Nat.reduceBEq, Int.reduceLT, Int.reduceLE, Int.reduceGT, Int.reduceGE, Int.reduceEq, Int.reduceNe, Int.reduceBEq, Int.reduceBNe, Int.reduceAdd, Int.reduceSub, Int.reduceMul, Int.reduceToNat, Int.reduceNeg, ↓reduceIte, ↓reduceDIte]
    · simp -dsimp only [go_sem, Nat.reduceEqDiff, Nat.reduceAdd, Nat.reduceSub, Nat.reduceMul, Nat.reduceLeDiff, Nat.reduceLT, Nat.reduceBEq, Int.reduceLT, Int.reduceLE, Int.reduceGT, Int.reduceGE, Int.reduceEq, Int.reduceNe, Int.reduceBEq, Int.reduceBNe, Int.reduceAdd, Int.reduceSub, Int.reduceMul, Int.reduceToNat, Int.reduceNeg, ↓reduceIte, ↓reduceDIte, hi1, hwn]
      refine CT_of (one_ev _ _) ?_
      rintro _ _ ⟨rfl, rfl⟩
      simp -dsimp only [go_sem, Nat.reduceEqDiff, Nat.reduceAdd, Nat.reduceSub, Nat.reduceMul, Nat.reduceLeDiff, Nat.reduceLT, Nat.reduceBEq, Int.reduceLT, Int.reduceLE, Int.reduceGT, Int.reduceGE, Int.reduceEq, Int.reduceNe, Int.reduceBEq, Int.reduceBNe, Int.reduceAdd, Int.reduceSub, Int.reduceMul, Int.reduceToNat, Int.reduceNeg, ↓reduceIte, ↓reduceDIte]
end Go.Proofs.Ytofkfbkpndjidaa
