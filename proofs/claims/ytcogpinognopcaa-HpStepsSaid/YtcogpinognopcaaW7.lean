/- The statement HpSteps: the walk, whole. -/
import Derived.Test.YtcogpinognopcaaW6
namespace Go.Proofs.Ytcogpinognopcaa
open Go Go.LK
set_option linter.unusedSimpArgs false
set_option linter.unusedVariables false
theorem beyond {H t u : LHeap} {a b c d f a' b' c' d' f' x : LObj} {j : Nat} (h : H.length + 5 ≤ j) (g : (H ++ a :: b :: c :: d :: f :: t)[j]? = some x) : (H ++ a' :: b' :: c' :: d' :: f' :: (t ++ u))[j]? = some x := by
  obtain ⟨k, rfl⟩ : ∃ k, j = H.length + (k + 5) := ⟨j - H.length - 5, by omega⟩
  rw [get_app] at g ⊢
  simp only [List.getElem?_cons_succ] at g ⊢
  exact get_old g u
theorem sl_beyond {m : Nat} {H t u : LHeap} {a b c d e a' b' c' d' e' : LObj} {q : Option Addr} {l : List Value} (f : Fresh (H.length + 5) q) (h : Sl m (H ++ a :: b :: c :: d :: e :: t) q l) : Sl m (H ++ a' :: b' :: c' :: d' :: e' :: (t ++ u)) q l := by
  rcases h with h | ⟨k, o, ro, es, cc, rfl, h2, h3⟩
  · exact .inl h
  · exact .inr ⟨k, o, ro, es, cc, rfl, beyond (f _ rfl) h2, h3⟩
/-- A block of words is not one of truths. -/
theorem sl_off_row {H : LHeap} {q : Nat} {a : Option Addr} {w : List (BitVec 64)} {l : List Bool} (h : H[q]? = some (.row false 1 (w.map w64))) (s : Sl 1 H a (l.map Value.bool)) (hl : 0 < l.length) : Off q a := by
  rcases s with ⟨rfl, _⟩ | ⟨b, o, ro, es, cc, rfl, h2, h3, h4, h5⟩
  · intro x hx; cases hx
  · intro x hx e
    cases hx
    simp only at e
    subst e
    rw [h2] at h
    cases h
    cases l with
    | nil => simp at hl
    | cons y l =>
      have : (Value.bool y) ∈ (List.drop o (List.map w64 w)).take (List.map Value.bool (y :: l)).length := by rw [h4]; simp
      have := List.mem_of_mem_drop (List.mem_of_mem_take this)
      simp [w64] at this
set_option maxHeartbeats 1000000 in
theorem hpsteps_ev {lim : Nat} {H : LHeap} {z0 z1 : Int} {a1 a2 : Option Addr} {l : List AskH} {P : List Int} (hl : Sl 5 H a1 (l.flatMap AskH.cells)) (hp : Sl 1 H a2 (P.map i64)) : callE T 3 lim [.agg #[i64 z0, i64 z1], .slice a1 l.length l.length, .slice a2 P.length P.length] H fun v H' => v = .bool true := by
  refine callE_pop (code := SP) rfl (by simp) rfl ?_
  unfold SP
  obtain ⟨d0, hd0, d00, d03⟩ := andK z0 3 (by decide)
  have d03 : d0 ≤ 3 := d03
  obtain ⟨d1, hd1, d10, d11⟩ := andK z1 1 (by decide)
  have d11 : d1 ≤ 1 := d11
  obtain ⟨gt, hgt⟩ : ∃ gt : Int, gt = 1 + d0 := ⟨_, rfl⟩
  obtain ⟨gs, hgs⟩ : ∃ gs : Int, gs = 1 + d1 := ⟨_, rfl⟩
  have gs12 : gs = 1 ∨ gs = 2 := by omega
  have gr : (GV.mk 4 gt gs).right = true := by
    simp only [GV.right, Bool.and_eq_true, decide_eq_true_eq]
    omega
  have gwd : (GV.mk 4 gt gs).words = gt * gs := by rw [GV.words, if_pos gr]
  have gw : 1 ≤ gt * gs ∧ gt * gs ≤ 8 := by
    rcases gs12 with q | q <;> rw [q] <;> omega
  have w1 : IntKind.i64.wrap (1 + d0) = gt := by rw [wrap_i64] <;> omega
  have w2 : IntKind.i64.wrap (1 + d1) = gs := by rw [wrap_i64] <;> omega
  have w3 : IntKind.i64.wrap (gt * gs) = gt * gs := by rw [wrap_i64] <;> omega
  simp -dsimp only [go_sem, Nat.reduceEqDiff, Nat.reduceAdd, Nat.reduceSub, Nat.reduceMul, Nat.reduceLeDiff, Nat.reduceLT, Nat.reduceBEq, Int.reduceLT, Int.reduceLE, Int.reduceGT, Int.reduceGE, Int.reduceEq, Int.reduceNe, Int.reduceBEq, Int.reduceBNe, Int.reduceAdd, Int.reduceSub, Int.reduceMul, Int.reduceToNat, Int.reduceNeg, ↓reduceIte, ↓reduceDIte, hd0, hd1, w1, w2]
  refine CT_of (new_ev (by simp)) ?_
  rintro _ _ h
  rw [if_neg (by omega)] at h
  obtain ⟨rfl, rfl⟩ := h
  have ok := MV.Ok.new (n := 12) (by omega) (by omega)
  have cl0 := Clean.new (n := 12) (by omega) (by omega)
  rw [show (12 : Int).toNat = 12 from rfl]
  generalize hm0 : MV.new 12 = m0 at ok cl0 ⊢
  have mm := fun (m : MV) (ok : m.Ok 12) l => mem_at (H := H) (pre := [.row false 0 [i64 z0, i64 z1], .row false 0 [i64 4, i64 gt, i64 gs]]) (t := l) ok
  simp only [List.length_cons, List.length_nil, Nat.zero_add, List.cons_append, List.nil_append, Nat.reduceAdd] at mm
  simp -dsimp only [go_sem, Nat.reduceEqDiff, Nat.reduceAdd, Nat.reduceSub, Nat.reduceMul, Nat.reduceLeDiff, Nat.reduceLT, Nat.reduceBEq, Int.reduceLT, Int.reduceLE, Int.reduceGT, Int.reduceGE, Int.reduceEq, Int.reduceNe, Int.reduceBEq, Int.reduceBNe, Int.reduceAdd, Int.reduceSub, Int.reduceMul, Int.reduceToNat, Int.reduceNeg, ↓reduceIte, ↓reduceDIte, Nat.add_assoc]
  refine CT_of (refnew_ev (by simp)) ?_
  rintro _ _ h
  rw [if_neg (by omega)] at h
  obtain ⟨aw, ab, t, rfl, rfl, ref, own, fb⟩ := h
  rw [show (12 : Int).toNat = 12 from rfl] at ref own ⊢
  have clr0 := Clean.new (n := 12) (by omega) (by omega)
  have hmr : (MV.new 12).w = List.replicate 12 0#64 := rfl
  generalize MV.new 12 = mr at ref own clr0 hmr ⊢
  simp -dsimp only [go_sem, Nat.reduceEqDiff, Nat.reduceAdd, Nat.reduceSub, Nat.reduceMul, Nat.reduceLeDiff, Nat.reduceLT, Nat.reduceBEq, Int.reduceLT, Int.reduceLE, Int.reduceGT, Int.reduceGE, Int.reduceEq, Int.reduceNe, Int.reduceBEq, Int.reduceBNe, Int.reduceAdd, Int.reduceSub, Int.reduceMul, Int.reduceToNat, Int.reduceNeg, ↓reduceIte, ↓reduceDIte, Nat.add_assoc]
  refine CT_of (setup_ev (g := ⟨4, gt, gs⟩) (n := 12) (mm _ ok _) cl0 gr (by rw [gwd]; simp only; omega)) ?_
  rintro _ _ ⟨m1, cl1, rfl, rfl⟩
  simp -dsimp only [go_sem, Nat.reduceEqDiff, Nat.reduceAdd, Nat.reduceSub, Nat.reduceMul, Nat.reduceLeDiff, Nat.reduceLT, Nat.reduceBEq, Int.reduceLT, Int.reduceLE, Int.reduceGT, Int.reduceGE, Int.reduceEq, Int.reduceNe, Int.reduceBEq, Int.reduceBNe, Int.reduceAdd, Int.reduceSub, Int.reduceMul, Int.reduceToNat, Int.reduceNeg, ↓reduceIte, ↓reduceDIte, memPut]
  refine CT_val (words_ev (g := ⟨4, gt, gs⟩)) ?_
  rw [gwd]
  have ne0 : ∀ a : Int, (a != a) = false := fun a => by simp
  simp -dsimp only [go_sem, Nat.reduceEqDiff, Nat.reduceAdd, Nat.reduceSub, Nat.reduceMul, Nat.reduceLeDiff, Nat.reduceLT, Nat.reduceBEq, Int.reduceLT, Int.reduceLE, Int.reduceGT, Int.reduceGE, Int.reduceEq, Int.reduceNe, Int.reduceBEq, Int.reduceBNe, Int.reduceAdd, Int.reduceSub, Int.reduceMul, Int.reduceToNat, Int.reduceNeg, ↓reduceIte, ↓reduceDIte, w3, ne0]
  have okm1 : m1.Ok 12 := by have := cl1.ok; simpa using this
  obtain ⟨bw, rfl, hbw, _, hrow⟩ := own.has (by simp [hmr])
  simp only [List.length_append, List.length_cons, List.length_nil, Nat.zero_add, Nat.reduceAdd] at hbw fb
  have hB0 : ∀ x, (H ++ .row false 0 [i64 z0, i64 z1] :: .row false 0 [i64 4, i64 gt, i64 gs] :: wrow m1 :: brow m1 :: mrow (H.length + 2) (H.length + 3) m1 :: (t ++ [x]))[H.length + (t.length + 5)]? = some x := by
    intro x
    rw [get_app]
    simp
  have e1 := beyond (u := [xrow (some ⟨bw, 0, none⟩) ab 12 mr]) (a' := .row false 0 [i64 z0, i64 z1]) (b' := .row false 0 [i64 4, i64 gt, i64 gs]) (c' := wrow m1) (d' := brow m1) (f' := mrow (H.length + 2) (H.length + 3) m1) hbw (by simpa using hrow)
  have e2 := sl_beyond (u := [xrow (some ⟨bw, 0, none⟩) ab 12 mr]) (a' := .row false 0 [i64 z0, i64 z1]) (b' := .row false 0 [i64 4, i64 gt, i64 gs]) (c' := wrow m1) (d' := brow m1) (e' := mrow (H.length + 2) (H.length + 3) m1) fb (by simpa using ref.bs)
  have e3 := hB0 (xrow (some ⟨bw, 0, none⟩) ab 12 mr)
  have e4 := mm m1 okm1 (t ++ [xrow (some ⟨bw, 0, none⟩) ab 12 mr])
  have e5 : (H ++ .row false 0 [i64 z0, i64 z1] :: .row false 0 [i64 4, i64 gt, i64 gs] :: wrow m1 :: brow m1 :: mrow (H.length + 2) (H.length + 3) m1 :: (t ++ [xrow (some ⟨bw, 0, none⟩) ab 12 mr])).length = H.length + (t.length + 6) := by simp
  have e6 : (H ++ .row false 0 [i64 z0, i64 z1] :: .row false 0 [i64 4, i64 gt, i64 gs] :: wrow m1 :: brow m1 :: mrow (H.length + 2) (H.length + 3) m1 :: (t ++ [xrow (some ⟨bw, 0, none⟩) ab 12 mr]))[H.length + 1]? = some (gbox ⟨4, gt, gs⟩) := by rw [get_app]; rfl
  have e7 : ∃ u, (H ++ .row false 0 [i64 z0, i64 z1] :: .row false 0 [i64 4, i64 gt, i64 gs] :: wrow m1 :: brow m1 :: mrow (H.length + 2) (H.length + 3) m1 :: (t ++ [xrow (some ⟨bw, 0, none⟩) ab 12 mr])) = H ++ u := ⟨_, rfl⟩
  generalize H ++ .row false 0 [i64 z0, i64 z1] :: .row false 0 [i64 4, i64 gt, i64 gs] :: wrow m1 :: brow m1 :: mrow (H.length + 2) (H.length + 3) m1 :: (t ++ [xrow (some ⟨bw, 0, none⟩) ab 12 mr]) = B at e1 e2 e3 e4 e5 e6 e7 ⊢
  have hne : bw ≠ H.length + (t.length + 5) := by
    rintro rfl
    rw [e3] at e1
    cases e1
  have hbl : 0 < mr.bar.length := by have := clr0.len; simp at this; omega
  have f2 : Off (H.length + (t.length + 5)) ab := sl_off e3 e2 (by decide)
  have f7 : Off bw ab := sl_off_row e1 e2 hbl
  have cl1' : Clean m1 (List.replicate 12 0#64) := cl1
  refine spL_ev (l0 := H.length + (t.length + 6)) (b := H.length + 4) (pw := H.length + 2) (pb := H.length + 3) (bx := H.length + (t.length + 5)) (g := ⟨4, gt, gs⟩) (gp := H.length + 1) (m := m1) (mr := mr) (w := List.replicate 12 0#64) (aw := some ⟨bw, 0, none⟩) (ab := ab)
    rfl (by simp only; omega) gs12 hl hp e7 e6 (by omega) e4 (by constructor <;> omega) cl1 clr0 (by simp) ⟨bw, rfl, e1⟩ (fun x hx => by cases hx; simp only; omega) e2 ⟨?_, ?_, ?_, ?_⟩ ⟨fb.off (by omega), fb.off (by omega), fb.off (by omega), f2⟩ e3 (fun x hx => by cases hx; exact f7) rfl rfl rfl rfl rfl ?_
  · exact (Fresh.mk hbw).off (by omega)
  · exact (Fresh.mk hbw).off (by omega)
  · exact (Fresh.mk hbw).off (by omega)
  · intro x hx q
    cases hx
    exact hne q
  · intro e' H' h
    simp -dsimp only [go_sem, Nat.reduceEqDiff, Nat.reduceAdd, Nat.reduceSub, Nat.reduceMul, Nat.reduceLeDiff, Nat.reduceLT, Nat.reduceBEq, Int.reduceLT, Int.reduceLE, Int.reduceGT, Int.reduceGE, Int.reduceEq, Int.reduceNe, Int.reduceBEq, Int.reduceBNe, Int.reduceAdd, Int.reduceSub, Int.reduceMul, Int.reduceToNat, Int.reduceNeg, ↓reduceIte, ↓reduceDIte, h]
end Go.Proofs.Ytcogpinognopcaa
