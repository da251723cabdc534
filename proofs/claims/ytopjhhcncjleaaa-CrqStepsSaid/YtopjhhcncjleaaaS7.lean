/- The statement CrqSteps: the walk, whole. -/
import Derived.Test.YtopjhhcncjleaaaS6
namespace Go.Proofs.Ytopjhhcncjleaaa
open Go Go.LK
set_option linter.unusedSimpArgs false
set_option linter.unusedVariables false
theorem beyond {H t u : LHeap} {a b c d a' b' c' d' x : LObj} {j : Nat} (h : H.length + 4 ≤ j) (g : (H ++ a :: b :: c :: d :: t)[j]? = some x) : (H ++ a' :: b' :: c' :: d' :: (t ++ u))[j]? = some x := by
  obtain ⟨k, rfl⟩ : ∃ k, j = H.length + (k + 4) := ⟨j - H.length - 4, by omega⟩
  rw [get_app] at g ⊢
  simp only [List.getElem?_cons_succ] at g ⊢
  exact get_old g u
theorem sl_beyond {m : Nat} {H t u : LHeap} {a b c d a' b' c' d' : LObj} {q : Option Addr} {l : List Value} (f : Fresh (H.length + 4) q) (h : Sl m (H ++ a :: b :: c :: d :: t) q l) : Sl m (H ++ a' :: b' :: c' :: d' :: (t ++ u)) q l := by
  rcases h with h | ⟨k, o, ro, es, cc, rfl, h2, h3⟩
  · exact .inl h
  · exact .inr ⟨k, o, ro, es, cc, rfl, beyond (f _ rfl) h2, h3⟩
/-- A block of words is not one of truths. -/
theorem sl_off_row {H : LHeap} {q : Nat} {a : Option Addr} {w : List (BitVec 64)} {l : List Bool} (h : H[q]? = some (.row false 1 (w.map w64))) (s : Sl 1 H a (l.map Value.bool)) (hl : 0 < l.length) : Off q a := by
  rcases s with ⟨rfl, _⟩ | ⟨b, o, ro, es, cc, rfl, h2, h3, h4, h5⟩
  · intro x hx; cases hx
  · intro x hx e
    cases hx
    simp only at e
    subst e
    rw [h2] at h
    cases h
    cases l with
    | nil => simp at hl
    | cons y l =>
      have : (Value.bool y) ∈ (List.drop o (List.map w64 w)).take (List.map Value.bool (y :: l)).length := by rw [h4]; simp
      have := List.mem_of_mem_drop (List.mem_of_mem_take this)
      simp [w64] at this
set_option maxHeartbeats 1000000 in
theorem csteps_ev {lim : Nat} {H : LHeap} {n : Int} {a1 a2 : Option Addr} {l : List Ask} {P : List Int} (hl : Sl 3 H a1 (l.flatMap Ask.cells)) (hp : Sl 1 H a2 (P.map i64)) : callE T 3 lim [i64 n, .slice a1 l.length l.length, .slice a2 P.length P.length] H fun v H' => v = .bool true := by
  refine callE_pop (code := CS) rfl (by simp) rfl ?_
  unfold CS
  obtain ⟨s, hs, two⟩ := size_ev H.length H n
  have s2 : 1 ≤ s := by omega
  have s8 : s ≤ 8 := by omega
  have hr := rights hs
  have w1 : IntKind.i64.wrap (2 * (s : Int)) = 2 * s := by rw [wrap_i64] <;> omega
  have w2 : IntKind.i64.wrap (4 + 2 * (s : Int)) = 4 + 2 * s := by rw [wrap_i64] <;> omega
  simp -dsimp only [go_sem, Nat.reduceEqDiff, Nat.reduceAdd, Nat.reduceSub, Nat.reduceMul, Nat.reduceLeDiff, Nat.reduceLT, Nat.reduceBEq, Int.reduceLT, Int.reduceLE, Int.reduceGT, Int.reduceGE, Int.reduceEq, Int.reduceNe, Int.reduceBEq, Int.reduceBNe, Int.reduceAdd, Int.reduceSub, Int.reduceMul, Int.reduceToNat, Int.reduceNeg, ↓reduceIte, ↓reduceDIte]
  refine CT_val two ?_
  simp -dsimp only [go_sem, Nat.reduceEqDiff, Nat.reduceAdd, Nat.reduceSub, Nat.reduceMul, Nat.reduceLeDiff, Nat.reduceLT, Nat.reduceBEq, Int.reduceLT, Int.reduceLE, Int.reduceGT, Int.reduceGE, Int.reduceEq, Int.reduceNe, Int.reduceBEq, Int.reduceBNe, Int.reduceAdd, Int.reduceSub, Int.reduceMul, Int.reduceToNat, Int.reduceNeg, ↓reduceIte, ↓reduceDIte, w1, w2]
  refine CT_of (new_ev (by simp)) ?_
  rintro _ _ h
  rw [if_neg (by omega)] at h
  obtain ⟨rfl, rfl⟩ := h
  have ok := MV.Ok.new (n := 22) (by omega) (by omega)
  have cl0 := Clean.new (n := 22) (by omega) (by omega)
  rw [show (22 : Int).toNat = 22 from rfl]
  generalize hm0 : MV.new 22 = m0 at ok cl0 ⊢
  have mm := fun (m : MV) (ok : m.Ok 22) l => mem_at (H := H) (pre := [rro ⟨2, s⟩]) (t := l) ok
  simp only [List.length_cons, List.length_nil, Nat.zero_add, List.cons_append, List.nil_append, Nat.reduceAdd] at mm
  simp -dsimp only [go_sem, Nat.reduceEqDiff, Nat.reduceAdd, Nat.reduceSub, Nat.reduceMul, Nat.reduceLeDiff, Nat.reduceLT, Nat.reduceBEq, Int.reduceLT, Int.reduceLE, Int.reduceGT, Int.reduceGE, Int.reduceEq, Int.reduceNe, Int.reduceBEq, Int.reduceBNe, Int.reduceAdd, Int.reduceSub, Int.reduceMul, Int.reduceToNat, Int.reduceNeg, ↓reduceIte, ↓reduceDIte, Nat.add_assoc]
  refine CT_of (refnew_ev (by simp)) ?_
  rintro _ _ h
  rw [if_neg (by omega)] at h
  obtain ⟨aw, ab, t, rfl, rfl, ref, own, fb⟩ := h
  rw [show (22 : Int).toNat = 22 from rfl] at ref own ⊢
  have clr0 := Clean.new (n := 22) (by omega) (by omega)
  have hmr : (MV.new 22).w = List.replicate 22 0#64 := rfl
  generalize MV.new 22 = mr at ref own clr0 hmr ⊢
  simp -dsimp only [go_sem, Nat.reduceEqDiff, Nat.reduceAdd, Nat.reduceSub, Nat.reduceMul, Nat.reduceLeDiff, Nat.reduceLT, Nat.reduceBEq, Int.reduceLT, Int.reduceLE, Int.reduceGT, Int.reduceGE, Int.reduceEq, Int.reduceNe, Int.reduceBEq, Int.reduceBNe, Int.reduceAdd, Int.reduceSub, Int.reduceMul, Int.reduceToNat, Int.reduceNeg, ↓reduceIte, ↓reduceDIte, Nat.add_assoc]
  refine CT_of (setup_ev (r := ⟨2, s⟩) (a := 2) (s := s) (mm _ ok _) cl0 hr rfl rfl (by omega)) ?_
  rintro _ _ ⟨m1, cl1, rfl, rfl⟩
  simp -dsimp only [go_sem, Nat.reduceEqDiff, Nat.reduceAdd, Nat.reduceSub, Nat.reduceMul, Nat.reduceLeDiff, Nat.reduceLT, Nat.reduceBEq, Int.reduceLT, Int.reduceLE, Int.reduceGT, Int.reduceGE, Int.reduceEq, Int.reduceNe, Int.reduceBEq, Int.reduceBNe, Int.reduceAdd, Int.reduceSub, Int.reduceMul, Int.reduceToNat, Int.reduceNeg, ↓reduceIte, ↓reduceDIte, memPut]
  refine CT_val (words_ev (r := ⟨2, s⟩)) ?_
  rw [if_pos hr]
  have ne0 : ∀ a : Int, (a != a) = false := fun a => by simp
  simp -dsimp only [go_sem, Nat.reduceEqDiff, Nat.reduceAdd, Nat.reduceSub, Nat.reduceMul, Nat.reduceLeDiff, Nat.reduceLT, Nat.reduceBEq, Int.reduceLT, Int.reduceLE, Int.reduceGT, Int.reduceGE, Int.reduceEq, Int.reduceNe, Int.reduceBEq, Int.reduceBNe, Int.reduceAdd, Int.reduceSub, Int.reduceMul, Int.reduceToNat, Int.reduceNeg, ↓reduceIte, ↓reduceDIte, w1, w2, ne0]
  have okm1 : m1.Ok 22 := by have := cl1.ok; rwa [clay_len] at this
  obtain ⟨bw, rfl, hbw, _, hrow⟩ := own.has (by simp [hmr])
  simp only [List.length_append, List.length_cons, List.length_nil, Nat.zero_add, Nat.reduceAdd] at hbw fb
  have hB0 : ∀ x, (H ++ rro ⟨2, s⟩ :: wrow m1 :: brow m1 :: mrow (H.length + 1) (H.length + 2) m1 :: (t ++ [x]))[H.length + (t.length + 4)]? = some x := by
    intro x
    rw [get_app]
    simp
  have e1 := beyond (u := [xrow (some ⟨bw, 0, none⟩) ab 22 mr]) (a' := rro ⟨2, s⟩) (b' := wrow m1) (c' := brow m1) (d' := mrow (H.length + 1) (H.length + 2) m1) hbw (by simpa using hrow)
  have e2 := sl_beyond (u := [xrow (some ⟨bw, 0, none⟩) ab 22 mr]) (a' := rro ⟨2, s⟩) (b' := wrow m1) (c' := brow m1) (d' := mrow (H.length + 1) (H.length + 2) m1) fb (by simpa using ref.bs)
  have e3 := hB0 (xrow (some ⟨bw, 0, none⟩) ab 22 mr)
  have e4 := mm m1 okm1 (t ++ [xrow (some ⟨bw, 0, none⟩) ab 22 mr])
  have e5 : (H ++ rro ⟨2, s⟩ :: wrow m1 :: brow m1 :: mrow (H.length + 1) (H.length + 2) m1 :: (t ++ [xrow (some ⟨bw, 0, none⟩) ab 22 mr])).length = H.length + (t.length + 5) := by simp
  have e6 : (H ++ rro ⟨2, s⟩ :: wrow m1 :: brow m1 :: mrow (H.length + 1) (H.length + 2) m1 :: (t ++ [xrow (some ⟨bw, 0, none⟩) ab 22 mr]))[H.length]? = some (rro ⟨2, s⟩) := get_app0 _ _
  have e7 : ∃ u, (H ++ rro ⟨2, s⟩ :: wrow m1 :: brow m1 :: mrow (H.length + 1) (H.length + 2) m1 :: (t ++ [xrow (some ⟨bw, 0, none⟩) ab 22 mr])) = (H ++ [rro ⟨2, s⟩]) ++ u := ⟨wrow m1 :: brow m1 :: mrow (H.length + 1) (H.length + 2) m1 :: (t ++ [xrow (some ⟨bw, 0, none⟩) ab 22 mr]), by simp⟩
  generalize H ++ rro ⟨2, s⟩ :: wrow m1 :: brow m1 :: mrow (H.length + 1) (H.length + 2) m1 :: (t ++ [xrow (some ⟨bw, 0, none⟩) ab 22 mr]) = B at e1 e2 e3 e4 e5 e6 e7 ⊢
  have lbw : bw < B.length := (List.getElem?_eq_some_iff.1 e1).1
  have hne : bw ≠ H.length + (t.length + 4) := by
    rintro rfl
    rw [e3] at e1
    cases e1
  have hne2 : bw ≠ H.length := by omega
  refine LT_of (fun k : Nat => [(1, .slice a1 l.length l.length), (2, .slice a2 P.length P.length), (7, ptr H.length), (8, ptr (H.length + 3)), (10, ptr (H.length + (t.length + 4))), (12, i64 k)]) (fun k => B.set bw (.row false 1 ((clay 22 2 k).map w64))) (fun k => k ≤ s) (fun k => s - k) 0 rfl (by
    show B = B.set bw (.row false 1 ((List.replicate 22 0#64).map w64))
    rw [← hmr]
    exact (set_same e1).symm) (by omega) ?_
  intro k hk
  have f6 : (B.set bw (.row false 1 ((clay 22 2 k).map w64)))[H.length]? = some (rro ⟨2, s⟩) := by rw [get_set_ne hne2]; exact e6
  have f3 : (B.set bw (.row false 1 ((clay 22 2 k).map w64)))[H.length + (t.length + 4)]? = some (xrow (some ⟨bw, 0, none⟩) ab 22 mr) := by rw [get_set_ne hne]; exact e3
  have f1 : (B.set bw (.row false 1 ((clay 22 2 k).map w64)))[bw]? = some (.row false 1 ((clay 22 2 k).map w64)) := get_set_eq lbw _
  have vlen := clay_len 22 2 k
  by_cases c1 : k < s
  · have c1' : (k : Int) < s := by omega
    have k0 : 0 ≤ (k : Int) := by omega
    have v1 : IntKind.i64.wrap (2 * (k : Int)) = 2 * k := by rw [wrap_i64] <;> omega
    have v2 : IntKind.i64.wrap (6 + 2 * (k : Int)) = ((6 + 2 * k : Nat) : Int) := by rw [wrap_i64] <;> omega
    have v3 : IntKind.i64.wrap ((k : Int) + 1) = ((k + 1 : Nat) : Int) := by rw [wrap_i64] <;> omega
    have v4 : ((6 + 2 * k : Nat) : Int) < 22 := by omega
    have v5 : 0 ≤ ((6 + 2 * k : Nat) : Int) := by omega
    have v6 : 6 + 2 * k + 1 ≤ 22 := by omega
    simp -dsimp only [go_sem, Nat.reduceEqDiff, Nat.reduceAdd, Nat.reduceSub, Nat.reduceMul, Nat.reduceLeDiff, Nat.reduceLT, Nat.reduceBEq, Int.reduceLT, Int.reduceLE, Int.reduceGT, Int.reduceGE, Int.reduceEq, Int.reduceNe, Int.reduceBEq, Int.reduceBNe, Int.reduceAdd, Int.reduceSub, Int.reduceMul, Int.reduceToNat, Int.reduceNeg, ↓reduceIte, ↓reduceDIte, c1', lget_at f6, lget_at f3, v1, v2, v4, v5, k0, BitVec.ofInt_natCast, f1, vlen, v6, v3, List.set_set]
    refine ⟨k + 1, rfl, ?_, by omega, by omega⟩
    show _ = B.set bw (.row false 1 (((clay 22 2 k).set (6 + 2 * k) (stW (BitVec.ofNat 64 k) 1#64)).map w64))
    rw [List.map_set, st_one]
  · have c1' : ¬ (k : Int) < s := by omega
    obtain rfl : k = s := by omega
    simp -dsimp only [go_sem, Nat.reduceEqDiff, Nat.reduceAdd, Nat.reduceSub, Nat.reduceMul, Nat.reduceLeDiff, Nat.reduceLT, Nat.reduceBEq, Int.reduceLT, Int.reduceLE, Int.reduceGT, Int.reduceGE, Int.reduceEq, Int.reduceNe, Int.reduceBEq, Int.reduceBNe, Int.reduceAdd, Int.reduceSub, Int.reduceMul, Int.reduceToNat, Int.reduceNeg, ↓reduceIte, ↓reduceDIte, c1', lget_at f6]
    have hbl : mr.bar.length = 22 := by simpa using clr0.len
    have cmr : Clean (mr.setw (clay 22 2 k)) (clay 22 2 k) := ⟨rfl, clr0.bar, by rw [vlen]; exact hbl, by omega, by omega, clr0.trap, clr0.fell⟩
    have f2 : Off (H.length + (t.length + 4)) ab := sl_off e3 e2 (by decide)
    have hlb : Lay (H.length + (t.length + 5)) (H.length + 3) (H.length + 1) (H.length + 2) (H.length + (t.length + 4)) (H ++ [rro ⟨2, k⟩]).length := by constructor <;> simp <;> omega
    have hbar : (mr.setw (clay 22 2 k)).bar.length = 22 := hbl
    have f7 : Off bw ab := sl_off_row e1 e2 (by omega)
    refine csL_ev (B := H ++ [rro ⟨2, k⟩]) (lo := H.length + (t.length + 5)) (b := H.length + 3) (pw := H.length + 1) (pb := H.length + 2) (bx := H.length + (t.length + 4)) (m := m1) (mr := mr.setw (clay 22 2 k)) (w := clay 22 2 k) (aw := some ⟨bw, 0, none⟩) (ab := ab) rfl hs hl hp (keep_set e7 (by simp; omega) _) (by simp; omega) (e4.set_off (by omega) (by omega) (by omega) _) hlb cl1 cmr vlen
      ⟨Sl.row f1, e2.set_off f7 _, vlen, hbar, by omega⟩ ⟨?_, ?_, ?_, ?_⟩ ⟨fb.off (by omega), fb.off (by omega), fb.off (by omega), f2⟩ f3 rfl rfl rfl rfl rfl ?_
    · exact (Fresh.mk hbw).off (by omega)
    · exact (Fresh.mk hbw).off (by omega)
    · exact (Fresh.mk hbw).off (by omega)
    · intro x hx q
      cases hx
      exact hne q
    · intro e' H' h
      simp -dsimp only [go_sem, Nat.reduceEqDiff, Nat.reduceAdd, Nat.reduceSub, Nat.reduceMul, Nat.reduceLeDiff, Nat.reduceLT, Nat.reduceBEq, Int.reduceLT, Int.reduceLE, Int.reduceGT, Int.reduceGE, Int.reduceEq, Int.reduceNe, Int.reduceBEq, Int.reduceBNe, Int.reduceAdd, Int.reduceSub, Int.reduceMul, Int.reduceToNat, Int.reduceNeg, ↓reduceIte, ↓reduceDIte, h]
end Go.Proofs.Ytopjhhcncjleaaa
