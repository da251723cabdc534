/- The statement VyWhole: the walk, whole. -/
import Derived.Test.YtgipbamdefjenaaP3
namespace Go.Proofs.Ytgipbamdefjenaa
open Go Go.LK
set_option linter.unusedSimpArgs false
set_option linter.unusedVariables false
theorem keep_setP {H K : LHeap} {q : Nat} (h : ∃ t, K = H ++ t) (hq : H.length ≤ q) (o : LObj) : ∃ t, K.set q o = H ++ t := by
  obtain ⟨t, rfl⟩ := h
  exact ⟨t.set (q - H.length) o, by rw [List.set_append_right _ _ hq]⟩
theorem keep_memP {H K : LHeap} {b pw pb : Nat} {m : MV} (h : ∃ t, K = H ++ t) (h1 : H.length ≤ b) (h2 : H.length ≤ pw) (h3 : H.length ≤ pb) : ∃ t, memPut K b pw pb m = H ++ t :=
  keep_setP (keep_setP (keep_setP h h1 _) h2 _) h3 _
theorem thread_ev {lim : Nat} {H : LHeap} {n d : Int} (hd : IntKind.i64.wrap ((BitVec.ofInt IntKind.i64.bits n &&& BitVec.ofInt IntKind.i64.bits 3).toNat : Int) = d) : callE T 12 lim [i64 n] H fun v H' => v = i64 d ∧ H' = H := by
  refine callE_pop rfl (by simp) rfl ?_
  simp -dsimp only [go_sem, Nat.reduceEqDiff, Nat.reduceAdd, Nat.reduceSub, Nat.reduceMul, Nat.reduceLeDiff, Nat.reduceLT, Nat.reduceBEq, Int.reduceLT, Int.reduceLE, Int.reduceGT, Int.reduceGE, Int.reduceEq, Int.reduceNe, Int.reduceBEq, Int.reduceBNe, Int.reduceAdd, Int.reduceSub, Int.reduceMul, Int.reduceToNat, Int.reduceNeg, ↓reduceIte, ↓reduceDIte, hd]
section
variable {H K : LHeap} {s : Nat} {m : MV} {w : List (BitVec 64)} {own : Nat → Nat} {e : Env} {Q : LExit → Env → LHeap → Prop}
structure QI (H : LHeap) (s : Nat) (x : MS) : Prop where
  hi : x.i ≤ 100
  keep : ∃ t, x.K = H ++ t
  wh : WH H x.K s x.m x.L
  cl : Clean x.m x.w
  wi : WI s x.T x.w x.L x.own
set_option maxHeartbeats 1000000 in
theorem vwP_ev {L : List VOp} {tt : Nat} {a2 : Option Addr} {P : List Int} (h : WH H K s m L) (cl : Clean m w) (wi : WI s tt w L own) (keep : ∃ t, K = H ++ t) (hp : Sl 1 H a2 (P.map i64))
    (e1 : LK.look e 1 = .slice a2 P.length P.length) (e5 : LK.look e 5 = ptr H.length) (e6 : LK.look e 6 = ptr (H.length + 3)) (e8 : LK.look e 8 = ptr (H.length + 4))
    (hQ : ∀ e' H', LK.look e' 4 = .bool true → Q .ret e' H') : XW (callE T) H.length vwP e K Q := by
  unfold vwP
  simp -dsimp only [go_sem, Nat.reduceEqDiff, Nat.reduceAdd, Nat.reduceSub, Nat.reduceMul, Nat.reduceLeDiff, Nat.reduceLT, Nat.reduceBEq, Int.reduceLT, Int.reduceLE, Int.reduceGT, Int.reduceGE, Int.reduceEq, Int.reduceNe, Int.reduceBEq, Int.reduceBNe, Int.reduceAdd, Int.reduceSub, Int.reduceMul, Int.reduceToNat, Int.reduceNeg, ↓reduceIte, ↓reduceDIte]
  have hs := wi.hs
  refine LT_of (fun x : MS => [(1, .slice a2 P.length P.length), (5, ptr H.length), (6, ptr (H.length + 3)), (8, ptr (H.length + 4)), (10, i64 x.i)]) (fun x => x.K) (QI H s) (fun x => 100 - x.i)
    ⟨0, K, m, w, tt, own, L⟩ (by simp [restrict, LK.look, e1, e5, e6, e8]) rfl ⟨by simp, keep, h, cl, wi⟩ ?_
  clear h cl wi keep
  rintro ⟨i, K, m, w, tt, own, L⟩ ⟨hi, keep, h, cl, wi⟩
  simp only at hi keep h cl wi ⊢
  have fin : ∀ e', LK.look e' 5 = ptr H.length → LK.look e' 6 = ptr (H.length + 3) → LK.look e' 8 = ptr (H.length + 4) → XW (callE T) H.length vwM e' K Q := fun e' e5 e6 e8 => vwM_ev h cl wi e5 e6 e8 hQ
  by_cases c1 : i < P.length
  · have c1' : (i : Int) < P.length := by omega
    by_cases c2 : i < 100
    · have c2' : (i : Int) < 100 := by omega
      have i0 : 0 ≤ (i : Int) := by omega
      have w1 : IntKind.i64.wrap ((i : Int) + 1) = ((i + 1 : Nat) : Int) := by rw [wrap_i64] <;> omega
      obtain ⟨t0, ht0⟩ := keep
      have hp' := hp.app t0
      rw [← ht0] at hp'
      obtain ⟨b2, o2, rfl, _, gp⟩ := hp'.all (by simp; omega)
      have gp := gp [] i _ (show (P.map i64)[i]? = some (i64 P[i]) by simp [c1])
      rw [List.append_nil] at gp
      obtain ⟨d, hd, d0, d3⟩ := andK P[i] 3 (by decide)
      have d3 : d ≤ 3 := d3
      obtain ⟨th, rfl⟩ := Int.eq_ofNat_of_zero_le d0
      have hth : th < 4 := by omega
      have t0 : 0 ≤ (th : Int) := by omega
      have t1 : (th : Int) < 4 := by omega
      obtain ⟨x, hx⟩ : ∃ x, L[th]? = some x := ⟨_, List.getElem?_eq_getElem (by rw [wi.ll]; exact hth)⟩
      have gx := h.ops th x hx
      have ga := h.arr th hth
      have hKl := h.len
      simp -dsimp only [go_sem, Nat.reduceEqDiff, Nat.reduceAdd, Nat.reduceSub, Nat.reduceMul, Nat.reduceLeDiff, Nat.reduceLT, Nat.reduceBEq, Int.reduceLT, Int.reduceLE, Int.reduceGT, Int.reduceGE, Int.reduceEq, Int.reduceNe, Int.reduceBEq, Int.reduceBNe, Int.reduceAdd, Int.reduceSub, Int.reduceMul, Int.reduceToNat, Int.reduceNeg, ↓reduceIte, ↓reduceDIte, c1', c2', i0, gp]
      refine CT_val (thread_ev hd) ?_
      simp -dsimp only [go_sem, Nat.reduceEqDiff, Nat.reduceAdd, Nat.reduceSub, Nat.reduceMul, Nat.reduceLeDiff, Nat.reduceLT, Nat.reduceBEq, Int.reduceLT, Int.reduceLE, Int.reduceGT, Int.reduceGE, Int.reduceEq, Int.reduceNe, Int.reduceBEq, Int.reduceBNe, Int.reduceAdd, Int.reduceSub, Int.reduceMul, Int.reduceToNat, Int.reduceNeg, ↓reduceIte, ↓reduceDIte, t0, t1, ga]
      refine CT_of (vstep_ev gx h.mem (by omega) (by omega) (by omega) (go_r (wi.ops th x hx) hs)) ?_
      rintro _ _ ⟨rfl, rfl⟩
      obtain ⟨tt', w', own', cl', wi', hmu'⟩ := wi.step hx cl
      have hsl := step_len x m
      have hput := h.put hx (x' := (x.step m).1) (m' := (x.step m).2) hsl.1 (by rw [hsl.2]; exact h.mem.len)
      simp -dsimp only [go_sem, Nat.reduceEqDiff, Nat.reduceAdd, Nat.reduceSub, Nat.reduceMul, Nat.reduceLeDiff, Nat.reduceLT, Nat.reduceBEq, Int.reduceLT, Int.reduceLE, Int.reduceGT, Int.reduceGE, Int.reduceEq, Int.reduceNe, Int.reduceBEq, Int.reduceBNe, Int.reduceAdd, Int.reduceSub, Int.reduceMul, Int.reduceToNat, Int.reduceNeg, ↓reduceIte, ↓reduceDIte, w1]
      exact ⟨⟨i + 1, _, (x.step m).2, w', tt', own', L.set th (x.step m).1⟩, rfl, rfl, ⟨by simp only; omega, keep_memP (keep_setP ⟨_, ht0⟩ (by omega) _) (by omega) (by omega) (by omega), hput, cl', wi'⟩, by simp only; omega⟩
    · have c2' : ¬ (i : Int) < 100 := by omega
      simp -dsimp only [go_sem, Nat.reduceEqDiff, Nat.reduceAdd, Nat.reduceSub, Nat.reduceMul, Nat.reduceLeDiff, Nat.reduceLT, Nat.reduceBEq, Int.reduceLT, Int.reduceLE, Int.reduceGT, Int.reduceGE, Int.reduceEq, Int.reduceNe, Int.reduceBEq, Int.reduceBNe, Int.reduceAdd, Int.reduceSub, Int.reduceMul, Int.reduceToNat, Int.reduceNeg, ↓reduceIte, ↓reduceDIte, c1', c2']
      exact fin _ rfl rfl rfl
  · have c1' : ¬ (i : Int) < P.length := by omega
    simp -dsimp only [go_sem, Nat.reduceEqDiff, Nat.reduceAdd, Nat.reduceSub, Nat.reduceMul, Nat.reduceLeDiff, Nat.reduceLT, Nat.reduceBEq, Int.reduceLT, Int.reduceLE, Int.reduceGT, Int.reduceGE, Int.reduceEq, Int.reduceNe, Int.reduceBEq, Int.reduceBNe, Int.reduceAdd, Int.reduceSub, Int.reduceMul, Int.reduceToNat, Int.reduceNeg, ↓reduceIte, ↓reduceDIte, c1']
    exact fin _ rfl rfl rfl
theorem WI.zero (hs : s = 2 ∨ s = 4) : WI s 0 (vlay (2 + 2 * s) 0 s) ((List.range 4).map fun i => ⟨⟨0, s⟩, false, BitVec.ofNat 64 (100 + i), 0, 0#64, 0⟩) (fun _ => 0) := by
  have g := fun j (hj : j < 2 + 2 * s) => vlay_get (2 + 2 * s) 0 s j hj
  refine ⟨hs, vlay_len _ _ _, by simp, by omega, ?_, ?_, ?_, fun p hp => by omega, ?_⟩
  · rw [List.getD, g 0 (by omega)]; rfl
  · rw [List.getD, g 1 (by omega)]; rfl
  · intro i x hx
    simp only [List.getElem?_map, Option.map_eq_some_iff] at hx
    obtain ⟨j, hj, rfl⟩ := hx
    obtain rfl : j = i := by
      have := (List.getElem?_eq_some_iff.1 hj).2
      simpa using this.symm
    exact ⟨rfl, rfl, fun _ => ⟨rfl, rfl⟩, .inl rfl⟩
  · intro p _ hp
    rw [List.getD, g _ (by omega), if_pos (by omega)]
    rw [show (2 + 2 * p - 0 - 2) / 2 = p by omega]; rfl
abbrev arrR (H : LHeap) (k : Nat) : LObj := .row false 0 ((List.range 4).map fun i => if i < k then ptr (H.length + 7 + 3 * i) else .pointer none)
theorem arr_set (h k : Nat) (hk : k < 4) : ((List.range 0 ++ [0, 1, 2, 3]).map fun i => if i < k then ptr (h + 7 + 3 * i) else Value.pointer none).set k (.pointer (some ⟨h + (3 * k + 1 + 1 + 1 + 1 + 1) + 2, 0, none⟩)) = (List.range 4).map fun i => if i < k + 1 then ptr (h + 7 + 3 * i) else Value.pointer none := by
  have : k = 0 ∨ k = 1 ∨ k = 2 ∨ k = 3 := by omega
  rcases this with rfl | rfl | rfl | rfl <;> rfl
set_option maxHeartbeats 1000000 in
theorem whole_ev {lim : Nat} {n : Int} {a2 : Option Addr} {P : List Int} (hp : Sl 1 H a2 (P.map i64)) : callE T 3 lim [i64 n, .slice a2 P.length P.length] H fun v H' => v = .bool true := by
  refine callE_pop (code := VW) rfl (by simp) rfl ?_
  unfold VW
  obtain ⟨d, hd, d0, d1⟩ := andK n 1 (by decide)
  have d1 : d ≤ 1 := d1
  obtain ⟨s, hs, hsh⟩ : ∃ s : Nat, (s = 2 ∨ s = 4) ∧ lbin .shl (i64 2) (w64 (BitVec.ofInt 64 d)) = some (i64 s) := by
    have : d = 0 ∨ d = 1 := by omega
    rcases this with rfl | rfl
    · exact ⟨2, .inl rfl, rfl⟩
    · exact ⟨4, .inr rfl, rfl⟩
  have s2 : 2 ≤ s := by omega
  have s8 : s ≤ 8 := by omega
  have hr : (RV.mk 0 s).right = true := by rcases hs with rfl | rfl <;> decide
  simp -dsimp only [go_sem, Nat.reduceEqDiff, Nat.reduceAdd, Nat.reduceSub, Nat.reduceMul, Nat.reduceLeDiff, Nat.reduceLT, Nat.reduceBEq, Int.reduceLT, Int.reduceLE, Int.reduceGT, Int.reduceGE, Int.reduceEq, Int.reduceNe, Int.reduceBEq, Int.reduceBNe, Int.reduceAdd, Int.reduceSub, Int.reduceMul, Int.reduceToNat, Int.reduceNeg, ↓reduceIte, ↓reduceDIte, hd, hsh]
  refine CT_val (words_ev (r := ⟨0, s⟩)) ?_
  rw [if_pos hr]
  simp -dsimp only [go_sem, Nat.reduceEqDiff, Nat.reduceAdd, Nat.reduceSub, Nat.reduceMul, Nat.reduceLeDiff, Nat.reduceLT, Nat.reduceBEq, Int.reduceLT, Int.reduceLE, Int.reduceGT, Int.reduceGE, Int.reduceEq, Int.reduceNe, Int.reduceBEq, Int.reduceBNe, Int.reduceAdd, Int.reduceSub, Int.reduceMul, Int.reduceToNat, Int.reduceNeg, ↓reduceIte, ↓reduceDIte]
  refine CT_of (new_ev (by simp)) ?_
  rintro _ _ h
  rw [if_neg (by omega)] at h
  obtain ⟨rfl, rfl⟩ := h
  have en : (2 + 2 * (s : Int)).toNat = 2 + 2 * s := by omega
  rw [en]
  have ok := MV.Ok.new (n := 2 + 2 * s) (by omega) (by omega)
  have cl0 := Clean.new (n := 2 + 2 * s) (by omega) (by omega)
  have few0 := MV.Few.new (2 + 2 * s)
  generalize MV.new (2 + 2 * s) = m0 at ok cl0 few0 ⊢
  have mm := fun (m : MV) (ok : m.Ok (2 + 2 * s)) l => mem_at (H := H) (pre := [rro ⟨0, s⟩]) (t := l) ok
  simp only [List.length_cons, List.length_nil, Nat.zero_add, List.cons_append, List.nil_append, Nat.reduceAdd] at mm
  simp -dsimp only [go_sem, Nat.reduceEqDiff, Nat.reduceAdd, Nat.reduceSub, Nat.reduceMul, Nat.reduceLeDiff, Nat.reduceLT, Nat.reduceBEq, Int.reduceLT, Int.reduceLE, Int.reduceGT, Int.reduceGE, Int.reduceEq, Int.reduceNe, Int.reduceBEq, Int.reduceBNe, Int.reduceAdd, Int.reduceSub, Int.reduceMul, Int.reduceToNat, Int.reduceNeg, ↓reduceIte, ↓reduceDIte, Nat.add_assoc]
  refine CT_of (setup_ev (r := ⟨0, s⟩) (a := 0) (s := s) (mm _ ok _) cl0 few0 (by omega) hr rfl rfl (by omega)) ?_
  rintro _ _ ⟨m1, cl1, few1, rfl, rfl⟩
  simp -dsimp only [go_sem, Nat.reduceEqDiff, Nat.reduceAdd, Nat.reduceSub, Nat.reduceMul, Nat.reduceLeDiff, Nat.reduceLT, Nat.reduceBEq, Int.reduceLT, Int.reduceLE, Int.reduceGT, Int.reduceGE, Int.reduceEq, Int.reduceNe, Int.reduceBEq, Int.reduceBNe, Int.reduceAdd, Int.reduceSub, Int.reduceMul, Int.reduceToNat, Int.reduceNeg, ↓reduceIte, ↓reduceDIte, memPut]
  refine LT_of (fun x : Nat × LHeap => [(1, .slice a2 P.length P.length), (5, ptr H.length), (6, ptr (H.length + 3)), (8, ptr (H.length + 4)), (9, i64 x.1)]) (fun x => H ++ (rro ⟨0, s⟩ :: wrow m1 :: brow m1 :: mrow (H.length + 1) (H.length + 2) m1 :: arrR H x.1 :: x.2))
    (fun x => x.1 ≤ 4 ∧ x.2.length = 3 * x.1 ∧ ∀ i, i < x.1 → x.2[2 + 3 * i]? = some (vrw ⟨⟨0, s⟩, false, BitVec.ofNat 64 (100 + i), 0, 0#64, 0⟩)) (fun x => 4 - x.1) (0, []) rfl rfl ⟨by simp, by simp, fun i hi => by simp at hi⟩ ?_
  rintro ⟨k, us⟩ ⟨hk, hl, hu⟩
  simp only at hk hl hu ⊢
  have okm1 : m1.Ok (2 + 2 * s) := by have := cl1.ok; rwa [vlay_len] at this
  by_cases c1 : k < 4
  · have c1' : (k : Int) < 4 := by omega
    have k0 : 0 ≤ (k : Int) := by omega
    have w1 : IntKind.i64.wrap (100 + (k : Int)) = ((100 + k : Nat) : Int) := by rw [wrap_i64] <;> omega
    have w2 : IntKind.i64.wrap ((k : Int) + 1) = ((k + 1 : Nat) : Int) := by rw [wrap_i64] <;> omega
    simp -dsimp only [go_sem, Nat.reduceEqDiff, Nat.reduceAdd, Nat.reduceSub, Nat.reduceMul, Nat.reduceLeDiff, Nat.reduceLT, Nat.reduceBEq, Int.reduceLT, Int.reduceLE, Int.reduceGT, Int.reduceGE, Int.reduceEq, Int.reduceNe, Int.reduceBEq, Int.reduceBNe, Int.reduceAdd, Int.reduceSub, Int.reduceMul, Int.reduceToNat, Int.reduceNeg, ↓reduceIte, ↓reduceDIte, c1', w1, BitVec.ofInt_natCast]
    refine CT_of (vput_ev (r := ⟨0, s⟩) (by simp)) ?_
    rintro _ _ ⟨u, u2, rfl, rfl⟩
    rw [if_pos hr]
    simp -dsimp only [go_sem, Nat.reduceEqDiff, Nat.reduceAdd, Nat.reduceSub, Nat.reduceMul, Nat.reduceLeDiff, Nat.reduceLT, Nat.reduceBEq, Int.reduceLT, Int.reduceLE, Int.reduceGT, Int.reduceGE, Int.reduceEq, Int.reduceNe, Int.reduceBEq, Int.reduceBNe, Int.reduceAdd, Int.reduceSub, Int.reduceMul, Int.reduceToNat, Int.reduceNeg, ↓reduceIte, ↓reduceDIte, c1', k0, w2, hl]
    rw [arr_set H.length k c1]
    refine ⟨by omega, (k + 1, us ++ [u, u2, vrw ⟨⟨0, s⟩, false, BitVec.ofNat 64 (100 + k), 0, 0#64, 0⟩]), rfl, rfl, ⟨by simp only; omega, by simp [hl]; omega, ?_⟩, by simp only; omega⟩
    intro i hi
    simp only at hi ⊢
    by_cases e : i = k
    · subst e
      rw [List.getElem?_append_right (by omega), hl, show 2 + 3 * i - 3 * i = 2 by omega]
      rfl
    · exact get_old (hu i (by omega)) _
  · have c1' : ¬ (k : Int) < 4 := by omega
    obtain rfl : k = 4 := by omega
    simp -dsimp only [go_sem, Nat.reduceEqDiff, Nat.reduceAdd, Nat.reduceSub, Nat.reduceMul, Nat.reduceLeDiff, Nat.reduceLT, Nat.reduceBEq, Int.reduceLT, Int.reduceLE, Int.reduceGT, Int.reduceGE, Int.reduceEq, Int.reduceNe, Int.reduceBEq, Int.reduceBNe, Int.reduceAdd, Int.reduceSub, Int.reduceMul, Int.reduceToNat, Int.reduceNeg, ↓reduceIte, ↓reduceDIte, c1']
    have cl1' := cl1
    refine vwP_ev (s := s) (m := m1) (w := vlay (2 + 2 * s) 0 s) (L := (List.range 4).map fun i => ⟨⟨0, s⟩, false, BitVec.ofNat 64 (100 + i), 0, 0#64, 0⟩) (tt := 0) (own := fun _ => 0) ⟨get_app0 _ _, mm m1 okm1 _, ?_, ?_, by simp [hl]⟩ cl1 (WI.zero hs) ⟨_, rfl⟩ hp rfl rfl rfl rfl ?_
    · intro i hi
      have e := lget_app H (rro ⟨0, s⟩ :: wrow m1 :: brow m1 :: mrow (H.length + 1) (H.length + 2) m1 :: arrR H 4 :: us) 4 i
      rw [e]
      have : i = 0 ∨ i = 1 ∨ i = 2 ∨ i = 3 := by omega
      rcases this with rfl | rfl | rfl | rfl <;> rfl
    · intro i x hx
      simp only [List.getElem?_map, Option.map_eq_some_iff] at hx
      obtain ⟨j, hj, rfl⟩ := hx
      obtain rfl : j = i := by
        have := (List.getElem?_eq_some_iff.1 hj).2
        simpa using this.symm
      have hj4 : j < 4 := by simpa using (List.getElem?_eq_some_iff.1 hj).1
      rw [show H.length + 7 + 3 * j = H.length + (2 + 3 * j + 5) by omega, get_app]
      simp only [List.getElem?_cons_succ]
      exact hu j hj4
    · intro e' H' h
      simp -dsimp only [go_sem, Nat.reduceEqDiff, Nat.reduceAdd, Nat.reduceSub, Nat.reduceMul, Nat.reduceLeDiff, Nat.reduceLT, Nat.reduceBEq, Int.reduceLT, Int.reduceLE, Int.reduceGT, Int.reduceGE, Int.reduceEq, Int.reduceNe, Int.reduceBEq, Int.reduceBNe, Int.reduceAdd, Int.reduceSub, Int.reduceMul, Int.reduceToNat, Int.reduceNeg, ↓reduceIte, ↓reduceDIte, h]
end
end Go.Proofs.Ytgipbamdefjenaa
