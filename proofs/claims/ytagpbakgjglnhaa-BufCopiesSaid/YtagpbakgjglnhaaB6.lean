/- The statement BufCopies. -/
import Derived.Test.YtagpbakgjglnhaaB5
namespace Go.Proofs.Ytagpbakgjglnhaa
open Go Go.LK
set_option linter.unusedSimpArgs false
set_option linter.unusedVariables false
/-- Words stored from an address on. -/
def laid (w : List (BitVec 64)) (at_ : Nat) (l : List (BitVec 64)) : Nat → List (BitVec 64)
  | 0 => w
  | k + 1 => (laid w at_ l k).set (at_ + k) (l.getD k 0)
theorem laid_len (w : List (BitVec 64)) (p : Nat) (l : List (BitVec 64)) : ∀ k, (laid w p l k).length = w.length
  | 0 => rfl
  | k + 1 => by rw [laid, List.length_set, laid_len w p l k]
theorem laid_get (w : List (BitVec 64)) (p : Nat) (l : List (BitVec 64)) (hw : p + 8 ≤ w.length) : ∀ k, k ≤ 8 → ∀ j, j < k → (laid w p l k).getD (p + j) 0 = l.getD j 0
  | 0, _, j, h => by omega
  | k + 1, h8, j, h => by
    rw [laid]
    by_cases e : j = k
    · subst e
      simp [List.getD, List.getElem?_set_self (show p + j < (laid w p l j).length by rw [laid_len]; omega)]
    · have := laid_get w p l hw k (by omega) j (by omega)
      simp only [List.getD] at this ⊢
      rw [List.getElem?_set_ne (by omega)]
      exact this
/-- What stands of an operation beside a memory. -/
structure RS (lo : Nat) (K : LHeap) (o b pw pb : Nat) (a : Option Addr) (x : BOp) (m : MV) (w : List (BitVec 64)) (n : Nat) : Prop where
  row : K[o]? = some (brw a x)
  own : Own 1 K lo a (x.words.map w64)
  mem : MemAt K b pw pb m
  cl : Clean m w
  few : m.Few n
  len : lo ≤ K.length
theorem RS.app {lo o b pw pb n : Nat} {K : LHeap} {a : Option Addr} {x : BOp} {m : MV} {w : List (BitVec 64)} (h : RS lo K o b pw pb a x m w n) (t : LHeap) : RS lo (K ++ t) o b pw pb a x m w n :=
  ⟨get_old h.row t, h.own.app t, h.mem.app t, h.cl, h.few, by have := h.len; simp; omega⟩
/-- A copy that stores, alone. -/
theorem run_ev {lim lo o b pw pb : Nat} {K : LHeap} {a : Option Addr} {l w : List (BitVec 64)} {m : MV} {p : Nat} (h : RS lo K o b pw pb a ⟨p, false, l, 0, l.length, 0⟩ m w 0)
    (h0 : 0 < l.length) (h8 : l.length ≤ 8) (hp : p + 8 ≤ w.length) (h1 : o ≠ b) (h2 : o ≠ pw) (h3 : o ≠ pb) (f0 : Off o a) (f1 : Off b a) (f2 : Off pw a) (f3 : Off pb a) (l4 : lim ≤ o) :
    callE T 21 lim [ptr b, ptr o] K fun v K' => v = i64 l.length ∧ ∃ m', RS lo K' o b pw pb a ⟨p, false, l, l.length, l.length, 0⟩ m' (laid w p l l.length) l.length ∧ K.length ≤ K'.length ∧ ∀ j, j < K.length → j ≠ o → j ≠ b → j ≠ pw → j ≠ pb → K'[j]? = K[j]? := by
  refine callE_stay rfl (by simp) rfl ?_
  have hle := h.cl.le
  have ho := (List.getElem?_eq_some_iff.1 h.row).1
  simp -dsimp only [go_sem, Nat.reduceEqDiff, Nat.reduceAdd, Nat.reduceSub, Nat.reduceMul, Nat.reduceLeDiff, Nat.reduceLT, Nat.reduceBEq, Int.reduceLT, Int.reduceLE, Int.reduceGT, Int.reduceGE, Int.reduceEq, Int.reduceNe, Int.reduceBEq, Int.reduceBNe, Int.reduceAdd, Int.reduceSub, Int.reduceMul, Int.reduceToNat, Int.reduceNeg, ↓reduceIte, ↓reduceDIte]
  refine LT_of (fun s : Nat × LHeap × MV => [(0, ptr b), (1, ptr o), (5, i64 s.1)]) (fun s => s.2.1) (fun s => s.1 ≤ l.length ∧ RS lo s.2.1 o b pw pb a ⟨p, false, l, s.1, l.length, 0⟩ s.2.2 (laid w p l s.1) s.1 ∧ K.length ≤ s.2.1.length ∧ ∀ j, j < K.length → j ≠ o → j ≠ b → j ≠ pw → j ≠ pb → s.2.1[j]? = K[j]?) (fun s => l.length - s.1) (0, K, m) rfl rfl ⟨by omega, h, Nat.le_refl _, fun _ _ _ _ _ _ => rfl⟩ ?_
  rintro ⟨k, K1, m1⟩ ⟨hk, r, hl, hpres⟩
  simp only at hk r hl hpres ⊢
  have c20 : (k : Int) < 20 := by omega
  simp -dsimp only [go_sem, Nat.reduceEqDiff, Nat.reduceAdd, Nat.reduceSub, Nat.reduceMul, Nat.reduceLeDiff, Nat.reduceLT, Nat.reduceBEq, Int.reduceLT, Int.reduceLE, Int.reduceGT, Int.reduceGE, Int.reduceEq, Int.reduceNe, Int.reduceBEq, Int.reduceBNe, Int.reduceAdd, Int.reduceSub, Int.reduceMul, Int.reduceToNat, Int.reduceNeg, ↓reduceIte, ↓reduceDIte, c20]
  refine CT_val (bdone_ev r.row) ?_
  by_cases hlt : k < l.length
  · have hd : (IntKind.i64.wrap ((l.length : Int) - k) == 0) = false := by rw [wrap_i64 (by omega) (by omega), beq_eq_false_iff_ne]; omega
    have hx : l[k]? = some (l.getD k 0) := by rw [List.getElem?_eq_getElem hlt]; simp [List.getD, hlt]
    have hw1 : IntKind.i64.wrap ((k : Int) + 1) = ((k + 1 : Nat) : Int) := by rw [wrap_i64] <;> omega
    simp -dsimp only [go_sem, Nat.reduceEqDiff, Nat.reduceAdd, Nat.reduceSub, Nat.reduceMul, Nat.reduceLeDiff, Nat.reduceLT, Nat.reduceBEq, Int.reduceLT, Int.reduceLE, Int.reduceGT, Int.reduceGE, Int.reduceEq, Int.reduceNe, Int.reduceBEq, Int.reduceBNe, Int.reduceAdd, Int.reduceSub, Int.reduceMul, Int.reduceToNat, Int.reduceNeg, ↓reduceIte, ↓reduceDIte, hd]
    refine CT_of (bstepW_ev (lim := lim) (k := k) l4 (by omega) r.row r.own.sl r.mem h1 h2 h3 rfl rfl hx rfl h8 (by constructor <;> simp only <;> omega)) ?_
    rintro _ _ ⟨t, rfl, rfl⟩
    simp -dsimp only [go_sem, Nat.reduceEqDiff, Nat.reduceAdd, Nat.reduceSub, Nat.reduceMul, Nat.reduceLeDiff, Nat.reduceLT, Nat.reduceBEq, Int.reduceLT, Int.reduceLE, Int.reduceGT, Int.reduceGE, Int.reduceEq, Int.reduceNe, Int.reduceBEq, Int.reduceBNe, Int.reduceAdd, Int.reduceSub, Int.reduceMul, Int.reduceToNat, Int.reduceNeg, ↓reduceIte, ↓reduceDIte, hw1]
    have e1 : (memPut (K1.set o (brw a ⟨p, false, l, (k + 1 : Nat), l.length, 0⟩)) b pw pb (m1.use 1 ((p : Int) + k) fun _ => l.getD k 0)).length = K1.length := by rw [memPut_len]; simp
    have lo1 := (List.getElem?_eq_some_iff.1 r.row).1
    refine ⟨(k + 1, memPut (K1.set o (brw a ⟨p, false, l, (k + 1 : Nat), l.length, 0⟩)) b pw pb (m1.use 1 ((p : Int) + k) fun _ => l.getD k 0) ++ t, m1.use 1 ((p : Int) + k) fun _ => l.getD k 0), rfl, rfl, ⟨by simp only; omega, RS.app ⟨?_, ?_, ?_, ?_, ?_, ?_⟩ t, ?_, ?_⟩, by simp only; omega⟩
    · rw [memPut_get _ h1.symm h2.symm h3.symm, get_set_eq lo1]
    · rcases r.own with ⟨e1, e2⟩ | ⟨q, e1, e2, e3⟩
      · exact .inl ⟨e1, e2⟩
      · refine .inr ⟨q, e1, e2, ?_⟩
        rw [memPut_get _ (f1 _ e1).symm (f2 _ e1).symm (f3 _ e1).symm, get_set_ne (f0 _ e1).symm]
        exact e3
    · exact (r.mem.set_off h1 h2 h3 _).put (MV.use_len _ _ _ _).1 (by rw [(MV.use_len _ _ _ _).2]; exact r.mem.len)
    · have := r.cl.use (a := (p : Int) + k) (by omega) (by rw [laid_len]; omega) 1 (fun _ => l.getD k 0)
      rw [show ((p : Int) + k).toNat = p + k by omega] at this
      exact this
    · exact MV.Few.use r.few (by omega) 1 ((p : Int) + k) (fun _ => l.getD k 0)
    · rw [e1]; exact r.len
    · simp only [List.length_append, e1]; omega
    · intro j g0 g1 g2 g3 g4
      simp only
      rw [get_left (by rw [e1]; omega), memPut_get _ (Ne.symm g2) (Ne.symm g3) (Ne.symm g4), get_set_ne (Ne.symm g1)]
      exact hpres j g0 g1 g2 g3 g4
  · have hd : (IntKind.i64.wrap ((l.length : Int) - k) == 0) = true := by rw [wrap_i64 (by omega) (by omega), beq_iff_eq]; omega
    obtain rfl : k = l.length := by omega
    simp -dsimp only [go_sem, Nat.reduceEqDiff, Nat.reduceAdd, Nat.reduceSub, Nat.reduceMul, Nat.reduceLeDiff, Nat.reduceLT, Nat.reduceBEq, Int.reduceLT, Int.reduceLE, Int.reduceGT, Int.reduceGE, Int.reduceEq, Int.reduceNe, Int.reduceBEq, Int.reduceBNe, Int.reduceAdd, Int.reduceSub, Int.reduceMul, Int.reduceToNat, Int.reduceNeg, ↓reduceIte, ↓reduceDIte, hd]
    exact ⟨m1, r, hl, hpres⟩
theorem bstep_done {lim o : Nat} {x : BOp} {a : Option Addr} {H : LHeap} {v : Value} (h : H[o]? = some (brw a x)) (hd : (IntKind.i64.wrap (x.many - x.k) == 0) = true) : callE T 16 lim [ptr o, v] H fun v H' => v = .bool true ∧ H' = H := by
  refine callE_stay rfl (by simp) rfl ?_
  simp -dsimp only [go_sem, Nat.reduceEqDiff, Nat.reduceAdd, Nat.reduceSub, Nat.reduceMul, Nat.reduceLeDiff, Nat.reduceLT, Nat.reduceBEq, Int.reduceLT, Int.reduceLE, Int.reduceGT, Int.reduceGE, Int.reduceEq, Int.reduceNe, Int.reduceBEq, Int.reduceBNe, Int.reduceAdd, Int.reduceSub, Int.reduceMul, Int.reduceToNat, Int.reduceNeg, ↓reduceIte, ↓reduceDIte]
  refine CT_val (bdone_ev h) ?_
  simp -dsimp only [go_sem, Nat.reduceEqDiff, Nat.reduceAdd, Nat.reduceSub, Nat.reduceMul, Nat.reduceLeDiff, Nat.reduceLT, Nat.reduceBEq, Int.reduceLT, Int.reduceLE, Int.reduceGT, Int.reduceGE, Int.reduceEq, Int.reduceNe, Int.reduceBEq, Int.reduceBNe, Int.reduceAdd, Int.reduceSub, Int.reduceMul, Int.reduceToNat, Int.reduceNeg, ↓reduceIte, ↓reduceDIte, hd]
  refine CT_val (bdone_ev h) ?_
  simp -dsimp only [go_sem, Nat.reduceEqDiff, Nat.reduceAdd, Nat.reduceSub, Nat.reduceMul, Nat.reduceLeDiff, Nat.reduceLT, Nat.reduceBEq, Int.reduceLT, Int.reduceLE, Int.reduceGT, Int.reduceGE, Int.reduceEq, Int.reduceNe, Int.reduceBEq, Int.reduceBNe, Int.reduceAdd, Int.reduceSub, Int.reduceMul, Int.reduceToNat, Int.reduceNeg, ↓reduceIte, ↓reduceDIte, hd]
theorem Sl.same {k : Nat} {H H' : LHeap} {a : Option Addr} {c : List Value} (h : Sl k H a c) (hp : ∀ j, j < H.length → H'[j]? = H[j]?) : Sl k H' a c := by
  rcases h with h | ⟨b, o, ro, es, cc, h1, h2, h3⟩
  · exact .inl h
  · exact .inr ⟨b, o, ro, es, cc, h1, by rw [hp b (List.getElem?_eq_some_iff.1 h2).1]; exact h2, h3⟩
structure RD (H : LHeap) (lo : Nat) (K : LHeap) (o b pw pb : Nat) (a : Option Addr) (x : BOp) (m : MV) (w : List (BitVec 64)) : Prop where
  row : K[o]? = some (brw a x)
  own : Own 1 K lo a (x.words.map w64)
  mem : MemAt K b pw pb m
  cl : Clean m w
  len : lo ≤ K.length
  base : ∀ j, j < H.length → K[j]? = H[j]?
theorem RD.app {H : LHeap} {lo o b pw pb : Nat} {K : LHeap} {a : Option Addr} {x : BOp} {m : MV} {w : List (BitVec 64)} (h : RD H lo K o b pw pb a x m w) (hl : H.length ≤ lo) (t : LHeap) : RD H lo (K ++ t) o b pw pb a x m w :=
  ⟨get_old h.row t, h.own.app t, h.mem.app t, h.cl, by have := h.len; simp; omega, fun j hj => by rw [get_left (by have := h.len; omega)]; exact h.base j hj⟩
def rdw (w : List (BitVec 64)) (p n : Nat) : List (BitVec 64) := (List.range n).map fun j => w.getD (p + j) 0
theorem rdw_len (w : List (BitVec 64)) (p n : Nat) : (rdw w p n).length = n := by simp [rdw]
theorem rdw_succ (w : List (BitVec 64)) (p n : Nat) : rdw w p (n + 1) = rdw w p n ++ [w.getD (p + n) 0] := by simp [rdw, List.range_succ]
theorem rdw_get (w : List (BitVec 64)) (p n j : Nat) (h : j < n) : (rdw w p n)[j]? = some (w.getD (p + j) 0) := by simp [rdw, h]
set_option maxHeartbeats 1000000 in
theorem copies_ev {lim : Nat} {H : LHeap} {p cut : Int} {a : Option Addr} {l : List (BitVec 64)} (hs : Sl 1 H a (l.map w64)) : callE T 5 lim [i64 p, .slice a l.length l.length, i64 cut] H fun v H' => v = .bool true := by
  refine callE_pop rfl (by simp) rfl ?_
  have b1 : (true == true) = true := rfl
  have b2 : (false == false) = true := rfl
  have b3 : (true == false) = false := rfl
  have b4 : (false == true) = false := rfl
  simp -dsimp only [go_sem, Nat.reduceEqDiff, Nat.reduceAdd, Nat.reduceSub, Nat.reduceMul, Nat.reduceLeDiff, Nat.reduceLT, Nat.reduceBEq, Int.reduceLT, Int.reduceLE, Int.reduceGT, Int.reduceGE, Int.reduceEq, Int.reduceNe, Int.reduceBEq, Int.reduceBNe, Int.reduceAdd, Int.reduceSub, Int.reduceMul, Int.reduceToNat, Int.reduceNeg, ↓reduceIte, ↓reduceDIte]
  refine CT_of (new_ev (by simp)) ?_
  rintro _ _ h
  rw [if_neg (by decide)] at h
  obtain ⟨rfl, rfl⟩ := h
  have ok := MV.Ok.new (n := 40) (by decide) (by decide)
  have cl0 := Clean.new (n := 40) (by decide) (by decide)
  have few0 := MV.Few.new 40
  simp only [show (40 : Int).toNat = 40 from rfl]
  generalize MV.new 40 = m at ok cl0 few0 ⊢
  by_cases h100 : 100 < l.length
  · have h100' : (100 : Int) < l.length := by omega
    simp -dsimp only [go_sem, Nat.reduceEqDiff, Nat.reduceAdd, Nat.reduceSub, Nat.reduceMul, Nat.reduceLeDiff, Nat.reduceLT, Nat.reduceBEq, Int.reduceLT, Int.reduceLE, Int.reduceGT, Int.reduceGE, Int.reduceEq, Int.reduceNe, Int.reduceBEq, Int.reduceBNe, Int.reduceAdd, Int.reduceSub, Int.reduceMul, Int.reduceToNat, Int.reduceNeg, ↓reduceIte, ↓reduceDIte, h100']
  have h100' : ¬ (100 : Int) < l.length := by omega
  obtain ⟨d, hd, d0, d3⟩ := andK p 31 (by decide)
  have d3 : d ≤ 31 := d3
  obtain ⟨P, rfl⟩ := Int.eq_ofNat_of_zero_le d0
  simp -dsimp only [go_sem, Nat.reduceEqDiff, Nat.reduceAdd, Nat.reduceSub, Nat.reduceMul, Nat.reduceLeDiff, Nat.reduceLT, Nat.reduceBEq, Int.reduceLT, Int.reduceLE, Int.reduceGT, Int.reduceGE, Int.reduceEq, Int.reduceNe, Int.reduceBEq, Int.reduceBNe, Int.reduceAdd, Int.reduceSub, Int.reduceMul, Int.reduceToNat, Int.reduceNeg, ↓reduceIte, ↓reduceDIte, h100', hd]
  refine CT_of (bwrite_ev (by simp) (hs.app _) (by omega)) ?_
  rintro _ _ ⟨a', t, rfl, rfl, ow⟩
  have hmem : MemAt (H ++ [wrow m, brow m, mrow H.length (H.length + 1) m]) (H.length + 2) H.length (H.length + 1) m := mem_at (pre := []) ok
  have hlen : (H ++ [wrow m, brow m, mrow H.length (H.length + 1) m]).length = H.length + 3 := by simp
  by_cases may : 1 ≤ l.length ∧ l.length ≤ 8
  · have e : BOp.begins ⟨(P : Int), false, l.take 8, 0, l.length, 0⟩ = ⟨P, false, l, 0, l.length, 0⟩ := by
      unfold BOp.begins
      rw [if_neg (by simp only; omega), List.take_of_length_le (by omega)]
    have et : l.take 8 = l := List.take_of_length_le (by omega)
    rw [et] at ow
    rw [e]
    have R : RS (H.length + 3) (H ++ [wrow m, brow m, mrow H.length (H.length + 1) m] ++ (t ++ [brw a' ⟨P, false, l, 0, l.length, 0⟩])) ((H ++ [wrow m, brow m, mrow H.length (H.length + 1) m]).length + t.length) (H.length + 2) H.length (H.length + 1) a' ⟨P, false, l, 0, l.length, 0⟩ m (List.replicate 40 0#64) 0 := by
      refine ⟨?_, ?_, hmem.app _, cl0, few0, by simp⟩
      · rw [get_app]; simp
      · rw [← List.append_assoc, ← hlen]; exact ow.app _
    have f0 : Off ((H ++ [wrow m, brow m, mrow H.length (H.length + 1) m]).length + t.length) a' := ow.sl.off (by rw [List.length_append]; omega)
    have f1 : Off (H.length + 2) a' := ow.fresh.off (by simp)
    have f2 : Off H.length a' := ow.fresh.off (by simp)
    have f3 : Off (H.length + 1) a' := ow.fresh.off (by simp)
    have ge : H.length + 3 ≤ (H ++ [wrow m, brow m, mrow H.length (H.length + 1) m]).length + t.length := by rw [hlen]; exact Nat.le_add_right _ _
    have hP : ∃ X, H ++ [wrow m, brow m, mrow H.length (H.length + 1) m] ++ (t ++ [brw a' ⟨P, false, l, 0, l.length, 0⟩]) = H ++ X := ⟨_, by rw [List.append_assoc]⟩
    generalize H ++ [wrow m, brow m, mrow H.length (H.length + 1) m] ++ (t ++ [brw a' ⟨P, false, l, 0, l.length, 0⟩]) = K at R hP ⊢
    generalize (H ++ [wrow m, brow m, mrow H.length (H.length + 1) m]).length + t.length = o at R f0 ge ⊢
    have m1 : (1 : Int) ≤ l.length := by omega
    have m8 : (l.length : Int) ≤ 8 := by omega
    have w0 : IntKind.i64.wrap ((l.length : Int) - 0) = l.length := by rw [wrap_i64] <;> omega
    have w1 : (IntKind.i64.wrap ((l.length : Int) - 0) == 0) = false := by rw [w0, beq_eq_false_iff_ne]; omega
    have w2 : (IntKind.i64.wrap ((l.length : Int) - l.length) == 0) = true := by rw [wrap_i64 (by omega) (by omega)]; simp
    have lo1 := (List.getElem?_eq_some_iff.1 R.row).1
    simp -dsimp only [go_sem, Nat.reduceEqDiff, Nat.reduceAdd, Nat.reduceSub, Nat.reduceMul, Nat.reduceLeDiff, Nat.reduceLT, Nat.reduceBEq, Int.reduceLT, Int.reduceLE, Int.reduceGT, Int.reduceGE, Int.reduceEq, Int.reduceNe, Int.reduceBEq, Int.reduceBNe, Int.reduceAdd, Int.reduceSub, Int.reduceMul, Int.reduceToNat, Int.reduceNeg, ↓reduceIte, ↓reduceDIte, m1, m8]
    refine CT_val (bres_ev R.row) ?_
    simp -dsimp only [go_sem, Nat.reduceEqDiff, Nat.reduceAdd, Nat.reduceSub, Nat.reduceMul, Nat.reduceLeDiff, Nat.reduceLT, Nat.reduceBEq, Int.reduceLT, Int.reduceLE, Int.reduceGT, Int.reduceGE, Int.reduceEq, Int.reduceNe, Int.reduceBEq, Int.reduceBNe, Int.reduceAdd, Int.reduceSub, Int.reduceMul, Int.reduceToNat, Int.reduceNeg, ↓reduceIte, ↓reduceDIte, b1, b2, b3, b4]
    refine CT_val (bdone_ev R.row) ?_
    simp -dsimp only [go_sem, Nat.reduceEqDiff, Nat.reduceAdd, Nat.reduceSub, Nat.reduceMul, Nat.reduceLeDiff, Nat.reduceLT, Nat.reduceBEq, Int.reduceLT, Int.reduceLE, Int.reduceGT, Int.reduceGE, Int.reduceEq, Int.reduceNe, Int.reduceBEq, Int.reduceBNe, Int.reduceAdd, Int.reduceSub, Int.reduceMul, Int.reduceToNat, Int.reduceNeg, ↓reduceIte, ↓reduceDIte, b1, b2, b3, b4, w1]
    refine CT_val (bleft_ev R.row) ?_
    simp -dsimp only [go_sem, Nat.reduceEqDiff, Nat.reduceAdd, Nat.reduceSub, Nat.reduceMul, Nat.reduceLeDiff, Nat.reduceLT, Nat.reduceBEq, Int.reduceLT, Int.reduceLE, Int.reduceGT, Int.reduceGE, Int.reduceEq, Int.reduceNe, Int.reduceBEq, Int.reduceBNe, Int.reduceAdd, Int.reduceSub, Int.reduceMul, Int.reduceToNat, Int.reduceNeg, ↓reduceIte, ↓reduceDIte, b1, b2, b3, b4, w1, w0]
    refine CT_val (bwords_no R.row rfl) ?_
    simp -dsimp only [go_sem, Nat.reduceEqDiff, Nat.reduceAdd, Nat.reduceSub, Nat.reduceMul, Nat.reduceLeDiff, Nat.reduceLT, Nat.reduceBEq, Int.reduceLT, Int.reduceLE, Int.reduceGT, Int.reduceGE, Int.reduceEq, Int.reduceNe, Int.reduceBEq, Int.reduceBNe, Int.reduceAdd, Int.reduceSub, Int.reduceMul, Int.reduceToNat, Int.reduceNeg, ↓reduceIte, ↓reduceDIte]
    refine CT_of (run_ev R (by omega) may.2 (by simp; omega) (by omega) (by omega) (by omega) f0 f1 f2 f3 (by omega)) ?_
    rintro _ K2 ⟨rfl, m2, R2, hle2, hp2⟩
    have st := R2.few.steps
    simp -dsimp only [go_sem, Nat.reduceEqDiff, Nat.reduceAdd, Nat.reduceSub, Nat.reduceMul, Nat.reduceLeDiff, Nat.reduceLT, Nat.reduceBEq, Int.reduceLT, Int.reduceLE, Int.reduceGT, Int.reduceGE, Int.reduceEq, Int.reduceNe, Int.reduceBEq, Int.reduceBNe, Int.reduceAdd, Int.reduceSub, Int.reduceMul, Int.reduceToNat, Int.reduceNeg, ↓reduceIte, ↓reduceDIte]
    refine CT_val (steps_ev R2.mem) ?_
    simp -dsimp only [go_sem, Nat.reduceEqDiff, Nat.reduceAdd, Nat.reduceSub, Nat.reduceMul, Nat.reduceLeDiff, Nat.reduceLT, Nat.reduceBEq, Int.reduceLT, Int.reduceLE, Int.reduceGT, Int.reduceGE, Int.reduceEq, Int.reduceNe, Int.reduceBEq, Int.reduceBNe, Int.reduceAdd, Int.reduceSub, Int.reduceMul, Int.reduceToNat, Int.reduceNeg, ↓reduceIte, ↓reduceDIte, st]
    refine CT_val (bdone_ev R2.row) ?_
    obtain ⟨c, hc, c0, c63⟩ := andK cut 63 (by decide)
    obtain ⟨kk, hkk⟩ : ∃ kk : Nat, c.tmod l.length = kk := ⟨(c.tmod l.length).toNat, by rw [Int.toNat_of_nonneg (Int.tmod_nonneg _ c0)]⟩
    have kl : kk < l.length := by
      have := Int.tmod_lt_of_pos c (show (0 : Int) < l.length by omega)
      omega
    have nz : ¬ (l.length : Int) = 0 := by omega
    have wk : IntKind.i64.wrap ((P : Int) + kk) = P + kk := by rw [wrap_i64] <;> omega
    simp -dsimp only [go_sem, Nat.reduceEqDiff, Nat.reduceAdd, Nat.reduceSub, Nat.reduceMul, Nat.reduceLeDiff, Nat.reduceLT, Nat.reduceBEq, Int.reduceLT, Int.reduceLE, Int.reduceGT, Int.reduceGE, Int.reduceEq, Int.reduceNe, Int.reduceBEq, Int.reduceBNe, Int.reduceAdd, Int.reduceSub, Int.reduceMul, Int.reduceToNat, Int.reduceNeg, ↓reduceIte, ↓reduceDIte, w2, hc, nz, hkk, wk]
    refine CT_of (store_c R2.mem R2.cl (by omega) (by rw [laid_len]; simp; omega)) ?_
    rintro _ _ ⟨m3, cl3, rfl⟩
    obtain ⟨X, rfl⟩ := hP
    have base3 : ∀ j, j < H.length → (memPut K2 (H.length + 2) H.length (H.length + 1) m3)[j]? = H[j]? := fun j hj => by
      rw [memPut_get _ (by omega) (by omega) (by omega), hp2 j (by simp; omega) (by omega) (by omega) (by omega) (by omega), get_left hj]
    have mem3 : MemAt (memPut K2 (H.length + 2) H.length (H.length + 1) m3) (H.length + 2) H.length (H.length + 1) m3 :=
      R2.mem.put (by rw [cl3.ws, R2.cl.ws, List.length_set]) (by rw [cl3.len, R2.cl.ws, List.length_set])
    have len3 : H.length + 3 ≤ (memPut K2 (H.length + 2) H.length (H.length + 1) m3).length := by rw [memPut_len]; exact R2.len
    rw [show ((P : Int) + kk).toNat = P + kk by omega] at cl3
    have hw3 : ∀ j, j < l.length → ((laid (List.replicate 40 0#64) P l l.length).set (P + kk) 77#64).getD (P + j) 0 = if j = kk then 77#64 else l.getD j 0 := by
      intro j hj
      by_cases e : j = kk
      · subst e
        rw [if_pos rfl, List.getD, List.getElem?_set_self (show P + j < (laid (List.replicate 40 0#64) P l l.length).length by rw [laid_len, List.length_replicate]; omega)]; rfl
      · rw [if_neg e]
        have := laid_get (List.replicate 40 0#64) P l (by simp; omega) l.length may.2 j hj
        simp only [List.getD] at this ⊢
        rw [List.getElem?_set_ne (by omega)]
        exact this
    have hw3l : ((laid (List.replicate 40 0#64) P l l.length).set (P + kk) 77#64).length = 40 := by rw [List.length_set, laid_len]; simp
    generalize (laid (List.replicate 40 0#64) P l l.length).set (P + kk) 77#64 = w3 at cl3 hw3 hw3l
    generalize memPut K2 (H.length + 2) H.length (H.length + 1) m3 = K3 at base3 mem3 len3 ⊢
    clear R R2 hp2 hle2 st ge f0 f1 f2 f3 lo1
    simp -dsimp only [go_sem, Nat.reduceEqDiff, Nat.reduceAdd, Nat.reduceSub, Nat.reduceMul, Nat.reduceLeDiff, Nat.reduceLT, Nat.reduceBEq, Int.reduceLT, Int.reduceLE, Int.reduceGT, Int.reduceGE, Int.reduceEq, Int.reduceNe, Int.reduceBEq, Int.reduceBNe, Int.reduceAdd, Int.reduceSub, Int.reduceMul, Int.reduceToNat, Int.reduceNeg, ↓reduceIte, ↓reduceDIte]
    have e2 : BOp.begins ⟨(P : Int), true, [], 0, l.length, 0⟩ = ⟨P, true, [], 0, l.length, 0⟩ := by
      unfold BOp.begins; rw [if_neg (by simp only; omega)]
    refine CT_val (bread_ev (by omega)) ?_
    rw [e2]
    simp -dsimp only [go_sem, Nat.reduceEqDiff, Nat.reduceAdd, Nat.reduceSub, Nat.reduceMul, Nat.reduceLeDiff, Nat.reduceLT, Nat.reduceBEq, Int.reduceLT, Int.reduceLE, Int.reduceGT, Int.reduceGE, Int.reduceEq, Int.reduceNe, Int.reduceBEq, Int.reduceBNe, Int.reduceAdd, Int.reduceSub, Int.reduceMul, Int.reduceToNat, Int.reduceNeg, ↓reduceIte, ↓reduceDIte]
    have D0 : RD H (K3.length + 1) (K3 ++ [brw none ⟨P, true, [], 0, l.length, 0⟩]) K3.length (H.length + 2) H.length (H.length + 1) none ⟨P, true, rdw w3 P 0, (0 : Nat), l.length, 0⟩ m3 w3 :=
      ⟨get_app0 _ _, Own.nil _ _ _, mem3.app _, cl3, by simp, fun j hj => by rw [get_left (by omega)]; exact base3 j hj⟩
    have o1 : H.length + 3 ≤ K3.length := len3
    generalize K3 ++ [brw none ⟨P, true, [], 0, l.length, 0⟩] = K4 at D0 ⊢
    generalize K3.length = o4 at D0 o1 ⊢
    refine LT_of (fun s : Nat × LHeap × Option Addr × MV => [(1, .slice a l.length l.length), (7, ptr (H.length + 2)), (11, i64 kk), (12, ptr o4), (13, i64 s.1)]) (fun s => s.2.1) (fun s => s.1 ≤ l.length ∧ RD H (o4 + 1) s.2.1 o4 (H.length + 2) H.length (H.length + 1) s.2.2.1 ⟨P, true, rdw w3 P s.1, s.1, l.length, 0⟩ s.2.2.2 w3) (fun s => l.length - s.1) (0, K4, none, m3) rfl rfl ⟨by omega, D0⟩ ?_
    rintro ⟨i, K5, a5, m5⟩ ⟨hi, D⟩
    simp only at hi D ⊢
    clear D0
    by_cases hil : i < l.length
    · have c1 : (i : Int) < l.length := by omega
      have wi : IntKind.i64.wrap ((l.length : Int) - i) = l.length - i := by rw [wrap_i64] <;> omega
      have wd : (IntKind.i64.wrap ((l.length : Int) - i) == 0) = false := by rw [wi, beq_eq_false_iff_ne]; omega
      have w1' : IntKind.i64.wrap ((i : Int) + 1) = ((i + 1 : Nat) : Int) := by rw [wrap_i64] <;> omega
      simp -dsimp only [go_sem, Nat.reduceEqDiff, Nat.reduceAdd, Nat.reduceSub, Nat.reduceMul, Nat.reduceLeDiff, Nat.reduceLT, Nat.reduceBEq, Int.reduceLT, Int.reduceLE, Int.reduceGT, Int.reduceGE, Int.reduceEq, Int.reduceNe, Int.reduceBEq, Int.reduceBNe, Int.reduceAdd, Int.reduceSub, Int.reduceMul, Int.reduceToNat, Int.reduceNeg, ↓reduceIte, ↓reduceDIte, c1]
      refine CT_val (bdone_ev D.row) ?_
      simp -dsimp only [go_sem, Nat.reduceEqDiff, Nat.reduceAdd, Nat.reduceSub, Nat.reduceMul, Nat.reduceLeDiff, Nat.reduceLT, Nat.reduceBEq, Int.reduceLT, Int.reduceLE, Int.reduceGT, Int.reduceGE, Int.reduceEq, Int.reduceNe, Int.reduceBEq, Int.reduceBNe, Int.reduceAdd, Int.reduceSub, Int.reduceMul, Int.reduceToNat, Int.reduceNeg, ↓reduceIte, ↓reduceDIte, wd]
      refine CT_val (bleft_ev D.row) ?_
      simp -dsimp only [go_sem, Nat.reduceEqDiff, Nat.reduceAdd, Nat.reduceSub, Nat.reduceMul, Nat.reduceLeDiff, Nat.reduceLT, Nat.reduceBEq, Int.reduceLT, Int.reduceLE, Int.reduceGT, Int.reduceGE, Int.reduceEq, Int.reduceNe, Int.reduceBEq, Int.reduceBNe, Int.reduceAdd, Int.reduceSub, Int.reduceMul, Int.reduceToNat, Int.reduceNeg, ↓reduceIte, ↓reduceDIte, wi]
      refine CT_of (bwords_ev (by have := D.len; omega) D.row rfl D.own (rdw_len _ _ _) (by omega)) ?_
      rintro _ _ ⟨a6, t6, rfl, rfl, g6⟩
      simp -dsimp only [go_sem, Nat.reduceEqDiff, Nat.reduceAdd, Nat.reduceSub, Nat.reduceMul, Nat.reduceLeDiff, Nat.reduceLT, Nat.reduceBEq, Int.reduceLT, Int.reduceLE, Int.reduceGT, Int.reduceGE, Int.reduceEq, Int.reduceNe, Int.reduceBEq, Int.reduceBNe, Int.reduceAdd, Int.reduceSub, Int.reduceMul, Int.reduceToNat, Int.reduceNeg, ↓reduceIte, ↓reduceDIte]
      have D1 := D.app (by omega) t6
      refine CT_of (bstepR_ev (lim := H.length) (lo := o4 + 1) (k := i) (by omega) (by have := D1.len; omega) D1.row D1.own D1.mem D1.cl (by omega) (by omega) (by omega) (by omega) (by omega) (by omega) (by omega) (by omega) D1.len rfl rfl (rdw_len _ _ _) (by simp only; omega) (by simp only; omega) (by simp only; omega)) ?_
      rintro _ K7 ⟨a7, rfl, r1, r2, r3, r4, r5⟩
      have hP : ((P : Int) + i).toNat = P + i := by omega
      simp only [hP] at r1 r2
      rw [← rdw_succ] at r1 r2
      simp -dsimp only [go_sem, Nat.reduceEqDiff, Nat.reduceAdd, Nat.reduceSub, Nat.reduceMul, Nat.reduceLeDiff, Nat.reduceLT, Nat.reduceBEq, Int.reduceLT, Int.reduceLE, Int.reduceGT, Int.reduceGE, Int.reduceEq, Int.reduceNe, Int.reduceBEq, Int.reduceBNe, Int.reduceAdd, Int.reduceSub, Int.reduceMul, Int.reduceToNat, Int.reduceNeg, ↓reduceIte, ↓reduceDIte, w1']
      refine ⟨(i + 1, K7, a7, m5.use 0 ((P : Int) + i) id), rfl, rfl, ⟨by simp only; omega, ⟨r1, r2, r3, D1.cl.use_id (by omega) (by omega) 0, by have := D1.len; simp only; omega, ?_⟩⟩, by simp only; omega⟩
      intro j hj
      simp only
      rw [r5 j (by omega) (by omega) (by omega) (by omega) (by omega)]
      exact D1.base j hj
    · have c1 : ¬ (i : Int) < l.length := by omega
      obtain rfl : i = l.length := by omega
      simp -dsimp only [go_sem, Nat.reduceEqDiff, Nat.reduceAdd, Nat.reduceSub, Nat.reduceMul, Nat.reduceLeDiff, Nat.reduceLT, Nat.reduceBEq, Int.reduceLT, Int.reduceLE, Int.reduceGT, Int.reduceGE, Int.reduceEq, Int.reduceNe, Int.reduceBEq, Int.reduceBNe, Int.reduceAdd, Int.reduceSub, Int.reduceMul, Int.reduceToNat, Int.reduceNeg, ↓reduceIte, ↓reduceDIte, c1]
      refine CT_of (bwords_ev (by have := D.len; omega) D.row rfl D.own (rdw_len _ _ _) (by omega)) ?_
      rintro _ _ ⟨a6, t6, rfl, rfl, g6⟩
      have D1 := D.app (by omega) t6
      obtain ⟨b6, rfl, q1, q2, q3⟩ := g6.has (by simp [rdw_len]; omega)
      generalize K5 ++ t6 = K6 at D1 q2 q3 ⊢
      have hs6 : Sl 1 K6 a (l.map w64) := Sl.same hs D1.base
      obtain ⟨ba, oa, rfl, _, hga⟩ := hs6.all (by simp; omega)
      simp -dsimp only [go_sem, Nat.reduceEqDiff, Nat.reduceAdd, Nat.reduceSub, Nat.reduceMul, Nat.reduceLeDiff, Nat.reduceLT, Nat.reduceBEq, Int.reduceLT, Int.reduceLE, Int.reduceGT, Int.reduceGE, Int.reduceEq, Int.reduceNe, Int.reduceBEq, Int.reduceBNe, Int.reduceAdd, Int.reduceSub, Int.reduceMul, Int.reduceToNat, Int.reduceNeg, ↓reduceIte, ↓reduceDIte]
      refine LT_of (fun s : Nat => [(1, .slice (some ⟨ba, oa, none⟩) l.length l.length), (7, ptr (H.length + 2)), (11, i64 kk), (12, ptr o4), (14, .slice (some ⟨b6, 0, none⟩) l.length l.length), (15, i64 s)]) (fun _ => K6) (fun s => s ≤ l.length) (fun s => l.length - s) 0 rfl rfl (by omega) ?_
      intro s hsl
      by_cases hlt : s < l.length
      · have c2 : (s : Int) < l.length := by omega
        have c0 : 0 ≤ (s : Int) := by omega
        have ws : IntKind.i64.wrap ((s : Int) + 1) = ((s + 1 : Nat) : Int) := by rw [wrap_i64] <;> omega
        have g1 := hga [] s (w64 (l.getD s 0)) (by simp [hlt])
        have g2 := lget_at q3 s
        rw [List.getElem?_map, rdw_get _ _ _ _ hlt, hw3 s hlt] at g2
        simp only [List.append_nil, Option.map_some] at g1 g2
        by_cases e : s = kk
        · subst e
          have e1 : ((s : Int) != s) = false := by simp
          have e2 : ((s : Int) == s) = true := by simp
          rw [if_pos rfl] at g2
          simp -dsimp only [go_sem, Nat.reduceEqDiff, Nat.reduceAdd, Nat.reduceSub, Nat.reduceMul, Nat.reduceLeDiff, Nat.reduceLT, Nat.reduceBEq, Int.reduceLT, Int.reduceLE, Int.reduceGT, Int.reduceGE, Int.reduceEq, Int.reduceNe, Int.reduceBEq, Int.reduceBNe, Int.reduceAdd, Int.reduceSub, Int.reduceMul, Int.reduceToNat, Int.reduceNeg, ↓reduceIte, ↓reduceDIte, c2, c0, ws, e1, e2, g1, g2]
          exact ⟨s + 1, rfl, by omega, by omega⟩
        · have e1 : ((s : Int) != kk) = true := by simpa using (show ¬ (s : Int) = kk by omega)
          have e2 : ((s : Int) == kk) = false := by simpa using (show ¬ (s : Int) = kk by omega)
          rw [if_neg e] at g2
          simp -dsimp only [go_sem, Nat.reduceEqDiff, Nat.reduceAdd, Nat.reduceSub, Nat.reduceMul, Nat.reduceLeDiff, Nat.reduceLT, Nat.reduceBEq, Int.reduceLT, Int.reduceLE, Int.reduceGT, Int.reduceGE, Int.reduceEq, Int.reduceNe, Int.reduceBEq, Int.reduceBNe, Int.reduceAdd, Int.reduceSub, Int.reduceMul, Int.reduceToNat, Int.reduceNeg, ↓reduceIte, ↓reduceDIte, c2, c0, ws, e1, e2, g1, g2]
          exact ⟨s + 1, rfl, by omega, by omega⟩
      · have c2 : ¬ (s : Int) < l.length := by omega
        have w3' : (IntKind.i64.wrap ((l.length : Int) - l.length) == 0) = true := w2
        simp -dsimp only [go_sem, Nat.reduceEqDiff, Nat.reduceAdd, Nat.reduceSub, Nat.reduceMul, Nat.reduceLeDiff, Nat.reduceLT, Nat.reduceBEq, Int.reduceLT, Int.reduceLE, Int.reduceGT, Int.reduceGE, Int.reduceEq, Int.reduceNe, Int.reduceBEq, Int.reduceBNe, Int.reduceAdd, Int.reduceSub, Int.reduceMul, Int.reduceToNat, Int.reduceNeg, ↓reduceIte, ↓reduceDIte, c2]
        refine CT_val (bdone_ev D1.row) ?_
        simp -dsimp only [go_sem, Nat.reduceEqDiff, Nat.reduceAdd, Nat.reduceSub, Nat.reduceMul, Nat.reduceLeDiff, Nat.reduceLT, Nat.reduceBEq, Int.reduceLT, Int.reduceLE, Int.reduceGT, Int.reduceGE, Int.reduceEq, Int.reduceNe, Int.reduceBEq, Int.reduceBNe, Int.reduceAdd, Int.reduceSub, Int.reduceMul, Int.reduceToNat, Int.reduceNeg, ↓reduceIte, ↓reduceDIte, w3']
        refine CT_val (trap_c D1.mem D1.cl) ?_
        simp -dsimp only [go_sem, Nat.reduceEqDiff, Nat.reduceAdd, Nat.reduceSub, Nat.reduceMul, Nat.reduceLeDiff, Nat.reduceLT, Nat.reduceBEq, Int.reduceLT, Int.reduceLE, Int.reduceGT, Int.reduceGE, Int.reduceEq, Int.reduceNe, Int.reduceBEq, Int.reduceBNe, Int.reduceAdd, Int.reduceSub, Int.reduceMul, Int.reduceToNat, Int.reduceNeg, ↓reduceIte, ↓reduceDIte]
        refine CT_val (one_ev _ _) ?_
        simp -dsimp only [go_sem, Nat.reduceEqDiff, Nat.reduceAdd, Nat.reduceSub, Nat.reduceMul, Nat.reduceLeDiff, Nat.reduceLT, Nat.reduceBEq, Int.reduceLT, Int.reduceLE, Int.reduceGT, Int.reduceGE, Int.reduceEq, Int.reduceNe, Int.reduceBEq, Int.reduceBNe, Int.reduceAdd, Int.reduceSub, Int.reduceMul, Int.reduceToNat, Int.reduceNeg, ↓reduceIte, ↓reduceDIte]
  · have e : BOp.begins ⟨(P : Int), false, l.take 8, 0, l.length, 0⟩ = ⟨P, false, l.take 8, 0, 0, 2⟩ := by
      unfold BOp.begins
      rw [if_pos (by simp only; omega)]
    rw [e]
    have hr : ((H ++ [wrow m, brow m, mrow H.length (H.length + 1) m]) ++ (t ++ [brw a' ⟨P, false, l.take 8, 0, 0, 2⟩]))[(H ++ [wrow m, brow m, mrow H.length (H.length + 1) m]).length + t.length]? = some (brw a' ⟨P, false, l.take 8, 0, 0, 2⟩) := by
      rw [get_app]; simp
    have hm2 := hmem.app (t ++ [brw a' ⟨P, false, l.take 8, 0, 0, 2⟩])
    generalize H ++ [wrow m, brow m, mrow H.length (H.length + 1) m] ++ (t ++ [brw a' ⟨P, false, l.take 8, 0, 0, 2⟩]) = K at hr hm2 ⊢
    generalize (H ++ [wrow m, brow m, mrow H.length (H.length + 1) m]).length + t.length = o at hr ⊢
    have w0 : (IntKind.i64.wrap (0 - 0) == 0) = true := by decide
    have w00 : IntKind.i64.wrap 0 = 0 := by decide
    have st := few0.steps
    by_cases m1 : 1 ≤ l.length
    · have m1' : (1 : Int) ≤ l.length := by omega
      have m8 : ¬ (l.length : Int) ≤ 8 := by omega
      simp -dsimp only [go_sem, Nat.reduceEqDiff, Nat.reduceAdd, Nat.reduceSub, Nat.reduceMul, Nat.reduceLeDiff, Nat.reduceLT, Nat.reduceBEq, Int.reduceLT, Int.reduceLE, Int.reduceGT, Int.reduceGE, Int.reduceEq, Int.reduceNe, Int.reduceBEq, Int.reduceBNe, Int.reduceAdd, Int.reduceSub, Int.reduceMul, Int.reduceToNat, Int.reduceNeg, ↓reduceIte, ↓reduceDIte, m1', m8]
      refine CT_val (bres_ev hr) ?_
      simp -dsimp only [go_sem, Nat.reduceEqDiff, Nat.reduceAdd, Nat.reduceSub, Nat.reduceMul, Nat.reduceLeDiff, Nat.reduceLT, Nat.reduceBEq, Int.reduceLT, Int.reduceLE, Int.reduceGT, Int.reduceGE, Int.reduceEq, Int.reduceNe, Int.reduceBEq, Int.reduceBNe, Int.reduceAdd, Int.reduceSub, Int.reduceMul, Int.reduceToNat, Int.reduceNeg, ↓reduceIte, ↓reduceDIte, b1, b2, b3, b4]
      refine CT_val (bdone_ev hr) ?_
      simp -dsimp only [go_sem, Nat.reduceEqDiff, Nat.reduceAdd, Nat.reduceSub, Nat.reduceMul, Nat.reduceLeDiff, Nat.reduceLT, Nat.reduceBEq, Int.reduceLT, Int.reduceLE, Int.reduceGT, Int.reduceGE, Int.reduceEq, Int.reduceNe, Int.reduceBEq, Int.reduceBNe, Int.reduceAdd, Int.reduceSub, Int.reduceMul, Int.reduceToNat, Int.reduceNeg, ↓reduceIte, ↓reduceDIte, b1, b2, b3, b4, w00]
      refine CT_val (bwords_no hr rfl) ?_
      simp -dsimp only [go_sem, Nat.reduceEqDiff, Nat.reduceAdd, Nat.reduceSub, Nat.reduceMul, Nat.reduceLeDiff, Nat.reduceLT, Nat.reduceBEq, Int.reduceLT, Int.reduceLE, Int.reduceGT, Int.reduceGE, Int.reduceEq, Int.reduceNe, Int.reduceBEq, Int.reduceBNe, Int.reduceAdd, Int.reduceSub, Int.reduceMul, Int.reduceToNat, Int.reduceNeg, ↓reduceIte, ↓reduceDIte]
      refine CT_val (bres_ev hr) ?_
      simp -dsimp only [go_sem, Nat.reduceEqDiff, Nat.reduceAdd, Nat.reduceSub, Nat.reduceMul, Nat.reduceLeDiff, Nat.reduceLT, Nat.reduceBEq, Int.reduceLT, Int.reduceLE, Int.reduceGT, Int.reduceGE, Int.reduceEq, Int.reduceNe, Int.reduceBEq, Int.reduceBNe, Int.reduceAdd, Int.reduceSub, Int.reduceMul, Int.reduceToNat, Int.reduceNeg, ↓reduceIte, ↓reduceDIte, b1, b2, b3, b4]
      refine CT_val (bstep_done hr w0) ?_
      simp -dsimp only [go_sem, Nat.reduceEqDiff, Nat.reduceAdd, Nat.reduceSub, Nat.reduceMul, Nat.reduceLeDiff, Nat.reduceLT, Nat.reduceBEq, Int.reduceLT, Int.reduceLE, Int.reduceGT, Int.reduceGE, Int.reduceEq, Int.reduceNe, Int.reduceBEq, Int.reduceBNe, Int.reduceAdd, Int.reduceSub, Int.reduceMul, Int.reduceToNat, Int.reduceNeg, ↓reduceIte, ↓reduceDIte]
      refine CT_val (steps_ev hm2) ?_
      simp -dsimp only [go_sem, Nat.reduceEqDiff, Nat.reduceAdd, Nat.reduceSub, Nat.reduceMul, Nat.reduceLeDiff, Nat.reduceLT, Nat.reduceBEq, Int.reduceLT, Int.reduceLE, Int.reduceGT, Int.reduceGE, Int.reduceEq, Int.reduceNe, Int.reduceBEq, Int.reduceBNe, Int.reduceAdd, Int.reduceSub, Int.reduceMul, Int.reduceToNat, Int.reduceNeg, ↓reduceIte, ↓reduceDIte, st]
      refine CT_val (one_ev _ _) ?_
      simp -dsimp only [go_sem, Nat.reduceEqDiff, Nat.reduceAdd, Nat.reduceSub, Nat.reduceMul, Nat.reduceLeDiff, Nat.reduceLT, Nat.reduceBEq, Int.reduceLT, Int.reduceLE, Int.reduceGT, Int.reduceGE, Int.reduceEq, Int.reduceNe, Int.reduceBEq, Int.reduceBNe, Int.reduceAdd, Int.reduceSub, Int.reduceMul, Int.reduceToNat, Int.reduceNeg, ↓reduceIte, ↓reduceDIte]
    · have m1' : ¬ (1 : Int) ≤ l.length := by omega
      simp -dsimp only [go_sem, Nat.reduceEqDiff, Nat.reduceAdd, Nat.reduceSub, Nat.reduceMul, Nat.reduceLeDiff, Nat.reduceLT, Nat.reduceBEq, Int.reduceLT, Int.reduceLE, Int.reduceGT, Int.reduceGE, Int.reduceEq, Int.reduceNe, Int.reduceBEq, Int.reduceBNe, Int.reduceAdd, Int.reduceSub, Int.reduceMul, Int.reduceToNat, Int.reduceNeg, ↓reduceIte, ↓reduceDIte, m1']
      refine CT_val (bres_ev hr) ?_
      simp -dsimp only [go_sem, Nat.reduceEqDiff, Nat.reduceAdd, Nat.reduceSub, Nat.reduceMul, Nat.reduceLeDiff, Nat.reduceLT, Nat.reduceBEq, Int.reduceLT, Int.reduceLE, Int.reduceGT, Int.reduceGE, Int.reduceEq, Int.reduceNe, Int.reduceBEq, Int.reduceBNe, Int.reduceAdd, Int.reduceSub, Int.reduceMul, Int.reduceToNat, Int.reduceNeg, ↓reduceIte, ↓reduceDIte, b1, b2, b3, b4]
      refine CT_val (bdone_ev hr) ?_
      simp -dsimp only [go_sem, Nat.reduceEqDiff, Nat.reduceAdd, Nat.reduceSub, Nat.reduceMul, Nat.reduceLeDiff, Nat.reduceLT, Nat.reduceBEq, Int.reduceLT, Int.reduceLE, Int.reduceGT, Int.reduceGE, Int.reduceEq, Int.reduceNe, Int.reduceBEq, Int.reduceBNe, Int.reduceAdd, Int.reduceSub, Int.reduceMul, Int.reduceToNat, Int.reduceNeg, ↓reduceIte, ↓reduceDIte, b1, b2, b3, b4, w00]
      refine CT_val (bwords_no hr rfl) ?_
      simp -dsimp only [go_sem, Nat.reduceEqDiff, Nat.reduceAdd, Nat.reduceSub, Nat.reduceMul, Nat.reduceLeDiff, Nat.reduceLT, Nat.reduceBEq, Int.reduceLT, Int.reduceLE, Int.reduceGT, Int.reduceGE, Int.reduceEq, Int.reduceNe, Int.reduceBEq, Int.reduceBNe, Int.reduceAdd, Int.reduceSub, Int.reduceMul, Int.reduceToNat, Int.reduceNeg, ↓reduceIte, ↓reduceDIte]
      refine CT_val (bres_ev hr) ?_
      simp -dsimp only [go_sem, Nat.reduceEqDiff, Nat.reduceAdd, Nat.reduceSub, Nat.reduceMul, Nat.reduceLeDiff, Nat.reduceLT, Nat.reduceBEq, Int.reduceLT, Int.reduceLE, Int.reduceGT, Int.reduceGE, Int.reduceEq, Int.reduceNe, Int.reduceBEq, Int.reduceBNe, Int.reduceAdd, Int.reduceSub, Int.reduceMul, Int.reduceToNat, Int.reduceNeg, ↓reduceIte, ↓reduceDIte, b1, b2, b3, b4]
      refine CT_val (bstep_done hr w0) ?_
      simp -dsimp only [go_sem, Nat.reduceEqDiff, Nat.reduceAdd, Nat.reduceSub, Nat.reduceMul, Nat.reduceLeDiff, Nat.reduceLT, Nat.reduceBEq, Int.reduceLT, Int.reduceLE, Int.reduceGT, Int.reduceGE, Int.reduceEq, Int.reduceNe, Int.reduceBEq, Int.reduceBNe, Int.reduceAdd, Int.reduceSub, Int.reduceMul, Int.reduceToNat, Int.reduceNeg, ↓reduceIte, ↓reduceDIte]
      refine CT_val (steps_ev hm2) ?_
      simp -dsimp only [go_sem, Nat.reduceEqDiff, Nat.reduceAdd, Nat.reduceSub, Nat.reduceMul, Nat.reduceLeDiff, Nat.reduceLT, Nat.reduceBEq, Int.reduceLT, Int.reduceLE, Int.reduceGT, Int.reduceGE, Int.reduceEq, Int.reduceNe, Int.reduceBEq, Int.reduceBNe, Int.reduceAdd, Int.reduceSub, Int.reduceMul, Int.reduceToNat, Int.reduceNeg, ↓reduceIte, ↓reduceDIte, st]
      refine CT_val (one_ev _ _) ?_
      simp -dsimp only [go_sem, Nat.reduceEqDiff, Nat.reduceAdd, Nat.reduceSub, Nat.reduceMul, Nat.reduceLeDiff, Nat.reduceLT, Nat.reduceBEq, Int.reduceLT, Int.reduceLE, Int.reduceGT, Int.reduceGE, Int.reduceEq, Int.reduceNe, Int.reduceBEq, Int.reduceBNe, Int.reduceAdd, Int.reduceSub, Int.reduceMul, Int.reduceToNat, Int.reduceNeg, ↓reduceIte, ↓reduceDIte]
end Go.Proofs.Ytagpbakgjglnhaa
