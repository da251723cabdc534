/- Guards that are laid, steps of operations. -/
import Derived.Test.YtcogpinognopcaaG0
namespace Go.Proofs.Ytcogpinognopcaa
open Go Go.LK
set_option linter.unusedSimpArgs false
set_option linter.unusedVariables false
theorem zero_set (n i : Nat) : (List.replicate n 0#64).set i 0#64 = List.replicate n 0#64 := by
  apply List.ext_getElem?
  intro j
  by_cases e : i = j
  · subst e
    by_cases h : i < n
    · rw [List.getElem?_set_self (by simpa using h)]; simp [h]
    · rw [List.set_eq_of_length_le (by simpa using h)]
  · rw [List.getElem?_set_ne e]
section
variable {lim o b pw pb : Nat} {x : HOp} {a : Option Addr} {H : LHeap} {g : GV} {m : MV}
theorem setup_nil {v : Value} (h : NoMem H v) : callE T 9 lim [g.v, v] H fun v H' => v = i64 1 ∧ H' = H := by
  refine callE_pop rfl (by simp) rfl ?_
  simp -dsimp only [go_sem, Nat.reduceEqDiff, Nat.reduceAdd, Nat.reduceSub, Nat.reduceMul, Nat.reduceLeDiff, Nat.reduceLT, Nat.reduceBEq, Int.reduceLT, Int.reduceLE, Int.reduceGT, Int.reduceGE, Int.reduceEq, Int.reduceNe, Int.reduceBEq, Int.reduceBNe, Int.reduceAdd, Int.reduceSub, Int.reduceMul, Int.reduceToNat, Int.reduceNeg, ↓reduceIte, ↓reduceDIte]
  refine CT_val (len_no (h.app _)) ?_
  simp -dsimp only [go_sem, Nat.reduceEqDiff, Nat.reduceAdd, Nat.reduceSub, Nat.reduceMul, Nat.reduceLeDiff, Nat.reduceLT, Nat.reduceBEq, Int.reduceLT, Int.reduceLE, Int.reduceGT, Int.reduceGE, Int.reduceEq, Int.reduceNe, Int.reduceBEq, Int.reduceBNe, Int.reduceAdd, Int.reduceSub, Int.reduceMul, Int.reduceToNat, Int.reduceNeg, ↓reduceIte, ↓reduceDIte]
theorem setup_bad (h : MemAt H b pw pb m) (hr : g.right = false) : callE T 9 lim [g.v, ptr b] H fun v H' => v = i64 2 ∧ H' = H := by
  refine callE_pop rfl (by simp) rfl ?_
  have hpos : ((m.w.length : Int) == 0) = false := by rw [beq_eq_false_iff_ne]; have := h.pos; omega
  simp -dsimp only [go_sem, Nat.reduceEqDiff, Nat.reduceAdd, Nat.reduceSub, Nat.reduceMul, Nat.reduceLeDiff, Nat.reduceLT, Nat.reduceBEq, Int.reduceLT, Int.reduceLE, Int.reduceGT, Int.reduceGE, Int.reduceEq, Int.reduceNe, Int.reduceBEq, Int.reduceBNe, Int.reduceAdd, Int.reduceSub, Int.reduceMul, Int.reduceToNat, Int.reduceNeg, ↓reduceIte, ↓reduceDIte]
  refine CT_val (len_ev (h.app _)) ?_
  simp -dsimp only [go_sem, Nat.reduceEqDiff, Nat.reduceAdd, Nat.reduceSub, Nat.reduceMul, Nat.reduceLeDiff, Nat.reduceLT, Nat.reduceBEq, Int.reduceLT, Int.reduceLE, Int.reduceGT, Int.reduceGE, Int.reduceEq, Int.reduceNe, Int.reduceBEq, Int.reduceBNe, Int.reduceAdd, Int.reduceSub, Int.reduceMul, Int.reduceToNat, Int.reduceNeg, ↓reduceIte, ↓reduceDIte, hpos]
  refine CT_val right_ev ?_
  simp -dsimp only [go_sem, Nat.reduceEqDiff, Nat.reduceAdd, Nat.reduceSub, Nat.reduceMul, Nat.reduceLeDiff, Nat.reduceLT, Nat.reduceBEq, Int.reduceLT, Int.reduceLE, Int.reduceGT, Int.reduceGE, Int.reduceEq, Int.reduceNe, Int.reduceBEq, Int.reduceBNe, Int.reduceAdd, Int.reduceSub, Int.reduceMul, Int.reduceToNat, Int.reduceNeg, ↓reduceIte, ↓reduceDIte, hr]
theorem setup_ev {n : Nat} (h : MemAt H b pw pb m) (c : Clean m (List.replicate n 0#64)) (hr : g.right = true) (hn : g.a + g.words ≤ n) :
    callE T 9 lim [g.v, ptr b] H fun v H' => ∃ m', Clean m' (List.replicate n 0#64) ∧ v = i64 0 ∧ H' = memPut H b pw pb m' := by
  refine callE_pop rfl (by simp) rfl ?_
  obtain ⟨a0, a1, t0, t1, s0, s1⟩ := GV.right_of hr
  have hw0 : 0 ≤ g.words := by rw [GV.words, if_pos hr]; exact Int.mul_nonneg (by omega) (by omega)
  have hlen : m.w.length = n := by rw [c.ws]; simp
  have hle := h.le
  have hpos : ((m.w.length : Int) == 0) = false := by rw [beq_eq_false_iff_ne]; have := h.pos; omega
  have hsub : IntKind.i64.wrap ((m.w.length : Int) - g.a) = m.w.length - g.a := by rw [wrap_i64] <;> omega
  have hgt : ¬ (m.w.length : Int) - g.a < g.words := by omega
  simp -dsimp only [go_sem, Nat.reduceEqDiff, Nat.reduceAdd, Nat.reduceSub, Nat.reduceMul, Nat.reduceLeDiff, Nat.reduceLT, Nat.reduceBEq, Int.reduceLT, Int.reduceLE, Int.reduceGT, Int.reduceGE, Int.reduceEq, Int.reduceNe, Int.reduceBEq, Int.reduceBNe, Int.reduceAdd, Int.reduceSub, Int.reduceMul, Int.reduceToNat, Int.reduceNeg, ↓reduceIte, ↓reduceDIte]
  refine CT_val (len_ev (h.app _)) ?_
  simp -dsimp only [go_sem, Nat.reduceEqDiff, Nat.reduceAdd, Nat.reduceSub, Nat.reduceMul, Nat.reduceLeDiff, Nat.reduceLT, Nat.reduceBEq, Int.reduceLT, Int.reduceLE, Int.reduceGT, Int.reduceGE, Int.reduceEq, Int.reduceNe, Int.reduceBEq, Int.reduceBNe, Int.reduceAdd, Int.reduceSub, Int.reduceMul, Int.reduceToNat, Int.reduceNeg, ↓reduceIte, ↓reduceDIte, hpos]
  refine CT_val right_ev ?_
  simp -dsimp only [go_sem, Nat.reduceEqDiff, Nat.reduceAdd, Nat.reduceSub, Nat.reduceMul, Nat.reduceLeDiff, Nat.reduceLT, Nat.reduceBEq, Int.reduceLT, Int.reduceLE, Int.reduceGT, Int.reduceGE, Int.reduceEq, Int.reduceNe, Int.reduceBEq, Int.reduceBNe, Int.reduceAdd, Int.reduceSub, Int.reduceMul, Int.reduceToNat, Int.reduceNeg, ↓reduceIte, ↓reduceDIte, hr]
  refine CT_val words_ev ?_
  simp -dsimp only [go_sem, Nat.reduceEqDiff, Nat.reduceAdd, Nat.reduceSub, Nat.reduceMul, Nat.reduceLeDiff, Nat.reduceLT, Nat.reduceBEq, Int.reduceLT, Int.reduceLE, Int.reduceGT, Int.reduceGE, Int.reduceEq, Int.reduceNe, Int.reduceBEq, Int.reduceBNe, Int.reduceAdd, Int.reduceSub, Int.reduceMul, Int.reduceToNat, Int.reduceNeg, ↓reduceIte, ↓reduceDIte]
  refine CT_val (len_ev (h.app _)) ?_
  simp -dsimp only [go_sem, Nat.reduceEqDiff, Nat.reduceAdd, Nat.reduceSub, Nat.reduceMul, Nat.reduceLeDiff, Nat.reduceLT, Nat.reduceBEq, Int.reduceLT, Int.reduceLE, Int.reduceGT, Int.reduceGE, Int.reduceEq, Int.reduceNe, Int.reduceBEq, Int.reduceBNe, Int.reduceAdd, Int.reduceSub, Int.reduceMul, Int.reduceToNat, Int.reduceNeg, ↓reduceIte, ↓reduceDIte, hsub, hgt]
  refine CT_val words_ev ?_
  simp -dsimp only [go_sem, Nat.reduceEqDiff, Nat.reduceAdd, Nat.reduceSub, Nat.reduceMul, Nat.reduceLeDiff, Nat.reduceLT, Nat.reduceBEq, Int.reduceLT, Int.reduceLE, Int.reduceGT, Int.reduceGE, Int.reduceEq, Int.reduceNe, Int.reduceBEq, Int.reduceBNe, Int.reduceAdd, Int.reduceSub, Int.reduceMul, Int.reduceToNat, Int.reduceNeg, ↓reduceIte, ↓reduceDIte]
  obtain ⟨W, hW⟩ := Int.eq_ofNat_of_zero_le hw0
  rw [hW] at hn ⊢
  refine LT_of (fun s : Nat × MV => [(1, ptr b), (2, ptr H.length), (25, i64 W), (26, i64 s.1)]) (fun s => memPut H b pw pb s.2 ++ [.row false 0 [i64 g.a, i64 g.t, i64 g.s]]) (fun s => s.1 ≤ W ∧ Clean s.2 (List.replicate n 0#64)) (fun s => W - s.1) (0, m) rfl (by rw [memPut_same h]) ⟨by omega, c⟩ ?_
  rintro ⟨i, m1⟩ ⟨hi, c1⟩
  simp only at hi c1 ⊢
  have h1 : MemAt (memPut H b pw pb m1) b pw pb m1 := h.put (by rw [c1.ws, c.ws]) (by rw [c1.len, c.ws])
  have lH : (memPut H b pw pb m1).length = H.length := memPut_len _ _ _ _ _
  by_cases hlt : i < W
  · have q1 : (i : Int) < W := by omega
    have q2 : IntKind.i64.wrap (g.a + (i : Int)) = g.a + i := by rw [wrap_i64] <;> omega
    have q3 : IntKind.i64.wrap ((i : Int) + 1) = ((i + 1 : Nat) : Int) := by rw [wrap_i64] <;> omega
    simp -dsimp only [go_sem, Nat.reduceEqDiff, Nat.reduceAdd, Nat.reduceSub, Nat.reduceMul, Nat.reduceLeDiff, Nat.reduceLT, Nat.reduceBEq, Int.reduceLT, Int.reduceLE, Int.reduceGT, Int.reduceGE, Int.reduceEq, Int.reduceNe, Int.reduceBEq, Int.reduceBNe, Int.reduceAdd, Int.reduceSub, Int.reduceMul, Int.reduceToNat, Int.reduceNeg, ↓reduceIte, ↓reduceDIte, q1, lget_app_n0 lH, q2]
    refine CT_of (store_c (h1.app _) c1 (by omega) (by simp; omega)) ?_
    rintro _ _ ⟨m2, c2, rfl⟩
    rw [zero_set] at c2
    rw [memPut_app h1, memPut_put h]
    simp -dsimp only [go_sem, Nat.reduceEqDiff, Nat.reduceAdd, Nat.reduceSub, Nat.reduceMul, Nat.reduceLeDiff, Nat.reduceLT, Nat.reduceBEq, Int.reduceLT, Int.reduceLE, Int.reduceGT, Int.reduceGE, Int.reduceEq, Int.reduceNe, Int.reduceBEq, Int.reduceBNe, Int.reduceAdd, Int.reduceSub, Int.reduceMul, Int.reduceToNat, Int.reduceNeg, ↓reduceIte, ↓reduceDIte, q3]
    exact ⟨(i + 1, m2), rfl, rfl, ⟨by simp only; omega, c2⟩, by simp only; omega⟩
  · have q1 : ¬ (i : Int) < W := by omega
    simp -dsimp only [go_sem, Nat.reduceEqDiff, Nat.reduceAdd, Nat.reduceSub, Nat.reduceMul, Nat.reduceLeDiff, Nat.reduceLT, Nat.reduceBEq, Int.reduceLT, Int.reduceLE, Int.reduceGT, Int.reduceGE, Int.reduceEq, Int.reduceNe, Int.reduceBEq, Int.reduceBNe, Int.reduceAdd, Int.reduceSub, Int.reduceMul, Int.reduceToNat, Int.reduceNeg, ↓reduceIte, ↓reduceDIte, q1]
    exact ⟨m1, c1, take_app_n lH⟩
def HOp.step (x : HOp) (m : MV) : HOp × MV :=
  if x.done = true then (x, m)
  else if x.kind = 0 then
    if x.at_ = 1 then ({ x with at_ := 2 }, m.use 1 x.slot (fun _ => x.p))
    else ({ x with done := decide (x.at_ = 2) && (m.load x.word == x.p), p := m.load x.word, at_ := 1 }, m.use 0 x.word id)
  else if x.kind = 1 then ({ x with done := true }, m.use 1 x.slot (fun _ => 0#64))
  else
    let v := m.load (x.g.a + x.at_)
    let met := if v = 0#64 then x.met else x.met ++ [v]
    ({ x with met := met, at_ := x.at_ + 1, p := BitVec.ofNat 64 met.length, done := decide (x.at_ + 1 = x.g.words) }, m.use 0 (x.g.a + x.at_) id)
theorem hstep_nil {v : Value} : callE T 16 lim [.pointer none, v] H fun v H' => v = .bool true ∧ H' = H := by
  refine callE_stay rfl (by simp) rfl ?_
  simp -dsimp only [go_sem, Nat.reduceEqDiff, Nat.reduceAdd, Nat.reduceSub, Nat.reduceMul, Nat.reduceLeDiff, Nat.reduceLT, Nat.reduceBEq, Int.reduceLT, Int.reduceLE, Int.reduceGT, Int.reduceGE, Int.reduceEq, Int.reduceNe, Int.reduceBEq, Int.reduceBNe, Int.reduceAdd, Int.reduceSub, Int.reduceMul, Int.reduceToNat, Int.reduceNeg, ↓reduceIte, ↓reduceDIte]
  refine CT_val hdone_nil ?_
  simp -dsimp only [go_sem, Nat.reduceEqDiff, Nat.reduceAdd, Nat.reduceSub, Nat.reduceMul, Nat.reduceLeDiff, Nat.reduceLT, Nat.reduceBEq, Int.reduceLT, Int.reduceLE, Int.reduceGT, Int.reduceGE, Int.reduceEq, Int.reduceNe, Int.reduceBEq, Int.reduceBNe, Int.reduceAdd, Int.reduceSub, Int.reduceMul, Int.reduceToNat, Int.reduceNeg, ↓reduceIte, ↓reduceDIte]
  refine CT_val hdone_nil ?_
  simp -dsimp only [go_sem, Nat.reduceEqDiff, Nat.reduceAdd, Nat.reduceSub, Nat.reduceMul, Nat.reduceLeDiff, Nat.reduceLT, Nat.reduceBEq, Int.reduceLT, Int.reduceLE, Int.reduceGT, Int.reduceGE, Int.reduceEq, Int.reduceNe, Int.reduceBEq, Int.reduceBNe, Int.reduceAdd, Int.reduceSub, Int.reduceMul, Int.reduceToNat, Int.reduceNeg, ↓reduceIte, ↓reduceDIte]
theorem hstep_done {v : Value} (h : H[o]? = some (hrw a x)) (hd : x.done = true) : callE T 16 lim [ptr o, v] H fun v H' => v = .bool true ∧ H' = H := by
  refine callE_stay rfl (by simp) rfl ?_
  simp -dsimp only [go_sem, Nat.reduceEqDiff, Nat.reduceAdd, Nat.reduceSub, Nat.reduceMul, Nat.reduceLeDiff, Nat.reduceLT, Nat.reduceBEq, Int.reduceLT, Int.reduceLE, Int.reduceGT, Int.reduceGE, Int.reduceEq, Int.reduceNe, Int.reduceBEq, Int.reduceBNe, Int.reduceAdd, Int.reduceSub, Int.reduceMul, Int.reduceToNat, Int.reduceNeg, ↓reduceIte, ↓reduceDIte]
  refine CT_val (hdone_ev h) ?_
  simp -dsimp only [go_sem, Nat.reduceEqDiff, Nat.reduceAdd, Nat.reduceSub, Nat.reduceMul, Nat.reduceLeDiff, Nat.reduceLT, Nat.reduceBEq, Int.reduceLT, Int.reduceLE, Int.reduceGT, Int.reduceGE, Int.reduceEq, Int.reduceNe, Int.reduceBEq, Int.reduceBNe, Int.reduceAdd, Int.reduceSub, Int.reduceMul, Int.reduceToNat, Int.reduceNeg, ↓reduceIte, ↓reduceDIte, hd]
  refine CT_val (hdone_ev h) ?_
  simp -dsimp only [go_sem, Nat.reduceEqDiff, Nat.reduceAdd, Nat.reduceSub, Nat.reduceMul, Nat.reduceLeDiff, Nat.reduceLT, Nat.reduceBEq, Int.reduceLT, Int.reduceLE, Int.reduceGT, Int.reduceGE, Int.reduceEq, Int.reduceNe, Int.reduceBEq, Int.reduceBNe, Int.reduceAdd, Int.reduceSub, Int.reduceMul, Int.reduceToNat, Int.reduceNeg, ↓reduceIte, ↓reduceDIte, hd]
theorem hstep_nomem {v : Value} (h : H[o]? = some (hrw a x)) (hd : x.done = false) (hv : NoMem H v) : callE T 16 lim [ptr o, v] H fun v H' => v = .bool false ∧ H' = H := by
  refine callE_stay rfl (by simp) rfl ?_
  simp -dsimp only [go_sem, Nat.reduceEqDiff, Nat.reduceAdd, Nat.reduceSub, Nat.reduceMul, Nat.reduceLeDiff, Nat.reduceLT, Nat.reduceBEq, Int.reduceLT, Int.reduceLE, Int.reduceGT, Int.reduceGE, Int.reduceEq, Int.reduceNe, Int.reduceBEq, Int.reduceBNe, Int.reduceAdd, Int.reduceSub, Int.reduceMul, Int.reduceToNat, Int.reduceNeg, ↓reduceIte, ↓reduceDIte]
  refine CT_val (hdone_ev h) ?_
  simp -dsimp only [go_sem, Nat.reduceEqDiff, Nat.reduceAdd, Nat.reduceSub, Nat.reduceMul, Nat.reduceLeDiff, Nat.reduceLT, Nat.reduceBEq, Int.reduceLT, Int.reduceLE, Int.reduceGT, Int.reduceGE, Int.reduceEq, Int.reduceNe, Int.reduceBEq, Int.reduceBNe, Int.reduceAdd, Int.reduceSub, Int.reduceMul, Int.reduceToNat, Int.reduceNeg, ↓reduceIte, ↓reduceDIte, hd]
  refine CT_val (len_no hv) ?_
  simp -dsimp only [go_sem, Nat.reduceEqDiff, Nat.reduceAdd, Nat.reduceSub, Nat.reduceMul, Nat.reduceLeDiff, Nat.reduceLT, Nat.reduceBEq, Int.reduceLT, Int.reduceLE, Int.reduceGT, Int.reduceGE, Int.reduceEq, Int.reduceNe, Int.reduceBEq, Int.reduceBNe, Int.reduceAdd, Int.reduceSub, Int.reduceMul, Int.reduceToNat, Int.reduceNeg, ↓reduceIte, ↓reduceDIte]
  refine CT_val (hdone_ev h) ?_
  simp -dsimp only [go_sem, Nat.reduceEqDiff, Nat.reduceAdd, Nat.reduceSub, Nat.reduceMul, Nat.reduceLeDiff, Nat.reduceLT, Nat.reduceBEq, Int.reduceLT, Int.reduceLE, Int.reduceGT, Int.reduceGE, Int.reduceEq, Int.reduceNe, Int.reduceBEq, Int.reduceBNe, Int.reduceAdd, Int.reduceSub, Int.reduceMul, Int.reduceToNat, Int.reduceNeg, ↓reduceIte, ↓reduceDIte, hd]
/-- A step of a Protect. -/
theorem hprot_ev (h : H[o]? = some (hrw a x)) (hm : MemAt H b pw pb m) (h1 : o ≠ b) (h2 : o ≠ pw) (h3 : o ≠ pb) (hk : x.kind = 0) (hd : x.done = false) :
    callE T 32 lim [ptr o, ptr b] H fun v H' => H' = memPut (H.set o (hrw a (x.step m).1)) b pw pb (x.step m).2 := by
  refine callE_pop rfl (by simp) rfl ?_
  have l := (List.getElem?_eq_some_iff.1 h).1
  by_cases h1' : x.at_ = 1
  · have e1 : (x.at_ == 1) = true := by simp [h1']
    have es : x.step m = ({ x with at_ := 2 }, m.use 1 x.slot (fun _ => x.p)) := by simp [HOp.step, hd, hk, h1']
    rw [es]
    simp -dsimp only [go_sem, Nat.reduceEqDiff, Nat.reduceAdd, Nat.reduceSub, Nat.reduceMul, Nat.reduceLeDiff, Nat.reduceLT, Nat.reduceBEq, Int.reduceLT, Int.reduceLE, Int.reduceGT, Int.reduceGE, Int.reduceEq, Int.reduceNe, Int.reduceBEq, Int.reduceBNe, Int.reduceAdd, Int.reduceSub, Int.reduceMul, Int.reduceToNat, Int.reduceNeg, ↓reduceIte, ↓reduceDIte, lget_at h, e1]
    refine CT_heap (store_ev hm) ?_
    intro v
    have hr : (memPut H b pw pb (m.use 1 x.slot fun _ => x.p))[o]? = some (hrw a x) := by rw [memPut_get _ h1.symm h2.symm h3.symm]; exact h
    have l2 := (List.getElem?_eq_some_iff.1 hr).1
    simp -dsimp only [go_sem, Nat.reduceEqDiff, Nat.reduceAdd, Nat.reduceSub, Nat.reduceMul, Nat.reduceLeDiff, Nat.reduceLT, Nat.reduceBEq, Int.reduceLT, Int.reduceLE, Int.reduceGT, Int.reduceGE, Int.reduceEq, Int.reduceNe, Int.reduceBEq, Int.reduceBNe, Int.reduceAdd, Int.reduceSub, Int.reduceMul, Int.reduceToNat, Int.reduceNeg, ↓reduceIte, ↓reduceDIte, lget_at hr, hr]
    rw [memPut_set_off h1 h2 h3]
    exact List.take_of_length_le (by simp [memPut_len])
  · have e1 : (x.at_ == 1) = false := by simp [h1']
    have es : x.step m = ({ x with done := decide (x.at_ = 2) && (m.load x.word == x.p), p := m.load x.word, at_ := 1 }, m.use 0 x.word id) := by simp [HOp.step, hd, hk, h1']
    rw [es]
    simp -dsimp only [go_sem, Nat.reduceEqDiff, Nat.reduceAdd, Nat.reduceSub, Nat.reduceMul, Nat.reduceLeDiff, Nat.reduceLT, Nat.reduceBEq, Int.reduceLT, Int.reduceLE, Int.reduceGT, Int.reduceGE, Int.reduceEq, Int.reduceNe, Int.reduceBEq, Int.reduceBNe, Int.reduceAdd, Int.reduceSub, Int.reduceMul, Int.reduceToNat, Int.reduceNeg, ↓reduceIte, ↓reduceDIte, lget_at h, e1]
    refine CT_val (load_ev hm) ?_
    have hr : (memPut H b pw pb (m.use 0 x.word id))[o]? = some (hrw a x) := by rw [memPut_get _ h1.symm h2.symm h3.symm]; exact h
    have l2 := (List.getElem?_eq_some_iff.1 hr).1
    have e3 : (x.at_ == 2) = decide (x.at_ = 2) := by rw [Bool.eq_iff_iff]; simp
    by_cases h2' : x.at_ = 2
    · have e2 : (x.at_ == 2) = true := by simp [h2']
      simp -dsimp only [go_sem, Nat.reduceEqDiff, Nat.reduceAdd, Nat.reduceSub, Nat.reduceMul, Nat.reduceLeDiff, Nat.reduceLT, Nat.reduceBEq, Int.reduceLT, Int.reduceLE, Int.reduceGT, Int.reduceGE, Int.reduceEq, Int.reduceNe, Int.reduceBEq, Int.reduceBNe, Int.reduceAdd, Int.reduceSub, Int.reduceMul, Int.reduceToNat, Int.reduceNeg, ↓reduceIte, ↓reduceDIte, lget_at hr, hr, e2, lget_set_eq l2, get_set_eq l2, List.set_set]
      rw [memPut_set_off h1 h2 h3, h2']
      simp only [decide_true, Bool.true_and]
      exact List.take_of_length_le (by simp [memPut_len])
    · have e2 : (x.at_ == 2) = false := by simp [h2']
      simp -dsimp only [go_sem, Nat.reduceEqDiff, Nat.reduceAdd, Nat.reduceSub, Nat.reduceMul, Nat.reduceLeDiff, Nat.reduceLT, Nat.reduceBEq, Int.reduceLT, Int.reduceLE, Int.reduceGT, Int.reduceGE, Int.reduceEq, Int.reduceNe, Int.reduceBEq, Int.reduceBNe, Int.reduceAdd, Int.reduceSub, Int.reduceMul, Int.reduceToNat, Int.reduceNeg, ↓reduceIte, ↓reduceDIte, lget_at hr, hr, e2, lget_set_eq l2, get_set_eq l2, List.set_set]
      rw [memPut_set_off h1 h2 h3]
      simp only [h2', decide_false, Bool.false_and]
      exact List.take_of_length_le (by simp [memPut_len])
end
end Go.Proofs.Ytcogpinognopcaa
