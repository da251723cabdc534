/- A head's operations: worked out. -/
import Derived.Test.YtcoejlhlcpkmkaaT5
import Derived.Test.YtcoejlhlcpkmkaaC1
namespace Go.Proofs.Ytcoejlhlcpkmkaa
open Go Go.LK
set_option linter.unusedSimpArgs false
set_option linter.unusedVariables false
structure TOp where
  at_ : Int
  p : BitVec 64
  seen : HD
  k : Int
  pc : Int
  code : Int
  did : Bool
abbrev trow (x : TOp) : LObj := .row false 0 [.bool true, i64 x.at_, w64 x.p, w64 x.seen.n, w64 x.seen.t, w64 x.seen.i, i64 x.k, i64 x.pc, i64 x.code, .bool x.did]
def TOp.fin (x : TOp) (code : Int) (did : Bool) : TOp := { x with pc := 3, code := code, did := did }
section
variable {lim o : Nat} {x : TOp} {H : LHeap}
theorem tnone_nil : callE T 36 lim [.pointer none] H fun v H' => v = .bool true ∧ H' = H := by
  refine callE_pop rfl (by simp) rfl ?_
  simp -dsimp only [go_sem, Nat.reduceEqDiff, Nat.reduceAdd, Nat.reduceSub, Nat.reduceMul, Nat.reduceLeDiff, Nat.reduceLT, Nat.reduceBEq, Int.reduceLT, Int.reduceLE, Int.reduceGT, Int.reduceGE, Int.reduceEq, Int.reduceNe, Int.reduceBEq, Int.reduceBNe, Int.reduceAdd, Int.reduceSub, Int.reduceMul, Int.reduceToNat, Int.reduceNeg, ↓reduceIte, ↓reduceDIte]
theorem tnone_ev (h : H[o]? = some (trow x)) : callE T 36 lim [ptr o] H fun v H' => v = .bool false ∧ H' = H := by
  refine callE_pop rfl (by simp) rfl ?_
  simp -dsimp only [go_sem, Nat.reduceEqDiff, Nat.reduceAdd, Nat.reduceSub, Nat.reduceMul, Nat.reduceLeDiff, Nat.reduceLT, Nat.reduceBEq, Int.reduceLT, Int.reduceLE, Int.reduceGT, Int.reduceGE, Int.reduceEq, Int.reduceNe, Int.reduceBEq, Int.reduceBNe, Int.reduceAdd, Int.reduceSub, Int.reduceMul, Int.reduceToNat, Int.reduceNeg, ↓reduceIte, ↓reduceDIte, lget_at h]
theorem tdone_nil : callE T 23 lim [.pointer none] H fun v H' => v = .bool true ∧ H' = H := by
  refine callE_pop rfl (by simp) rfl ?_
  simp -dsimp only [go_sem, Nat.reduceEqDiff, Nat.reduceAdd, Nat.reduceSub, Nat.reduceMul, Nat.reduceLeDiff, Nat.reduceLT, Nat.reduceBEq, Int.reduceLT, Int.reduceLE, Int.reduceGT, Int.reduceGE, Int.reduceEq, Int.reduceNe, Int.reduceBEq, Int.reduceBNe, Int.reduceAdd, Int.reduceSub, Int.reduceMul, Int.reduceToNat, Int.reduceNeg, ↓reduceIte, ↓reduceDIte]
  refine CT_val tnone_nil ?_
  simp -dsimp only [go_sem, Nat.reduceEqDiff, Nat.reduceAdd, Nat.reduceSub, Nat.reduceMul, Nat.reduceLeDiff, Nat.reduceLT, Nat.reduceBEq, Int.reduceLT, Int.reduceLE, Int.reduceGT, Int.reduceGE, Int.reduceEq, Int.reduceNe, Int.reduceBEq, Int.reduceBNe, Int.reduceAdd, Int.reduceSub, Int.reduceMul, Int.reduceToNat, Int.reduceNeg, ↓reduceIte, ↓reduceDIte]
theorem tdone_ev (h : H[o]? = some (trow x)) : callE T 23 lim [ptr o] H fun v H' => v = .bool (x.pc == 3) ∧ H' = H := by
  refine callE_pop rfl (by simp) rfl ?_
  simp -dsimp only [go_sem, Nat.reduceEqDiff, Nat.reduceAdd, Nat.reduceSub, Nat.reduceMul, Nat.reduceLeDiff, Nat.reduceLT, Nat.reduceBEq, Int.reduceLT, Int.reduceLE, Int.reduceGT, Int.reduceGE, Int.reduceEq, Int.reduceNe, Int.reduceBEq, Int.reduceBNe, Int.reduceAdd, Int.reduceSub, Int.reduceMul, Int.reduceToNat, Int.reduceNeg, ↓reduceIte, ↓reduceDIte]
  refine CT_val (tnone_ev h) ?_
  simp -dsimp only [go_sem, Nat.reduceEqDiff, Nat.reduceAdd, Nat.reduceSub, Nat.reduceMul, Nat.reduceLeDiff, Nat.reduceLT, Nat.reduceBEq, Int.reduceLT, Int.reduceLE, Int.reduceGT, Int.reduceGE, Int.reduceEq, Int.reduceNe, Int.reduceBEq, Int.reduceBNe, Int.reduceAdd, Int.reduceSub, Int.reduceMul, Int.reduceToNat, Int.reduceNeg, ↓reduceIte, ↓reduceDIte, lget_at h]
theorem tres_nil : callE T 21 lim [.pointer none] H fun v H' => v = .tuple #[i64 1, .bool false] ∧ H' = H := by
  refine callE_pop rfl (by simp) rfl ?_
  simp -dsimp only [go_sem, Nat.reduceEqDiff, Nat.reduceAdd, Nat.reduceSub, Nat.reduceMul, Nat.reduceLeDiff, Nat.reduceLT, Nat.reduceBEq, Int.reduceLT, Int.reduceLE, Int.reduceGT, Int.reduceGE, Int.reduceEq, Int.reduceNe, Int.reduceBEq, Int.reduceBNe, Int.reduceAdd, Int.reduceSub, Int.reduceMul, Int.reduceToNat, Int.reduceNeg, ↓reduceIte, ↓reduceDIte]
  refine CT_val tnone_nil ?_
  simp -dsimp only [go_sem, Nat.reduceEqDiff, Nat.reduceAdd, Nat.reduceSub, Nat.reduceMul, Nat.reduceLeDiff, Nat.reduceLT, Nat.reduceBEq, Int.reduceLT, Int.reduceLE, Int.reduceGT, Int.reduceGE, Int.reduceEq, Int.reduceNe, Int.reduceBEq, Int.reduceBNe, Int.reduceAdd, Int.reduceSub, Int.reduceMul, Int.reduceToNat, Int.reduceNeg, ↓reduceIte, ↓reduceDIte]
theorem tres_ev (h : H[o]? = some (trow x)) : callE T 21 lim [ptr o] H fun v H' => v = (if x.pc = 3 then .tuple #[i64 x.code, .bool x.did] else .tuple #[i64 0, .bool false]) ∧ H' = H := by
  refine callE_pop rfl (by simp) rfl ?_
  simp -dsimp only [go_sem, Nat.reduceEqDiff, Nat.reduceAdd, Nat.reduceSub, Nat.reduceMul, Nat.reduceLeDiff, Nat.reduceLT, Nat.reduceBEq, Int.reduceLT, Int.reduceLE, Int.reduceGT, Int.reduceGE, Int.reduceEq, Int.reduceNe, Int.reduceBEq, Int.reduceBNe, Int.reduceAdd, Int.reduceSub, Int.reduceMul, Int.reduceToNat, Int.reduceNeg, ↓reduceIte, ↓reduceDIte]
  refine CT_val (tnone_ev h) ?_
  by_cases hp : x.pc = 3
  · have hq : (x.pc != 3) = false := by simp [hp]
    simp -dsimp only [go_sem, Nat.reduceEqDiff, Nat.reduceAdd, Nat.reduceSub, Nat.reduceMul, Nat.reduceLeDiff, Nat.reduceLT, Nat.reduceBEq, Int.reduceLT, Int.reduceLE, Int.reduceGT, Int.reduceGE, Int.reduceEq, Int.reduceNe, Int.reduceBEq, Int.reduceBNe, Int.reduceAdd, Int.reduceSub, Int.reduceMul, Int.reduceToNat, Int.reduceNeg, ↓reduceIte, ↓reduceDIte, lget_at h, hq]
    rw [if_pos hp]
  · have hq : (x.pc != 3) = true := by simp [hp]
    simp -dsimp only [go_sem, Nat.reduceEqDiff, Nat.reduceAdd, Nat.reduceSub, Nat.reduceMul, Nat.reduceLeDiff, Nat.reduceLT, Nat.reduceBEq, Int.reduceLT, Int.reduceLE, Int.reduceGT, Int.reduceGE, Int.reduceEq, Int.reduceNe, Int.reduceBEq, Int.reduceBNe, Int.reduceAdd, Int.reduceSub, Int.reduceMul, Int.reduceToNat, Int.reduceNeg, ↓reduceIte, ↓reduceDIte, lget_at h, hq]
    rw [if_neg hp]
theorem tres_zero (h : H[o]? = some (.row false 0 [.bool false, i64 0, w64 0#64, w64 0#64, w64 0#64, w64 0#64, i64 0, i64 0, i64 0, .bool false])) : callE T 21 lim [ptr o] H fun v H' => v = .tuple #[i64 1, .bool false] ∧ H' = H := by
  refine callE_pop rfl (by simp) rfl ?_
  simp -dsimp only [go_sem, Nat.reduceEqDiff, Nat.reduceAdd, Nat.reduceSub, Nat.reduceMul, Nat.reduceLeDiff, Nat.reduceLT, Nat.reduceBEq, Int.reduceLT, Int.reduceLE, Int.reduceGT, Int.reduceGE, Int.reduceEq, Int.reduceNe, Int.reduceBEq, Int.reduceBNe, Int.reduceAdd, Int.reduceSub, Int.reduceMul, Int.reduceToNat, Int.reduceNeg, ↓reduceIte, ↓reduceDIte]
  refine callE_pop rfl (by simp) rfl ?_
  simp -dsimp only [go_sem, Nat.reduceEqDiff, Nat.reduceAdd, Nat.reduceSub, Nat.reduceMul, Nat.reduceLeDiff, Nat.reduceLT, Nat.reduceBEq, Int.reduceLT, Int.reduceLE, Int.reduceGT, Int.reduceGE, Int.reduceEq, Int.reduceNe, Int.reduceBEq, Int.reduceBNe, Int.reduceAdd, Int.reduceSub, Int.reduceMul, Int.reduceToNat, Int.reduceNeg, ↓reduceIte, ↓reduceDIte, lget_at h]
theorem tend_ev {code : Int} {did : Bool} (h : H[o]? = some (trow x)) : callE T 37 lim [ptr o, i64 code, .bool did] H fun v H' => H' = H.set o (trow (x.fin code did)) := by
  refine callE_pop rfl (by simp) rfl ?_
  have l := (List.getElem?_eq_some_iff.1 h).1
  simp -dsimp only [go_sem, Nat.reduceEqDiff, Nat.reduceAdd, Nat.reduceSub, Nat.reduceMul, Nat.reduceLeDiff, Nat.reduceLT, Nat.reduceBEq, Int.reduceLT, Int.reduceLE, Int.reduceGT, Int.reduceGE, Int.reduceEq, Int.reduceNe, Int.reduceBEq, Int.reduceBNe, Int.reduceAdd, Int.reduceSub, Int.reduceMul, Int.reduceToNat, Int.reduceNeg, ↓reduceIte, ↓reduceDIte, lget_at h, h, lget_set_eq l, get_set_eq l, List.set_set]
  rw [List.take_of_length_le (by simp)]
  rfl
theorem tpass_ev {a : Int} {p : BitVec 64} : callE T 25 lim [i64 a, w64 p] H fun v H' => v = ptr H.length ∧ H' = H ++ [trow ⟨a, p, ⟨0#64, 0#64, 0#64⟩, 0, 1, 0, false⟩] := by
  refine callE_stay rfl (by simp) rfl ?_
  simp -dsimp only [go_sem, Nat.reduceEqDiff, Nat.reduceAdd, Nat.reduceSub, Nat.reduceMul, Nat.reduceLeDiff, Nat.reduceLT, Nat.reduceBEq, Int.reduceLT, Int.reduceLE, Int.reduceGT, Int.reduceGE, Int.reduceEq, Int.reduceNe, Int.reduceBEq, Int.reduceBNe, Int.reduceAdd, Int.reduceSub, Int.reduceMul, Int.reduceToNat, Int.reduceNeg, ↓reduceIte, ↓reduceDIte]
theorem tdrop_ev {a k : Int} {n t i : BitVec 64} : callE T 22 lim [i64 a, i64 k, head n t i] H fun v H' => v = ptr (H.length + 1) ∧
    ∃ u, H' = H ++ [u, trow (if hasF i k = true then ⟨a, 0#64, ⟨n, t, i⟩, k, 0, 0, false⟩ else ⟨a, 0#64, ⟨n, t, i⟩, k, 3, 2, false⟩)] := by
  refine callE_stay rfl (by simp) rfl ?_
  simp -dsimp only [go_sem, Nat.reduceEqDiff, Nat.reduceAdd, Nat.reduceSub, Nat.reduceMul, Nat.reduceLeDiff, Nat.reduceLT, Nat.reduceBEq, Int.reduceLT, Int.reduceLE, Int.reduceGT, Int.reduceGE, Int.reduceEq, Int.reduceNe, Int.reduceBEq, Int.reduceBNe, Int.reduceAdd, Int.reduceSub, Int.reduceMul, Int.reduceToNat, Int.reduceNeg, ↓reduceIte, ↓reduceDIte]
  refine CT_val has_ev ?_
  cases hh : hasF i k
  · simp -dsimp only [go_sem, Nat.reduceEqDiff, Nat.reduceAdd, Nat.reduceSub, Nat.reduceMul, Nat.reduceLeDiff, Nat.reduceLT, Nat.reduceBEq, Int.reduceLT, Int.reduceLE, Int.reduceGT, Int.reduceGE, Int.reduceEq, Int.reduceNe, Int.reduceBEq, Int.reduceBNe, Int.reduceAdd, Int.reduceSub, Int.reduceMul, Int.reduceToNat, Int.reduceNeg, ↓reduceIte, ↓reduceDIte]
    refine CT_heap (tend_ev (x := ⟨a, 0#64, ⟨n, t, i⟩, k, 0, 0, false⟩) (get_app H _ 1)) ?_
    intro v
    simp -dsimp only [go_sem, Nat.reduceEqDiff, Nat.reduceAdd, Nat.reduceSub, Nat.reduceMul, Nat.reduceLeDiff, Nat.reduceLT, Nat.reduceBEq, Int.reduceLT, Int.reduceLE, Int.reduceGT, Int.reduceGE, Int.reduceEq, Int.reduceNe, Int.reduceBEq, Int.reduceBNe, Int.reduceAdd, Int.reduceSub, Int.reduceMul, Int.reduceToNat, Int.reduceNeg, ↓reduceIte, ↓reduceDIte, TOp.fin]
    exact ⟨_, rfl⟩
  · simp -dsimp only [go_sem, Nat.reduceEqDiff, Nat.reduceAdd, Nat.reduceSub, Nat.reduceMul, Nat.reduceLeDiff, Nat.reduceLT, Nat.reduceBEq, Int.reduceLT, Int.reduceLE, Int.reduceGT, Int.reduceGE, Int.reduceEq, Int.reduceNe, Int.reduceBEq, Int.reduceBNe, Int.reduceAdd, Int.reduceSub, Int.reduceMul, Int.reduceToNat, Int.reduceNeg, ↓reduceIte, ↓reduceDIte]
    exact ⟨_, rfl⟩
abbrev HD.w (h : HD) : BitVec 64 := packW h.n h.t h.i
theorem hdOf_ex : ∃ f : BitVec 64 → HD, ∀ w, f w = ⟨getW 0 40 w, getW 40 16 w, getW 56 8 w⟩ := ⟨_, fun _ => rfl⟩
/-- A word's head, told so that nothing works it out by itself. -/
noncomputable def hdOf (w : BitVec 64) : HD := Classical.choose hdOf_ex w
theorem hdOf_eq (w : BitVec 64) : hdOf w = ⟨getW 0 40 w, getW 40 16 w, getW 56 8 w⟩ := Classical.choose_spec hdOf_ex w
theorem of_hd {lim : Nat} {H : LHeap} {w : BitVec 64} : callE T 11 lim [w64 w] H fun v H' => v = (hdOf w).v ∧ H' = H := by
  have := of_ev (lim := lim) (H := H) (w := w)
  rw [hdOf_eq]; exact this
noncomputable def TOp.step (x : TOp) (m : MV) : TOp × MV :=
  if x.pc = 3 then (x, m)
  else if x.pc = 0 then (x.fin 0 (m.swaps x.at_ x.seen.w), m.use 2 x.at_ (fun w => if w = x.seen.w then (x.seen.wout x.k).w else w))
  else if x.pc = 1 then
    (if (hdOf (m.load x.at_)).n = x.p then { x with pc := 2, seen := hdOf (m.load x.at_) } else { x with pc := 3, seen := hdOf (m.load x.at_), code := 0, did := false }, m.use 0 x.at_ id)
  else (if m.swaps x.at_ x.seen.w = true then { x with pc := 3, code := 0, did := true } else { x with pc := 1 }, m.use 2 x.at_ (fun w => if w = x.seen.w then x.seen.on.w else w))
theorem tstep_nil {v : Value} : callE T 24 lim [.pointer none, v] H fun v H' => v = .bool true ∧ H' = H := by
  refine callE_pop rfl (by simp) rfl ?_
  simp -dsimp only [go_sem, Nat.reduceEqDiff, Nat.reduceAdd, Nat.reduceSub, Nat.reduceMul, Nat.reduceLeDiff, Nat.reduceLT, Nat.reduceBEq, Int.reduceLT, Int.reduceLE, Int.reduceGT, Int.reduceGE, Int.reduceEq, Int.reduceNe, Int.reduceBEq, Int.reduceBNe, Int.reduceAdd, Int.reduceSub, Int.reduceMul, Int.reduceToNat, Int.reduceNeg, ↓reduceIte, ↓reduceDIte]
  refine CT_val tdone_nil ?_
  simp -dsimp only [go_sem, Nat.reduceEqDiff, Nat.reduceAdd, Nat.reduceSub, Nat.reduceMul, Nat.reduceLeDiff, Nat.reduceLT, Nat.reduceBEq, Int.reduceLT, Int.reduceLE, Int.reduceGT, Int.reduceGE, Int.reduceEq, Int.reduceNe, Int.reduceBEq, Int.reduceBNe, Int.reduceAdd, Int.reduceSub, Int.reduceMul, Int.reduceToNat, Int.reduceNeg, ↓reduceIte, ↓reduceDIte]
  refine CT_val tdone_nil ?_
  simp -dsimp only [go_sem, Nat.reduceEqDiff, Nat.reduceAdd, Nat.reduceSub, Nat.reduceMul, Nat.reduceLeDiff, Nat.reduceLT, Nat.reduceBEq, Int.reduceLT, Int.reduceLE, Int.reduceGT, Int.reduceGE, Int.reduceEq, Int.reduceNe, Int.reduceBEq, Int.reduceBNe, Int.reduceAdd, Int.reduceSub, Int.reduceMul, Int.reduceToNat, Int.reduceNeg, ↓reduceIte, ↓reduceDIte]
theorem tstep_nomem (h : H[o]? = some (trow x)) (hp : (x.pc == 3) = false) {v : Value} (hv : NoMem H v) : callE T 24 lim [ptr o, v] H fun v H' => v = .bool false ∧ H' = H := by
  refine callE_pop rfl (by simp) rfl ?_
  simp -dsimp only [go_sem, Nat.reduceEqDiff, Nat.reduceAdd, Nat.reduceSub, Nat.reduceMul, Nat.reduceLeDiff, Nat.reduceLT, Nat.reduceBEq, Int.reduceLT, Int.reduceLE, Int.reduceGT, Int.reduceGE, Int.reduceEq, Int.reduceNe, Int.reduceBEq, Int.reduceBNe, Int.reduceAdd, Int.reduceSub, Int.reduceMul, Int.reduceToNat, Int.reduceNeg, ↓reduceIte, ↓reduceDIte]
  refine CT_val (tdone_ev h) ?_
  simp -dsimp only [go_sem, Nat.reduceEqDiff, Nat.reduceAdd, Nat.reduceSub, Nat.reduceMul, Nat.reduceLeDiff, Nat.reduceLT, Nat.reduceBEq, Int.reduceLT, Int.reduceLE, Int.reduceGT, Int.reduceGE, Int.reduceEq, Int.reduceNe, Int.reduceBEq, Int.reduceBNe, Int.reduceAdd, Int.reduceSub, Int.reduceMul, Int.reduceToNat, Int.reduceNeg, ↓reduceIte, ↓reduceDIte, hp]
  refine CT_val (len_no hv) ?_
  simp -dsimp only [go_sem, Nat.reduceEqDiff, Nat.reduceAdd, Nat.reduceSub, Nat.reduceMul, Nat.reduceLeDiff, Nat.reduceLT, Nat.reduceBEq, Int.reduceLT, Int.reduceLE, Int.reduceGT, Int.reduceGE, Int.reduceEq, Int.reduceNe, Int.reduceBEq, Int.reduceBNe, Int.reduceAdd, Int.reduceSub, Int.reduceMul, Int.reduceToNat, Int.reduceNeg, ↓reduceIte, ↓reduceDIte]
  refine CT_val (tdone_ev h) ?_
  simp -dsimp only [go_sem, Nat.reduceEqDiff, Nat.reduceAdd, Nat.reduceSub, Nat.reduceMul, Nat.reduceLeDiff, Nat.reduceLT, Nat.reduceBEq, Int.reduceLT, Int.reduceLE, Int.reduceGT, Int.reduceGE, Int.reduceEq, Int.reduceNe, Int.reduceBEq, Int.reduceBNe, Int.reduceAdd, Int.reduceSub, Int.reduceMul, Int.reduceToNat, Int.reduceNeg, ↓reduceIte, ↓reduceDIte, hp]
set_option maxHeartbeats 1000000 in
theorem tstep_ev {b pw pb : Nat} {m : MV} (h : H[o]? = some (trow x)) (hm : MemAt H b pw pb m) (h1 : o ≠ b) (h2 : o ≠ pw) (h3 : o ≠ pb) :
    callE T 24 lim [ptr o, ptr b] H fun v H' => v = .bool ((x.step m).1.pc == 3) ∧ H' = memPut (H.set o (trow (x.step m).1)) b pw pb (x.step m).2 := by
  refine callE_pop rfl (by simp) rfl ?_
  have l := (List.getElem?_eq_some_iff.1 h).1
  simp -dsimp only [go_sem, Nat.reduceEqDiff, Nat.reduceAdd, Nat.reduceSub, Nat.reduceMul, Nat.reduceLeDiff, Nat.reduceLT, Nat.reduceBEq, Int.reduceLT, Int.reduceLE, Int.reduceGT, Int.reduceGE, Int.reduceEq, Int.reduceNe, Int.reduceBEq, Int.reduceBNe, Int.reduceAdd, Int.reduceSub, Int.reduceMul, Int.reduceToNat, Int.reduceNeg, ↓reduceIte, ↓reduceDIte]
  refine CT_val (tdone_ev h) ?_
  by_cases p3 : x.pc = 3
  · have e3 : (x.pc == 3) = true := by simp [p3]
    have es : x.step m = (x, m) := by simp [TOp.step, p3]
    rw [es, set_same h, memPut_same hm]
    simp -dsimp only [go_sem, Nat.reduceEqDiff, Nat.reduceAdd, Nat.reduceSub, Nat.reduceMul, Nat.reduceLeDiff, Nat.reduceLT, Nat.reduceBEq, Int.reduceLT, Int.reduceLE, Int.reduceGT, Int.reduceGE, Int.reduceEq, Int.reduceNe, Int.reduceBEq, Int.reduceBNe, Int.reduceAdd, Int.reduceSub, Int.reduceMul, Int.reduceToNat, Int.reduceNeg, ↓reduceIte, ↓reduceDIte, e3]
    refine CT_val (tdone_ev h) ?_
    simp -dsimp only [go_sem, Nat.reduceEqDiff, Nat.reduceAdd, Nat.reduceSub, Nat.reduceMul, Nat.reduceLeDiff, Nat.reduceLT, Nat.reduceBEq, Int.reduceLT, Int.reduceLE, Int.reduceGT, Int.reduceGE, Int.reduceEq, Int.reduceNe, Int.reduceBEq, Int.reduceBNe, Int.reduceAdd, Int.reduceSub, Int.reduceMul, Int.reduceToNat, Int.reduceNeg, ↓reduceIte, ↓reduceDIte, e3]
  have e3 : (x.pc == 3) = false := by simp [p3]
  simp -dsimp only [go_sem, Nat.reduceEqDiff, Nat.reduceAdd, Nat.reduceSub, Nat.reduceMul, Nat.reduceLeDiff, Nat.reduceLT, Nat.reduceBEq, Int.reduceLT, Int.reduceLE, Int.reduceGT, Int.reduceGE, Int.reduceEq, Int.reduceNe, Int.reduceBEq, Int.reduceBNe, Int.reduceAdd, Int.reduceSub, Int.reduceMul, Int.reduceToNat, Int.reduceNeg, ↓reduceIte, ↓reduceDIte, e3]
  refine CT_val (len_ev hm) ?_
  have hpos : ((m.w.length : Int) == 0) = false := by rw [beq_eq_false_iff_ne]; have := hm.pos; omega
  simp -dsimp only [go_sem, Nat.reduceEqDiff, Nat.reduceAdd, Nat.reduceSub, Nat.reduceMul, Nat.reduceLeDiff, Nat.reduceLT, Nat.reduceBEq, Int.reduceLT, Int.reduceLE, Int.reduceGT, Int.reduceGE, Int.reduceEq, Int.reduceNe, Int.reduceBEq, Int.reduceBNe, Int.reduceAdd, Int.reduceSub, Int.reduceMul, Int.reduceToNat, Int.reduceNeg, ↓reduceIte, ↓reduceDIte, hpos, lget_at h]
  by_cases p0 : x.pc = 0
  · have e0 : (x.pc == 0) = true := by simp [p0]
    have es : x.step m = (x.fin 0 (m.swaps x.at_ x.seen.w), m.use 2 x.at_ (fun w => if w = x.seen.w then (x.seen.wout x.k).w else w)) := by simp only [TOp.step, if_neg p3, if_pos p0]
    rw [es]
    have hc : lcells H o 3 3 = some [w64 x.seen.n, w64 x.seen.t, w64 x.seen.i] := by simp [lcells, h]
    simp -dsimp only [go_sem, Nat.reduceEqDiff, Nat.reduceAdd, Nat.reduceSub, Nat.reduceMul, Nat.reduceLeDiff, Nat.reduceLT, Nat.reduceBEq, Int.reduceLT, Int.reduceLE, Int.reduceGT, Int.reduceGE, Int.reduceEq, Int.reduceNe, Int.reduceBEq, Int.reduceBNe, Int.reduceAdd, Int.reduceSub, Int.reduceMul, Int.reduceToNat, Int.reduceNeg, ↓reduceIte, ↓reduceDIte, e0, lget_at h, hc]
    refine CT_val word_ev ?_
    simp -dsimp only [go_sem, Nat.reduceEqDiff, Nat.reduceAdd, Nat.reduceSub, Nat.reduceMul, Nat.reduceLeDiff, Nat.reduceLT, Nat.reduceBEq, Int.reduceLT, Int.reduceLE, Int.reduceGT, Int.reduceGE, Int.reduceEq, Int.reduceNe, Int.reduceBEq, Int.reduceBNe, Int.reduceAdd, Int.reduceSub, Int.reduceMul, Int.reduceToNat, Int.reduceNeg, ↓reduceIte, ↓reduceDIte, e0, lget_at h, hc]
    refine CT_val (without_ev (h := x.seen)) ?_
    simp -dsimp only [go_sem, Nat.reduceEqDiff, Nat.reduceAdd, Nat.reduceSub, Nat.reduceMul, Nat.reduceLeDiff, Nat.reduceLT, Nat.reduceBEq, Int.reduceLT, Int.reduceLE, Int.reduceGT, Int.reduceGE, Int.reduceEq, Int.reduceNe, Int.reduceBEq, Int.reduceBNe, Int.reduceAdd, Int.reduceSub, Int.reduceMul, Int.reduceToNat, Int.reduceNeg, ↓reduceIte, ↓reduceDIte, e0, lget_at h, hc]
    refine CT_val word_ev ?_
    simp -dsimp only [go_sem, Nat.reduceEqDiff, Nat.reduceAdd, Nat.reduceSub, Nat.reduceMul, Nat.reduceLeDiff, Nat.reduceLT, Nat.reduceBEq, Int.reduceLT, Int.reduceLE, Int.reduceGT, Int.reduceGE, Int.reduceEq, Int.reduceNe, Int.reduceBEq, Int.reduceBNe, Int.reduceAdd, Int.reduceSub, Int.reduceMul, Int.reduceToNat, Int.reduceNeg, ↓reduceIte, ↓reduceDIte, e0, lget_at h, hc]
    refine CT_val (swap_ev hm) ?_
    simp -dsimp only [go_sem, Nat.reduceEqDiff, Nat.reduceAdd, Nat.reduceSub, Nat.reduceMul, Nat.reduceLeDiff, Nat.reduceLT, Nat.reduceBEq, Int.reduceLT, Int.reduceLE, Int.reduceGT, Int.reduceGE, Int.reduceEq, Int.reduceNe, Int.reduceBEq, Int.reduceBNe, Int.reduceAdd, Int.reduceSub, Int.reduceMul, Int.reduceToNat, Int.reduceNeg, ↓reduceIte, ↓reduceDIte]
    have hr : (memPut H b pw pb (m.use 2 x.at_ (fun w => if w = x.seen.w then (x.seen.wout x.k).w else w)))[o]? = some (trow x) := by rw [memPut_get _ h1.symm h2.symm h3.symm]; exact h
    refine CT_heap (tend_ev hr) ?_
    intro v
    rw [memPut_set_off h1 h2 h3]
    simp -dsimp only [go_sem, Nat.reduceEqDiff, Nat.reduceAdd, Nat.reduceSub, Nat.reduceMul, Nat.reduceLeDiff, Nat.reduceLT, Nat.reduceBEq, Int.reduceLT, Int.reduceLE, Int.reduceGT, Int.reduceGE, Int.reduceEq, Int.reduceNe, Int.reduceBEq, Int.reduceBNe, Int.reduceAdd, Int.reduceSub, Int.reduceMul, Int.reduceToNat, Int.reduceNeg, ↓reduceIte, ↓reduceDIte]
    have hr2 : (memPut (H.set o (trow (x.fin 0 (m.swaps x.at_ x.seen.w)))) b pw pb (m.use 2 x.at_ (fun w => if w = x.seen.w then (x.seen.wout x.k).w else w)))[o]? = some (trow (x.fin 0 (m.swaps x.at_ x.seen.w))) := by rw [memPut_get _ h1.symm h2.symm h3.symm, get_set_eq l]
    refine CT_val (tdone_ev hr2) ?_
    simp -dsimp only [go_sem, Nat.reduceEqDiff, Nat.reduceAdd, Nat.reduceSub, Nat.reduceMul, Nat.reduceLeDiff, Nat.reduceLT, Nat.reduceBEq, Int.reduceLT, Int.reduceLE, Int.reduceGT, Int.reduceGE, Int.reduceEq, Int.reduceNe, Int.reduceBEq, Int.reduceBNe, Int.reduceAdd, Int.reduceSub, Int.reduceMul, Int.reduceToNat, Int.reduceNeg, ↓reduceIte, ↓reduceDIte, memPut_len]
    exact List.take_of_length_le (by simp [memPut_len])
  have e0 : (x.pc == 0) = false := by simp [p0]
  by_cases p1 : x.pc = 1
  · have e1 : (x.pc == 1) = true := by simp [p1]
    have hm1 := hm.set_off h1 h2 h3 (trow { x with pc := 2 })
    simp -dsimp only [go_sem, Nat.reduceEqDiff, Nat.reduceAdd, Nat.reduceSub, Nat.reduceMul, Nat.reduceLeDiff, Nat.reduceLT, Nat.reduceBEq, Int.reduceLT, Int.reduceLE, Int.reduceGT, Int.reduceGE, Int.reduceEq, Int.reduceNe, Int.reduceBEq, Int.reduceBNe, Int.reduceAdd, Int.reduceSub, Int.reduceMul, Int.reduceToNat, Int.reduceNeg, ↓reduceIte, ↓reduceDIte, e0, e1, lget_at h, h, lget_set_eq l, get_set_eq l, List.set_set]
    refine CT_val (load_ev hm1) ?_
    simp -dsimp only [go_sem, Nat.reduceEqDiff, Nat.reduceAdd, Nat.reduceSub, Nat.reduceMul, Nat.reduceLeDiff, Nat.reduceLT, Nat.reduceBEq, Int.reduceLT, Int.reduceLE, Int.reduceGT, Int.reduceGE, Int.reduceEq, Int.reduceNe, Int.reduceBEq, Int.reduceBNe, Int.reduceAdd, Int.reduceSub, Int.reduceMul, Int.reduceToNat, Int.reduceNeg, ↓reduceIte, ↓reduceDIte]
    refine CT_val of_hd ?_
    have hr : (memPut (H.set o (trow { x with pc := 2 })) b pw pb (m.use 0 x.at_ id))[o]? = some (trow { x with pc := 2 }) := by rw [memPut_get _ h1.symm h2.symm h3.symm, get_set_eq l]
    have l2 := (List.getElem?_eq_some_iff.1 hr).1
    simp -dsimp only [go_sem, Nat.reduceEqDiff, Nat.reduceAdd, Nat.reduceSub, Nat.reduceMul, Nat.reduceLeDiff, Nat.reduceLT, Nat.reduceBEq, Int.reduceLT, Int.reduceLE, Int.reduceGT, Int.reduceGE, Int.reduceEq, Int.reduceNe, Int.reduceBEq, Int.reduceBNe, Int.reduceAdd, Int.reduceSub, Int.reduceMul, Int.reduceToNat, Int.reduceNeg, ↓reduceIte, ↓reduceDIte, lget_at hr, hr, lget_set_eq l2, get_set_eq l2, List.set_set]
    rw [memPut_set_off h1 h2 h3, List.set_set]
    by_cases hq : (hdOf (m.load x.at_)).n = x.p
    · have hq2 : ((hdOf (m.load x.at_)).n != x.p) = false := by rw [hq]; simp
      have es : x.step m = ({ x with pc := 2, seen := hdOf (m.load x.at_) }, m.use 0 x.at_ id) := by simp only [TOp.step, if_neg p3, if_neg p0, if_pos p1, if_pos hq]
      rw [es]
      simp -dsimp only [go_sem, Nat.reduceEqDiff, Nat.reduceAdd, Nat.reduceSub, Nat.reduceMul, Nat.reduceLeDiff, Nat.reduceLT, Nat.reduceBEq, Int.reduceLT, Int.reduceLE, Int.reduceGT, Int.reduceGE, Int.reduceEq, Int.reduceNe, Int.reduceBEq, Int.reduceBNe, Int.reduceAdd, Int.reduceSub, Int.reduceMul, Int.reduceToNat, Int.reduceNeg, ↓reduceIte, ↓reduceDIte, hq2]
      have hr2 : (memPut (H.set o (trow { x with pc := 2, seen := hdOf (m.load x.at_) })) b pw pb (m.use 0 x.at_ id))[o]? = some (trow { x with pc := 2, seen := hdOf (m.load x.at_) }) := by rw [memPut_get _ h1.symm h2.symm h3.symm, get_set_eq l]
      refine CT_val (tdone_ev hr2) ?_
      simp -dsimp only [go_sem, Nat.reduceEqDiff, Nat.reduceAdd, Nat.reduceSub, Nat.reduceMul, Nat.reduceLeDiff, Nat.reduceLT, Nat.reduceBEq, Int.reduceLT, Int.reduceLE, Int.reduceGT, Int.reduceGE, Int.reduceEq, Int.reduceNe, Int.reduceBEq, Int.reduceBNe, Int.reduceAdd, Int.reduceSub, Int.reduceMul, Int.reduceToNat, Int.reduceNeg, ↓reduceIte, ↓reduceDIte]
      exact List.take_of_length_le (by simp [memPut_len])
    · have hq2 : ((hdOf (m.load x.at_)).n != x.p) = true := by simpa using hq
      have es : x.step m = ({ x with pc := 3, seen := hdOf (m.load x.at_), code := 0, did := false }, m.use 0 x.at_ id) := by simp only [TOp.step, if_neg p3, if_neg p0, if_pos p1, if_neg hq]
      rw [es]
      simp -dsimp only [go_sem, Nat.reduceEqDiff, Nat.reduceAdd, Nat.reduceSub, Nat.reduceMul, Nat.reduceLeDiff, Nat.reduceLT, Nat.reduceBEq, Int.reduceLT, Int.reduceLE, Int.reduceGT, Int.reduceGE, Int.reduceEq, Int.reduceNe, Int.reduceBEq, Int.reduceBNe, Int.reduceAdd, Int.reduceSub, Int.reduceMul, Int.reduceToNat, Int.reduceNeg, ↓reduceIte, ↓reduceDIte, hq2]
      have hr2 : (memPut (H.set o (trow { x with pc := 2, seen := hdOf (m.load x.at_) })) b pw pb (m.use 0 x.at_ id))[o]? = some (trow { x with pc := 2, seen := hdOf (m.load x.at_) }) := by rw [memPut_get _ h1.symm h2.symm h3.symm, get_set_eq l]
      refine CT_heap (tend_ev hr2) ?_
      intro v
      rw [memPut_set_off h1 h2 h3, List.set_set]
      have hr3 : (memPut (H.set o (trow { x with pc := 3, seen := hdOf (m.load x.at_), code := 0, did := false })) b pw pb (m.use 0 x.at_ id))[o]? = some (trow { x with pc := 3, seen := hdOf (m.load x.at_), code := 0, did := false }) := by rw [memPut_get _ h1.symm h2.symm h3.symm, get_set_eq l]
      simp -dsimp only [go_sem, Nat.reduceEqDiff, Nat.reduceAdd, Nat.reduceSub, Nat.reduceMul, Nat.reduceLeDiff, Nat.reduceLT, Nat.reduceBEq, Int.reduceLT, Int.reduceLE, Int.reduceGT, Int.reduceGE, Int.reduceEq, Int.reduceNe, Int.reduceBEq, Int.reduceBNe, Int.reduceAdd, Int.reduceSub, Int.reduceMul, Int.reduceToNat, Int.reduceNeg, ↓reduceIte, ↓reduceDIte]
      refine CT_val (tdone_ev hr3) ?_
      simp -dsimp only [go_sem, Nat.reduceEqDiff, Nat.reduceAdd, Nat.reduceSub, Nat.reduceMul, Nat.reduceLeDiff, Nat.reduceLT, Nat.reduceBEq, Int.reduceLT, Int.reduceLE, Int.reduceGT, Int.reduceGE, Int.reduceEq, Int.reduceNe, Int.reduceBEq, Int.reduceBNe, Int.reduceAdd, Int.reduceSub, Int.reduceMul, Int.reduceToNat, Int.reduceNeg, ↓reduceIte, ↓reduceDIte]
      exact List.take_of_length_le (by simp [memPut_len])
  have e1 : (x.pc == 1) = false := by simp [p1]
  have hm1 := hm.set_off h1 h2 h3 (trow { x with pc := 1 })
  have hc : lcells (H.set o (trow { x with pc := 1 })) o 3 3 = some [w64 x.seen.n, w64 x.seen.t, w64 x.seen.i] := by simp [lcells, get_set_eq l]
  simp -dsimp only [go_sem, Nat.reduceEqDiff, Nat.reduceAdd, Nat.reduceSub, Nat.reduceMul, Nat.reduceLeDiff, Nat.reduceLT, Nat.reduceBEq, Int.reduceLT, Int.reduceLE, Int.reduceGT, Int.reduceGE, Int.reduceEq, Int.reduceNe, Int.reduceBEq, Int.reduceBNe, Int.reduceAdd, Int.reduceSub, Int.reduceMul, Int.reduceToNat, Int.reduceNeg, ↓reduceIte, ↓reduceDIte, e0, e1, lget_at h, h, lget_set_eq l, get_set_eq l, hc]
  refine CT_val word_ev ?_
  simp -dsimp only [go_sem, Nat.reduceEqDiff, Nat.reduceAdd, Nat.reduceSub, Nat.reduceMul, Nat.reduceLeDiff, Nat.reduceLT, Nat.reduceBEq, Int.reduceLT, Int.reduceLE, Int.reduceGT, Int.reduceGE, Int.reduceEq, Int.reduceNe, Int.reduceBEq, Int.reduceBNe, Int.reduceAdd, Int.reduceSub, Int.reduceMul, Int.reduceToNat, Int.reduceNeg, ↓reduceIte, ↓reduceDIte, lget_at h, hc, lget_set_eq l]
  refine CT_val on_up ?_
  simp -dsimp only [go_sem, Nat.reduceEqDiff, Nat.reduceAdd, Nat.reduceSub, Nat.reduceMul, Nat.reduceLeDiff, Nat.reduceLT, Nat.reduceBEq, Int.reduceLT, Int.reduceLE, Int.reduceGT, Int.reduceGE, Int.reduceEq, Int.reduceNe, Int.reduceBEq, Int.reduceBNe, Int.reduceAdd, Int.reduceSub, Int.reduceMul, Int.reduceToNat, Int.reduceNeg, ↓reduceIte, ↓reduceDIte, lget_at h, hc, lget_set_eq l]
  refine CT_val word_ev ?_
  simp -dsimp only [go_sem, Nat.reduceEqDiff, Nat.reduceAdd, Nat.reduceSub, Nat.reduceMul, Nat.reduceLeDiff, Nat.reduceLT, Nat.reduceBEq, Int.reduceLT, Int.reduceLE, Int.reduceGT, Int.reduceGE, Int.reduceEq, Int.reduceNe, Int.reduceBEq, Int.reduceBNe, Int.reduceAdd, Int.reduceSub, Int.reduceMul, Int.reduceToNat, Int.reduceNeg, ↓reduceIte, ↓reduceDIte, lget_at h, hc, lget_set_eq l]
  refine CT_val (swap_ev hm1) ?_
  simp -dsimp only [go_sem, Nat.reduceEqDiff, Nat.reduceAdd, Nat.reduceSub, Nat.reduceMul, Nat.reduceLeDiff, Nat.reduceLT, Nat.reduceBEq, Int.reduceLT, Int.reduceLE, Int.reduceGT, Int.reduceGE, Int.reduceEq, Int.reduceNe, Int.reduceBEq, Int.reduceBNe, Int.reduceAdd, Int.reduceSub, Int.reduceMul, Int.reduceToNat, Int.reduceNeg, ↓reduceIte, ↓reduceDIte]
  cases hsw : m.swaps x.at_ x.seen.w
  · have es : x.step m = ({ x with pc := 1 }, m.use 2 x.at_ (fun w => if w = x.seen.w then x.seen.on.w else w)) := by simp only [TOp.step, if_neg p3, if_neg p0, if_neg p1, hsw]; rfl
    rw [es]
    simp -dsimp only [go_sem, Nat.reduceEqDiff, Nat.reduceAdd, Nat.reduceSub, Nat.reduceMul, Nat.reduceLeDiff, Nat.reduceLT, Nat.reduceBEq, Int.reduceLT, Int.reduceLE, Int.reduceGT, Int.reduceGE, Int.reduceEq, Int.reduceNe, Int.reduceBEq, Int.reduceBNe, Int.reduceAdd, Int.reduceSub, Int.reduceMul, Int.reduceToNat, Int.reduceNeg, ↓reduceIte, ↓reduceDIte]
    have hr3 : (memPut (H.set o (trow { x with pc := 1 })) b pw pb (m.use 2 x.at_ (fun w => if w = x.seen.w then x.seen.on.w else w)))[o]? = some (trow { x with pc := 1 }) := by rw [memPut_get _ h1.symm h2.symm h3.symm, get_set_eq l]
    refine CT_val (tdone_ev hr3) ?_
    simp -dsimp only [go_sem, Nat.reduceEqDiff, Nat.reduceAdd, Nat.reduceSub, Nat.reduceMul, Nat.reduceLeDiff, Nat.reduceLT, Nat.reduceBEq, Int.reduceLT, Int.reduceLE, Int.reduceGT, Int.reduceGE, Int.reduceEq, Int.reduceNe, Int.reduceBEq, Int.reduceBNe, Int.reduceAdd, Int.reduceSub, Int.reduceMul, Int.reduceToNat, Int.reduceNeg, ↓reduceIte, ↓reduceDIte]
    exact List.take_of_length_le (by simp [memPut_len])
  · have es : x.step m = ({ x with pc := 3, code := 0, did := true }, m.use 2 x.at_ (fun w => if w = x.seen.w then x.seen.on.w else w)) := by simp only [TOp.step, if_neg p3, if_neg p0, if_neg p1, hsw]; rfl
    rw [es]
    simp -dsimp only [go_sem, Nat.reduceEqDiff, Nat.reduceAdd, Nat.reduceSub, Nat.reduceMul, Nat.reduceLeDiff, Nat.reduceLT, Nat.reduceBEq, Int.reduceLT, Int.reduceLE, Int.reduceGT, Int.reduceGE, Int.reduceEq, Int.reduceNe, Int.reduceBEq, Int.reduceBNe, Int.reduceAdd, Int.reduceSub, Int.reduceMul, Int.reduceToNat, Int.reduceNeg, ↓reduceIte, ↓reduceDIte]
    have hr2 : (memPut (H.set o (trow { x with pc := 1 })) b pw pb (m.use 2 x.at_ (fun w => if w = x.seen.w then x.seen.on.w else w)))[o]? = some (trow { x with pc := 1 }) := by rw [memPut_get _ h1.symm h2.symm h3.symm, get_set_eq l]
    refine CT_heap (tend_ev hr2) ?_
    intro v
    rw [memPut_set_off h1 h2 h3, List.set_set]
    have hr3 : (memPut (H.set o (trow { x with pc := 3, code := 0, did := true })) b pw pb (m.use 2 x.at_ (fun w => if w = x.seen.w then x.seen.on.w else w)))[o]? = some (trow { x with pc := 3, code := 0, did := true }) := by rw [memPut_get _ h1.symm h2.symm h3.symm, get_set_eq l]
    simp -dsimp only [go_sem, Nat.reduceEqDiff, Nat.reduceAdd, Nat.reduceSub, Nat.reduceMul, Nat.reduceLeDiff, Nat.reduceLT, Nat.reduceBEq, Int.reduceLT, Int.reduceLE, Int.reduceGT, Int.reduceGE, Int.reduceEq, Int.reduceNe, Int.reduceBEq, Int.reduceBNe, Int.reduceAdd, Int.reduceSub, Int.reduceMul, Int.reduceToNat, Int.reduceNeg, ↓reduceIte, ↓reduceDIte]
    refine CT_val (tdone_ev hr3) ?_
    simp -dsimp only [go_sem, Nat.reduceEqDiff, Nat.reduceAdd, Nat.reduceSub, Nat.reduceMul, Nat.reduceLeDiff, Nat.reduceLT, Nat.reduceBEq, Int.reduceLT, Int.reduceLE, Int.reduceGT, Int.reduceGE, Int.reduceEq, Int.reduceNe, Int.reduceBEq, Int.reduceBNe, Int.reduceAdd, Int.reduceSub, Int.reduceMul, Int.reduceToNat, Int.reduceNeg, ↓reduceIte, ↓reduceDIte]
    exact List.take_of_length_le (by simp [memPut_len])
end
end Go.Proofs.Ytcoejlhlcpkmkaa
