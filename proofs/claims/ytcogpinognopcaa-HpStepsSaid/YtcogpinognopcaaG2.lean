/- Steps of operations. -/
import Derived.Test.YtcogpinognopcaaG1
namespace Go.Proofs.Ytcogpinognopcaa
open Go Go.LK
set_option linter.unusedSimpArgs false
set_option linter.unusedVariables false
/-- What stands behind a step. -/
structure Stp (lo : Nat) (H H' : LHeap) (o b pw pb : Nat) (a a' : Option Addr) (x x' : HOp) (m' : MV) : Prop where
  row : H'[o]? = some (hrw a' x')
  own : Own 1 H' lo a' (x'.met.map w64)
  mem : MemAt H' b pw pb m'
  len : H.length ≤ H'.length
  pre : ∀ j, j < H.length → j ≠ o → j ≠ b → j ≠ pw → j ≠ pb → Off j a → H'[j]? = H[j]?
  new : a' = a ∨ (Fresh H.length a' ∧ x.met.length < x'.met.length)
/-- What stands ahead of it. -/
structure Ahd (lim lo : Nat) (H : LHeap) (o b pw pb : Nat) (a : Option Addr) (x : HOp) (m : MV) : Prop where
  row : H[o]? = some (hrw a x)
  own : Own 1 H lo a (x.met.map w64)
  mem : MemAt H b pw pb m
  ob : o ≠ b
  op : o ≠ pw
  oq : o ≠ pb
  l0 : o < lo
  l1 : b < lo
  l2 : pw < lo
  l3 : pb < lo
  l4 : lim ≤ o
  l5 : lim ≤ lo
  l6 : lo ≤ H.length
section
variable {lim lo o b pw pb : Nat} {x : HOp} {a : Option Addr} {H : LHeap} {m : MV}
theorem Ahd.off (h : Ahd lim lo H o b pw pb a x m) {j : Nat} (hj : j < lo) : Off j a := by
  intro z hz q
  have := h.own.fresh z hz
  omega
theorem Ahd.put (h : Ahd lim lo H o b pw pb a x m) {x' : HOp} {m' : MV} (hx : x'.met = x.met) (hw : m'.w.length = m.w.length) (hb : m'.bar = m.bar) : Stp lo H (memPut (H.set o (hrw a x')) b pw pb m') o b pw pb a a x x' m' := by
  have l := (List.getElem?_eq_some_iff.1 h.row).1
  refine ⟨?_, ?_, (h.mem.set_off h.ob h.op h.oq _).put hw (by rw [hb]; exact h.mem.len), by rw [memPut_len]; simp, fun j hj g0 g1 g2 g3 _ => ?_, .inl rfl⟩
  · rw [memPut_get _ h.ob.symm h.op.symm h.oq.symm, get_set_eq l]
  · rw [hx]
    rcases h.own with ⟨e1, e2⟩ | ⟨q, e1, e2, e3⟩
    · exact .inl ⟨e1, e2⟩
    · refine .inr ⟨q, e1, e2, ?_⟩
      have := h.l0; have := h.l1; have := h.l2; have := h.l3
      rw [memPut_get _ (by omega) (by omega) (by omega), get_set_ne (by omega)]
      exact e3
  · rw [memPut_get _ (Ne.symm g1) (Ne.symm g2) (Ne.symm g3), get_set_ne (Ne.symm g0)]
theorem hscanstep_ev {n : Nat} (h : Ahd lim lo H o b pw pb a x m) (hr : x.g.right = true) (ha : 0 ≤ x.at_ ∧ x.at_ ≤ 100000) (hk0 : x.kind ≠ 0) (hk1 : x.kind ≠ 1) (hd : x.done = false) (hn : x.met.length = n) (hn2 : n < 100000) :
    callE T 33 lim [ptr o, ptr b] H fun v H' => ∃ a', Stp lo H H' o b pw pb a a' x (x.step m).1 (x.step m).2 := by
  refine callE_stay rfl (by simp) rfl ?_
  have l := (List.getElem?_eq_some_iff.1 h.row).1
  have hrow := h.row
  have lob := h.l4
  obtain ⟨a0, a1, t0, t1, s0, s1⟩ := GV.right_of hr
  have wa : IntKind.i64.wrap (x.g.a + x.at_) = x.g.a + x.at_ := by rw [wrap_i64] <;> omega
  have w1 : IntKind.i64.wrap (x.at_ + 1) = x.at_ + 1 := by rw [wrap_i64] <;> omega
  have es : x.step m = ({ x with met := (if m.load (x.g.a + x.at_) = 0#64 then x.met else x.met ++ [m.load (x.g.a + x.at_)]), at_ := x.at_ + 1, p := BitVec.ofNat 64 (if m.load (x.g.a + x.at_) = 0#64 then x.met else x.met ++ [m.load (x.g.a + x.at_)]).length, done := decide (x.at_ + 1 = x.g.words) }, m.use 0 (x.g.a + x.at_) id) := by simp [HOp.step, hd, hk0, hk1]
  rw [es]
  simp -dsimp only [go_sem, Nat.reduceEqDiff, Nat.reduceAdd, Nat.reduceSub, Nat.reduceMul, Nat.reduceLeDiff, Nat.reduceLT, Nat.reduceBEq, Int.reduceLT, Int.reduceLE, Int.reduceGT, Int.reduceGE, Int.reduceEq, Int.reduceNe, Int.reduceBEq, Int.reduceBNe, Int.reduceAdd, Int.reduceSub, Int.reduceMul, Int.reduceToNat, Int.reduceNeg, ↓reduceIte, ↓reduceDIte, lget_at hrow, wa]
  refine CT_val (load_ev h.mem) ?_
  have hm2 : MemAt (memPut H b pw pb (m.use 0 (x.g.a + x.at_) id)) b pw pb (m.use 0 (x.g.a + x.at_) id) := h.mem.put (MV.use_len _ _ _ _).1 (by rw [(MV.use_len _ _ _ _).2]; exact h.mem.len)
  have hr2 : (memPut H b pw pb (m.use 0 (x.g.a + x.at_) id))[o]? = some (hrw a x) := by rw [memPut_get _ h.ob.symm h.op.symm h.oq.symm]; exact h.row
  have hpres : ∀ j, j ≠ b → j ≠ pw → j ≠ pb → (memPut H b pw pb (m.use 0 (x.g.a + x.at_) id))[j]? = H[j]? := fun j g1 g2 g3 => memPut_get _ g1.symm g2.symm g3.symm
  have hlen := memPut_len H b pw pb (m.use 0 (x.g.a + x.at_) id)
  have hq := h.l0; have hq1 := h.l1; have hq2 := h.l2; have hq3 := h.l3; have hq6 := h.l6; have hq5 := h.l5
  have hs2 : Own 1 (memPut H b pw pb (m.use 0 (x.g.a + x.at_) id)) lo a (x.met.map w64) := by
    rcases h.own with ⟨e1, e2⟩ | ⟨q, e1, e2, e3⟩
    · exact .inl ⟨e1, e2⟩
    · exact .inr ⟨q, e1, e2, by rw [hpres q (by omega) (by omega) (by omega)]; exact e3⟩
  by_cases hz : m.load (x.g.a + x.at_) = 0#64
  · have hz1 : (m.load (x.g.a + x.at_) != 0#64) = false := by simp [hz]
    rw [if_pos hz]
    have hput := h.put (x' := { x with at_ := x.at_ + 1, p := BitVec.ofNat 64 x.met.length, done := decide (x.at_ + 1 = x.g.words) }) (m' := m.use 0 (x.g.a + x.at_) id) rfl (MV.use_len _ _ _ _).1 (MV.use_len _ _ _ _).2
    rw [← memPut_set_off h.ob h.op h.oq] at hput
    generalize memPut H b pw pb (m.use 0 (x.g.a + x.at_) id) = K at *
    have lo1 : o < K.length := by omega
    have hc : lcells K o 1 3 = some [i64 x.g.a, i64 x.g.t, i64 x.g.s] := by simp [lcells, hr2]
    have w2 : x.met.length = n := hn
    simp -dsimp only [go_sem, Nat.reduceEqDiff, Nat.reduceAdd, Nat.reduceSub, Nat.reduceMul, Nat.reduceLeDiff, Nat.reduceLT, Nat.reduceBEq, Int.reduceLT, Int.reduceLE, Int.reduceGT, Int.reduceGE, Int.reduceEq, Int.reduceNe, Int.reduceBEq, Int.reduceBNe, Int.reduceAdd, Int.reduceSub, Int.reduceMul, Int.reduceToNat, Int.reduceNeg, ↓reduceIte, ↓reduceDIte, hz1, lget_at hr2, hr2, w1, lget_set_eq lo1, get_set_eq lo1, List.set_set, lcells_set_eq lo1]
    refine CT_val words_ev ?_
    have e4 : (x.at_ + 1 == x.g.words) = decide (x.at_ + 1 = x.g.words) := by rw [Bool.eq_iff_iff]; simp
    simp -dsimp only [go_sem, Nat.reduceEqDiff, Nat.reduceAdd, Nat.reduceSub, Nat.reduceMul, Nat.reduceLeDiff, Nat.reduceLT, Nat.reduceBEq, Int.reduceLT, Int.reduceLE, Int.reduceGT, Int.reduceGE, Int.reduceEq, Int.reduceNe, Int.reduceBEq, Int.reduceBNe, Int.reduceAdd, Int.reduceSub, Int.reduceMul, Int.reduceToNat, Int.reduceNeg, ↓reduceIte, ↓reduceDIte, lget_set_eq lo1, get_set_eq lo1, List.set_set, BitVec.ofInt_natCast, e4]
    exact ⟨_, hput⟩
  · have hz1 : (m.load (x.g.a + x.at_) != 0#64) = true := by simp [hz]
    rw [if_neg hz]
    generalize memPut H b pw pb (m.use 0 (x.g.a + x.at_) id) = K at *
    generalize m.load (x.g.a + x.at_) = v at *
    have lo1 : o < K.length := by omega
    obtain ⟨a', K', p1, p2, p3, p4, p5⟩ := Own.push (lim := lim) (bytes := 8) (k := x.met.length) (news := [w64 v]) (hs2.app [.row false 1 [w64 v]]) (by simp) (by decide) hq5 (by simp; omega) (by omega) (by omega)
    have hK' : ∀ j, j < H.length → Off j a → K'[j]? = K[j]? := fun j hj ho => by rw [p4 j (by simp; omega) ho, get_left (by omega)]
    have r1 : K'[o]? = some (hrw a x) := by rw [hK' o (by omega) (h.off hq)]; exact hr2
    have p3' : K.length + 1 ≤ K'.length := by simpa using p3
    have lo2 : o < K'.length := by omega
    simp -dsimp only [go_sem, Nat.reduceEqDiff, Nat.reduceAdd, Nat.reduceSub, Nat.reduceMul, Nat.reduceLeDiff, Nat.reduceLT, Nat.reduceBEq, Int.reduceLT, Int.reduceLE, Int.reduceGT, Int.reduceGE, Int.reduceEq, Int.reduceNe, Int.reduceBEq, Int.reduceBNe, Int.reduceAdd, Int.reduceSub, Int.reduceMul, Int.reduceToNat, Int.reduceNeg, ↓reduceIte, ↓reduceDIte, hz1, lget_at hr2, hr2, w1, p1, lget_at r1, r1, lget_set_eq lo2, get_set_eq lo2, List.set_set, lcells_set_eq lo2, lob]
    refine CT_val words_ev ?_
    have e4 : (x.at_ + 1 == x.g.words) = decide (x.at_ + 1 = x.g.words) := by rw [Bool.eq_iff_iff]; simp
    simp -dsimp only [go_sem, Nat.reduceEqDiff, Nat.reduceAdd, Nat.reduceSub, Nat.reduceMul, Nat.reduceLeDiff, Nat.reduceLT, Nat.reduceBEq, Int.reduceLT, Int.reduceLE, Int.reduceGT, Int.reduceGE, Int.reduceEq, Int.reduceNe, Int.reduceBEq, Int.reduceBNe, Int.reduceAdd, Int.reduceSub, Int.reduceMul, Int.reduceToNat, Int.reduceNeg, ↓reduceIte, ↓reduceDIte, lget_set_eq lo2, get_set_eq lo2, List.set_set, BitVec.ofInt_natCast, e4]
    refine ⟨a', ?_, ?_, ?_, by simp; omega, fun j hj g0 g1 g2 g3 g4 => ?_, ?_⟩
    · rw [get_set_eq lo2]
      simp
    · rcases p2 with ⟨e1, e2⟩ | ⟨q, e1, e2, e3⟩
      · simp at e2
      · refine .inr ⟨q, e1, e2, ?_⟩
        rw [get_set_ne (by omega)]
        simpa using e3
    · have off : ∀ j, j < lo → j ≠ o → (K'.set o (.row false 0 [.bool true, i64 x.g.a, i64 x.g.t, i64 x.g.s, i64 x.kind, i64 x.slot, i64 x.word, .int .i64 (x.at_ + 1), w64 (BitVec.ofNat 64 (x.met.length + 1)), .slice a' (x.met.length + 1) (x.met.length + 1), .bool (decide (x.at_ + 1 = x.g.words)), i64 x.code]))[j]? = K[j]? := fun j hj hne => by
        rw [get_set_ne (Ne.symm hne)]; exact hK' j (by omega) (h.off hj)
      exact ⟨by rw [off b hq1 h.ob.symm]; exact hm2.row, by rw [off pw hq2 h.op.symm]; exact hm2.ws, by rw [off pb hq3 h.oq.symm]; exact hm2.bs, hm2.len, hm2.pos, hm2.le, hm2.n1, hm2.n2, hm2.n3⟩
    · rw [get_set_ne (Ne.symm g0), hK' j hj g4]
      exact hpres j g1 g2 g3
    · refine .inr ⟨?_, by simp⟩
      intro z hz'
      have := p5 z hz'
      simp at this
      omega
theorem hstep_ev {n : Nat} (h : Ahd lim lo H o b pw pb a x m) (hr : x.g.right = true) (ha : 0 ≤ x.at_ ∧ x.at_ ≤ 100000) (hn : x.met.length = n) (hn2 : n < 100000) :
    callE T 16 lim [ptr o, ptr b] H fun v H' => v = .bool (x.step m).1.done ∧ ∃ a', Stp lo H H' o b pw pb a a' x (x.step m).1 (x.step m).2 := by
  cases hd : x.done
  · refine callE_stay rfl (by simp) rfl ?_
    have hrow := h.row
    have l := (List.getElem?_eq_some_iff.1 h.row).1
    have hpos : ((m.w.length : Int) == 0) = false := by rw [beq_eq_false_iff_ne]; have := h.mem.pos; omega
    simp -dsimp only [go_sem, Nat.reduceEqDiff, Nat.reduceAdd, Nat.reduceSub, Nat.reduceMul, Nat.reduceLeDiff, Nat.reduceLT, Nat.reduceBEq, Int.reduceLT, Int.reduceLE, Int.reduceGT, Int.reduceGE, Int.reduceEq, Int.reduceNe, Int.reduceBEq, Int.reduceBNe, Int.reduceAdd, Int.reduceSub, Int.reduceMul, Int.reduceToNat, Int.reduceNeg, ↓reduceIte, ↓reduceDIte]
    refine CT_val (hdone_ev h.row) ?_
    simp -dsimp only [go_sem, Nat.reduceEqDiff, Nat.reduceAdd, Nat.reduceSub, Nat.reduceMul, Nat.reduceLeDiff, Nat.reduceLT, Nat.reduceBEq, Int.reduceLT, Int.reduceLE, Int.reduceGT, Int.reduceGE, Int.reduceEq, Int.reduceNe, Int.reduceBEq, Int.reduceBNe, Int.reduceAdd, Int.reduceSub, Int.reduceMul, Int.reduceToNat, Int.reduceNeg, ↓reduceIte, ↓reduceDIte, hd]
    refine CT_val (len_ev h.mem) ?_
    simp -dsimp only [go_sem, Nat.reduceEqDiff, Nat.reduceAdd, Nat.reduceSub, Nat.reduceMul, Nat.reduceLeDiff, Nat.reduceLT, Nat.reduceBEq, Int.reduceLT, Int.reduceLE, Int.reduceGT, Int.reduceGE, Int.reduceEq, Int.reduceNe, Int.reduceBEq, Int.reduceBNe, Int.reduceAdd, Int.reduceSub, Int.reduceMul, Int.reduceToNat, Int.reduceNeg, ↓reduceIte, ↓reduceDIte, hpos, lget_at hrow]
    by_cases k0 : x.kind = 0
    · have e0 : (x.kind == 0) = true := by simp [k0]
      simp -dsimp only [go_sem, Nat.reduceEqDiff, Nat.reduceAdd, Nat.reduceSub, Nat.reduceMul, Nat.reduceLeDiff, Nat.reduceLT, Nat.reduceBEq, Int.reduceLT, Int.reduceLE, Int.reduceGT, Int.reduceGE, Int.reduceEq, Int.reduceNe, Int.reduceBEq, Int.reduceBNe, Int.reduceAdd, Int.reduceSub, Int.reduceMul, Int.reduceToNat, Int.reduceNeg, ↓reduceIte, ↓reduceDIte, e0]
      refine CT_heap (hprot_ev h.row h.mem h.ob h.op h.oq k0 hd) ?_
      intro v
      have key : (x.step m).1.met = x.met ∧ (x.step m).2.w.length = m.w.length ∧ (x.step m).2.bar = m.bar := by
        by_cases g1 : x.at_ = 1
        · have es : x.step m = ({ x with at_ := 2 }, m.use 1 x.slot (fun _ => x.p)) := by simp [HOp.step, hd, k0, g1]
          rw [es]; exact ⟨rfl, MV.use_len _ _ _ _⟩
        · have es : x.step m = ({ x with done := decide (x.at_ = 2) && (m.load x.word == x.p), p := m.load x.word, at_ := 1 }, m.use 0 x.word id) := by simp [HOp.step, hd, k0, g1]
          rw [es]; exact ⟨rfl, MV.use_len _ _ _ _⟩
      have hput := h.put (x' := (x.step m).1) (m' := (x.step m).2) key.1 key.2.1 key.2.2
      have r1 := hput.row
      simp -dsimp only [go_sem, Nat.reduceEqDiff, Nat.reduceAdd, Nat.reduceSub, Nat.reduceMul, Nat.reduceLeDiff, Nat.reduceLT, Nat.reduceBEq, Int.reduceLT, Int.reduceLE, Int.reduceGT, Int.reduceGE, Int.reduceEq, Int.reduceNe, Int.reduceBEq, Int.reduceBNe, Int.reduceAdd, Int.reduceSub, Int.reduceMul, Int.reduceToNat, Int.reduceNeg, ↓reduceIte, ↓reduceDIte, lget_at r1]
      exact ⟨_, hput⟩
    have e0 : (x.kind == 0) = false := by simp [k0]
    by_cases k1 : x.kind = 1
    · have e1 : (x.kind == 1) = true := by simp [k1]
      have es : x.step m = ({ x with done := true }, m.use 1 x.slot (fun _ => 0#64)) := by simp [HOp.step, hd, k1]
      rw [es]
      simp -dsimp only [go_sem, Nat.reduceEqDiff, Nat.reduceAdd, Nat.reduceSub, Nat.reduceMul, Nat.reduceLeDiff, Nat.reduceLT, Nat.reduceBEq, Int.reduceLT, Int.reduceLE, Int.reduceGT, Int.reduceGE, Int.reduceEq, Int.reduceNe, Int.reduceBEq, Int.reduceBNe, Int.reduceAdd, Int.reduceSub, Int.reduceMul, Int.reduceToNat, Int.reduceNeg, ↓reduceIte, ↓reduceDIte, e0, e1, lget_at hrow]
      refine CT_heap (store_ev h.mem) ?_
      intro v
      have hput := h.put (x' := { x with done := true }) (m' := m.use 1 x.slot (fun _ => 0#64)) rfl (MV.use_len _ _ _ _).1 (MV.use_len _ _ _ _).2
      have hr2 : (memPut H b pw pb (m.use 1 x.slot fun _ => 0#64))[o]? = some (hrw a x) := by rw [memPut_get _ h.ob.symm h.op.symm h.oq.symm]; exact h.row
      have l2 := (List.getElem?_eq_some_iff.1 hr2).1
      rw [← memPut_set_off h.ob h.op h.oq] at hput
      simp -dsimp only [go_sem, Nat.reduceEqDiff, Nat.reduceAdd, Nat.reduceSub, Nat.reduceMul, Nat.reduceLeDiff, Nat.reduceLT, Nat.reduceBEq, Int.reduceLT, Int.reduceLE, Int.reduceGT, Int.reduceGE, Int.reduceEq, Int.reduceNe, Int.reduceBEq, Int.reduceBNe, Int.reduceAdd, Int.reduceSub, Int.reduceMul, Int.reduceToNat, Int.reduceNeg, ↓reduceIte, ↓reduceDIte, lget_at hr2, hr2, lget_set_eq l2]
      exact ⟨_, hput⟩
    have e1 : (x.kind == 1) = false := by simp [k1]
    simp -dsimp only [go_sem, Nat.reduceEqDiff, Nat.reduceAdd, Nat.reduceSub, Nat.reduceMul, Nat.reduceLeDiff, Nat.reduceLT, Nat.reduceBEq, Int.reduceLT, Int.reduceLE, Int.reduceGT, Int.reduceGE, Int.reduceEq, Int.reduceNe, Int.reduceBEq, Int.reduceBNe, Int.reduceAdd, Int.reduceSub, Int.reduceMul, Int.reduceToNat, Int.reduceNeg, ↓reduceIte, ↓reduceDIte, e0, e1]
    refine CT_of (hscanstep_ev h hr ha k0 k1 hd hn hn2) ?_
    rintro v H' ⟨a', st⟩
    have r1 := st.row
    simp -dsimp only [go_sem, Nat.reduceEqDiff, Nat.reduceAdd, Nat.reduceSub, Nat.reduceMul, Nat.reduceLeDiff, Nat.reduceLT, Nat.reduceBEq, Int.reduceLT, Int.reduceLE, Int.reduceGT, Int.reduceGE, Int.reduceEq, Int.reduceNe, Int.reduceBEq, Int.reduceBNe, Int.reduceAdd, Int.reduceSub, Int.reduceMul, Int.reduceToNat, Int.reduceNeg, ↓reduceIte, ↓reduceDIte, lget_at r1]
    exact ⟨a', st⟩
  · refine (hstep_done h.row hd).mono ?_
    rintro _ _ ⟨rfl, rfl⟩
    have es : x.step m = (x, m) := by simp [HOp.step, hd]
    rw [es]
    exact ⟨by rw [hd], a, ⟨h.row, h.own, h.mem, Nat.le_refl _, fun _ _ _ _ _ _ _ => rfl, .inl rfl⟩⟩
theorem Ahd.next {a' : Option Addr} {H' : LHeap} {x' : HOp} {m' : MV} (h : Ahd lim lo H o b pw pb a x m) (s : Stp lo H H' o b pw pb a a' x x' m') : Ahd lim lo H' o b pw pb a' x' m' :=
  ⟨s.row, s.own, s.mem, h.ob, h.op, h.oq, h.l0, h.l1, h.l2, h.l3, h.l4, h.l5, Nat.le_trans h.l6 s.len⟩
theorem Ahd.keep {a' : Option Addr} {H' : LHeap} {x' : HOp} {m' : MV} (h : Ahd lim lo H o b pw pb a x m) (s : Stp lo H H' o b pw pb a a' x x' m') {j : Nat} (hj : j < lo) (g0 : j ≠ o) (g1 : j ≠ b) (g2 : j ≠ pw) (g3 : j ≠ pb) : H'[j]? = H[j]? :=
  s.pre j (by have := h.l6; omega) g0 g1 g2 g3 (h.off hj)
theorem Ahd.app (h : Ahd lim lo H o b pw pb a x m) (t : LHeap) : Ahd lim lo (H ++ t) o b pw pb a x m :=
  ⟨get_old h.row t, h.own.app t, h.mem.app t, h.ob, h.op, h.oq, h.l0, h.l1, h.l2, h.l3, h.l4, h.l5, by have := h.l6; simp; omega⟩
end
end Go.Proofs.Ytcogpinognopcaa
