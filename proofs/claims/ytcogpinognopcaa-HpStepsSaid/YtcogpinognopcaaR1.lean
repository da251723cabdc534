/- DROP The document's memory, worked out on the logical machine. -/
import Derived.Test.YtcogpinognopcaaM1
namespace Go.Proofs.Ytcogpinognopcaa
open Go Go.LK
set_option linter.unusedSimpArgs false
set_option linter.unusedVariables false
abbrev refV (aw ab : Option Addr) (n : Nat) (m : MV) : Value :=
  .agg #[.slice aw n n, .slice ab n n, i64 m.c0, i64 m.c1, i64 m.c2, i64 m.c3, i64 m.c4, i64 m.c5, i64 m.trap, .bool m.fell]
structure RefAt (H : LHeap) (aw ab : Option Addr) (n : Nat) (m : MV) : Prop where
  ws : Sl 1 H aw (m.w.map w64)
  bs : Sl 1 H ab (m.bar.map Value.bool)
  len : m.w.length = n
  bar : m.bar.length = n
  le : n ≤ 65536
theorem RefAt.app {H : LHeap} {aw ab : Option Addr} {n : Nat} {m : MV} (h : RefAt H aw ab n m) (t : LHeap) : RefAt (H ++ t) aw ab n m :=
  ⟨h.ws.app t, h.bs.app t, h.len, h.bar, h.le⟩
theorem MV.fell_eta {m : MV} (h : m.fell = true) : m = { m with fell := true } := by
  cases m; simp_all
section
variable {lim : Nat} {aw ab : Option Addr} {n : Nat} {m : MV} {H : LHeap}
theorem refbad_ev (h : RefAt H aw ab n m) {a : Int} : callE T 41 lim [refV aw ab n m, i64 a] H fun v H' => v = .bool (m.bad a) ∧ H' = H := by
  refine callE_pop rfl (by simp) rfl ?_
  have h1 := h.len
  have h2 := h.bar
  by_cases ha : a < 0
  · simp -dsimp only [go_sem, Nat.reduceEqDiff, Nat.reduceAdd, Nat.reduceSub, Nat.reduceMul, Nat.reduceLeDiff, Nat.reduceLT, Nat.reduceBEq, Int.reduceLT, Int.reduceLE, Int.reduceGT, Int.reduceGE, Int.reduceEq, Int.reduceNe, Int.reduceBEq, Int.reduceBNe, Int.reduceAdd, Int.reduceSub, Int.reduceMul, Int.reduceToNat, Int.reduceNeg, ↓reduceIte, ↓reduceDIte, ha]
    simp [MV.bad, ha]
  · by_cases hb : (n : Int) ≤ a
    · simp -dsimp only [go_sem, Nat.reduceEqDiff, Nat.reduceAdd, Nat.reduceSub, Nat.reduceMul, Nat.reduceLeDiff, Nat.reduceLT, Nat.reduceBEq, Int.reduceLT, Int.reduceLE, Int.reduceGT, Int.reduceGE, Int.reduceEq, Int.reduceNe, Int.reduceBEq, Int.reduceBNe, Int.reduceAdd, Int.reduceSub, Int.reduceMul, Int.reduceToNat, Int.reduceNeg, ↓reduceIte, ↓reduceDIte, ha, hb]
      simp [MV.bad, h1, hb]
    · have h3 : 0 ≤ a := by omega
      have h4 : a < n := by omega
      have h5 : a.toNat < m.bar.length := by omega
      obtain ⟨b, o, rfl, _, hg⟩ := h.bs.all (by simp; omega)
      have g1 := fun t => hg t a.toNat (.bool (m.bar.getD a.toNat false)) (by simp [List.getElem?_eq_getElem h5, List.getD])
      have e1 : decide (a < 0) = false := decide_eq_false (by omega)
      have e2 : decide ((m.w.length : Int) ≤ a) = false := decide_eq_false (by omega)
      simp -dsimp only [go_sem, Nat.reduceEqDiff, Nat.reduceAdd, Nat.reduceSub, Nat.reduceMul, Nat.reduceLeDiff, Nat.reduceLT, Nat.reduceBEq, Int.reduceLT, Int.reduceLE, Int.reduceGT, Int.reduceGE, Int.reduceEq, Int.reduceNe, Int.reduceBEq, Int.reduceBNe, Int.reduceAdd, Int.reduceSub, Int.reduceMul, Int.reduceToNat, Int.reduceNeg, ↓reduceIte, ↓reduceDIte, ha, hb, h3, h4, g1]
      simp only [MV.bad, e1, e2, Bool.false_or]
/-- What a step of the document's memory comes to. -/
def MV.step (m : MV) (kind a : Int) (v0 v1 v2 v3 : BitVec 64) : MV × BitVec 64 × Bool :=
  if kind = 0 then (m.use 0 a id, m.load a, false)
  else if kind = 1 then (m.use 1 a (fun _ => v0), 0#64, false)
  else if kind = 2 then (m.use 2 a (fun w => if w = v0 then v1 else w), 0#64, m.swaps a v0)
  else if kind = 3 then (m.use 3 a (· + v0), m.load a, false)
  else if kind = 4 then (m.use 4 a (· ||| v0), m.load a, false)
  else if kind = 5 then (m.pair a v0 v1 v2 v3, 0#64, m.pairs a v0 v1)
  else (m, 0#64, false)
theorem MV.step_len (m : MV) (kind a : Int) (v0 v1 v2 v3 : BitVec 64) : (m.step kind a v0 v1 v2 v3).1.w.length = m.w.length ∧ (m.step kind a v0 v1 v2 v3).1.bar = m.bar := by
  unfold MV.step
  split
  · exact MV.use_len _ _ _ _
  · split
    · exact MV.use_len _ _ _ _
    · split
      · exact MV.use_len _ _ _ _
      · split
        · exact MV.use_len _ _ _ _
        · split
          · exact MV.use_len _ _ _ _
          · split
            · exact MV.pair_len _ _ _ _ _ _
            · exact ⟨rfl, rfl⟩
/-- What stands behind a step. -/
def RefRes (H H' : LHeap) (aw ab : Option Addr) (n : Nat) (r : MV × BitVec 64 × Bool) (v : Value) : Prop :=
  ∃ aw' t, v = .tuple #[refV aw' ab n r.1, w64 r.2.1, .bool r.2.2] ∧ H' = H ++ t ∧ Sl 1 (H ++ t) aw' (r.1.w.map w64) ∧ (aw' = aw ∨ Own 1 (H ++ t) H.length aw' (r.1.w.map w64))
theorem RefRes.same {H t : LHeap} {aw ab : Option Addr} {n : Nat} {m' : MV} {told : BitVec 64} {ok : Bool} (h : RefAt H aw ab n m) (hw : m'.w = m.w) : RefRes H (H ++ t) aw ab n (m', told, ok) (.tuple #[refV aw ab n m', w64 told, .bool ok]) :=
  ⟨aw, t, rfl, rfl, by rw [hw]; exact h.ws.app t, .inl rfl⟩
theorem RefRes.new {H t : LHeap} {aw ab : Option Addr} {n b : Nat} {m' : MV} {told : BitVec 64} {ok : Bool} (hb : H.length ≤ b) (hr : (H ++ t)[b]? = some (.row false 1 (m'.w.map w64))) : RefRes H (H ++ t) aw ab n (m', told, ok) (.tuple #[refV (some ⟨b, 0, none⟩) ab n m', w64 told, .bool ok]) :=
  ⟨_, t, rfl, rfl, Sl.row hr, .inr (.inr ⟨b, rfl, hb, hr⟩)⟩
theorem refstep0_ev (hl : lim ≤ H.length) (h : RefAt H aw ab n m) {a : Int} {v0 v1 v2 v3 : BitVec 64} :
    callE T 31 lim [refV aw ab n m, .agg #[i64 0, i64 a, w64 v0, w64 v1, w64 v2, w64 v3]] H fun v H' => RefRes H H' aw ab n (m.use 0 a id, m.load a, false) v := by
  refine callE_stay rfl (by simp) rfl ?_
  have hT := MV.tick_w m 0
  have h2 : RefAt H aw ab n (m.tick 0) := ⟨by rw [hT.1]; exact h.ws, by rw [hT.2.1]; exact h.bs, by rw [hT.1]; exact h.len, by rw [hT.2.1]; exact h.bar, h.le⟩
  have hlen := h.len
  have hle := h.le
  simp -dsimp only [go_sem, Nat.reduceEqDiff, Nat.reduceAdd, Nat.reduceSub, Nat.reduceMul, Nat.reduceLeDiff, Nat.reduceLT, Nat.reduceBEq, Int.reduceLT, Int.reduceLE, Int.reduceGT, Int.reduceGE, Int.reduceEq, Int.reduceNe, Int.reduceBEq, Int.reduceBNe, Int.reduceAdd, Int.reduceSub, Int.reduceMul, Int.reduceToNat, Int.reduceNeg, ↓reduceIte, ↓reduceDIte, hl]
  refine CT_val (refbad_ev (h2.app _)) ?_
  rw [MV.bad_tick]
  cases hbad : m.bad a
  · obtain ⟨k1, k2, _⟩ := MV.bad_false hbad
    have k3 : a < (n : Int) := by omega
    have k4 : a.toNat + 1 ≤ n := by omega
    obtain ⟨bw, ow, rfl, _, hg⟩ := h.ws.all (by simp; omega)
    have g1 := fun t => hg t a.toNat _ (MV.at_get hbad)
    have hsrc := fun t => (h.ws.app t).src (m := 1) (n := n) (cap := n) (by omega) (by simp [hlen])
    have h6 : n * 8 ≤ 140737488355328 := by omega
    have h7 : n ≤ 140737488355328 := by omega
    rw [MV.use_ok hbad]
    simp -dsimp only [go_sem, Nat.reduceEqDiff, Nat.reduceAdd, Nat.reduceSub, Nat.reduceMul, Nat.reduceLeDiff, Nat.reduceLT, Nat.reduceBEq, Int.reduceLT, Int.reduceLE, Int.reduceGT, Int.reduceGE, Int.reduceEq, Int.reduceNe, Int.reduceBEq, Int.reduceBNe, Int.reduceAdd, Int.reduceSub, Int.reduceMul, Int.reduceToNat, Int.reduceNeg, ↓reduceIte, ↓reduceDIte, hl, k1, k3, k4, g1, hsrc, h6, h7, hlen]
    rw [show m.load a = m.at a by simp [MV.load, hbad]]
    refine RefRes.new (by omega) ?_
    simp [get_app, get_app0, MV.setw, List.map_set]
  · rw [MV.use_bad hbad]
    simp -dsimp only [go_sem, Nat.reduceEqDiff, Nat.reduceAdd, Nat.reduceSub, Nat.reduceMul, Nat.reduceLeDiff, Nat.reduceLT, Nat.reduceBEq, Int.reduceLT, Int.reduceLE, Int.reduceGT, Int.reduceGE, Int.reduceEq, Int.reduceNe, Int.reduceBEq, Int.reduceBNe, Int.reduceAdd, Int.reduceSub, Int.reduceMul, Int.reduceToNat, Int.reduceNeg, ↓reduceIte, ↓reduceDIte, hl]
    cases hf : m.fell
    · simp -dsimp only [go_sem, Nat.reduceEqDiff, Nat.reduceAdd, Nat.reduceSub, Nat.reduceMul, Nat.reduceLeDiff, Nat.reduceLT, Nat.reduceBEq, Int.reduceLT, Int.reduceLE, Int.reduceGT, Int.reduceGE, Int.reduceEq, Int.reduceNe, Int.reduceBEq, Int.reduceBNe, Int.reduceAdd, Int.reduceSub, Int.reduceMul, Int.reduceToNat, Int.reduceNeg, ↓reduceIte, ↓reduceDIte, hl, hf]
      have e : (m.tick 0).fall a = { m.tick 0 with trap := a, fell := true } := by
        simp only [MV.fall, hT.2.2.1, hf]; rfl
      rw [e]
      rw [show m.load a = 0#64 by simp [MV.load, hbad]]
      exact RefRes.same h hT.1
    · simp -dsimp only [go_sem, Nat.reduceEqDiff, Nat.reduceAdd, Nat.reduceSub, Nat.reduceMul, Nat.reduceLeDiff, Nat.reduceLT, Nat.reduceBEq, Int.reduceLT, Int.reduceLE, Int.reduceGT, Int.reduceGE, Int.reduceEq, Int.reduceNe, Int.reduceBEq, Int.reduceBNe, Int.reduceAdd, Int.reduceSub, Int.reduceMul, Int.reduceToNat, Int.reduceNeg, ↓reduceIte, ↓reduceDIte, hl, hf]
      have e : (m.tick 0).fall a = { m.tick 0 with fell := true } := by
        have hf2 := hT.2.2.1.trans hf
        rw [MV.fall, if_pos hf2]
        exact MV.fell_eta hf2
      rw [e]
      rw [show m.load a = 0#64 by simp [MV.load, hbad]]
      exact RefRes.same h hT.1
theorem refstep1_ev (hl : lim ≤ H.length) (h : RefAt H aw ab n m) {a : Int} {v0 v1 v2 v3 : BitVec 64} :
    callE T 31 lim [refV aw ab n m, .agg #[i64 1, i64 a, w64 v0, w64 v1, w64 v2, w64 v3]] H fun v H' => RefRes H H' aw ab n (m.use 1 a fun _ => v0, 0#64, false) v := by
  refine callE_stay rfl (by simp) rfl ?_
  have hT := MV.tick_w m 1
  have h2 : RefAt H aw ab n (m.tick 1) := ⟨by rw [hT.1]; exact h.ws, by rw [hT.2.1]; exact h.bs, by rw [hT.1]; exact h.len, by rw [hT.2.1]; exact h.bar, h.le⟩
  have hlen := h.len
  have hle := h.le
  simp -dsimp only [go_sem, Nat.reduceEqDiff, Nat.reduceAdd, Nat.reduceSub, Nat.reduceMul, Nat.reduceLeDiff, Nat.reduceLT, Nat.reduceBEq, Int.reduceLT, Int.reduceLE, Int.reduceGT, Int.reduceGE, Int.reduceEq, Int.reduceNe, Int.reduceBEq, Int.reduceBNe, Int.reduceAdd, Int.reduceSub, Int.reduceMul, Int.reduceToNat, Int.reduceNeg, ↓reduceIte, ↓reduceDIte, hl]
  refine CT_val (refbad_ev (h2.app _)) ?_
  rw [MV.bad_tick]
  cases hbad : m.bad a
  · obtain ⟨k1, k2, _⟩ := MV.bad_false hbad
    have k3 : a < (n : Int) := by omega
    have k4 : a.toNat + 1 ≤ n := by omega
    obtain ⟨bw, ow, rfl, _, hg⟩ := h.ws.all (by simp; omega)
    have g1 := fun t => hg t a.toNat _ (MV.at_get hbad)
    have hsrc := fun t => (h.ws.app t).src (m := 1) (n := n) (cap := n) (by omega) (by simp [hlen])
    have h6 : n * 8 ≤ 140737488355328 := by omega
    have h7 : n ≤ 140737488355328 := by omega
    rw [MV.use_ok hbad]
    simp -dsimp only [go_sem, Nat.reduceEqDiff, Nat.reduceAdd, Nat.reduceSub, Nat.reduceMul, Nat.reduceLeDiff, Nat.reduceLT, Nat.reduceBEq, Int.reduceLT, Int.reduceLE, Int.reduceGT, Int.reduceGE, Int.reduceEq, Int.reduceNe, Int.reduceBEq, Int.reduceBNe, Int.reduceAdd, Int.reduceSub, Int.reduceMul, Int.reduceToNat, Int.reduceNeg, ↓reduceIte, ↓reduceDIte, hl, k1, k3, k4, g1, hsrc, h6, h7, hlen]
    refine RefRes.new (by omega) ?_
    simp [get_app, get_app0, MV.setw, List.map_set]
  · rw [MV.use_bad hbad]
    simp -dsimp only [go_sem, Nat.reduceEqDiff, Nat.reduceAdd, Nat.reduceSub, Nat.reduceMul, Nat.reduceLeDiff, Nat.reduceLT, Nat.reduceBEq, Int.reduceLT, Int.reduceLE, Int.reduceGT, Int.reduceGE, Int.reduceEq, Int.reduceNe, Int.reduceBEq, Int.reduceBNe, Int.reduceAdd, Int.reduceSub, Int.reduceMul, Int.reduceToNat, Int.reduceNeg, ↓reduceIte, ↓reduceDIte, hl]
    cases hf : m.fell
    · simp -dsimp only [go_sem, Nat.reduceEqDiff, Nat.reduceAdd, Nat.reduceSub, Nat.reduceMul, Nat.reduceLeDiff, Nat.reduceLT, Nat.reduceBEq, Int.reduceLT, Int.reduceLE, Int.reduceGT, Int.reduceGE, Int.reduceEq, Int.reduceNe, Int.reduceBEq, Int.reduceBNe, Int.reduceAdd, Int.reduceSub, Int.reduceMul, Int.reduceToNat, Int.reduceNeg, ↓reduceIte, ↓reduceDIte, hl, hf]
      have e : (m.tick 1).fall a = { m.tick 1 with trap := a, fell := true } := by
        simp only [MV.fall, hT.2.2.1, hf]; rfl
      rw [e]
      exact RefRes.same h hT.1
    · simp -dsimp only [go_sem, Nat.reduceEqDiff, Nat.reduceAdd, Nat.reduceSub, Nat.reduceMul, Nat.reduceLeDiff, Nat.reduceLT, Nat.reduceBEq, Int.reduceLT, Int.reduceLE, Int.reduceGT, Int.reduceGE, Int.reduceEq, Int.reduceNe, Int.reduceBEq, Int.reduceBNe, Int.reduceAdd, Int.reduceSub, Int.reduceMul, Int.reduceToNat, Int.reduceNeg, ↓reduceIte, ↓reduceDIte, hl, hf]
      have e : (m.tick 1).fall a = { m.tick 1 with fell := true } := by
        have hf2 := hT.2.2.1.trans hf
        rw [MV.fall, if_pos hf2]
        exact MV.fell_eta hf2
      rw [e]
      exact RefRes.same h hT.1
theorem refstep2_ev (hl : lim ≤ H.length) (h : RefAt H aw ab n m) {a : Int} {v0 v1 v2 v3 : BitVec 64} :
    callE T 31 lim [refV aw ab n m, .agg #[i64 2, i64 a, w64 v0, w64 v1, w64 v2, w64 v3]] H fun v H' => RefRes H H' aw ab n (m.use 2 a fun w => if w = v0 then v1 else w, 0#64, m.swaps a v0) v := by
  refine callE_stay rfl (by simp) rfl ?_
  have hT := MV.tick_w m 2
  have h2 : RefAt H aw ab n (m.tick 2) := ⟨by rw [hT.1]; exact h.ws, by rw [hT.2.1]; exact h.bs, by rw [hT.1]; exact h.len, by rw [hT.2.1]; exact h.bar, h.le⟩
  have hlen := h.len
  have hle := h.le
  simp -dsimp only [go_sem, Nat.reduceEqDiff, Nat.reduceAdd, Nat.reduceSub, Nat.reduceMul, Nat.reduceLeDiff, Nat.reduceLT, Nat.reduceBEq, Int.reduceLT, Int.reduceLE, Int.reduceGT, Int.reduceGE, Int.reduceEq, Int.reduceNe, Int.reduceBEq, Int.reduceBNe, Int.reduceAdd, Int.reduceSub, Int.reduceMul, Int.reduceToNat, Int.reduceNeg, ↓reduceIte, ↓reduceDIte, hl]
  refine CT_val (refbad_ev (h2.app _)) ?_
  rw [MV.bad_tick]
  cases hbad : m.bad a
  · obtain ⟨k1, k2, _⟩ := MV.bad_false hbad
    have k3 : a < (n : Int) := by omega
    have k4 : a.toNat + 1 ≤ n := by omega
    obtain ⟨bw, ow, rfl, _, hg⟩ := h.ws.all (by simp; omega)
    have g1 := fun t => hg t a.toNat _ (MV.at_get hbad)
    have hsrc := fun t => (h.ws.app t).src (m := 1) (n := n) (cap := n) (by omega) (by simp [hlen])
    have h6 : n * 8 ≤ 140737488355328 := by omega
    have h7 : n ≤ 140737488355328 := by omega
    rw [MV.use_ok hbad]
    simp -dsimp only [go_sem, Nat.reduceEqDiff, Nat.reduceAdd, Nat.reduceSub, Nat.reduceMul, Nat.reduceLeDiff, Nat.reduceLT, Nat.reduceBEq, Int.reduceLT, Int.reduceLE, Int.reduceGT, Int.reduceGE, Int.reduceEq, Int.reduceNe, Int.reduceBEq, Int.reduceBNe, Int.reduceAdd, Int.reduceSub, Int.reduceMul, Int.reduceToNat, Int.reduceNeg, ↓reduceIte, ↓reduceDIte, hl, k1, k3, k4, g1, hsrc, h6, h7, hlen]
    (repeat' (first | (refine BT_beq (fun hc => ?_) (fun hc hc2 => ?_) <;> simp -dsimp only [go_sem, Nat.reduceEqDiff, Nat.reduceAdd, Nat.reduceSub, Nat.reduceMul, Nat.reduceLeDiff, Nat.reduceLT, Nat.reduceBEq, Int.reduceLT, Int.reduceLE, Int.reduceGT, Int.reduceGE, Int.reduceEq, Int.reduceNe, Int.reduceBEq, Int.reduceBNe, Int.reduceAdd, Int.reduceSub, Int.reduceMul, Int.reduceToNat, Int.reduceNeg, ↓reduceIte, ↓reduceDIte, hl, k1, k3, k4, g1, hsrc, h6, h7, hlen, *]) | (refine GT_beqT (fun hc => ?_) (fun hc hc2 => ?_) <;> simp -dsimp only [go_sem, Nat.reduceEqDiff, Nat.reduceAdd, Nat.reduceSub, Nat.reduceMul, Nat.reduceLeDiff, Nat.reduceLT, Nat.reduceBEq, Int.reduceLT, Int.reduceLE, Int.reduceGT, Int.reduceGE, Int.reduceEq, Int.reduceNe, Int.reduceBEq, Int.reduceBNe, Int.reduceAdd, Int.reduceSub, Int.reduceMul, Int.reduceToNat, Int.reduceNeg, ↓reduceIte, ↓reduceDIte, hl, k1, k3, k4, g1, hsrc, h6, h7, hlen, *]) | (refine GT_beqF (fun hc hc2 => ?_) (fun hc => ?_) <;> simp -dsimp only [go_sem, Nat.reduceEqDiff, Nat.reduceAdd, Nat.reduceSub, Nat.reduceMul, Nat.reduceLeDiff, Nat.reduceLT, Nat.reduceBEq, Int.reduceLT, Int.reduceLE, Int.reduceGT, Int.reduceGE, Int.reduceEq, Int.reduceNe, Int.reduceBEq, Int.reduceBNe, Int.reduceAdd, Int.reduceSub, Int.reduceMul, Int.reduceToNat, Int.reduceNeg, ↓reduceIte, ↓reduceDIte, hl, k1, k3, k4, g1, hsrc, h6, h7, hlen, *]) | (refine BT_bne (fun hc hc1 hc2 => ?_) (fun hc => ?_) <;> simp -dsimp only [go_sem, Nat.reduceEqDiff, Nat.reduceAdd, Nat.reduceSub, Nat.reduceMul, Nat.reduceLeDiff, Nat.reduceLT, Nat.reduceBEq, Int.reduceLT, Int.reduceLE, Int.reduceGT, Int.reduceGE, Int.reduceEq, Int.reduceNe, Int.reduceBEq, Int.reduceBNe, Int.reduceAdd, Int.reduceSub, Int.reduceMul, Int.reduceToNat, Int.reduceNeg, ↓reduceIte, ↓reduceDIte, hl, k1, k3, k4, g1, hsrc, h6, h7, hlen, *]) | (refine GT_bneT (fun hc hc1 hc2 => ?_) (fun hc => ?_) <;> simp -dsimp only [go_sem, Nat.reduceEqDiff, Nat.reduceAdd, Nat.reduceSub, Nat.reduceMul, Nat.reduceLeDiff, Nat.reduceLT, Nat.reduceBEq, Int.reduceLT, Int.reduceLE, Int.reduceGT, Int.reduceGE, Int.reduceEq, Int.reduceNe, Int.reduceBEq, Int.reduceBNe, Int.reduceAdd, Int.reduceSub, Int.reduceMul, Int.reduceToNat, Int.reduceNeg, ↓reduceIte, ↓reduceDIte, hl, k1, k3, k4, g1, hsrc, h6, h7, hlen, *]) | (refine GT_bneF (fun hc => ?_) (fun hc hc1 hc2 => ?_) <;> simp -dsimp only [go_sem, Nat.reduceEqDiff, Nat.reduceAdd, Nat.reduceSub, Nat.reduceMul, Nat.reduceLeDiff, Nat.reduceLT, Nat.reduceBEq, Int.reduceLT, Int.reduceLE, Int.reduceGT, Int.reduceGE, Int.reduceEq, Int.reduceNe, Int.reduceBEq, Int.reduceBNe, Int.reduceAdd, Int.reduceSub, Int.reduceMul, Int.reduceToNat, Int.reduceNeg, ↓reduceIte, ↓reduceDIte, hl, k1, k3, k4, g1, hsrc, h6, h7, hlen, *]) | (refine BT_not (fun hc => ?_) (fun hc => ?_) <;> simp -dsimp only [go_sem, Nat.reduceEqDiff, Nat.reduceAdd, Nat.reduceSub, Nat.reduceMul, Nat.reduceLeDiff, Nat.reduceLT, Nat.reduceBEq, Int.reduceLT, Int.reduceLE, Int.reduceGT, Int.reduceGE, Int.reduceEq, Int.reduceNe, Int.reduceBEq, Int.reduceBNe, Int.reduceAdd, Int.reduceSub, Int.reduceMul, Int.reduceToNat, Int.reduceNeg, ↓reduceIte, ↓reduceDIte, hl, k1, k3, k4, g1, hsrc, h6, h7, hlen, *]) | (refine GT_notT (fun hc => ?_) (fun hc => ?_) <;> simp -dsimp only [go_sem, Nat.reduceEqDiff, Nat.reduceAdd, Nat.reduceSub, Nat.reduceMul, Nat.reduceLeDiff, Nat.reduceLT, Nat.reduceBEq, Int.reduceLT, Int.reduceLE, Int.reduceGT, Int.reduceGE, Int.reduceEq, Int.reduceNe, Int.reduceBEq, Int.reduceBNe, Int.reduceAdd, Int.reduceSub, Int.reduceMul, Int.reduceToNat, Int.reduceNeg, ↓reduceIte, ↓reduceDIte, hl, k1, k3, k4, g1, hsrc, h6, h7, hlen, *]) | (refine GT_notF (fun hc => ?_) (fun hc => ?_) <;> simp -dsimp only [go_sem, Nat.reduceEqDiff, Nat.reduceAdd, Nat.reduceSub, Nat.reduceMul, Nat.reduceLeDiff, Nat.reduceLT, Nat.reduceBEq, Int.reduceLT, Int.reduceLE, Int.reduceGT, Int.reduceGE, Int.reduceEq, Int.reduceNe, Int.reduceBEq, Int.reduceBNe, Int.reduceAdd, Int.reduceSub, Int.reduceMul, Int.reduceToNat, Int.reduceNeg, ↓reduceIte, ↓reduceDIte, hl, k1, k3, k4, g1, hsrc, h6, h7, hlen, *]) | (refine BT_dec (fun hc => ?_) (fun hc => ?_) <;> simp -dsimp only [go_sem, Nat.reduceEqDiff, Nat.reduceAdd, Nat.reduceSub, Nat.reduceMul, Nat.reduceLeDiff, Nat.reduceLT, Nat.reduceBEq, Int.reduceLT, Int.reduceLE, Int.reduceGT, Int.reduceGE, Int.reduceEq, Int.reduceNe, Int.reduceBEq, Int.reduceBNe, Int.reduceAdd, Int.reduceSub, Int.reduceMul, Int.reduceToNat, Int.reduceNeg, ↓reduceIte, ↓reduceDIte, hl, k1, k3, k4, g1, hsrc, h6, h7, hlen, *]) | (refine GT_decT (fun hc => ?_) (fun hc => ?_) <;> simp -dsimp only [go_sem, Nat.reduceEqDiff, Nat.reduceAdd, Nat.reduceSub, Nat.reduceMul, Nat.reduceLeDiff, Nat.reduceLT, Nat.reduceBEq, Int.reduceLT, Int.reduceLE, Int.reduceGT, Int.reduceGE, Int.reduceEq, Int.reduceNe, Int.reduceBEq, Int.reduceBNe, Int.reduceAdd, Int.reduceSub, Int.reduceMul, Int.reduceToNat, Int.reduceNeg, ↓reduceIte, ↓reduceDIte, hl, k1, k3, k4, g1, hsrc, h6, h7, hlen, *]) | (refine GT_decF (fun hc => ?_) (fun hc => ?_) <;> simp -dsimp only [go_sem, Nat.reduceEqDiff, Nat.reduceAdd, Nat.reduceSub, Nat.reduceMul, Nat.reduceLeDiff, Nat.reduceLT, Nat.reduceBEq, Int.reduceLT, Int.reduceLE, Int.reduceGT, Int.reduceGE, Int.reduceEq, Int.reduceNe, Int.reduceBEq, Int.reduceBNe, Int.reduceAdd, Int.reduceSub, Int.reduceMul, Int.reduceToNat, Int.reduceNeg, ↓reduceIte, ↓reduceDIte, hl, k1, k3, k4, g1, hsrc, h6, h7, hlen, *]) | (refine BT_intro (fun hc => ?_) (fun hc => ?_) <;> simp -dsimp only [go_sem, Nat.reduceEqDiff, Nat.reduceAdd, Nat.reduceSub, Nat.reduceMul, Nat.reduceLeDiff, Nat.reduceLT, Nat.reduceBEq, Int.reduceLT, Int.reduceLE, Int.reduceGT, Int.reduceGE, Int.reduceEq, Int.reduceNe, Int.reduceBEq, Int.reduceBNe, Int.reduceAdd, Int.reduceSub, Int.reduceMul, Int.reduceToNat, Int.reduceNeg, ↓reduceIte, ↓reduceDIte, hl, k1, k3, k4, g1, hsrc, h6, h7, hlen, *]) | (refine GT_introT (fun hc => ?_) (fun hc => ?_) <;> simp -dsimp only [go_sem, Nat.reduceEqDiff, Nat.reduceAdd, Nat.reduceSub, Nat.reduceMul, Nat.reduceLeDiff, Nat.reduceLT, Nat.reduceBEq, Int.reduceLT, Int.reduceLE, Int.reduceGT, Int.reduceGE, Int.reduceEq, Int.reduceNe, Int.reduceBEq, Int.reduceBNe, Int.reduceAdd, Int.reduceSub, Int.reduceMul, Int.reduceToNat, Int.reduceNeg, ↓reduceIte, ↓reduceDIte, hl, k1, k3, k4, g1, hsrc, h6, h7, hlen, *]) | (refine GT_introF (fun hc => ?_) (fun hc => ?_) <;> simp -dsimp only [go_sem, Nat.reduceEqDiff, Nat.reduceAdd, Nat.reduceSub, Nat.reduceMul, Nat.reduceLeDiff, Nat.reduceLT, Nat.reduceBEq, Int.reduceLT, Int.reduceLE, Int.reduceGT, Int.reduceGE, Int.reduceEq, Int.reduceNe, Int.reduceBEq, Int.reduceBNe, Int.reduceAdd, Int.reduceSub, Int.reduceMul, Int.reduceToNat, Int.reduceNeg, ↓reduceIte, ↓reduceDIte, hl, k1, k3, k4, g1, hsrc, h6, h7, hlen, *])))
    · rw [show m.swaps a v0 = true by simp [MV.swaps, hbad, hc]]
      refine RefRes.new (by omega) ?_
      simp [get_app, get_app0, MV.setw, List.map_set]
    · rw [show m.swaps a v0 = false by simp [MV.swaps, hbad, hc2]]
      refine RefRes.new (by omega) ?_
      simp [get_app, get_app0, MV.setw, List.map_set]
  · rw [MV.use_bad hbad]
    simp -dsimp only [go_sem, Nat.reduceEqDiff, Nat.reduceAdd, Nat.reduceSub, Nat.reduceMul, Nat.reduceLeDiff, Nat.reduceLT, Nat.reduceBEq, Int.reduceLT, Int.reduceLE, Int.reduceGT, Int.reduceGE, Int.reduceEq, Int.reduceNe, Int.reduceBEq, Int.reduceBNe, Int.reduceAdd, Int.reduceSub, Int.reduceMul, Int.reduceToNat, Int.reduceNeg, ↓reduceIte, ↓reduceDIte, hl]
    cases hf : m.fell
    · simp -dsimp only [go_sem, Nat.reduceEqDiff, Nat.reduceAdd, Nat.reduceSub, Nat.reduceMul, Nat.reduceLeDiff, Nat.reduceLT, Nat.reduceBEq, Int.reduceLT, Int.reduceLE, Int.reduceGT, Int.reduceGE, Int.reduceEq, Int.reduceNe, Int.reduceBEq, Int.reduceBNe, Int.reduceAdd, Int.reduceSub, Int.reduceMul, Int.reduceToNat, Int.reduceNeg, ↓reduceIte, ↓reduceDIte, hl, hf]
      have e : (m.tick 2).fall a = { m.tick 2 with trap := a, fell := true } := by
        simp only [MV.fall, hT.2.2.1, hf]; rfl
      rw [e]
      rw [show m.swaps a v0 = false by simp [MV.swaps, hbad]]
      exact RefRes.same h hT.1
    · simp -dsimp only [go_sem, Nat.reduceEqDiff, Nat.reduceAdd, Nat.reduceSub, Nat.reduceMul, Nat.reduceLeDiff, Nat.reduceLT, Nat.reduceBEq, Int.reduceLT, Int.reduceLE, Int.reduceGT, Int.reduceGE, Int.reduceEq, Int.reduceNe, Int.reduceBEq, Int.reduceBNe, Int.reduceAdd, Int.reduceSub, Int.reduceMul, Int.reduceToNat, Int.reduceNeg, ↓reduceIte, ↓reduceDIte, hl, hf]
      have e : (m.tick 2).fall a = { m.tick 2 with fell := true } := by
        have hf2 := hT.2.2.1.trans hf
        rw [MV.fall, if_pos hf2]
        exact MV.fell_eta hf2
      rw [e]
      rw [show m.swaps a v0 = false by simp [MV.swaps, hbad]]
      exact RefRes.same h hT.1
theorem refstep3_ev (hl : lim ≤ H.length) (h : RefAt H aw ab n m) {a : Int} {v0 v1 v2 v3 : BitVec 64} :
    callE T 31 lim [refV aw ab n m, .agg #[i64 3, i64 a, w64 v0, w64 v1, w64 v2, w64 v3]] H fun v H' => RefRes H H' aw ab n (m.use 3 a (· + v0), m.load a, false) v := by
  refine callE_stay rfl (by simp) rfl ?_
  have hT := MV.tick_w m 3
  have h2 : RefAt H aw ab n (m.tick 3) := ⟨by rw [hT.1]; exact h.ws, by rw [hT.2.1]; exact h.bs, by rw [hT.1]; exact h.len, by rw [hT.2.1]; exact h.bar, h.le⟩
  have hlen := h.len
  have hle := h.le
  simp -dsimp only [go_sem, Nat.reduceEqDiff, Nat.reduceAdd, Nat.reduceSub, Nat.reduceMul, Nat.reduceLeDiff, Nat.reduceLT, Nat.reduceBEq, Int.reduceLT, Int.reduceLE, Int.reduceGT, Int.reduceGE, Int.reduceEq, Int.reduceNe, Int.reduceBEq, Int.reduceBNe, Int.reduceAdd, Int.reduceSub, Int.reduceMul, Int.reduceToNat, Int.reduceNeg, ↓reduceIte, ↓reduceDIte, hl]
  refine CT_val (refbad_ev (h2.app _)) ?_
  rw [MV.bad_tick]
  cases hbad : m.bad a
  · obtain ⟨k1, k2, _⟩ := MV.bad_false hbad
    have k3 : a < (n : Int) := by omega
    have k4 : a.toNat + 1 ≤ n := by omega
    obtain ⟨bw, ow, rfl, _, hg⟩ := h.ws.all (by simp; omega)
    have g1 := fun t => hg t a.toNat _ (MV.at_get hbad)
    have hsrc := fun t => (h.ws.app t).src (m := 1) (n := n) (cap := n) (by omega) (by simp [hlen])
    have h6 : n * 8 ≤ 140737488355328 := by omega
    have h7 : n ≤ 140737488355328 := by omega
    rw [MV.use_ok hbad]
    simp -dsimp only [go_sem, Nat.reduceEqDiff, Nat.reduceAdd, Nat.reduceSub, Nat.reduceMul, Nat.reduceLeDiff, Nat.reduceLT, Nat.reduceBEq, Int.reduceLT, Int.reduceLE, Int.reduceGT, Int.reduceGE, Int.reduceEq, Int.reduceNe, Int.reduceBEq, Int.reduceBNe, Int.reduceAdd, Int.reduceSub, Int.reduceMul, Int.reduceToNat, Int.reduceNeg, ↓reduceIte, ↓reduceDIte, hl, k1, k3, k4, g1, hsrc, h6, h7, hlen]
    rw [show m.load a = m.at a by simp [MV.load, hbad]]
    refine RefRes.new (by omega) ?_
    simp [get_app, get_app0, MV.setw, List.map_set]
  · rw [MV.use_bad hbad]
    simp -dsimp only [go_sem, Nat.reduceEqDiff, Nat.reduceAdd, Nat.reduceSub, Nat.reduceMul, Nat.reduceLeDiff, Nat.reduceLT, Nat.reduceBEq, Int.reduceLT, Int.reduceLE, Int.reduceGT, Int.reduceGE, Int.reduceEq, Int.reduceNe, Int.reduceBEq, Int.reduceBNe, Int.reduceAdd, Int.reduceSub, Int.reduceMul, Int.reduceToNat, Int.reduceNeg, ↓reduceIte, ↓reduceDIte, hl]
    cases hf : m.fell
    · simp -dsimp only [go_sem, Nat.reduceEqDiff, Nat.reduceAdd, Nat.reduceSub, Nat.reduceMul, Nat.reduceLeDiff, Nat.reduceLT, Nat.reduceBEq, Int.reduceLT, Int.reduceLE, Int.reduceGT, Int.reduceGE, Int.reduceEq, Int.reduceNe, Int.reduceBEq, Int.reduceBNe, Int.reduceAdd, Int.reduceSub, Int.reduceMul, Int.reduceToNat, Int.reduceNeg, ↓reduceIte, ↓reduceDIte, hl, hf]
      have e : (m.tick 3).fall a = { m.tick 3 with trap := a, fell := true } := by
        simp only [MV.fall, hT.2.2.1, hf]; rfl
      rw [e]
      rw [show m.load a = 0#64 by simp [MV.load, hbad]]
      exact RefRes.same h hT.1
    · simp -dsimp only [go_sem, Nat.reduceEqDiff, Nat.reduceAdd, Nat.reduceSub, Nat.reduceMul, Nat.reduceLeDiff, Nat.reduceLT, Nat.reduceBEq, Int.reduceLT, Int.reduceLE, Int.reduceGT, Int.reduceGE, Int.reduceEq, Int.reduceNe, Int.reduceBEq, Int.reduceBNe, Int.reduceAdd, Int.reduceSub, Int.reduceMul, Int.reduceToNat, Int.reduceNeg, ↓reduceIte, ↓reduceDIte, hl, hf]
      have e : (m.tick 3).fall a = { m.tick 3 with fell := true } := by
        have hf2 := hT.2.2.1.trans hf
        rw [MV.fall, if_pos hf2]
        exact MV.fell_eta hf2
      rw [e]
      rw [show m.load a = 0#64 by simp [MV.load, hbad]]
      exact RefRes.same h hT.1
theorem refstep4_ev (hl : lim ≤ H.length) (h : RefAt H aw ab n m) {a : Int} {v0 v1 v2 v3 : BitVec 64} :
    callE T 31 lim [refV aw ab n m, .agg #[i64 4, i64 a, w64 v0, w64 v1, w64 v2, w64 v3]] H fun v H' => RefRes H H' aw ab n (m.use 4 a (· ||| v0), m.load a, false) v := by
  refine callE_stay rfl (by simp) rfl ?_
  have hT := MV.tick_w m 4
  have h2 : RefAt H aw ab n (m.tick 4) := ⟨by rw [hT.1]; exact h.ws, by rw [hT.2.1]; exact h.bs, by rw [hT.1]; exact h.len, by rw [hT.2.1]; exact h.bar, h.le⟩
  have hlen := h.len
  have hle := h.le
  simp -dsimp only [go_sem, Nat.reduceEqDiff, Nat.reduceAdd, Nat.reduceSub, Nat.reduceMul, Nat.reduceLeDiff, Nat.reduceLT, Nat.reduceBEq, Int.reduceLT, Int.reduceLE, Int.reduceGT, Int.reduceGE, Int.reduceEq, Int.reduceNe, Int.reduceBEq, Int.reduceBNe, Int.reduceAdd, Int.reduceSub, Int.reduceMul, Int.reduceToNat, Int.reduceNeg, ↓reduceIte, ↓reduceDIte, hl]
  refine CT_val (refbad_ev (h2.app _)) ?_
  rw [MV.bad_tick]
  cases hbad : m.bad a
  · obtain ⟨k1, k2, _⟩ := MV.bad_false hbad
    have k3 : a < (n : Int) := by omega
    have k4 : a.toNat + 1 ≤ n := by omega
    obtain ⟨bw, ow, rfl, _, hg⟩ := h.ws.all (by simp; omega)
    have g1 := fun t => hg t a.toNat _ (MV.at_get hbad)
    have hsrc := fun t => (h.ws.app t).src (m := 1) (n := n) (cap := n) (by omega) (by simp [hlen])
    have h6 : n * 8 ≤ 140737488355328 := by omega
    have h7 : n ≤ 140737488355328 := by omega
    rw [MV.use_ok hbad]
    simp -dsimp only [go_sem, Nat.reduceEqDiff, Nat.reduceAdd, Nat.reduceSub, Nat.reduceMul, Nat.reduceLeDiff, Nat.reduceLT, Nat.reduceBEq, Int.reduceLT, Int.reduceLE, Int.reduceGT, Int.reduceGE, Int.reduceEq, Int.reduceNe, Int.reduceBEq, Int.reduceBNe, Int.reduceAdd, Int.reduceSub, Int.reduceMul, Int.reduceToNat, Int.reduceNeg, ↓reduceIte, ↓reduceDIte, hl, k1, k3, k4, g1, hsrc, h6, h7, hlen]
    rw [show m.load a = m.at a by simp [MV.load, hbad]]
    refine RefRes.new (by omega) ?_
    simp [get_app, get_app0, MV.setw, List.map_set]
  · rw [MV.use_bad hbad]
    simp -dsimp only [go_sem, Nat.reduceEqDiff, Nat.reduceAdd, Nat.reduceSub, Nat.reduceMul, Nat.reduceLeDiff, Nat.reduceLT, Nat.reduceBEq, Int.reduceLT, Int.reduceLE, Int.reduceGT, Int.reduceGE, Int.reduceEq, Int.reduceNe, Int.reduceBEq, Int.reduceBNe, Int.reduceAdd, Int.reduceSub, Int.reduceMul, Int.reduceToNat, Int.reduceNeg, ↓reduceIte, ↓reduceDIte, hl]
    cases hf : m.fell
    · simp -dsimp only [go_sem, Nat.reduceEqDiff, Nat.reduceAdd, Nat.reduceSub, Nat.reduceMul, Nat.reduceLeDiff, Nat.reduceLT, Nat.reduceBEq, Int.reduceLT, Int.reduceLE, Int.reduceGT, Int.reduceGE, Int.reduceEq, Int.reduceNe, Int.reduceBEq, Int.reduceBNe, Int.reduceAdd, Int.reduceSub, Int.reduceMul, Int.reduceToNat, Int.reduceNeg, ↓reduceIte, ↓reduceDIte, hl, hf]
      have e : (m.tick 4).fall a = { m.tick 4 with trap := a, fell := true } := by
        simp only [MV.fall, hT.2.2.1, hf]; rfl
      rw [e]
      rw [show m.load a = 0#64 by simp [MV.load, hbad]]
      exact RefRes.same h hT.1
    · simp -dsimp only [go_sem, Nat.reduceEqDiff, Nat.reduceAdd, Nat.reduceSub, Nat.reduceMul, Nat.reduceLeDiff, Nat.reduceLT, Nat.reduceBEq, Int.reduceLT, Int.reduceLE, Int.reduceGT, Int.reduceGE, Int.reduceEq, Int.reduceNe, Int.reduceBEq, Int.reduceBNe, Int.reduceAdd, Int.reduceSub, Int.reduceMul, Int.reduceToNat, Int.reduceNeg, ↓reduceIte, ↓reduceDIte, hl, hf]
      have e : (m.tick 4).fall a = { m.tick 4 with fell := true } := by
        have hf2 := hT.2.2.1.trans hf
        rw [MV.fall, if_pos hf2]
        exact MV.fell_eta hf2
      rw [e]
      rw [show m.load a = 0#64 by simp [MV.load, hbad]]
      exact RefRes.same h hT.1
set_option maxRecDepth 100000 in
theorem refstep5_ev (hl : lim ≤ H.length) (h : RefAt H aw ab n m) {a : Int} {v0 v1 v2 v3 : BitVec 64} :
    callE T 31 lim [refV aw ab n m, .agg #[i64 5, i64 a, w64 v0, w64 v1, w64 v2, w64 v3]] H fun v H' => RefRes H H' aw ab n (m.pair a v0 v1 v2 v3, 0#64, m.pairs a v0 v1) v := by
  refine callE_stay rfl (by simp) rfl ?_
  have hT := MV.tick_w m 5
  have h2 : RefAt H aw ab n (m.tick 5) := ⟨by rw [hT.1]; exact h.ws, by rw [hT.2.1]; exact h.bs, by rw [hT.1]; exact h.len, by rw [hT.2.1]; exact h.bar, h.le⟩
  have hlen := h.len
  have hle := h.le
  have h02 : ¬ (2 : Int) = 0 := by decide
  simp -dsimp only [go_sem, Nat.reduceEqDiff, Nat.reduceAdd, Nat.reduceSub, Nat.reduceMul, Nat.reduceLeDiff, Nat.reduceLT, Nat.reduceBEq, Int.reduceLT, Int.reduceLE, Int.reduceGT, Int.reduceGE, Int.reduceEq, Int.reduceNe, Int.reduceBEq, Int.reduceBNe, Int.reduceAdd, Int.reduceSub, Int.reduceMul, Int.reduceToNat, Int.reduceNeg, ↓reduceIte, ↓reduceDIte, hl]
  refine CT_val (refbad_ev (h2.app _)) ?_
  rw [MV.bad_tick]
  cases hbad : m.bad a
  · obtain ⟨k1, k2, _⟩ := MV.bad_false hbad
    have k3 : a < (n : Int) := by omega
    have k4 : a.toNat + 1 ≤ n := by omega
    have hw : IntKind.i64.wrap (a + 1) = a + 1 := wrap_i64 (by omega) (by omega)
    obtain ⟨bw, ow, rfl, _, hg⟩ := h.ws.all (by simp; omega)
    have g1 := fun t => hg t a.toNat _ (MV.at_get hbad)
    have hsrc := fun t => (h.ws.app t).src (m := 1) (n := n) (cap := n) (by omega) (by simp [hlen])
    have h6 : n * 8 ≤ 140737488355328 := by omega
    have h7 : n ≤ 140737488355328 := by omega
    by_cases hodd : a.tmod 2 = 0
    · have hodd2 : (a.tmod 2 != 0) = false := by simp [hodd]
      simp -dsimp only [go_sem, Nat.reduceEqDiff, Nat.reduceAdd, Nat.reduceSub, Nat.reduceMul, Nat.reduceLeDiff, Nat.reduceLT, Nat.reduceBEq, Int.reduceLT, Int.reduceLE, Int.reduceGT, Int.reduceGE, Int.reduceEq, Int.reduceNe, Int.reduceBEq, Int.reduceBNe, Int.reduceAdd, Int.reduceSub, Int.reduceMul, Int.reduceToNat, Int.reduceNeg, ↓reduceIte, ↓reduceDIte, hl, h02, hodd, hw]
      refine CT_val (refbad_ev (h2.app _)) ?_
      rw [MV.bad_tick]
      cases hbad2 : m.bad (a + 1)
      · obtain ⟨k5, k6, _⟩ := MV.bad_false hbad2
        have g2 := fun t => hg t (a + 1).toNat _ (MV.at_get hbad2)
        have q4 : (a + 1).toNat = a.toNat + 1 := by omega
        have k7 : 0 ≤ a + 1 := by omega
        have k8 : a + 1 < (n : Int) := by omega
        have k9 : a.toNat + 1 + 1 ≤ n := by omega
        rw [q4] at g2
        have g2' := fun t => g2 t
        simp only [← Nat.add_assoc] at g2'
        rw [MV.pair, if_neg (by simp [hbad, hodd]), if_neg (by simp [hbad2])]
        by_cases hx : m.at a = v0
        · by_cases hy : m.at (a + 1) = v1
          · subst hx hy
            have hps : m.pairs a (m.at a) (m.at (a + 1)) = true := by simp [MV.pairs, hbad, hbad2, hodd]
            rw [if_pos ⟨rfl, rfl⟩, hps]
            simp -dsimp only [go_sem, Nat.reduceEqDiff, Nat.reduceAdd, Nat.reduceSub, Nat.reduceMul, Nat.reduceLeDiff, Nat.reduceLT, Nat.reduceBEq, Int.reduceLT, Int.reduceLE, Int.reduceGT, Int.reduceGE, Int.reduceEq, Int.reduceNe, Int.reduceBEq, Int.reduceBNe, Int.reduceAdd, Int.reduceSub, Int.reduceMul, Int.reduceToNat, Int.reduceNeg, ↓reduceIte, ↓reduceDIte, hl, k1, k3, k4, k5, k7, k8, k9, q4, g1, g2, g2', hsrc, h6, h7, hlen, hw]
            refine ⟨by simp; omega, ?_⟩
            refine RefRes.new (by omega) ?_
            simp [get_app, get_app0, MV.setw, List.map_set, q4]
          · subst hx
            have hy2 : (m.at (a + 1) == v1) = false := by simpa using hy
            have hps : m.pairs a (m.at a) v1 = false := by simp [MV.pairs, hy]
            rw [if_neg (by simp [hy]), hps]
            simp -dsimp only [go_sem, Nat.reduceEqDiff, Nat.reduceAdd, Nat.reduceSub, Nat.reduceMul, Nat.reduceLeDiff, Nat.reduceLT, Nat.reduceBEq, Int.reduceLT, Int.reduceLE, Int.reduceGT, Int.reduceGE, Int.reduceEq, Int.reduceNe, Int.reduceBEq, Int.reduceBNe, Int.reduceAdd, Int.reduceSub, Int.reduceMul, Int.reduceToNat, Int.reduceNeg, ↓reduceIte, ↓reduceDIte, hl, k1, k3, k4, k5, k7, k8, k9, q4, g1, g2, g2', hsrc, h6, h7, hlen, hw, hy2]
            refine RefRes.new (by omega) ?_
            have e3 : (m.w.map w64).set a.toNat (w64 (m.at a)) = m.w.map w64 := by rw [← List.map_set, MV.set_at hbad]
            simp [get_app, get_app0, e3, hT.1]
        · have hx2 : (m.at a == v0) = false := by simpa using hx
          have hps : m.pairs a v0 v1 = false := by simp [MV.pairs, hx]
          rw [if_neg (by simp [hx]), hps]
          simp -dsimp only [go_sem, Nat.reduceEqDiff, Nat.reduceAdd, Nat.reduceSub, Nat.reduceMul, Nat.reduceLeDiff, Nat.reduceLT, Nat.reduceBEq, Int.reduceLT, Int.reduceLE, Int.reduceGT, Int.reduceGE, Int.reduceEq, Int.reduceNe, Int.reduceBEq, Int.reduceBNe, Int.reduceAdd, Int.reduceSub, Int.reduceMul, Int.reduceToNat, Int.reduceNeg, ↓reduceIte, ↓reduceDIte, hl, k1, k3, k4, k5, k7, k8, k9, q4, g1, g2, g2', hsrc, h6, h7, hlen, hw, hx2]
          refine RefRes.new (by omega) ?_
          have e3 : (m.w.map w64).set a.toNat (w64 (m.at a)) = m.w.map w64 := by rw [← List.map_set, MV.set_at hbad]
          simp [get_app, get_app0, e3, hT.1]
      · rw [MV.pair, if_neg (by simp [hbad, hodd]), if_pos hbad2, show m.pairs a v0 v1 = false by simp [MV.pairs, hbad2]]
        simp -dsimp only [go_sem, Nat.reduceEqDiff, Nat.reduceAdd, Nat.reduceSub, Nat.reduceMul, Nat.reduceLeDiff, Nat.reduceLT, Nat.reduceBEq, Int.reduceLT, Int.reduceLE, Int.reduceGT, Int.reduceGE, Int.reduceEq, Int.reduceNe, Int.reduceBEq, Int.reduceBNe, Int.reduceAdd, Int.reduceSub, Int.reduceMul, Int.reduceToNat, Int.reduceNeg, ↓reduceIte, ↓reduceDIte, hl, hw]
        cases hf : m.fell
        · simp -dsimp only [go_sem, Nat.reduceEqDiff, Nat.reduceAdd, Nat.reduceSub, Nat.reduceMul, Nat.reduceLeDiff, Nat.reduceLT, Nat.reduceBEq, Int.reduceLT, Int.reduceLE, Int.reduceGT, Int.reduceGE, Int.reduceEq, Int.reduceNe, Int.reduceBEq, Int.reduceBNe, Int.reduceAdd, Int.reduceSub, Int.reduceMul, Int.reduceToNat, Int.reduceNeg, ↓reduceIte, ↓reduceDIte, hl, hf, hw]
          have e : (m.tick 5).fall (a + 1) = { m.tick 5 with trap := (a + 1), fell := true } := by
            simp only [MV.fall, hT.2.2.1, hf]; rfl
          rw [e]
          exact RefRes.same h hT.1
        · simp -dsimp only [go_sem, Nat.reduceEqDiff, Nat.reduceAdd, Nat.reduceSub, Nat.reduceMul, Nat.reduceLeDiff, Nat.reduceLT, Nat.reduceBEq, Int.reduceLT, Int.reduceLE, Int.reduceGT, Int.reduceGE, Int.reduceEq, Int.reduceNe, Int.reduceBEq, Int.reduceBNe, Int.reduceAdd, Int.reduceSub, Int.reduceMul, Int.reduceToNat, Int.reduceNeg, ↓reduceIte, ↓reduceDIte, hl, hf, hw]
          have e : (m.tick 5).fall (a + 1) = { m.tick 5 with fell := true } := by
            have hf2 := hT.2.2.1.trans hf
            rw [MV.fall, if_pos hf2]
            exact MV.fell_eta hf2
          rw [e]
          exact RefRes.same h hT.1
    · have hodd2 : (a.tmod 2 == 0) = false := by simpa using hodd
      have hodd3 : (a.tmod 2 != 0) = true := by simpa using hodd
      rw [MV.pair, if_pos (Or.inr hodd), show m.pairs a v0 v1 = false by simp [MV.pairs, hodd]]
      simp -dsimp only [go_sem, Nat.reduceEqDiff, Nat.reduceAdd, Nat.reduceSub, Nat.reduceMul, Nat.reduceLeDiff, Nat.reduceLT, Nat.reduceBEq, Int.reduceLT, Int.reduceLE, Int.reduceGT, Int.reduceGE, Int.reduceEq, Int.reduceNe, Int.reduceBEq, Int.reduceBNe, Int.reduceAdd, Int.reduceSub, Int.reduceMul, Int.reduceToNat, Int.reduceNeg, ↓reduceIte, ↓reduceDIte, hl, h02, hodd3]
      cases hf : m.fell
      · simp -dsimp only [go_sem, Nat.reduceEqDiff, Nat.reduceAdd, Nat.reduceSub, Nat.reduceMul, Nat.reduceLeDiff, Nat.reduceLT, Nat.reduceBEq, Int.reduceLT, Int.reduceLE, Int.reduceGT, Int.reduceGE, Int.reduceEq, Int.reduceNe, Int.reduceBEq, Int.reduceBNe, Int.reduceAdd, Int.reduceSub, Int.reduceMul, Int.reduceToNat, Int.reduceNeg, ↓reduceIte, ↓reduceDIte, hl, hf]
        have e : (m.tick 5).fall a = { m.tick 5 with trap := a, fell := true } := by
          simp only [MV.fall, hT.2.2.1, hf]; rfl
        rw [e]
        exact RefRes.same h hT.1
      · simp -dsimp only [go_sem, Nat.reduceEqDiff, Nat.reduceAdd, Nat.reduceSub, Nat.reduceMul, Nat.reduceLeDiff, Nat.reduceLT, Nat.reduceBEq, Int.reduceLT, Int.reduceLE, Int.reduceGT, Int.reduceGE, Int.reduceEq, Int.reduceNe, Int.reduceBEq, Int.reduceBNe, Int.reduceAdd, Int.reduceSub, Int.reduceMul, Int.reduceToNat, Int.reduceNeg, ↓reduceIte, ↓reduceDIte, hl, hf]
        have e : (m.tick 5).fall a = { m.tick 5 with fell := true } := by
          have hf2 := hT.2.2.1.trans hf
          rw [MV.fall, if_pos hf2]
          exact MV.fell_eta hf2
        rw [e]
        exact RefRes.same h hT.1
  · rw [MV.pair, if_pos (Or.inl hbad), show m.pairs a v0 v1 = false by simp [MV.pairs, hbad]]
    simp -dsimp only [go_sem, Nat.reduceEqDiff, Nat.reduceAdd, Nat.reduceSub, Nat.reduceMul, Nat.reduceLeDiff, Nat.reduceLT, Nat.reduceBEq, Int.reduceLT, Int.reduceLE, Int.reduceGT, Int.reduceGE, Int.reduceEq, Int.reduceNe, Int.reduceBEq, Int.reduceBNe, Int.reduceAdd, Int.reduceSub, Int.reduceMul, Int.reduceToNat, Int.reduceNeg, ↓reduceIte, ↓reduceDIte, hl]
    cases hf : m.fell
    · simp -dsimp only [go_sem, Nat.reduceEqDiff, Nat.reduceAdd, Nat.reduceSub, Nat.reduceMul, Nat.reduceLeDiff, Nat.reduceLT, Nat.reduceBEq, Int.reduceLT, Int.reduceLE, Int.reduceGT, Int.reduceGE, Int.reduceEq, Int.reduceNe, Int.reduceBEq, Int.reduceBNe, Int.reduceAdd, Int.reduceSub, Int.reduceMul, Int.reduceToNat, Int.reduceNeg, ↓reduceIte, ↓reduceDIte, hl, hf]
      have e : (m.tick 5).fall a = { m.tick 5 with trap := a, fell := true } := by
        simp only [MV.fall, hT.2.2.1, hf]; rfl
      rw [e]
      exact RefRes.same h hT.1
    · simp -dsimp only [go_sem, Nat.reduceEqDiff, Nat.reduceAdd, Nat.reduceSub, Nat.reduceMul, Nat.reduceLeDiff, Nat.reduceLT, Nat.reduceBEq, Int.reduceLT, Int.reduceLE, Int.reduceGT, Int.reduceGE, Int.reduceEq, Int.reduceNe, Int.reduceBEq, Int.reduceBNe, Int.reduceAdd, Int.reduceSub, Int.reduceMul, Int.reduceToNat, Int.reduceNeg, ↓reduceIte, ↓reduceDIte, hl, hf]
      have e : (m.tick 5).fall a = { m.tick 5 with fell := true } := by
        have hf2 := hT.2.2.1.trans hf
        rw [MV.fall, if_pos hf2]
        exact MV.fell_eta hf2
      rw [e]
      exact RefRes.same h hT.1
theorem refstep_ev (hl : lim ≤ H.length) (h : RefAt H aw ab n m) {kind a : Int} {v0 v1 v2 v3 : BitVec 64} :
    callE T 31 lim [refV aw ab n m, .agg #[i64 kind, i64 a, w64 v0, w64 v1, w64 v2, w64 v3]] H fun v H' => RefRes H H' aw ab n (m.step kind a v0 v1 v2 v3) v := by
  by_cases hk : kind = 0
  · subst hk; exact refstep0_ev hl h
  by_cases hk : kind = 1
  · subst hk; exact refstep1_ev hl h
  by_cases hk : kind = 2
  · subst hk; exact refstep2_ev hl h
  by_cases hk : kind = 3
  · subst hk; exact refstep3_ev hl h
  by_cases hk : kind = 4
  · subst hk; exact refstep4_ev hl h
  by_cases hk : kind = 5
  · subst hk; exact refstep5_ev hl h
  have e : m.step kind a v0 v1 v2 v3 = (m, 0#64, false) := by simp [MV.step, *]
  rw [e]
  refine callE_stay rfl (by simp) rfl ?_
  by_cases hn : kind < 0
  · simp -dsimp only [go_sem, Nat.reduceEqDiff, Nat.reduceAdd, Nat.reduceSub, Nat.reduceMul, Nat.reduceLeDiff, Nat.reduceLT, Nat.reduceBEq, Int.reduceLT, Int.reduceLE, Int.reduceGT, Int.reduceGE, Int.reduceEq, Int.reduceNe, Int.reduceBEq, Int.reduceBNe, Int.reduceAdd, Int.reduceSub, Int.reduceMul, Int.reduceToNat, Int.reduceNeg, ↓reduceIte, ↓reduceDIte, hl, hn]
    exact RefRes.same h rfl
  · have h5 : 5 < kind := by omega
    simp -dsimp only [go_sem, Nat.reduceEqDiff, Nat.reduceAdd, Nat.reduceSub, Nat.reduceMul, Nat.reduceLeDiff, Nat.reduceLT, Nat.reduceBEq, Int.reduceLT, Int.reduceLE, Int.reduceGT, Int.reduceGE, Int.reduceEq, Int.reduceNe, Int.reduceBEq, Int.reduceBNe, Int.reduceAdd, Int.reduceSub, Int.reduceMul, Int.reduceToNat, Int.reduceNeg, ↓reduceIte, ↓reduceDIte, hl, hn, h5]
    exact RefRes.same h rfl
theorem refnew_ev {k : Int} (hl : lim ≤ H.length) : callE T 8 lim [i64 k] H fun v H' =>
    if k < 1 ∨ 65536 < k then (∃ m t, v = .tuple #[refV none none 0 m, i64 2] ∧ H' = H ++ t)
    else ∃ a1 a2 t, v = .tuple #[refV a1 a2 k.toNat (MV.new k.toNat), i64 0] ∧ H' = H ++ t ∧ RefAt (H ++ t) a1 a2 k.toNat (MV.new k.toNat) ∧ Own 1 (H ++ t) H.length a1 ((MV.new k.toNat).w.map w64) ∧ Fresh H.length a2 := by
  refine callE_stay rfl (by simp) rfl ?_
  simp -dsimp only [go_sem, Nat.reduceEqDiff, Nat.reduceAdd, Nat.reduceSub, Nat.reduceMul, Nat.reduceLeDiff, Nat.reduceLT, Nat.reduceBEq, Int.reduceLT, Int.reduceLE, Int.reduceGT, Int.reduceGE, Int.reduceEq, Int.reduceNe, Int.reduceBEq, Int.reduceBNe, Int.reduceAdd, Int.reduceSub, Int.reduceMul, Int.reduceToNat, Int.reduceNeg, ↓reduceIte, ↓reduceDIte]
  by_cases h1 : k < 1
  · simp -dsimp only [go_sem, Nat.reduceEqDiff, Nat.reduceAdd, Nat.reduceSub, Nat.reduceMul, Nat.reduceLeDiff, Nat.reduceLT, Nat.reduceBEq, Int.reduceLT, Int.reduceLE, Int.reduceGT, Int.reduceGE, Int.reduceEq, Int.reduceNe, Int.reduceBEq, Int.reduceBNe, Int.reduceAdd, Int.reduceSub, Int.reduceMul, Int.reduceToNat, Int.reduceNeg, ↓reduceIte, ↓reduceDIte, h1]
    exact ⟨⟨[], [], 0, 0, 0, 0, 0, 0, 0, false⟩, _, rfl, rfl⟩
  · by_cases h2 : 65536 < k
    · simp -dsimp only [go_sem, Nat.reduceEqDiff, Nat.reduceAdd, Nat.reduceSub, Nat.reduceMul, Nat.reduceLeDiff, Nat.reduceLT, Nat.reduceBEq, Int.reduceLT, Int.reduceLE, Int.reduceGT, Int.reduceGE, Int.reduceEq, Int.reduceNe, Int.reduceBEq, Int.reduceBNe, Int.reduceAdd, Int.reduceSub, Int.reduceMul, Int.reduceToNat, Int.reduceNeg, ↓reduceIte, ↓reduceDIte, h1, h2]
      exact ⟨⟨[], [], 0, 0, 0, 0, 0, 0, 0, false⟩, _, rfl, rfl⟩
    · have h3 : 0 ≤ k ∧ k ≤ k ∧ 8 * k ≤ 281474976710656 ∧ k ≤ 281474976710656 := by omega
      have h4 : 0 ≤ k ∧ k ≤ k ∧ 1 * k ≤ 281474976710656 ∧ k ≤ 281474976710656 := by omega
      simp -dsimp only [go_sem, Nat.reduceEqDiff, Nat.reduceAdd, Nat.reduceSub, Nat.reduceMul, Nat.reduceLeDiff, Nat.reduceLT, Nat.reduceBEq, Int.reduceLT, Int.reduceLE, Int.reduceGT, Int.reduceGE, Int.reduceEq, Int.reduceNe, Int.reduceBEq, Int.reduceBNe, Int.reduceAdd, Int.reduceSub, Int.reduceMul, Int.reduceToNat, Int.reduceNeg, ↓reduceIte, ↓reduceDIte, h1, h2, h3, h4, hl]
      refine ⟨some ⟨H.length + 1, 0, none⟩, some ⟨H.length + 2, 0, none⟩, _, rfl, rfl, ⟨Sl.row (ro := false) ?_, Sl.row (ro := false) ?_, by simp [MV.new], by simp [MV.new], by omega⟩, .inr ⟨_, rfl, by omega, ?_⟩, Fresh.mk (by omega)⟩
      · rw [get_app]; simp [MV.new]
      · rw [get_app]; simp [MV.new]
      · rw [get_app]; simp [MV.new]
/-- The document's Set. -/
def MV.rset (m : MV) (a n : Int) (v : Bool) : MV := if v then m.bars a n true else m.free a n
end
end Go.Proofs.Ytcogpinognopcaa
