/- The statement MemBars. -/
import Derived.Test.YtckfbicepdbafaaE1
namespace Go.Proofs.Ytckfbicepdbafaa
open Go Go.LK
set_option linter.unusedSimpArgs false
set_option linter.unusedVariables false
theorem andK (c : Int) (k : Int) (hk : (BitVec.ofInt IntKind.i64.bits k).toNat ≤ 1000000) : ∃ d : Int, IntKind.i64.wrap ((BitVec.ofInt IntKind.i64.bits c &&& BitVec.ofInt IntKind.i64.bits k).toNat : Int) = d ∧ 0 ≤ d ∧ d ≤ (BitVec.ofInt IntKind.i64.bits k).toNat := by
  have h : (BitVec.ofInt IntKind.i64.bits c &&& BitVec.ofInt IntKind.i64.bits k).toNat ≤ (BitVec.ofInt IntKind.i64.bits k).toNat := by
    rw [BitVec.toNat_and]
    exact Nat.and_le_right
  exact ⟨_, wrap_i64 (by omega) (by omega), by omega, by omega⟩
/-- A memory of eight words of which two are barred. -/
structure Barred2 (m : MV) (p : Nat) (first : Int) : Prop where
  ok : m.Ok 8
  bar : ∀ j : Nat, j < 8 → m.bar[j]? = some (decide (j = p ∨ j = p + 1))
  w0 : m.w[p]? = some 7#64
  w1 : m.w[p + 1]? = some 0#64
  trap : m.trap = first
  fell : m.fell = decide (0 ≤ first)
  fst : first = -1 ∨ 0 ≤ first
theorem Barred2.bad {m : MV} {p : Nat} {first : Int} (h : Barred2 m p first) {a : Nat} (ha : a < 8) : m.bad a = decide (a = p ∨ a = p + 1) := by
  have h1 := h.ok.w
  simp only [MV.bad, List.getD, Int.toNat_natCast, h.bar a ha, Option.getD_some]
  rw [decide_eq_false (by omega), decide_eq_false (by omega)]; rfl
theorem Barred2.use {m : MV} {p : Nat} {first : Int} (h : Barred2 m p first) {a : Nat} (ha : a < 8) (k : Nat) (f : BitVec 64 → BitVec 64) :
    Barred2 (m.use k a f) p (if first < 0 ∧ (a = p ∨ a = p + 1) then a else first) := by
  have hb := h.bad ha
  have ht := MV.tick_w m k
  by_cases e : a = p ∨ a = p + 1
  · rw [decide_eq_true e] at hb
    rw [MV.use_bad hb]
    by_cases hf : first < 0
    · have hfell : (m.tick k).fell = false := by rw [ht.2.2.1, h.fell, decide_eq_false (by omega)]
      rw [if_pos ⟨hf, e⟩]
      have e2 : (m.tick k).fall a = { m.tick k with trap := (a : Int), fell := true } := by simp [MV.fall, hfell]
      rw [e2]
      exact ⟨⟨ht.1 ▸ h.ok.w, by show (m.tick k).bar.length = 8; rw [ht.2.1]; exact h.ok.b, h.ok.pos, h.ok.le⟩, by show ∀ j : Nat, j < 8 → (m.tick k).bar[j]? = _; rw [ht.2.1]; exact h.bar, by show (m.tick k).w[p]? = _; rw [ht.1]; exact h.w0, by show (m.tick k).w[p + 1]? = _; rw [ht.1]; exact h.w1, rfl, by simp, .inr (by omega)⟩
    · have hfell : (m.tick k).fell = true := by rw [ht.2.2.1, h.fell, decide_eq_true (by omega)]
      rw [if_neg (by omega)]
      have e2 : (m.tick k).fall a = m.tick k := by simp [MV.fall, hfell]
      rw [e2]
      exact ⟨⟨ht.1 ▸ h.ok.w, by rw [ht.2.1]; exact h.ok.b, h.ok.pos, h.ok.le⟩, by rw [ht.2.1]; exact h.bar, by rw [ht.1]; exact h.w0, by rw [ht.1]; exact h.w1, ht.2.2.2.trans h.trap, ht.2.2.1.trans h.fell, h.fst⟩
  · rw [decide_eq_false e] at hb
    rw [MV.use_ok hb, if_neg (by omega)]
    have g : ∀ j, j ≠ a → ((m.tick k).setw (m.w.set (a : Int).toNat (f (m.at a)))).w[j]? = m.w[j]? := fun j hj => by
      show (m.w.set _ _)[j]? = _
      rw [List.getElem?_set_ne (by simp; omega)]
    exact ⟨⟨by show (m.w.set _ _).length = 8; rw [List.length_set]; exact h.ok.w, by show (m.tick k).bar.length = 8; rw [ht.2.1]; exact h.ok.b, h.ok.pos, h.ok.le⟩, by show ∀ j : Nat, j < 8 → (m.tick k).bar[j]? = _; rw [ht.2.1]; exact h.bar, by rw [g _ (by omega)]; exact h.w0, by rw [g _ (by omega)]; exact h.w1, ht.2.2.2.trans h.trap, ht.2.2.1.trans h.fell, h.fst⟩
theorem bars_ev {lim : Nat} {at_ : Int} {a : Option Addr} {l : List ActD} {H : LHeap} (hs : Sl 7 H a (l.flatMap ActD.cells)) :
    callE T 6 lim [.slice a l.length l.length, i64 at_] H fun v H' => v = .bool true := by
  refine callE_pop rfl (by simp) rfl ?_
  obtain ⟨p', hp, hp0, hp1⟩ := andK at_ 3 (by decide)
  obtain ⟨p, rfl⟩ := Int.eq_ofNat_of_zero_le hp0
  have hp3 : p ≤ 3 := by
    have : (BitVec.ofInt IntKind.i64.bits 3).toNat = 3 := by decide
    omega
  simp -dsimp only [go_sem, Nat.reduceEqDiff, Nat.reduceAdd, Nat.reduceSub, Nat.reduceMul, Nat.reduceLeDiff, Nat.reduceLT, Nat.reduceBEq, Int.reduceLT, Int.reduceLE, Int.reduceGT, Int.reduceGE, Int.reduceEq, Int.reduceNe, Int.reduceBEq, Int.reduceBNe, Int.reduceAdd, Int.reduceSub, Int.reduceMul, Int.reduceToNat, Int.reduceNeg, ↓reduceIte, ↓reduceDIte]
  refine CT_of (new_ev (by simp)) ?_
  rintro _ _ h
  rw [if_neg (by omega)] at h
  obtain ⟨rfl, rfl⟩ := h
  have c0 := Clean.new (n := 8) (by omega) (by omega)
  simp -dsimp only [go_sem, Nat.reduceEqDiff, Nat.reduceAdd, Nat.reduceSub, Nat.reduceMul, Nat.reduceLeDiff, Nat.reduceLT, Nat.reduceBEq, Int.reduceLT, Int.reduceLE, Int.reduceGT, Int.reduceGE, Int.reduceEq, Int.reduceNe, Int.reduceBEq, Int.reduceBNe, Int.reduceAdd, Int.reduceSub, Int.reduceMul, Int.reduceToNat, Int.reduceNeg, ↓reduceIte, ↓reduceDIte, hp]
  refine CT_of (store_c (mem_at (pre := []) c0.ok) c0 (by omega) (by simp; omega)) ?_
  rintro _ _ ⟨m1, c1, rfl⟩
  simp -dsimp only [go_sem, Nat.reduceEqDiff, Nat.reduceAdd, Nat.reduceSub, Nat.reduceMul, Nat.reduceLeDiff, Nat.reduceLT, Nat.reduceBEq, Int.reduceLT, Int.reduceLE, Int.reduceGT, Int.reduceGE, Int.reduceEq, Int.reduceNe, Int.reduceBEq, Int.reduceBNe, Int.reduceAdd, Int.reduceSub, Int.reduceMul, Int.reduceToNat, Int.reduceNeg, ↓reduceIte, ↓reduceDIte, memPut]
  refine CT_val (bar_ev (mem_at (pre := []) c1.ok)) ?_
  have hmay : m1.may p 2 = 0 := by
    have := c1.ok.w
    simp only [List.length_set, List.length_replicate] at this
    simp only [MV.may, this]
    rw [if_neg (by omega), if_neg (by omega), if_neg (by omega), if_neg (by omega)]
  rw [hmay]
  have hB : Barred2 (m1.bars p 2 true) p (-1) := by
    have h1 := c1.ok.w
    have h2 := c1.ok.b
    have h3 := c1.ws
    simp only [List.length_set, List.length_replicate] at h1 h2
    have e : m1.bars p 2 true = m1.setb (setR m1.bar p 2 true) := by simp [MV.bars, hmay]
    have hg : ∀ j : Nat, j < 8 → m1.w[j]? = some (if j = p then 7#64 else 0#64) := by
      intro j hj
      rw [h3]
      by_cases e : j = p
      · subst e
        rw [if_pos rfl, Int.toNat_natCast, List.getElem?_set_self (by simp; omega)]
      · rw [if_neg e, Int.toNat_natCast, List.getElem?_set_ne (fun q => e q.symm), List.getElem?_replicate, if_pos hj]
    refine ⟨by have := c1.ok.bars p 2 true; simpa using this, ?_, ?_, ?_, ?_, ?_, .inl rfl⟩
    · intro j hj
      rw [e]
      show (setR m1.bar p 2 true)[j]? = _
      rw [setR_get (by omega)]
      by_cases q : p ≤ j ∧ j < p + 2
      · rw [if_pos q, decide_eq_true (by omega)]
      · rw [if_neg q, decide_eq_false (by omega)]
        have hlt : j < m1.bar.length := by omega
        rw [List.getElem?_eq_getElem hlt, c1.bar _ (List.getElem_mem hlt)]
    · rw [e]; show m1.w[p]? = _; rw [hg p (by omega), if_pos rfl]
    · rw [e]; show m1.w[p + 1]? = _; rw [hg (p + 1) (by omega), if_neg (by omega)]
    · rw [e]; exact c1.trap
    · rw [e]; exact c1.fell
  generalize m1.bars p 2 true = m2 at hB ⊢
  simp -dsimp only [go_sem, Nat.reduceEqDiff, Nat.reduceAdd, Nat.reduceSub, Nat.reduceMul, Nat.reduceLeDiff, Nat.reduceLT, Nat.reduceBEq, Int.reduceLT, Int.reduceLE, Int.reduceGT, Int.reduceGE, Int.reduceEq, Int.reduceNe, Int.reduceBEq, Int.reduceBNe, Int.reduceAdd, Int.reduceSub, Int.reduceMul, Int.reduceToNat, Int.reduceNeg, ↓reduceIte, ↓reduceDIte, memPut]
  refine LT_of (fun s : Nat × Int × MV => [(0, .slice a l.length l.length), (1, i64 p), (5, ptr (H.length + 2)), (7, i64 s.2.1), (8, i64 s.1)])
    (fun s => H ++ [wrow s.2.2, brow s.2.2, mrow H.length (H.length + 1) s.2.2]) (fun s => s.1 ≤ 40 ∧ Barred2 s.2.2 p s.2.1) (fun s => 40 - s.1) (0, -1, m2) rfl rfl ⟨by simp, hB⟩ ?_
  rintro ⟨i, first, m⟩ ⟨hi, hb⟩
  simp only at hi hb ⊢
  have hwp : IntKind.i64.wrap ((p : Int) + 1) = ((p + 1 : Nat) : Int) := by rw [wrap_i64] <;> omega
  by_cases hc : i < l.length ∧ i < 40
  · have h1 : (i : Int) < l.length := by omega
    have h2 : (i : Int) < 40 := by omega
    have h3 : 0 ≤ (i : Int) := by omega
    have hw : IntKind.i64.wrap ((i : Int) + 1) = ((i + 1 : Nat) : Int) := by rw [wrap_i64] <;> omega
    have k1 : l[i]? = some (l[i]'hc.1) := List.getElem?_eq_getElem _
    generalize l[i]'hc.1 = c at k1
    obtain ⟨b, o, rfl, hb1, hg1, hg2⟩ := hs.rowsAt (m := 7) ActD.len (by omega) (by omega)
    have g0 := fun t => hg2 t i c 1 k1 (by omega)
    have g1 := fun t => hg2 t i c 0 k1 (by omega)
    have g2 := fun t => hg2 t i c 3 k1 (by omega)
    have g3 := fun t => hg2 t i c 4 k1 (by omega)
    have g4 : ActD.cells c = [i64 c.kind, i64 c.a, i64 c.n, w64 c.v0, w64 c.v1, w64 c.v2, w64 c.v3] := rfl
    simp only [Nat.add_zero] at g1
    obtain ⟨q', hq, hq0, hq1⟩ := andK c.a 7 (by decide)
    obtain ⟨q, rfl⟩ := Int.eq_ofNat_of_zero_le hq0
    have hq7 : q ≤ 7 := by
      have : (BitVec.ofInt IntKind.i64.bits 7).toNat = 7 := by decide
      omega
    obtain ⟨kd, hkd, hkd0, hkd1⟩ := andK c.kind 7 (by decide)
    have hkk : kd.tmod 5 = 0 ∨ kd.tmod 5 = 1 ∨ kd.tmod 5 = 2 ∨ kd.tmod 5 = 3 ∨ kd.tmod 5 = 4 := by
      have r1 := Int.tmod_nonneg 5 hkd0
      have r2 := Int.tmod_lt_of_pos kd (b := 5) (by omega)
      omega
    simp -dsimp only [go_sem, Nat.reduceEqDiff, Nat.reduceAdd, Nat.reduceSub, Nat.reduceMul, Nat.reduceLeDiff, Nat.reduceLT, Nat.reduceBEq, Int.reduceLT, Int.reduceLE, Int.reduceGT, Int.reduceGE, Int.reduceEq, Int.reduceNe, Int.reduceBEq, Int.reduceBNe, Int.reduceAdd, Int.reduceSub, Int.reduceMul, Int.reduceToNat, Int.reduceNeg, ↓reduceIte, ↓reduceDIte, h1, h2, h3, g0, g1, g2, g4, hq, hkd]
    rcases hkk with hkk | hkk | hkk | hkk | hkk
    · simp -dsimp only [go_sem, Nat.reduceEqDiff, Nat.reduceAdd, Nat.reduceSub, Nat.reduceMul, Nat.reduceLeDiff, Nat.reduceLT, Nat.reduceBEq, Int.reduceLT, Int.reduceLE, Int.reduceGT, Int.reduceGE, Int.reduceEq, Int.reduceNe, Int.reduceBEq, Int.reduceBNe, Int.reduceAdd, Int.reduceSub, Int.reduceMul, Int.reduceToNat, Int.reduceNeg, ↓reduceIte, ↓reduceDIte, hkk, h1, h3, g2, g3, g4]
      refine CT_val (load_ev (mem_at (pre := []) hb.ok)) ?_
      have hb2 := hb.use (a := q) (by omega) 0 (id)
      generalize m.use 0 (q : Int) (id) = m' at hb2 ⊢
      simp -dsimp only [go_sem, Nat.reduceEqDiff, Nat.reduceAdd, Nat.reduceSub, Nat.reduceMul, Nat.reduceLeDiff, Nat.reduceLT, Nat.reduceBEq, Int.reduceLT, Int.reduceLE, Int.reduceGT, Int.reduceGE, Int.reduceEq, Int.reduceNe, Int.reduceBEq, Int.reduceBNe, Int.reduceAdd, Int.reduceSub, Int.reduceMul, Int.reduceToNat, Int.reduceNeg, ↓reduceIte, ↓reduceDIte, memPut, hq]
      by_cases hf : first < 0
      · by_cases e1 : q = p
        · subst e1
          rw [if_pos ⟨hf, .inl rfl⟩] at hb2
          simp -dsimp only [go_sem, Nat.reduceEqDiff, Nat.reduceAdd, Nat.reduceSub, Nat.reduceMul, Nat.reduceLeDiff, Nat.reduceLT, Nat.reduceBEq, Int.reduceLT, Int.reduceLE, Int.reduceGT, Int.reduceGE, Int.reduceEq, Int.reduceNe, Int.reduceBEq, Int.reduceBNe, Int.reduceAdd, Int.reduceSub, Int.reduceMul, Int.reduceToNat, Int.reduceNeg, ↓reduceIte, ↓reduceDIte, hf, hq, memPut]
          refine CT_val (trap_ev (mem_at (pre := []) hb2.ok)) ?_
          rw [hb2.trap]
          simp -dsimp only [go_sem, Nat.reduceEqDiff, Nat.reduceAdd, Nat.reduceSub, Nat.reduceMul, Nat.reduceLeDiff, Nat.reduceLT, Nat.reduceBEq, Int.reduceLT, Int.reduceLE, Int.reduceGT, Int.reduceGE, Int.reduceEq, Int.reduceNe, Int.reduceBEq, Int.reduceBNe, Int.reduceAdd, Int.reduceSub, Int.reduceMul, Int.reduceToNat, Int.reduceNeg, ↓reduceIte, ↓reduceDIte, hw]
          exact ⟨⟨i + 1, (q : Int), m'⟩, rfl, rfl, ⟨by dsimp only; omega, hb2⟩, by dsimp only; omega⟩
        · have e1' : ((q : Int) == (p : Int)) = false := by rw [beq_eq_false_iff_ne]; omega
          by_cases e2 : q = p + 1
          · subst e2
            rw [if_pos ⟨hf, .inr rfl⟩] at hb2
            simp -dsimp only [go_sem, Nat.reduceEqDiff, Nat.reduceAdd, Nat.reduceSub, Nat.reduceMul, Nat.reduceLeDiff, Nat.reduceLT, Nat.reduceBEq, Int.reduceLT, Int.reduceLE, Int.reduceGT, Int.reduceGE, Int.reduceEq, Int.reduceNe, Int.reduceBEq, Int.reduceBNe, Int.reduceAdd, Int.reduceSub, Int.reduceMul, Int.reduceToNat, Int.reduceNeg, ↓reduceIte, ↓reduceDIte, hf, hq, e1', hwp, memPut]
            refine CT_val (trap_ev (mem_at (pre := []) hb2.ok)) ?_
            rw [hb2.trap]
            simp -dsimp only [go_sem, Nat.reduceEqDiff, Nat.reduceAdd, Nat.reduceSub, Nat.reduceMul, Nat.reduceLeDiff, Nat.reduceLT, Nat.reduceBEq, Int.reduceLT, Int.reduceLE, Int.reduceGT, Int.reduceGE, Int.reduceEq, Int.reduceNe, Int.reduceBEq, Int.reduceBNe, Int.reduceAdd, Int.reduceSub, Int.reduceMul, Int.reduceToNat, Int.reduceNeg, ↓reduceIte, ↓reduceDIte, hw]
            exact ⟨⟨i + 1, ((p + 1 : Nat) : Int), m'⟩, rfl, rfl, ⟨by dsimp only; omega, hb2⟩, by dsimp only; omega⟩
          · have e2' : ((q : Int) == ((p + 1 : Nat) : Int)) = false := by rw [beq_eq_false_iff_ne]; omega
            rw [if_neg (by omega)] at hb2
            simp -dsimp only [go_sem, Nat.reduceEqDiff, Nat.reduceAdd, Nat.reduceSub, Nat.reduceMul, Nat.reduceLeDiff, Nat.reduceLT, Nat.reduceBEq, Int.reduceLT, Int.reduceLE, Int.reduceGT, Int.reduceGE, Int.reduceEq, Int.reduceNe, Int.reduceBEq, Int.reduceBNe, Int.reduceAdd, Int.reduceSub, Int.reduceMul, Int.reduceToNat, Int.reduceNeg, ↓reduceIte, ↓reduceDIte, hf, hq, e1', e2', hwp, memPut]
            refine CT_val (trap_ev (mem_at (pre := []) hb2.ok)) ?_
            rw [hb2.trap]
            simp -dsimp only [go_sem, Nat.reduceEqDiff, Nat.reduceAdd, Nat.reduceSub, Nat.reduceMul, Nat.reduceLeDiff, Nat.reduceLT, Nat.reduceBEq, Int.reduceLT, Int.reduceLE, Int.reduceGT, Int.reduceGE, Int.reduceEq, Int.reduceNe, Int.reduceBEq, Int.reduceBNe, Int.reduceAdd, Int.reduceSub, Int.reduceMul, Int.reduceToNat, Int.reduceNeg, ↓reduceIte, ↓reduceDIte, hw]
            exact ⟨⟨i + 1, first, m'⟩, rfl, rfl, ⟨by dsimp only; omega, hb2⟩, by dsimp only; omega⟩
      · rw [if_neg (by omega)] at hb2
        simp -dsimp only [go_sem, Nat.reduceEqDiff, Nat.reduceAdd, Nat.reduceSub, Nat.reduceMul, Nat.reduceLeDiff, Nat.reduceLT, Nat.reduceBEq, Int.reduceLT, Int.reduceLE, Int.reduceGT, Int.reduceGE, Int.reduceEq, Int.reduceNe, Int.reduceBEq, Int.reduceBNe, Int.reduceAdd, Int.reduceSub, Int.reduceMul, Int.reduceToNat, Int.reduceNeg, ↓reduceIte, ↓reduceDIte, hf, hq, memPut]
        refine CT_val (trap_ev (mem_at (pre := []) hb2.ok)) ?_
        rw [hb2.trap]
        simp -dsimp only [go_sem, Nat.reduceEqDiff, Nat.reduceAdd, Nat.reduceSub, Nat.reduceMul, Nat.reduceLeDiff, Nat.reduceLT, Nat.reduceBEq, Int.reduceLT, Int.reduceLE, Int.reduceGT, Int.reduceGE, Int.reduceEq, Int.reduceNe, Int.reduceBEq, Int.reduceBNe, Int.reduceAdd, Int.reduceSub, Int.reduceMul, Int.reduceToNat, Int.reduceNeg, ↓reduceIte, ↓reduceDIte, hw]
        exact ⟨⟨i + 1, first, m'⟩, rfl, rfl, ⟨by dsimp only; omega, hb2⟩, by dsimp only; omega⟩
    · simp -dsimp only [go_sem, Nat.reduceEqDiff, Nat.reduceAdd, Nat.reduceSub, Nat.reduceMul, Nat.reduceLeDiff, Nat.reduceLT, Nat.reduceBEq, Int.reduceLT, Int.reduceLE, Int.reduceGT, Int.reduceGE, Int.reduceEq, Int.reduceNe, Int.reduceBEq, Int.reduceBNe, Int.reduceAdd, Int.reduceSub, Int.reduceMul, Int.reduceToNat, Int.reduceNeg, ↓reduceIte, ↓reduceDIte, hkk, h1, h3, g2, g3, g4]
      refine CT_heap (store_ev (mem_at (pre := []) hb.ok)) ?_
      intro _
      have hb2 := hb.use (a := q) (by omega) 1 (fun _ => c.v0)
      generalize m.use 1 (q : Int) (fun _ => c.v0) = m' at hb2 ⊢
      simp -dsimp only [go_sem, Nat.reduceEqDiff, Nat.reduceAdd, Nat.reduceSub, Nat.reduceMul, Nat.reduceLeDiff, Nat.reduceLT, Nat.reduceBEq, Int.reduceLT, Int.reduceLE, Int.reduceGT, Int.reduceGE, Int.reduceEq, Int.reduceNe, Int.reduceBEq, Int.reduceBNe, Int.reduceAdd, Int.reduceSub, Int.reduceMul, Int.reduceToNat, Int.reduceNeg, ↓reduceIte, ↓reduceDIte, memPut, hq]
      by_cases hf : first < 0
      · by_cases e1 : q = p
        · subst e1
          rw [if_pos ⟨hf, .inl rfl⟩] at hb2
          simp -dsimp only [go_sem, Nat.reduceEqDiff, Nat.reduceAdd, Nat.reduceSub, Nat.reduceMul, Nat.reduceLeDiff, Nat.reduceLT, Nat.reduceBEq, Int.reduceLT, Int.reduceLE, Int.reduceGT, Int.reduceGE, Int.reduceEq, Int.reduceNe, Int.reduceBEq, Int.reduceBNe, Int.reduceAdd, Int.reduceSub, Int.reduceMul, Int.reduceToNat, Int.reduceNeg, ↓reduceIte, ↓reduceDIte, hf, hq, memPut]
          refine CT_val (trap_ev (mem_at (pre := []) hb2.ok)) ?_
          rw [hb2.trap]
          simp -dsimp only [go_sem, Nat.reduceEqDiff, Nat.reduceAdd, Nat.reduceSub, Nat.reduceMul, Nat.reduceLeDiff, Nat.reduceLT, Nat.reduceBEq, Int.reduceLT, Int.reduceLE, Int.reduceGT, Int.reduceGE, Int.reduceEq, Int.reduceNe, Int.reduceBEq, Int.reduceBNe, Int.reduceAdd, Int.reduceSub, Int.reduceMul, Int.reduceToNat, Int.reduceNeg, ↓reduceIte, ↓reduceDIte, hw]
          exact ⟨⟨i + 1, (q : Int), m'⟩, rfl, rfl, ⟨by dsimp only; omega, hb2⟩, by dsimp only; omega⟩
        · have e1' : ((q : Int) == (p : Int)) = false := by rw [beq_eq_false_iff_ne]; omega
          by_cases e2 : q = p + 1
          · subst e2
            rw [if_pos ⟨hf, .inr rfl⟩] at hb2
            simp -dsimp only [go_sem, Nat.reduceEqDiff, Nat.reduceAdd, Nat.reduceSub, Nat.reduceMul, Nat.reduceLeDiff, Nat.reduceLT, Nat.reduceBEq, Int.reduceLT, Int.reduceLE, Int.reduceGT, Int.reduceGE, Int.reduceEq, Int.reduceNe, Int.reduceBEq, Int.reduceBNe, Int.reduceAdd, Int.reduceSub, Int.reduceMul, Int.reduceToNat, Int.reduceNeg, ↓reduceIte, ↓reduceDIte, hf, hq, e1', hwp, memPut]
            refine CT_val (trap_ev (mem_at (pre := []) hb2.ok)) ?_
            rw [hb2.trap]
            simp -dsimp only [go_sem, Nat.reduceEqDiff, Nat.reduceAdd, Nat.reduceSub, Nat.reduceMul, Nat.reduceLeDiff, Nat.reduceLT, Nat.reduceBEq, Int.reduceLT, Int.reduceLE, Int.reduceGT, Int.reduceGE, Int.reduceEq, Int.reduceNe, Int.reduceBEq, Int.reduceBNe, Int.reduceAdd, Int.reduceSub, Int.reduceMul, Int.reduceToNat, Int.reduceNeg, ↓reduceIte, ↓reduceDIte, hw]
            exact ⟨⟨i + 1, ((p + 1 : Nat) : Int), m'⟩, rfl, rfl, ⟨by dsimp only; omega, hb2⟩, by dsimp only; omega⟩
          · have e2' : ((q : Int) == ((p + 1 : Nat) : Int)) = false := by rw [beq_eq_false_iff_ne]; omega
            rw [if_neg (by omega)] at hb2
            simp -dsimp only [go_sem, Nat.reduceEqDiff, Nat.reduceAdd, Nat.reduceSub, Nat.reduceMul, Nat.reduceLeDiff, Nat.reduceLT, Nat.reduceBEq, Int.reduceLT, Int.reduceLE, Int.reduceGT, Int.reduceGE, Int.reduceEq, Int.reduceNe, Int.reduceBEq, Int.reduceBNe, Int.reduceAdd, Int.reduceSub, Int.reduceMul, Int.reduceToNat, Int.reduceNeg, ↓reduceIte, ↓reduceDIte, hf, hq, e1', e2', hwp, memPut]
            refine CT_val (trap_ev (mem_at (pre := []) hb2.ok)) ?_
            rw [hb2.trap]
            simp -dsimp only [go_sem, Nat.reduceEqDiff, Nat.reduceAdd, Nat.reduceSub, Nat.reduceMul, Nat.reduceLeDiff, Nat.reduceLT, Nat.reduceBEq, Int.reduceLT, Int.reduceLE, Int.reduceGT, Int.reduceGE, Int.reduceEq, Int.reduceNe, Int.reduceBEq, Int.reduceBNe, Int.reduceAdd, Int.reduceSub, Int.reduceMul, Int.reduceToNat, Int.reduceNeg, ↓reduceIte, ↓reduceDIte, hw]
            exact ⟨⟨i + 1, first, m'⟩, rfl, rfl, ⟨by dsimp only; omega, hb2⟩, by dsimp only; omega⟩
      · rw [if_neg (by omega)] at hb2
        simp -dsimp only [go_sem, Nat.reduceEqDiff, Nat.reduceAdd, Nat.reduceSub, Nat.reduceMul, Nat.reduceLeDiff, Nat.reduceLT, Nat.reduceBEq, Int.reduceLT, Int.reduceLE, Int.reduceGT, Int.reduceGE, Int.reduceEq, Int.reduceNe, Int.reduceBEq, Int.reduceBNe, Int.reduceAdd, Int.reduceSub, Int.reduceMul, Int.reduceToNat, Int.reduceNeg, ↓reduceIte, ↓reduceDIte, hf, hq, memPut]
        refine CT_val (trap_ev (mem_at (pre := []) hb2.ok)) ?_
        rw [hb2.trap]
        simp -dsimp only [go_sem, Nat.reduceEqDiff, Nat.reduceAdd, Nat.reduceSub, Nat.reduceMul, Nat.reduceLeDiff, Nat.reduceLT, Nat.reduceBEq, Int.reduceLT, Int.reduceLE, Int.reduceGT, Int.reduceGE, Int.reduceEq, Int.reduceNe, Int.reduceBEq, Int.reduceBNe, Int.reduceAdd, Int.reduceSub, Int.reduceMul, Int.reduceToNat, Int.reduceNeg, ↓reduceIte, ↓reduceDIte, hw]
        exact ⟨⟨i + 1, first, m'⟩, rfl, rfl, ⟨by dsimp only; omega, hb2⟩, by dsimp only; omega⟩
    · simp -dsimp only [go_sem, Nat.reduceEqDiff, Nat.reduceAdd, Nat.reduceSub, Nat.reduceMul, Nat.reduceLeDiff, Nat.reduceLT, Nat.reduceBEq, Int.reduceLT, Int.reduceLE, Int.reduceGT, Int.reduceGE, Int.reduceEq, Int.reduceNe, Int.reduceBEq, Int.reduceBNe, Int.reduceAdd, Int.reduceSub, Int.reduceMul, Int.reduceToNat, Int.reduceNeg, ↓reduceIte, ↓reduceDIte, hkk, h1, h3, g2, g3, g4]
      refine CT_val (swap_ev (mem_at (pre := []) hb.ok)) ?_
      have hb2 := hb.use (a := q) (by omega) 2 (fun w => if w = c.v0 then c.v1 else w)
      generalize m.use 2 (q : Int) (fun w => if w = c.v0 then c.v1 else w) = m' at hb2 ⊢
      simp -dsimp only [go_sem, Nat.reduceEqDiff, Nat.reduceAdd, Nat.reduceSub, Nat.reduceMul, Nat.reduceLeDiff, Nat.reduceLT, Nat.reduceBEq, Int.reduceLT, Int.reduceLE, Int.reduceGT, Int.reduceGE, Int.reduceEq, Int.reduceNe, Int.reduceBEq, Int.reduceBNe, Int.reduceAdd, Int.reduceSub, Int.reduceMul, Int.reduceToNat, Int.reduceNeg, ↓reduceIte, ↓reduceDIte, memPut, hq]
      by_cases hf : first < 0
      · by_cases e1 : q = p
        · subst e1
          rw [if_pos ⟨hf, .inl rfl⟩] at hb2
          simp -dsimp only [go_sem, Nat.reduceEqDiff, Nat.reduceAdd, Nat.reduceSub, Nat.reduceMul, Nat.reduceLeDiff, Nat.reduceLT, Nat.reduceBEq, Int.reduceLT, Int.reduceLE, Int.reduceGT, Int.reduceGE, Int.reduceEq, Int.reduceNe, Int.reduceBEq, Int.reduceBNe, Int.reduceAdd, Int.reduceSub, Int.reduceMul, Int.reduceToNat, Int.reduceNeg, ↓reduceIte, ↓reduceDIte, hf, hq, memPut]
          refine CT_val (trap_ev (mem_at (pre := []) hb2.ok)) ?_
          rw [hb2.trap]
          simp -dsimp only [go_sem, Nat.reduceEqDiff, Nat.reduceAdd, Nat.reduceSub, Nat.reduceMul, Nat.reduceLeDiff, Nat.reduceLT, Nat.reduceBEq, Int.reduceLT, Int.reduceLE, Int.reduceGT, Int.reduceGE, Int.reduceEq, Int.reduceNe, Int.reduceBEq, Int.reduceBNe, Int.reduceAdd, Int.reduceSub, Int.reduceMul, Int.reduceToNat, Int.reduceNeg, ↓reduceIte, ↓reduceDIte, hw]
          exact ⟨⟨i + 1, (q : Int), m'⟩, rfl, rfl, ⟨by dsimp only; omega, hb2⟩, by dsimp only; omega⟩
        · have e1' : ((q : Int) == (p : Int)) = false := by rw [beq_eq_false_iff_ne]; omega
          by_cases e2 : q = p + 1
          · subst e2
            rw [if_pos ⟨hf, .inr rfl⟩] at hb2
            simp -dsimp only [go_sem, Nat.reduceEqDiff, Nat.reduceAdd, Nat.reduceSub, Nat.reduceMul, Nat.reduceLeDiff, Nat.reduceLT, Nat.reduceBEq, Int.reduceLT, Int.reduceLE, Int.reduceGT, Int.reduceGE, Int.reduceEq, Int.reduceNe, Int.reduceBEq, Int.reduceBNe, Int.reduceAdd, Int.reduceSub, Int.reduceMul, Int.reduceToNat, Int.reduceNeg, ↓reduceIte, ↓reduceDIte, hf, hq, e1', hwp, memPut]
            refine CT_val (trap_ev (mem_at (pre := []) hb2.ok)) ?_
            rw [hb2.trap]
            simp -dsimp only [go_sem, Nat.reduceEqDiff, Nat.reduceAdd, Nat.reduceSub, Nat.reduceMul, Nat.reduceLeDiff, Nat.reduceLT, Nat.reduceBEq, Int.reduceLT, Int.reduceLE, Int.reduceGT, Int.reduceGE, Int.reduceEq, Int.reduceNe, Int.reduceBEq, Int.reduceBNe, Int.reduceAdd, Int.reduceSub, Int.reduceMul, Int.reduceToNat, Int.reduceNeg, ↓reduceIte, ↓reduceDIte, hw]
            exact ⟨⟨i + 1, ((p + 1 : Nat) : Int), m'⟩, rfl, rfl, ⟨by dsimp only; omega, hb2⟩, by dsimp only; omega⟩
          · have e2' : ((q : Int) == ((p + 1 : Nat) : Int)) = false := by rw [beq_eq_false_iff_ne]; omega
            rw [if_neg (by omega)] at hb2
            simp -dsimp only [go_sem, Nat.reduceEqDiff, Nat.reduceAdd, Nat.reduceSub, Nat.reduceMul, Nat.reduceLeDiff, Nat.reduceLT, Nat.reduceBEq, Int.reduceLT, Int.reduceLE, Int.reduceGT, Int.reduceGE, Int.reduceEq, Int.reduceNe, Int.reduceBEq, Int.reduceBNe, Int.reduceAdd, Int.reduceSub, Int.reduceMul, Int.reduceToNat, Int.reduceNeg, ↓reduceIte, ↓reduceDIte, hf, hq, e1', e2', hwp, memPut]
            refine CT_val (trap_ev (mem_at (pre := []) hb2.ok)) ?_
            rw [hb2.trap]
            simp -dsimp only [go_sem, Nat.reduceEqDiff, Nat.reduceAdd, Nat.reduceSub, Nat.reduceMul, Nat.reduceLeDiff, Nat.reduceLT, Nat.reduceBEq, Int.reduceLT, Int.reduceLE, Int.reduceGT, Int.reduceGE, Int.reduceEq, Int.reduceNe, Int.reduceBEq, Int.reduceBNe, Int.reduceAdd, Int.reduceSub, Int.reduceMul, Int.reduceToNat, Int.reduceNeg, ↓reduceIte, ↓reduceDIte, hw]
            exact ⟨⟨i + 1, first, m'⟩, rfl, rfl, ⟨by dsimp only; omega, hb2⟩, by dsimp only; omega⟩
      · rw [if_neg (by omega)] at hb2
        simp -dsimp only [go_sem, Nat.reduceEqDiff, Nat.reduceAdd, Nat.reduceSub, Nat.reduceMul, Nat.reduceLeDiff, Nat.reduceLT, Nat.reduceBEq, Int.reduceLT, Int.reduceLE, Int.reduceGT, Int.reduceGE, Int.reduceEq, Int.reduceNe, Int.reduceBEq, Int.reduceBNe, Int.reduceAdd, Int.reduceSub, Int.reduceMul, Int.reduceToNat, Int.reduceNeg, ↓reduceIte, ↓reduceDIte, hf, hq, memPut]
        refine CT_val (trap_ev (mem_at (pre := []) hb2.ok)) ?_
        rw [hb2.trap]
        simp -dsimp only [go_sem, Nat.reduceEqDiff, Nat.reduceAdd, Nat.reduceSub, Nat.reduceMul, Nat.reduceLeDiff, Nat.reduceLT, Nat.reduceBEq, Int.reduceLT, Int.reduceLE, Int.reduceGT, Int.reduceGE, Int.reduceEq, Int.reduceNe, Int.reduceBEq, Int.reduceBNe, Int.reduceAdd, Int.reduceSub, Int.reduceMul, Int.reduceToNat, Int.reduceNeg, ↓reduceIte, ↓reduceDIte, hw]
        exact ⟨⟨i + 1, first, m'⟩, rfl, rfl, ⟨by dsimp only; omega, hb2⟩, by dsimp only; omega⟩
    · simp -dsimp only [go_sem, Nat.reduceEqDiff, Nat.reduceAdd, Nat.reduceSub, Nat.reduceMul, Nat.reduceLeDiff, Nat.reduceLT, Nat.reduceBEq, Int.reduceLT, Int.reduceLE, Int.reduceGT, Int.reduceGE, Int.reduceEq, Int.reduceNe, Int.reduceBEq, Int.reduceBNe, Int.reduceAdd, Int.reduceSub, Int.reduceMul, Int.reduceToNat, Int.reduceNeg, ↓reduceIte, ↓reduceDIte, hkk, h1, h3, g2, g3, g4]
      refine CT_val (add_ev (mem_at (pre := []) hb.ok)) ?_
      have hb2 := hb.use (a := q) (by omega) 3 ((· + c.v0))
      generalize m.use 3 (q : Int) ((· + c.v0)) = m' at hb2 ⊢
      simp -dsimp only [go_sem, Nat.reduceEqDiff, Nat.reduceAdd, Nat.reduceSub, Nat.reduceMul, Nat.reduceLeDiff, Nat.reduceLT, Nat.reduceBEq, Int.reduceLT, Int.reduceLE, Int.reduceGT, Int.reduceGE, Int.reduceEq, Int.reduceNe, Int.reduceBEq, Int.reduceBNe, Int.reduceAdd, Int.reduceSub, Int.reduceMul, Int.reduceToNat, Int.reduceNeg, ↓reduceIte, ↓reduceDIte, memPut, hq]
      by_cases hf : first < 0
      · by_cases e1 : q = p
        · subst e1
          rw [if_pos ⟨hf, .inl rfl⟩] at hb2
          simp -dsimp only [go_sem, Nat.reduceEqDiff, Nat.reduceAdd, Nat.reduceSub, Nat.reduceMul, Nat.reduceLeDiff, Nat.reduceLT, Nat.reduceBEq, Int.reduceLT, Int.reduceLE, Int.reduceGT, Int.reduceGE, Int.reduceEq, Int.reduceNe, Int.reduceBEq, Int.reduceBNe, Int.reduceAdd, Int.reduceSub, Int.reduceMul, Int.reduceToNat, Int.reduceNeg, ↓reduceIte, ↓reduceDIte, hf, hq, memPut]
          refine CT_val (trap_ev (mem_at (pre := []) hb2.ok)) ?_
          rw [hb2.trap]
          simp -dsimp only [go_sem, Nat.reduceEqDiff, Nat.reduceAdd, Nat.reduceSub, Nat.reduceMul, Nat.reduceLeDiff, Nat.reduceLT, Nat.reduceBEq, Int.reduceLT, Int.reduceLE, Int.reduceGT, Int.reduceGE, Int.reduceEq, Int.reduceNe, Int.reduceBEq, Int.reduceBNe, Int.reduceAdd, Int.reduceSub, Int.reduceMul, Int.reduceToNat, Int.reduceNeg, ↓reduceIte, ↓reduceDIte, hw]
          exact ⟨⟨i + 1, (q : Int), m'⟩, rfl, rfl, ⟨by dsimp only; omega, hb2⟩, by dsimp only; omega⟩
        · have e1' : ((q : Int) == (p : Int)) = false := by rw [beq_eq_false_iff_ne]; omega
          by_cases e2 : q = p + 1
          · subst e2
            rw [if_pos ⟨hf, .inr rfl⟩] at hb2
            simp -dsimp only [go_sem, Nat.reduceEqDiff, Nat.reduceAdd, Nat.reduceSub, Nat.reduceMul, Nat.reduceLeDiff, Nat.reduceLT, Nat.reduceBEq, Int.reduceLT, Int.reduceLE, Int.reduceGT, Int.reduceGE, Int.reduceEq, Int.reduceNe, Int.reduceBEq, Int.reduceBNe, Int.reduceAdd, Int.reduceSub, Int.reduceMul, Int.reduceToNat, Int.reduceNeg, ↓reduceIte, ↓reduceDIte, hf, hq, e1', hwp, memPut]
            refine CT_val (trap_ev (mem_at (pre := []) hb2.ok)) ?_
            rw [hb2.trap]
            simp -dsimp only [go_sem, Nat.reduceEqDiff, Nat.reduceAdd, Nat.reduceSub, Nat.reduceMul, Nat.reduceLeDiff, Nat.reduceLT, Nat.reduceBEq, Int.reduceLT, Int.reduceLE, Int.reduceGT, Int.reduceGE, Int.reduceEq, Int.reduceNe, Int.reduceBEq, Int.reduceBNe, Int.reduceAdd, Int.reduceSub, Int.reduceMul, Int.reduceToNat, Int.reduceNeg, ↓reduceIte, ↓reduceDIte, hw]
            exact ⟨⟨i + 1, ((p + 1 : Nat) : Int), m'⟩, rfl, rfl, ⟨by dsimp only; omega, hb2⟩, by dsimp only; omega⟩
          · have e2' : ((q : Int) == ((p + 1 : Nat) : Int)) = false := by rw [beq_eq_false_iff_ne]; omega
            rw [if_neg (by omega)] at hb2
            simp -dsimp only [go_sem, Nat.reduceEqDiff, Nat.reduceAdd, Nat.reduceSub, Nat.reduceMul, Nat.reduceLeDiff, Nat.reduceLT, Nat.reduceBEq, Int.reduceLT, Int.reduceLE, Int.reduceGT, Int.reduceGE, Int.reduceEq, Int.reduceNe, Int.reduceBEq, Int.reduceBNe, Int.reduceAdd, Int.reduceSub, Int.reduceMul, Int.reduceToNat, Int.reduceNeg, ↓reduceIte, ↓reduceDIte, hf, hq, e1', e2', hwp, memPut]
            refine CT_val (trap_ev (mem_at (pre := []) hb2.ok)) ?_
            rw [hb2.trap]
            simp -dsimp only [go_sem, Nat.reduceEqDiff, Nat.reduceAdd, Nat.reduceSub, Nat.reduceMul, Nat.reduceLeDiff, Nat.reduceLT, Nat.reduceBEq, Int.reduceLT, Int.reduceLE, Int.reduceGT, Int.reduceGE, Int.reduceEq, Int.reduceNe, Int.reduceBEq, Int.reduceBNe, Int.reduceAdd, Int.reduceSub, Int.reduceMul, Int.reduceToNat, Int.reduceNeg, ↓reduceIte, ↓reduceDIte, hw]
            exact ⟨⟨i + 1, first, m'⟩, rfl, rfl, ⟨by dsimp only; omega, hb2⟩, by dsimp only; omega⟩
      · rw [if_neg (by omega)] at hb2
        simp -dsimp only [go_sem, Nat.reduceEqDiff, Nat.reduceAdd, Nat.reduceSub, Nat.reduceMul, Nat.reduceLeDiff, Nat.reduceLT, Nat.reduceBEq, Int.reduceLT, Int.reduceLE, Int.reduceGT, Int.reduceGE, Int.reduceEq, Int.reduceNe, Int.reduceBEq, Int.reduceBNe, Int.reduceAdd, Int.reduceSub, Int.reduceMul, Int.reduceToNat, Int.reduceNeg, ↓reduceIte, ↓reduceDIte, hf, hq, memPut]
        refine CT_val (trap_ev (mem_at (pre := []) hb2.ok)) ?_
        rw [hb2.trap]
        simp -dsimp only [go_sem, Nat.reduceEqDiff, Nat.reduceAdd, Nat.reduceSub, Nat.reduceMul, Nat.reduceLeDiff, Nat.reduceLT, Nat.reduceBEq, Int.reduceLT, Int.reduceLE, Int.reduceGT, Int.reduceGE, Int.reduceEq, Int.reduceNe, Int.reduceBEq, Int.reduceBNe, Int.reduceAdd, Int.reduceSub, Int.reduceMul, Int.reduceToNat, Int.reduceNeg, ↓reduceIte, ↓reduceDIte, hw]
        exact ⟨⟨i + 1, first, m'⟩, rfl, rfl, ⟨by dsimp only; omega, hb2⟩, by dsimp only; omega⟩
    · simp -dsimp only [go_sem, Nat.reduceEqDiff, Nat.reduceAdd, Nat.reduceSub, Nat.reduceMul, Nat.reduceLeDiff, Nat.reduceLT, Nat.reduceBEq, Int.reduceLT, Int.reduceLE, Int.reduceGT, Int.reduceGE, Int.reduceEq, Int.reduceNe, Int.reduceBEq, Int.reduceBNe, Int.reduceAdd, Int.reduceSub, Int.reduceMul, Int.reduceToNat, Int.reduceNeg, ↓reduceIte, ↓reduceDIte, hkk, h1, h3, g2, g3, g4]
      refine CT_val (or_ev (mem_at (pre := []) hb.ok)) ?_
      have hb2 := hb.use (a := q) (by omega) 4 ((· ||| c.v0))
      generalize m.use 4 (q : Int) ((· ||| c.v0)) = m' at hb2 ⊢
      simp -dsimp only [go_sem, Nat.reduceEqDiff, Nat.reduceAdd, Nat.reduceSub, Nat.reduceMul, Nat.reduceLeDiff, Nat.reduceLT, Nat.reduceBEq, Int.reduceLT, Int.reduceLE, Int.reduceGT, Int.reduceGE, Int.reduceEq, Int.reduceNe, Int.reduceBEq, Int.reduceBNe, Int.reduceAdd, Int.reduceSub, Int.reduceMul, Int.reduceToNat, Int.reduceNeg, ↓reduceIte, ↓reduceDIte, memPut, hq]
      by_cases hf : first < 0
      · by_cases e1 : q = p
        · subst e1
          rw [if_pos ⟨hf, .inl rfl⟩] at hb2
          simp -dsimp only [go_sem, Nat.reduceEqDiff, Nat.reduceAdd, Nat.reduceSub, Nat.reduceMul, Nat.reduceLeDiff, Nat.reduceLT, Nat.reduceBEq, Int.reduceLT, Int.reduceLE, Int.reduceGT, Int.reduceGE, Int.reduceEq, Int.reduceNe, Int.reduceBEq, Int.reduceBNe, Int.reduceAdd, Int.reduceSub, Int.reduceMul, Int.reduceToNat, Int.reduceNeg, ↓reduceIte, ↓reduceDIte, hf, hq, memPut]
          refine CT_val (trap_ev (mem_at (pre := []) hb2.ok)) ?_
          rw [hb2.trap]
          simp -dsimp only [go_sem, Nat.reduceEqDiff, Nat.reduceAdd, Nat.reduceSub, Nat.reduceMul, Nat.reduceLeDiff, Nat.reduceLT, Nat.reduceBEq, Int.reduceLT, Int.reduceLE, Int.reduceGT, Int.reduceGE, Int.reduceEq, Int.reduceNe, Int.reduceBEq, Int.reduceBNe, Int.reduceAdd, Int.reduceSub, Int.reduceMul, Int.reduceToNat, Int.reduceNeg, ↓reduceIte, ↓reduceDIte, hw]
          exact ⟨⟨i + 1, (q : Int), m'⟩, rfl, rfl, ⟨by dsimp only; omega, hb2⟩, by dsimp only; omega⟩
        · have e1' : ((q : Int) == (p : Int)) = false := by rw [beq_eq_false_iff_ne]; omega
          by_cases e2 : q = p + 1
          · subst e2
            rw [if_pos ⟨hf, .inr rfl⟩] at hb2
            simp -dsimp only [go_sem, Nat.reduceEqDiff, Nat.reduceAdd, Nat.reduceSub, Nat.reduceMul, Nat.reduceLeDiff, Nat.reduceLT, Nat.reduceBEq, Int.reduceLT, Int.reduceLE, Int.reduceGT, Int.reduceGE, Int.reduceEq, Int.reduceNe, Int.reduceBEq, Int.reduceBNe, Int.reduceAdd, Int.reduceSub, Int.reduceMul, Int.reduceToNat, Int.reduceNeg, ↓reduceIte, ↓reduceDIte, hf, hq, e1', hwp, memPut]
            refine CT_val (trap_ev (mem_at (pre := []) hb2.ok)) ?_
            rw [hb2.trap]
            simp -dsimp only [go_sem, Nat.reduceEqDiff, Nat.reduceAdd, Nat.reduceSub, Nat.reduceMul, Nat.reduceLeDiff, Nat.reduceLT, Nat.reduceBEq, Int.reduceLT, Int.reduceLE, Int.reduceGT, Int.reduceGE, Int.reduceEq, Int.reduceNe, Int.reduceBEq, Int.reduceBNe, Int.reduceAdd, Int.reduceSub, Int.reduceMul, Int.reduceToNat, Int.reduceNeg, ↓reduceIte, ↓reduceDIte, hw]
            exact ⟨⟨i + 1, ((p + 1 : Nat) : Int), m'⟩, rfl, rfl, ⟨by dsimp only; omega, hb2⟩, by dsimp only; omega⟩
          · have e2' : ((q : Int) == ((p + 1 : Nat) : Int)) = false := by rw [beq_eq_false_iff_ne]; omega
            rw [if_neg (by omega)] at hb2
            simp -dsimp only [go_sem, Nat.reduceEqDiff, Nat.reduceAdd, Nat.reduceSub, Nat.reduceMul, Nat.reduceLeDiff, Nat.reduceLT, Nat.reduceBEq, Int.reduceLT, Int.reduceLE, Int.reduceGT, Int.reduceGE, Int.reduceEq, Int.reduceNe, Int.reduceBEq, Int.reduceBNe, Int.reduceAdd, Int.reduceSub, Int.reduceMul, Int.reduceToNat, Int.reduceNeg, ↓reduceIte, ↓reduceDIte, hf, hq, e1', e2', hwp, memPut]
            refine CT_val (trap_ev (mem_at (pre := []) hb2.ok)) ?_
            rw [hb2.trap]
            simp -dsimp only [go_sem, Nat.reduceEqDiff, Nat.reduceAdd, Nat.reduceSub, Nat.reduceMul, Nat.reduceLeDiff, Nat.reduceLT, Nat.reduceBEq, Int.reduceLT, Int.reduceLE, Int.reduceGT, Int.reduceGE, Int.reduceEq, Int.reduceNe, Int.reduceBEq, Int.reduceBNe, Int.reduceAdd, Int.reduceSub, Int.reduceMul, Int.reduceToNat, Int.reduceNeg, ↓reduceIte, ↓reduceDIte, hw]
            exact ⟨⟨i + 1, first, m'⟩, rfl, rfl, ⟨by dsimp only; omega, hb2⟩, by dsimp only; omega⟩
      · rw [if_neg (by omega)] at hb2
        simp -dsimp only [go_sem, Nat.reduceEqDiff, Nat.reduceAdd, Nat.reduceSub, Nat.reduceMul, Nat.reduceLeDiff, Nat.reduceLT, Nat.reduceBEq, Int.reduceLT, Int.reduceLE, Int.reduceGT, Int.reduceGE, Int.reduceEq, Int.reduceNe, Int.reduceBEq, Int.reduceBNe, Int.reduceAdd, Int.reduceSub, Int.reduceMul, Int.reduceToNat, Int.reduceNeg, ↓reduceIte, ↓reduceDIte, hf, hq, memPut]
        refine CT_val (trap_ev (mem_at (pre := []) hb2.ok)) ?_
        rw [hb2.trap]
        simp -dsimp only [go_sem, Nat.reduceEqDiff, Nat.reduceAdd, Nat.reduceSub, Nat.reduceMul, Nat.reduceLeDiff, Nat.reduceLT, Nat.reduceBEq, Int.reduceLT, Int.reduceLE, Int.reduceGT, Int.reduceGE, Int.reduceEq, Int.reduceNe, Int.reduceBEq, Int.reduceBNe, Int.reduceAdd, Int.reduceSub, Int.reduceMul, Int.reduceToNat, Int.reduceNeg, ↓reduceIte, ↓reduceDIte, hw]
        exact ⟨⟨i + 1, first, m'⟩, rfl, rfl, ⟨by dsimp only; omega, hb2⟩, by dsimp only; omega⟩
  · by_cases h1 : i < l.length
    · have h1' : (i : Int) < l.length := by omega
      have h2 : ¬ (i : Int) < 40 := by omega
      simp -dsimp only [go_sem, Nat.reduceEqDiff, Nat.reduceAdd, Nat.reduceSub, Nat.reduceMul, Nat.reduceLeDiff, Nat.reduceLT, Nat.reduceBEq, Int.reduceLT, Int.reduceLE, Int.reduceGT, Int.reduceGE, Int.reduceEq, Int.reduceNe, Int.reduceBEq, Int.reduceBNe, Int.reduceAdd, Int.reduceSub, Int.reduceMul, Int.reduceToNat, Int.reduceNeg, ↓reduceIte, ↓reduceDIte, h1', h2]
      have hpk : m.peek p 2 = [7#64, 0#64] := by
        have e := hb.ok.w
        unfold MV.peek
        rw [if_neg (by omega), if_neg (by omega), if_neg (by omega), show (min (2 : Int) (m.w.length - p)).toNat = 2 by omega, Int.toNat_natCast]
        apply List.ext_getElem?
        intro j
        rw [List.getElem?_take, List.getElem?_drop]
        match j with
        | 0 => simpa using hb.w0
        | 1 => simpa using hb.w1
        | j + 2 => simp; omega
      have hmay : m.may p 2 = 0 := by
        have := hb.ok.w
        simp only [MV.may, this]
        rw [if_neg (by omega), if_neg (by omega), if_neg (by omega), if_neg (by omega)]
      refine CT_of (peek_ev (by simp) (mem_at (pre := []) hb.ok) (by omega)) ?_
      rintro _ _ ⟨a1, t1, rfl, rfl, p1⟩
      rw [hpk] at p1 ⊢
      obtain ⟨b1, rfl, _, _, hg3⟩ := p1.has (by simp)
      have g0 := lget_at hg3 0
      have g1 := lget_at hg3 1
      simp only [List.map_cons, List.map_nil, List.getElem?_cons_zero, List.getElem?_cons_succ, List.append_nil, List.append_assoc, List.cons_append, List.nil_append, Nat.zero_mul, Nat.add_zero, List.length_nil, Nat.zero_add] at g0 g1
      simp -dsimp only [go_sem, Nat.reduceEqDiff, Nat.reduceAdd, Nat.reduceSub, Nat.reduceMul, Nat.reduceLeDiff, Nat.reduceLT, Nat.reduceBEq, Int.reduceLT, Int.reduceLE, Int.reduceGT, Int.reduceGE, Int.reduceEq, Int.reduceNe, Int.reduceBEq, Int.reduceBNe, Int.reduceAdd, Int.reduceSub, Int.reduceMul, Int.reduceToNat, Int.reduceNeg, ↓reduceIte, ↓reduceDIte, g0, g1]
      refine CT_val (free_ev (mem_at (pre := []) hb.ok)) ?_
      rw [hmay]
      have hfr : m.free p 2 = (m.setb (setR m.bar p 2 false)).setw (setR m.w p 2 0#64) := by simp [MV.free, hmay]
      have hok := hb.ok.free p 2
      have hl1 := hb.ok.w
      have hl2 := hb.ok.b
      have hbd : (m.free p 2).bad p = false := by
        rw [hfr]
        simp only [MV.bad, Bool.or_eq_false_iff, decide_eq_false_iff_not]
        refine ⟨⟨by omega, ?_⟩, ?_⟩
        · show ¬ ((setR m.w p 2 0#64).length : Int) ≤ p
          rw [setR_len (by omega)]; omega
        · show (setR m.bar p 2 false).getD (p : Int).toNat false = false
          rw [List.getD, Int.toNat_natCast, setR_get (by omega), if_pos (by omega)]; rfl
      have hld : (m.free p 2).load p = 0#64 := by
        rw [MV.load, hbd, hfr]
        show (setR m.w p 2 0#64).getD (p : Int).toNat 0 = 0#64
        rw [List.getD, Int.toNat_natCast, setR_get (by omega), if_pos (by omega)]; rfl
      have htr : (m.free p 2).trap = first := by rw [hfr]; exact hb.trap
      generalize m.free p 2 = m' at hok hbd hld htr ⊢
      simp -dsimp only [go_sem, Nat.reduceEqDiff, Nat.reduceAdd, Nat.reduceSub, Nat.reduceMul, Nat.reduceLeDiff, Nat.reduceLT, Nat.reduceBEq, Int.reduceLT, Int.reduceLE, Int.reduceGT, Int.reduceGE, Int.reduceEq, Int.reduceNe, Int.reduceBEq, Int.reduceBNe, Int.reduceAdd, Int.reduceSub, Int.reduceMul, Int.reduceToNat, Int.reduceNeg, ↓reduceIte, ↓reduceDIte, memPut]
      refine CT_val (load_ev (mem_at (pre := []) hok)) ?_
      rw [hld]
      have htr2 : (m'.use 0 p id).trap = first := by
        rw [MV.use_ok hbd]
        exact (MV.tick_w m' 0).2.2.2.trans htr
      have hok2 := hok.use 0 p id
      generalize m'.use 0 p id = m'' at hok2 htr2 ⊢
      simp -dsimp only [go_sem, Nat.reduceEqDiff, Nat.reduceAdd, Nat.reduceSub, Nat.reduceMul, Nat.reduceLeDiff, Nat.reduceLT, Nat.reduceBEq, Int.reduceLT, Int.reduceLE, Int.reduceGT, Int.reduceGE, Int.reduceEq, Int.reduceNe, Int.reduceBEq, Int.reduceBNe, Int.reduceAdd, Int.reduceSub, Int.reduceMul, Int.reduceToNat, Int.reduceNeg, ↓reduceIte, ↓reduceDIte, memPut]
      refine CT_val (trap_ev (mem_at (pre := []) hok2)) ?_
      rw [htr2]
      simp -dsimp only [go_sem, Nat.reduceEqDiff, Nat.reduceAdd, Nat.reduceSub, Nat.reduceMul, Nat.reduceLeDiff, Nat.reduceLT, Nat.reduceBEq, Int.reduceLT, Int.reduceLE, Int.reduceGT, Int.reduceGE, Int.reduceEq, Int.reduceNe, Int.reduceBEq, Int.reduceBNe, Int.reduceAdd, Int.reduceSub, Int.reduceMul, Int.reduceToNat, Int.reduceNeg, ↓reduceIte, ↓reduceDIte]
      refine CT_val (one_ev _ _) ?_
      simp -dsimp only [go_sem, Nat.reduceEqDiff, Nat.reduceAdd, Nat.reduceSub, Nat.reduceMul, Nat.reduceLeDiff, Nat.reduceLT, Nat.reduceBEq, Int.reduceLT, Int.reduceLE, Int.reduceGT, Int.reduceGE, Int.reduceEq, Int.reduceNe, Int.reduceBEq, Int.reduceBNe, Int.reduceAdd, Int.reduceSub, Int.reduceMul, Int.reduceToNat, Int.reduceNeg, ↓reduceIte, ↓reduceDIte]
    · have h1' : ¬ (i : Int) < l.length := by omega
      simp -dsimp only [go_sem, Nat.reduceEqDiff, Nat.reduceAdd, Nat.reduceSub, Nat.reduceMul, Nat.reduceLeDiff, Nat.reduceLT, Nat.reduceBEq, Int.reduceLT, Int.reduceLE, Int.reduceGT, Int.reduceGE, Int.reduceEq, Int.reduceNe, Int.reduceBEq, Int.reduceBNe, Int.reduceAdd, Int.reduceSub, Int.reduceMul, Int.reduceToNat, Int.reduceNeg, ↓reduceIte, ↓reduceDIte, h1']
      have hpk : m.peek p 2 = [7#64, 0#64] := by
        have e := hb.ok.w
        unfold MV.peek
        rw [if_neg (by omega), if_neg (by omega), if_neg (by omega), show (min (2 : Int) (m.w.length - p)).toNat = 2 by omega, Int.toNat_natCast]
        apply List.ext_getElem?
        intro j
        rw [List.getElem?_take, List.getElem?_drop]
        match j with
        | 0 => simpa using hb.w0
        | 1 => simpa using hb.w1
        | j + 2 => simp; omega
      have hmay : m.may p 2 = 0 := by
        have := hb.ok.w
        simp only [MV.may, this]
        rw [if_neg (by omega), if_neg (by omega), if_neg (by omega), if_neg (by omega)]
      refine CT_of (peek_ev (by simp) (mem_at (pre := []) hb.ok) (by omega)) ?_
      rintro _ _ ⟨a1, t1, rfl, rfl, p1⟩
      rw [hpk] at p1 ⊢
      obtain ⟨b1, rfl, _, _, hg3⟩ := p1.has (by simp)
      have g0 := lget_at hg3 0
      have g1 := lget_at hg3 1
      simp only [List.map_cons, List.map_nil, List.getElem?_cons_zero, List.getElem?_cons_succ, List.append_nil, List.append_assoc, List.cons_append, List.nil_append, Nat.zero_mul, Nat.add_zero, List.length_nil, Nat.zero_add] at g0 g1
      simp -dsimp only [go_sem, Nat.reduceEqDiff, Nat.reduceAdd, Nat.reduceSub, Nat.reduceMul, Nat.reduceLeDiff, Nat.reduceLT, Nat.reduceBEq, Int.reduceLT, Int.reduceLE, Int.reduceGT, Int.reduceGE, Int.reduceEq, Int.reduceNe, Int.reduceBEq, Int.reduceBNe, Int.reduceAdd, Int.reduceSub, Int.reduceMul, Int.reduceToNat, Int.reduceNeg, ↓reduceIte, ↓reduceDIte, g0, g1]
      refine CT_val (free_ev (mem_at (pre := []) hb.ok)) ?_
      rw [hmay]
      have hfr : m.free p 2 = (m.setb (setR m.bar p 2 false)).setw (setR m.w p 2 0#64) := by simp [MV.free, hmay]
      have hok := hb.ok.free p 2
      have hl1 := hb.ok.w
      have hl2 := hb.ok.b
      have hbd : (m.free p 2).bad p = false := by
        rw [hfr]
        simp only [MV.bad, Bool.or_eq_false_iff, decide_eq_false_iff_not]
        refine ⟨⟨by omega, ?_⟩, ?_⟩
        · show ¬ ((setR m.w p 2 0#64).length : Int) ≤ p
          rw [setR_len (by omega)]; omega
        · show (setR m.bar p 2 false).getD (p : Int).toNat false = false
          rw [List.getD, Int.toNat_natCast, setR_get (by omega), if_pos (by omega)]; rfl
      have hld : (m.free p 2).load p = 0#64 := by
        rw [MV.load, hbd, hfr]
        show (setR m.w p 2 0#64).getD (p : Int).toNat 0 = 0#64
        rw [List.getD, Int.toNat_natCast, setR_get (by omega), if_pos (by omega)]; rfl
      have htr : (m.free p 2).trap = first := by rw [hfr]; exact hb.trap
      generalize m.free p 2 = m' at hok hbd hld htr ⊢
      simp -dsimp only [go_sem, Nat.reduceEqDiff, Nat.reduceAdd, Nat.reduceSub, Nat.reduceMul, Nat.reduceLeDiff, Nat.reduceLT, Nat.reduceBEq, Int.reduceLT, Int.reduceLE, Int.reduceGT, Int.reduceGE, Int.reduceEq, Int.reduceNe, Int.reduceBEq, Int.reduceBNe, Int.reduceAdd, Int.reduceSub, Int.reduceMul, Int.reduceToNat, Int.reduceNeg, ↓reduceIte, ↓reduceDIte, memPut]
      refine CT_val (load_ev (mem_at (pre := []) hok)) ?_
      rw [hld]
      have htr2 : (m'.use 0 p id).trap = first := by
        rw [MV.use_ok hbd]
        exact (MV.tick_w m' 0).2.2.2.trans htr
      have hok2 := hok.use 0 p id
      generalize m'.use 0 p id = m'' at hok2 htr2 ⊢
      simp -dsimp only [go_sem, Nat.reduceEqDiff, Nat.reduceAdd, Nat.reduceSub, Nat.reduceMul, Nat.reduceLeDiff, Nat.reduceLT, Nat.reduceBEq, Int.reduceLT, Int.reduceLE, Int.reduceGT, Int.reduceGE, Int.reduceEq, Int.reduceNe, Int.reduceBEq, Int.reduceBNe, Int.reduceAdd, Int.reduceSub, Int.reduceMul, Int.reduceToNat, Int.reduceNeg, ↓reduceIte, ↓reduceDIte, memPut]
      refine CT_val (trap_ev (mem_at (pre := []) hok2)) ?_
      rw [htr2]
      simp -dsimp only [go_sem, Nat.reduceEqDiff, Nat.reduceAdd, Nat.reduceSub, Nat.reduceMul, Nat.reduceLeDiff, Nat.reduceLT, Nat.reduceBEq, Int.reduceLT, Int.reduceLE, Int.reduceGT, Int.reduceGE, Int.reduceEq, Int.reduceNe, Int.reduceBEq, Int.reduceBNe, Int.reduceAdd, Int.reduceSub, Int.reduceMul, Int.reduceToNat, Int.reduceNeg, ↓reduceIte, ↓reduceDIte]
      refine CT_val (one_ev _ _) ?_
      simp -dsimp only [go_sem, Nat.reduceEqDiff, Nat.reduceAdd, Nat.reduceSub, Nat.reduceMul, Nat.reduceLeDiff, Nat.reduceLT, Nat.reduceBEq, Int.reduceLT, Int.reduceLE, Int.reduceGT, Int.reduceGE, Int.reduceEq, Int.reduceNe, Int.reduceBEq, Int.reduceBNe, Int.reduceAdd, Int.reduceSub, Int.reduceMul, Int.reduceToNat, Int.reduceNeg, ↓reduceIte, ↓reduceDIte]
end Go.Proofs.Ytckfbicepdbafaa
