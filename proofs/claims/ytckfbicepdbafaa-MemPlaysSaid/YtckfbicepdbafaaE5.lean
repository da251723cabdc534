/- The statement MemPlays: a step of both memories. -/
import Derived.Test.YtckfbicepdbafaaR1
import Derived.Test.YtckfbicepdbafaaE1
namespace Go.Proofs.Ytckfbicepdbafaa
open Go Go.LK
set_option linter.unusedSimpArgs false
set_option linter.unusedVariables false
def MV.act (m : MV) (c : ActD) : MV :=
  if c.kind = 6 then m.bars c.a c.n true else if c.kind = 7 then m.free c.a c.n else (m.step c.kind c.a c.v0 c.v1 c.v2 c.v3).1
structure OffMem (a : Option Addr) (b pw pb : Nat) : Prop where
  o1 : Off b a
  o2 : Off pw a
  o3 : Off pb a
theorem Sl.put {H : LHeap} {b pw pb k : Nat} {a : Option Addr} {c : List Value} (h : Sl k H a c) (ho : OffMem a b pw pb) (m : MV) : Sl k (memPut H b pw pb m) a c :=
  ((h.set_off ho.o1 _).set_off ho.o2 _).set_off ho.o3 _
theorem OffMem.fresh {a : Option Addr} {n b pw pb : Nat} (h : Fresh n a) (l1 : b < n) (l2 : pw < n) (l3 : pb < n) : OffMem a b pw pb := ⟨h.off l1, h.off l2, h.off l3⟩
theorem RefAt.put {H : LHeap} {b pw pb n : Nat} {aw ab : Option Addr} {m : MV} (h : RefAt H aw ab n m) (o1 : OffMem aw b pw pb) (o2 : OffMem ab b pw pb) (m' : MV) : RefAt (memPut H b pw pb m') aw ab n m :=
  ⟨Sl.put h.ws o1 m', Sl.put h.bs o2 m', h.len, h.bar, h.le⟩
theorem RefAt.into {H H' : LHeap} {n : Nat} {aw ab : Option Addr} {m : MV} (h : RefAt H aw ab n m) (hu : unbox H <+: unbox H') : RefAt H' aw ab n m :=
  ⟨h.ws.into (by omega) hu, h.bs.into (by omega) hu, h.len, h.bar, h.le⟩
theorem OffMem.of {a a' : Option Addr} {n b pw pb : Nat} (h : OffMem a b pw pb) (q : a' = a ∨ Fresh n a') (l1 : b < n) (l2 : pw < n) (l3 : pb < n) : OffMem a' b pw pb := by
  rcases q with rfl | q
  · exact h
  · exact OffMem.fresh q l1 l2 l3
/-- What stands behind a step of both. -/
def Both (H H' : LHeap) (b pw pb n : Nat) (m' : MV) (v : Value) : Prop :=
  ∃ aw' ab' t, v = .tuple #[refV aw' ab' n m', .bool true] ∧ H' = memPut H b pw pb m' ++ t ∧ RefAt (memPut H b pw pb m' ++ t) aw' ab' n m' ∧ OffMem aw' b pw pb ∧ OffMem ab' b pw pb
set_option maxHeartbeats 1000000 in
theorem step_ev {lim b pw pb n : Nat} {aw ab : Option Addr} {m : MV} {H : LHeap} (hl : lim ≤ H.length) (hm : MemAt H b pw pb m) (h : RefAt H aw ab n m) (o1 : OffMem aw b pw pb) (o2 : OffMem ab b pw pb) {c : ActD} :
    callE T 22 lim [ptr b, refV aw ab n m, .agg #[i64 c.kind, i64 c.a, i64 c.n, w64 c.v0, w64 c.v1, w64 c.v2, w64 c.v3]] H fun v H' => Both H H' b pw pb n (m.act c) v := by
  refine callE_stay rfl (by simp) rfl ?_
  obtain ⟨l1, l2, l3⟩ := hm.lb
  obtain ⟨kind, a, k, v0, v1, v2, v3⟩ := c
  simp -dsimp only [go_sem, Nat.reduceEqDiff, Nat.reduceAdd, Nat.reduceSub, Nat.reduceMul, Nat.reduceLeDiff, Nat.reduceLT, Nat.reduceBEq, Int.reduceLT, Int.reduceLE, Int.reduceGT, Int.reduceGE, Int.reduceEq, Int.reduceNe, Int.reduceBEq, Int.reduceBNe, Int.reduceAdd, Int.reduceSub, Int.reduceMul, Int.reduceToNat, Int.reduceNeg, ↓reduceIte, ↓reduceDIte, hl]
  by_cases h6 : kind = 6
  · subst h6
    simp -dsimp only [go_sem, Nat.reduceEqDiff, Nat.reduceAdd, Nat.reduceSub, Nat.reduceMul, Nat.reduceLeDiff, Nat.reduceLT, Nat.reduceBEq, Int.reduceLT, Int.reduceLE, Int.reduceGT, Int.reduceGE, Int.reduceEq, Int.reduceNe, Int.reduceBEq, Int.reduceBNe, Int.reduceAdd, Int.reduceSub, Int.reduceMul, Int.reduceToNat, Int.reduceNeg, ↓reduceIte, ↓reduceDIte, hl]
    refine CT_of (refset_ev (by simp; omega) (h.app _)) ?_
    rintro _ _ ⟨aw1, ab1, t1, rfl, rfl, g1, p1, p2⟩
    simp -dsimp only [go_sem, Nat.reduceEqDiff, Nat.reduceAdd, Nat.reduceSub, Nat.reduceMul, Nat.reduceLeDiff, Nat.reduceLT, Nat.reduceBEq, Int.reduceLT, Int.reduceLE, Int.reduceGT, Int.reduceGE, Int.reduceEq, Int.reduceNe, Int.reduceBEq, Int.reduceBNe, Int.reduceAdd, Int.reduceSub, Int.reduceMul, Int.reduceToNat, Int.reduceNeg, ↓reduceIte, ↓reduceDIte, hl]
    refine CT_val (bar_ev (hm.app _)) ?_
    rw [memPut_app hm]
    have e : m.rset a k true = m.bars a k true := rfl
    rw [e] at g1 ⊢
    rw [show m.act ⟨6, a, k, v0, v1, v2, v3⟩ = m.bars a k true by simp [MV.act]]
    simp -dsimp only [go_sem, Nat.reduceEqDiff, Nat.reduceAdd, Nat.reduceSub, Nat.reduceMul, Nat.reduceLeDiff, Nat.reduceLT, Nat.reduceBEq, Int.reduceLT, Int.reduceLE, Int.reduceGT, Int.reduceGE, Int.reduceEq, Int.reduceNe, Int.reduceBEq, Int.reduceBNe, Int.reduceAdd, Int.reduceSub, Int.reduceMul, Int.reduceToNat, Int.reduceNeg, ↓reduceIte, ↓reduceDIte, hl, memPut_len, take_app_n, get_app_n, get_app_n0, set_app_n, set_app_n0, lget_app_n, lget_app_n0, lcells_app_n, lcells_app_n0, List.length_set, List.take_of_length_le, List.set_set, get_left, set_left, lget_left, lcells_left, get_set_eq, get_set_ne, lget_set_eq, lget_set_ne, lcells_set_ne]
    exact ⟨aw1, ab1, _, rfl, rfl, by
      have := g1.put (o1.of p1 (by simp; omega) (by simp; omega) (by simp; omega)) (o2.of p2 (by simp; omega) (by simp; omega) (by simp; omega)) (m.bars a k true)
      rw [memPut_app (hm.app _), memPut_app hm] at this
      exact this.into (by simp [unbox_app, unbox_cons, unboxO_box]), o1.of p1 (by simp; omega) (by simp; omega) (by simp; omega), o2.of p2 (by simp; omega) (by simp; omega) (by simp; omega)⟩
  by_cases h7 : kind = 7
  · subst h7
    simp -dsimp only [go_sem, Nat.reduceEqDiff, Nat.reduceAdd, Nat.reduceSub, Nat.reduceMul, Nat.reduceLeDiff, Nat.reduceLT, Nat.reduceBEq, Int.reduceLT, Int.reduceLE, Int.reduceGT, Int.reduceGE, Int.reduceEq, Int.reduceNe, Int.reduceBEq, Int.reduceBNe, Int.reduceAdd, Int.reduceSub, Int.reduceMul, Int.reduceToNat, Int.reduceNeg, ↓reduceIte, ↓reduceDIte, hl]
    refine CT_of (refset_ev (by simp; omega) (h.app _)) ?_
    rintro _ _ ⟨aw1, ab1, t1, rfl, rfl, g1, p1, p2⟩
    simp -dsimp only [go_sem, Nat.reduceEqDiff, Nat.reduceAdd, Nat.reduceSub, Nat.reduceMul, Nat.reduceLeDiff, Nat.reduceLT, Nat.reduceBEq, Int.reduceLT, Int.reduceLE, Int.reduceGT, Int.reduceGE, Int.reduceEq, Int.reduceNe, Int.reduceBEq, Int.reduceBNe, Int.reduceAdd, Int.reduceSub, Int.reduceMul, Int.reduceToNat, Int.reduceNeg, ↓reduceIte, ↓reduceDIte, hl]
    refine CT_val (free_ev (hm.app _)) ?_
    rw [memPut_app hm]
    have e : m.rset a k false = m.free a k := rfl
    rw [e] at g1 ⊢
    rw [show m.act ⟨7, a, k, v0, v1, v2, v3⟩ = m.free a k by simp [MV.act]]
    simp -dsimp only [go_sem, Nat.reduceEqDiff, Nat.reduceAdd, Nat.reduceSub, Nat.reduceMul, Nat.reduceLeDiff, Nat.reduceLT, Nat.reduceBEq, Int.reduceLT, Int.reduceLE, Int.reduceGT, Int.reduceGE, Int.reduceEq, Int.reduceNe, Int.reduceBEq, Int.reduceBNe, Int.reduceAdd, Int.reduceSub, Int.reduceMul, Int.reduceToNat, Int.reduceNeg, ↓reduceIte, ↓reduceDIte, hl, memPut_len, take_app_n, get_app_n, get_app_n0, set_app_n, set_app_n0, lget_app_n, lget_app_n0, lcells_app_n, lcells_app_n0, List.length_set, List.take_of_length_le, List.set_set, get_left, set_left, lget_left, lcells_left, get_set_eq, get_set_ne, lget_set_eq, lget_set_ne, lcells_set_ne]
    exact ⟨aw1, ab1, _, rfl, rfl, by
      have := g1.put (o1.of p1 (by simp; omega) (by simp; omega) (by simp; omega)) (o2.of p2 (by simp; omega) (by simp; omega) (by simp; omega)) (m.free a k)
      rw [memPut_app (hm.app _), memPut_app hm] at this
      exact this.into (by simp [unbox_app, unbox_cons, unboxO_box]), o1.of p1 (by simp; omega) (by simp; omega) (by simp; omega), o2.of p2 (by simp; omega) (by simp; omega) (by simp; omega)⟩
  by_cases h0 : kind = 0
  · subst h0
    simp -dsimp only [go_sem, Nat.reduceEqDiff, Nat.reduceAdd, Nat.reduceSub, Nat.reduceMul, Nat.reduceLeDiff, Nat.reduceLT, Nat.reduceBEq, Int.reduceLT, Int.reduceLE, Int.reduceGT, Int.reduceGE, Int.reduceEq, Int.reduceNe, Int.reduceBEq, Int.reduceBNe, Int.reduceAdd, Int.reduceSub, Int.reduceMul, Int.reduceToNat, Int.reduceNeg, ↓reduceIte, ↓reduceDIte, hl]
    refine CT_of (refstep_ev (by simp; omega) (h.app _)) ?_
    rintro _ _ ⟨aw1, t1, rfl, rfl, g1, p1⟩
    have hs : m.step 0 a v0 v1 v2 v3 = (m.use 0 a id, m.load a, false) := by simp [MV.step]
    have hsl := MV.step_len m 0 a v0 v1 v2 v3
    rw [hs] at g1 p1 hsl ⊢
    have q1 : aw1 = aw ∨ Fresh _ aw1 := p1.imp id fun p => p.fresh
    simp only at g1 hsl
    have g2 : RefAt _ aw1 ab n (m.use 0 a id) := ⟨g1, by rw [hsl.2]; exact (h.bs.app _).app _, hsl.1.trans h.len, by rw [hsl.2]; exact h.bar, h.le⟩
    simp -dsimp only [go_sem, Nat.reduceEqDiff, Nat.reduceAdd, Nat.reduceSub, Nat.reduceMul, Nat.reduceLeDiff, Nat.reduceLT, Nat.reduceBEq, Int.reduceLT, Int.reduceLE, Int.reduceGT, Int.reduceGE, Int.reduceEq, Int.reduceNe, Int.reduceBEq, Int.reduceBNe, Int.reduceAdd, Int.reduceSub, Int.reduceMul, Int.reduceToNat, Int.reduceNeg, ↓reduceIte, ↓reduceDIte, hl]
    refine CT_val (load_ev (hm.app _)) ?_
    rw [memPut_app hm, show m.act ⟨0, a, k, v0, v1, v2, v3⟩ = m.use 0 a id by simp [MV.act, MV.step]]
    simp -dsimp only [go_sem, Nat.reduceEqDiff, Nat.reduceAdd, Nat.reduceSub, Nat.reduceMul, Nat.reduceLeDiff, Nat.reduceLT, Nat.reduceBEq, Int.reduceLT, Int.reduceLE, Int.reduceGT, Int.reduceGE, Int.reduceEq, Int.reduceNe, Int.reduceBEq, Int.reduceBNe, Int.reduceAdd, Int.reduceSub, Int.reduceMul, Int.reduceToNat, Int.reduceNeg, ↓reduceIte, ↓reduceDIte, hl, memPut_len, take_app_n, get_app_n, get_app_n0, set_app_n, set_app_n0, lget_app_n, lget_app_n0, lcells_app_n, lcells_app_n0, List.length_set, List.take_of_length_le, List.set_set, get_left, set_left, lget_left, lcells_left, get_set_eq, get_set_ne, lget_set_eq, lget_set_ne, lcells_set_ne]
    exact ⟨aw1, ab, _, rfl, rfl, by
      have := g2.put (o1.of q1 (by simp; omega) (by simp; omega) (by simp; omega)) o2 (m.use 0 a id)
      rw [memPut_app (hm.app _), memPut_app hm] at this
      exact this.into (by simp [unbox_app, unbox_cons, unboxO_box]), o1.of q1 (by simp; omega) (by simp; omega) (by simp; omega), o2⟩
  by_cases h1 : kind = 1
  · subst h1
    simp -dsimp only [go_sem, Nat.reduceEqDiff, Nat.reduceAdd, Nat.reduceSub, Nat.reduceMul, Nat.reduceLeDiff, Nat.reduceLT, Nat.reduceBEq, Int.reduceLT, Int.reduceLE, Int.reduceGT, Int.reduceGE, Int.reduceEq, Int.reduceNe, Int.reduceBEq, Int.reduceBNe, Int.reduceAdd, Int.reduceSub, Int.reduceMul, Int.reduceToNat, Int.reduceNeg, ↓reduceIte, ↓reduceDIte, hl]
    refine CT_of (refstep_ev (by simp; omega) (h.app _)) ?_
    rintro _ _ ⟨aw1, t1, rfl, rfl, g1, p1⟩
    have hs : m.step 1 a v0 v1 v2 v3 = (m.use 1 a fun _ => v0, 0#64, false) := by simp [MV.step]
    have hsl := MV.step_len m 1 a v0 v1 v2 v3
    rw [hs] at g1 p1 hsl ⊢
    have q1 : aw1 = aw ∨ Fresh _ aw1 := p1.imp id fun p => p.fresh
    simp only at g1 hsl
    have g2 : RefAt _ aw1 ab n (m.use 1 a fun _ => v0) := ⟨g1, by rw [hsl.2]; exact (h.bs.app _).app _, hsl.1.trans h.len, by rw [hsl.2]; exact h.bar, h.le⟩
    simp -dsimp only [go_sem, Nat.reduceEqDiff, Nat.reduceAdd, Nat.reduceSub, Nat.reduceMul, Nat.reduceLeDiff, Nat.reduceLT, Nat.reduceBEq, Int.reduceLT, Int.reduceLE, Int.reduceGT, Int.reduceGE, Int.reduceEq, Int.reduceNe, Int.reduceBEq, Int.reduceBNe, Int.reduceAdd, Int.reduceSub, Int.reduceMul, Int.reduceToNat, Int.reduceNeg, ↓reduceIte, ↓reduceDIte, hl]
    refine CT_heap (store_ev (hm.app _)) ?_
    intro _
    rw [memPut_app hm, show m.act ⟨1, a, k, v0, v1, v2, v3⟩ = m.use 1 a fun _ => v0 by simp [MV.act, MV.step]]
    simp -dsimp only [go_sem, Nat.reduceEqDiff, Nat.reduceAdd, Nat.reduceSub, Nat.reduceMul, Nat.reduceLeDiff, Nat.reduceLT, Nat.reduceBEq, Int.reduceLT, Int.reduceLE, Int.reduceGT, Int.reduceGE, Int.reduceEq, Int.reduceNe, Int.reduceBEq, Int.reduceBNe, Int.reduceAdd, Int.reduceSub, Int.reduceMul, Int.reduceToNat, Int.reduceNeg, ↓reduceIte, ↓reduceDIte, hl, memPut_len, take_app_n, get_app_n, get_app_n0, set_app_n, set_app_n0, lget_app_n, lget_app_n0, lcells_app_n, lcells_app_n0, List.length_set, List.take_of_length_le, List.set_set, get_left, set_left, lget_left, lcells_left, get_set_eq, get_set_ne, lget_set_eq, lget_set_ne, lcells_set_ne]
    exact ⟨aw1, ab, _, rfl, rfl, by
      have := g2.put (o1.of q1 (by simp; omega) (by simp; omega) (by simp; omega)) o2 (m.use 1 a fun _ => v0)
      rw [memPut_app (hm.app _), memPut_app hm] at this
      exact this.into (by simp [unbox_app, unbox_cons, unboxO_box]), o1.of q1 (by simp; omega) (by simp; omega) (by simp; omega), o2⟩
  by_cases h2 : kind = 2
  · subst h2
    simp -dsimp only [go_sem, Nat.reduceEqDiff, Nat.reduceAdd, Nat.reduceSub, Nat.reduceMul, Nat.reduceLeDiff, Nat.reduceLT, Nat.reduceBEq, Int.reduceLT, Int.reduceLE, Int.reduceGT, Int.reduceGE, Int.reduceEq, Int.reduceNe, Int.reduceBEq, Int.reduceBNe, Int.reduceAdd, Int.reduceSub, Int.reduceMul, Int.reduceToNat, Int.reduceNeg, ↓reduceIte, ↓reduceDIte, hl]
    refine CT_of (refstep_ev (by simp; omega) (h.app _)) ?_
    rintro _ _ ⟨aw1, t1, rfl, rfl, g1, p1⟩
    have hs : m.step 2 a v0 v1 v2 v3 = (m.use 2 a fun w => if w = v0 then v1 else w, 0#64, m.swaps a v0) := by simp [MV.step]
    have hsl := MV.step_len m 2 a v0 v1 v2 v3
    rw [hs] at g1 p1 hsl ⊢
    have q1 : aw1 = aw ∨ Fresh _ aw1 := p1.imp id fun p => p.fresh
    simp only at g1 hsl
    have g2 : RefAt _ aw1 ab n (m.use 2 a fun w => if w = v0 then v1 else w) := ⟨g1, by rw [hsl.2]; exact (h.bs.app _).app _, hsl.1.trans h.len, by rw [hsl.2]; exact h.bar, h.le⟩
    simp -dsimp only [go_sem, Nat.reduceEqDiff, Nat.reduceAdd, Nat.reduceSub, Nat.reduceMul, Nat.reduceLeDiff, Nat.reduceLT, Nat.reduceBEq, Int.reduceLT, Int.reduceLE, Int.reduceGT, Int.reduceGE, Int.reduceEq, Int.reduceNe, Int.reduceBEq, Int.reduceBNe, Int.reduceAdd, Int.reduceSub, Int.reduceMul, Int.reduceToNat, Int.reduceNeg, ↓reduceIte, ↓reduceDIte, hl]
    refine CT_val (swap_ev (hm.app _)) ?_
    rw [memPut_app hm, show m.act ⟨2, a, k, v0, v1, v2, v3⟩ = m.use 2 a fun w => if w = v0 then v1 else w by simp [MV.act, MV.step]]
    simp -dsimp only [go_sem, Nat.reduceEqDiff, Nat.reduceAdd, Nat.reduceSub, Nat.reduceMul, Nat.reduceLeDiff, Nat.reduceLT, Nat.reduceBEq, Int.reduceLT, Int.reduceLE, Int.reduceGT, Int.reduceGE, Int.reduceEq, Int.reduceNe, Int.reduceBEq, Int.reduceBNe, Int.reduceAdd, Int.reduceSub, Int.reduceMul, Int.reduceToNat, Int.reduceNeg, ↓reduceIte, ↓reduceDIte, hl, memPut_len, take_app_n, get_app_n, get_app_n0, set_app_n, set_app_n0, lget_app_n, lget_app_n0, lcells_app_n, lcells_app_n0, List.length_set, List.take_of_length_le, List.set_set, get_left, set_left, lget_left, lcells_left, get_set_eq, get_set_ne, lget_set_eq, lget_set_ne, lcells_set_ne]
    exact ⟨aw1, ab, _, rfl, rfl, by
      have := g2.put (o1.of q1 (by simp; omega) (by simp; omega) (by simp; omega)) o2 (m.use 2 a fun w => if w = v0 then v1 else w)
      rw [memPut_app (hm.app _), memPut_app hm] at this
      exact this.into (by simp [unbox_app, unbox_cons, unboxO_box]), o1.of q1 (by simp; omega) (by simp; omega) (by simp; omega), o2⟩
  by_cases h3 : kind = 3
  · subst h3
    simp -dsimp only [go_sem, Nat.reduceEqDiff, Nat.reduceAdd, Nat.reduceSub, Nat.reduceMul, Nat.reduceLeDiff, Nat.reduceLT, Nat.reduceBEq, Int.reduceLT, Int.reduceLE, Int.reduceGT, Int.reduceGE, Int.reduceEq, Int.reduceNe, Int.reduceBEq, Int.reduceBNe, Int.reduceAdd, Int.reduceSub, Int.reduceMul, Int.reduceToNat, Int.reduceNeg, ↓reduceIte, ↓reduceDIte, hl]
    refine CT_of (refstep_ev (by simp; omega) (h.app _)) ?_
    rintro _ _ ⟨aw1, t1, rfl, rfl, g1, p1⟩
    have hs : m.step 3 a v0 v1 v2 v3 = (m.use 3 a (· + v0), m.load a, false) := by simp [MV.step]
    have hsl := MV.step_len m 3 a v0 v1 v2 v3
    rw [hs] at g1 p1 hsl ⊢
    have q1 : aw1 = aw ∨ Fresh _ aw1 := p1.imp id fun p => p.fresh
    simp only at g1 hsl
    have g2 : RefAt _ aw1 ab n (m.use 3 a (· + v0)) := ⟨g1, by rw [hsl.2]; exact (h.bs.app _).app _, hsl.1.trans h.len, by rw [hsl.2]; exact h.bar, h.le⟩
    simp -dsimp only [go_sem, Nat.reduceEqDiff, Nat.reduceAdd, Nat.reduceSub, Nat.reduceMul, Nat.reduceLeDiff, Nat.reduceLT, Nat.reduceBEq, Int.reduceLT, Int.reduceLE, Int.reduceGT, Int.reduceGE, Int.reduceEq, Int.reduceNe, Int.reduceBEq, Int.reduceBNe, Int.reduceAdd, Int.reduceSub, Int.reduceMul, Int.reduceToNat, Int.reduceNeg, ↓reduceIte, ↓reduceDIte, hl]
    refine CT_val (add_ev (hm.app _)) ?_
    rw [memPut_app hm, show m.act ⟨3, a, k, v0, v1, v2, v3⟩ = m.use 3 a (· + v0) by simp [MV.act, MV.step]]
    simp -dsimp only [go_sem, Nat.reduceEqDiff, Nat.reduceAdd, Nat.reduceSub, Nat.reduceMul, Nat.reduceLeDiff, Nat.reduceLT, Nat.reduceBEq, Int.reduceLT, Int.reduceLE, Int.reduceGT, Int.reduceGE, Int.reduceEq, Int.reduceNe, Int.reduceBEq, Int.reduceBNe, Int.reduceAdd, Int.reduceSub, Int.reduceMul, Int.reduceToNat, Int.reduceNeg, ↓reduceIte, ↓reduceDIte, hl, memPut_len, take_app_n, get_app_n, get_app_n0, set_app_n, set_app_n0, lget_app_n, lget_app_n0, lcells_app_n, lcells_app_n0, List.length_set, List.take_of_length_le, List.set_set, get_left, set_left, lget_left, lcells_left, get_set_eq, get_set_ne, lget_set_eq, lget_set_ne, lcells_set_ne]
    exact ⟨aw1, ab, _, rfl, rfl, by
      have := g2.put (o1.of q1 (by simp; omega) (by simp; omega) (by simp; omega)) o2 (m.use 3 a (· + v0))
      rw [memPut_app (hm.app _), memPut_app hm] at this
      exact this.into (by simp [unbox_app, unbox_cons, unboxO_box]), o1.of q1 (by simp; omega) (by simp; omega) (by simp; omega), o2⟩
  by_cases h4 : kind = 4
  · subst h4
    simp -dsimp only [go_sem, Nat.reduceEqDiff, Nat.reduceAdd, Nat.reduceSub, Nat.reduceMul, Nat.reduceLeDiff, Nat.reduceLT, Nat.reduceBEq, Int.reduceLT, Int.reduceLE, Int.reduceGT, Int.reduceGE, Int.reduceEq, Int.reduceNe, Int.reduceBEq, Int.reduceBNe, Int.reduceAdd, Int.reduceSub, Int.reduceMul, Int.reduceToNat, Int.reduceNeg, ↓reduceIte, ↓reduceDIte, hl]
    refine CT_of (refstep_ev (by simp; omega) (h.app _)) ?_
    rintro _ _ ⟨aw1, t1, rfl, rfl, g1, p1⟩
    have hs : m.step 4 a v0 v1 v2 v3 = (m.use 4 a (· ||| v0), m.load a, false) := by simp [MV.step]
    have hsl := MV.step_len m 4 a v0 v1 v2 v3
    rw [hs] at g1 p1 hsl ⊢
    have q1 : aw1 = aw ∨ Fresh _ aw1 := p1.imp id fun p => p.fresh
    simp only at g1 hsl
    have g2 : RefAt _ aw1 ab n (m.use 4 a (· ||| v0)) := ⟨g1, by rw [hsl.2]; exact (h.bs.app _).app _, hsl.1.trans h.len, by rw [hsl.2]; exact h.bar, h.le⟩
    simp -dsimp only [go_sem, Nat.reduceEqDiff, Nat.reduceAdd, Nat.reduceSub, Nat.reduceMul, Nat.reduceLeDiff, Nat.reduceLT, Nat.reduceBEq, Int.reduceLT, Int.reduceLE, Int.reduceGT, Int.reduceGE, Int.reduceEq, Int.reduceNe, Int.reduceBEq, Int.reduceBNe, Int.reduceAdd, Int.reduceSub, Int.reduceMul, Int.reduceToNat, Int.reduceNeg, ↓reduceIte, ↓reduceDIte, hl]
    refine CT_val (or_ev (hm.app _)) ?_
    rw [memPut_app hm, show m.act ⟨4, a, k, v0, v1, v2, v3⟩ = m.use 4 a (· ||| v0) by simp [MV.act, MV.step]]
    simp -dsimp only [go_sem, Nat.reduceEqDiff, Nat.reduceAdd, Nat.reduceSub, Nat.reduceMul, Nat.reduceLeDiff, Nat.reduceLT, Nat.reduceBEq, Int.reduceLT, Int.reduceLE, Int.reduceGT, Int.reduceGE, Int.reduceEq, Int.reduceNe, Int.reduceBEq, Int.reduceBNe, Int.reduceAdd, Int.reduceSub, Int.reduceMul, Int.reduceToNat, Int.reduceNeg, ↓reduceIte, ↓reduceDIte, hl, memPut_len, take_app_n, get_app_n, get_app_n0, set_app_n, set_app_n0, lget_app_n, lget_app_n0, lcells_app_n, lcells_app_n0, List.length_set, List.take_of_length_le, List.set_set, get_left, set_left, lget_left, lcells_left, get_set_eq, get_set_ne, lget_set_eq, lget_set_ne, lcells_set_ne]
    exact ⟨aw1, ab, _, rfl, rfl, by
      have := g2.put (o1.of q1 (by simp; omega) (by simp; omega) (by simp; omega)) o2 (m.use 4 a (· ||| v0))
      rw [memPut_app (hm.app _), memPut_app hm] at this
      exact this.into (by simp [unbox_app, unbox_cons, unboxO_box]), o1.of q1 (by simp; omega) (by simp; omega) (by simp; omega), o2⟩
  by_cases h5 : kind = 5
  · subst h5
    simp -dsimp only [go_sem, Nat.reduceEqDiff, Nat.reduceAdd, Nat.reduceSub, Nat.reduceMul, Nat.reduceLeDiff, Nat.reduceLT, Nat.reduceBEq, Int.reduceLT, Int.reduceLE, Int.reduceGT, Int.reduceGE, Int.reduceEq, Int.reduceNe, Int.reduceBEq, Int.reduceBNe, Int.reduceAdd, Int.reduceSub, Int.reduceMul, Int.reduceToNat, Int.reduceNeg, ↓reduceIte, ↓reduceDIte, hl]
    refine CT_of (refstep_ev (by simp; omega) (h.app _)) ?_
    rintro _ _ ⟨aw1, t1, rfl, rfl, g1, p1⟩
    have hs : m.step 5 a v0 v1 v2 v3 = (m.pair a v0 v1 v2 v3, 0#64, m.pairs a v0 v1) := by simp [MV.step]
    have hsl := MV.step_len m 5 a v0 v1 v2 v3
    rw [hs] at g1 p1 hsl ⊢
    have q1 : aw1 = aw ∨ Fresh _ aw1 := p1.imp id fun p => p.fresh
    simp only at g1 hsl
    have g2 : RefAt _ aw1 ab n (m.pair a v0 v1 v2 v3) := ⟨g1, by rw [hsl.2]; exact (h.bs.app _).app _, hsl.1.trans h.len, by rw [hsl.2]; exact h.bar, h.le⟩
    simp -dsimp only [go_sem, Nat.reduceEqDiff, Nat.reduceAdd, Nat.reduceSub, Nat.reduceMul, Nat.reduceLeDiff, Nat.reduceLT, Nat.reduceBEq, Int.reduceLT, Int.reduceLE, Int.reduceGT, Int.reduceGE, Int.reduceEq, Int.reduceNe, Int.reduceBEq, Int.reduceBNe, Int.reduceAdd, Int.reduceSub, Int.reduceMul, Int.reduceToNat, Int.reduceNeg, ↓reduceIte, ↓reduceDIte, hl]
    refine CT_val (pair_ev (hm.app _)) ?_
    rw [memPut_app hm, show m.act ⟨5, a, k, v0, v1, v2, v3⟩ = m.pair a v0 v1 v2 v3 by simp [MV.act, MV.step]]
    simp -dsimp only [go_sem, Nat.reduceEqDiff, Nat.reduceAdd, Nat.reduceSub, Nat.reduceMul, Nat.reduceLeDiff, Nat.reduceLT, Nat.reduceBEq, Int.reduceLT, Int.reduceLE, Int.reduceGT, Int.reduceGE, Int.reduceEq, Int.reduceNe, Int.reduceBEq, Int.reduceBNe, Int.reduceAdd, Int.reduceSub, Int.reduceMul, Int.reduceToNat, Int.reduceNeg, ↓reduceIte, ↓reduceDIte, hl, memPut_len, take_app_n, get_app_n, get_app_n0, set_app_n, set_app_n0, lget_app_n, lget_app_n0, lcells_app_n, lcells_app_n0, List.length_set, List.take_of_length_le, List.set_set, get_left, set_left, lget_left, lcells_left, get_set_eq, get_set_ne, lget_set_eq, lget_set_ne, lcells_set_ne]
    exact ⟨aw1, ab, _, rfl, rfl, by
      have := g2.put (o1.of q1 (by simp; omega) (by simp; omega) (by simp; omega)) o2 (m.pair a v0 v1 v2 v3)
      rw [memPut_app (hm.app _), memPut_app hm] at this
      exact this.into (by simp [unbox_app, unbox_cons, unboxO_box]), o1.of q1 (by simp; omega) (by simp; omega) (by simp; omega), o2⟩
  have hs : m.step kind a v0 v1 v2 v3 = (m, 0#64, false) := by simp [MV.step, *]
  have e0 : (kind == 0) = false := by simpa using h0
  have e1 : (kind == 1) = false := by simpa using h1
  have e2 : (kind == 2) = false := by simpa using h2
  have e3 : (kind == 3) = false := by simpa using h3
  have e4 : (kind == 4) = false := by simpa using h4
  have e5 : (kind == 5) = false := by simpa using h5
  have e6 : (kind == 6) = false := by simpa using h6
  have e7 : (kind == 7) = false := by simpa using h7
  simp -dsimp only [go_sem, Nat.reduceEqDiff, Nat.reduceAdd, Nat.reduceSub, Nat.reduceMul, Nat.reduceLeDiff, Nat.reduceLT, Nat.reduceBEq, Int.reduceLT, Int.reduceLE, Int.reduceGT, Int.reduceGE, Int.reduceEq, Int.reduceNe, Int.reduceBEq, Int.reduceBNe, Int.reduceAdd, Int.reduceSub, Int.reduceMul, Int.reduceToNat, Int.reduceNeg, ↓reduceIte, ↓reduceDIte, hl, e6, e7]
  refine CT_of (refstep_ev (by simp; omega) (h.app _)) ?_
  rintro _ _ ⟨aw1, t1, rfl, rfl, g1, p1⟩
  rw [hs] at g1 p1 ⊢
  have q1 : aw1 = aw ∨ Fresh _ aw1 := p1.imp id fun p => p.fresh
  simp only at g1
  have g2 : RefAt _ aw1 ab n m := ⟨g1, (h.bs.app _).app _, h.len, h.bar, h.le⟩
  rw [show m.act ⟨kind, a, k, v0, v1, v2, v3⟩ = m by simp [MV.act, hs, h6, h7]]
  simp -dsimp only [go_sem, Nat.reduceEqDiff, Nat.reduceAdd, Nat.reduceSub, Nat.reduceMul, Nat.reduceLeDiff, Nat.reduceLT, Nat.reduceBEq, Int.reduceLT, Int.reduceLE, Int.reduceGT, Int.reduceGE, Int.reduceEq, Int.reduceNe, Int.reduceBEq, Int.reduceBNe, Int.reduceAdd, Int.reduceSub, Int.reduceMul, Int.reduceToNat, Int.reduceNeg, ↓reduceIte, ↓reduceDIte, hl, e0, e1, e2, e3, e4, e5]
  exact ⟨aw1, ab, _, rfl, by rw [memPut_same hm], by
    rw [memPut_same hm]
    exact g2.into (by simp [unbox_app, unbox_cons, unboxO_box]), o1.of q1 (by simp; omega) (by simp; omega) (by simp; omega), o2⟩
end Go.Proofs.Ytckfbicepdbafaa
