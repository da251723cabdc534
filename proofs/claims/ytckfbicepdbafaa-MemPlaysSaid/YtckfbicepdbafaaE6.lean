/- The statement MemPlays. -/
import Derived.Test.YtckfbicepdbafaaE5
namespace Go.Proofs.Ytckfbicepdbafaa
open Go Go.LK
set_option linter.unusedSimpArgs false
set_option linter.unusedVariables false
abbrev rrow (aw ab : Option Addr) (n : Nat) (m : MV) : LObj := .row false 0 [.slice aw n n, .slice ab n n, i64 m.c0, i64 m.c1, i64 m.c2, i64 m.c3, i64 m.c4, i64 m.c5, i64 m.trap, .bool m.fell]
structure PS where
  i : Nat
  m : MV
  aw : Option Addr
  ab : Option Addr
  t : LHeap
abbrev PS.G (H t0 : LHeap) (n : Nat) (s : PS) : LHeap := H ++ (wrow s.m :: brow s.m :: mrow H.length (H.length + 1) s.m :: (t0 ++ rrow s.aw s.ab n s.m :: s.t))
structure PS.I (H t0 : LHeap) (n : Nat) (s : PS) : Prop where
  ok : s.m.Ok n
  ref : RefAt (s.G H t0 n) s.aw s.ab n s.m
  o1 : OffMem s.aw (H.length + 2) H.length (H.length + 1)
  o2 : OffMem s.ab (H.length + 2) H.length (H.length + 1)
theorem MV.Ok.act {m : MV} {n : Nat} (h : m.Ok n) (c : ActD) : (m.act c).Ok n := by
  unfold MV.act
  split
  · exact h.bars _ _ _
  · split
    · exact h.free _ _
    · have := MV.step_len m c.kind c.a c.v0 c.v1 c.v2 c.v3
      exact ⟨this.1.trans h.w, by rw [this.2]; exact h.b, h.pos, h.le⟩
theorem plays_ev {lim : Nat} {words : Int} {a : Option Addr} {l : List ActD} {H : LHeap} (hs : Sl 7 H a (l.flatMap ActD.cells)) (hok : ∀ c ∈ l, ActD.Ok c) :
    callE T 5 lim [i64 words, .slice a l.length l.length] H fun v H' => v = .bool true := by
  refine callE_pop rfl (by simp) rfl ?_
  simp -dsimp only [go_sem, Nat.reduceEqDiff, Nat.reduceAdd, Nat.reduceSub, Nat.reduceMul, Nat.reduceLeDiff, Nat.reduceLT, Nat.reduceBEq, Int.reduceLT, Int.reduceLE, Int.reduceGT, Int.reduceGE, Int.reduceEq, Int.reduceNe, Int.reduceBEq, Int.reduceBNe, Int.reduceAdd, Int.reduceSub, Int.reduceMul, Int.reduceToNat, Int.reduceNeg, ↓reduceIte, ↓reduceDIte]
  by_cases hbad : words < 1 ∨ 65536 < words
  · refine CT_of (new_ev (by simp)) ?_
    rintro _ _ h
    rw [if_pos hbad] at h
    obtain ⟨rfl, rfl⟩ := h
    simp -dsimp only [go_sem, Nat.reduceEqDiff, Nat.reduceAdd, Nat.reduceSub, Nat.reduceMul, Nat.reduceLeDiff, Nat.reduceLT, Nat.reduceBEq, Int.reduceLT, Int.reduceLE, Int.reduceGT, Int.reduceGE, Int.reduceEq, Int.reduceNe, Int.reduceBEq, Int.reduceBNe, Int.reduceAdd, Int.reduceSub, Int.reduceMul, Int.reduceToNat, Int.reduceNeg, ↓reduceIte, ↓reduceDIte]
    refine CT_of (refnew_ev (by simp)) ?_
    rintro _ _ h
    rw [if_pos hbad] at h
    obtain ⟨m0, t0, rfl, rfl⟩ := h
    simp -dsimp only [go_sem, Nat.reduceEqDiff, Nat.reduceAdd, Nat.reduceSub, Nat.reduceMul, Nat.reduceLeDiff, Nat.reduceLT, Nat.reduceBEq, Int.reduceLT, Int.reduceLE, Int.reduceGT, Int.reduceGE, Int.reduceEq, Int.reduceNe, Int.reduceBEq, Int.reduceBNe, Int.reduceAdd, Int.reduceSub, Int.reduceMul, Int.reduceToNat, Int.reduceNeg, ↓reduceIte, ↓reduceDIte]
    refine CT_val (one_ev _ _) ?_
    simp -dsimp only [go_sem, Nat.reduceEqDiff, Nat.reduceAdd, Nat.reduceSub, Nat.reduceMul, Nat.reduceLeDiff, Nat.reduceLT, Nat.reduceBEq, Int.reduceLT, Int.reduceLE, Int.reduceGT, Int.reduceGE, Int.reduceEq, Int.reduceNe, Int.reduceBEq, Int.reduceBNe, Int.reduceAdd, Int.reduceSub, Int.reduceMul, Int.reduceToNat, Int.reduceNeg, ↓reduceIte, ↓reduceDIte]
  · obtain ⟨n, rfl⟩ := Int.eq_ofNat_of_zero_le (show 0 ≤ words by omega)
    refine CT_of (new_ev (by simp)) ?_
    rintro _ _ h
    rw [if_neg hbad] at h
    obtain ⟨rfl, rfl⟩ := h
    have ok0 := MV.Ok.new (n := n) (by omega) (by omega)
    simp -dsimp only [go_sem, Nat.reduceEqDiff, Nat.reduceAdd, Nat.reduceSub, Nat.reduceMul, Nat.reduceLeDiff, Nat.reduceLT, Nat.reduceBEq, Int.reduceLT, Int.reduceLE, Int.reduceGT, Int.reduceGE, Int.reduceEq, Int.reduceNe, Int.reduceBEq, Int.reduceBNe, Int.reduceAdd, Int.reduceSub, Int.reduceMul, Int.reduceToNat, Int.reduceNeg, ↓reduceIte, ↓reduceDIte]
    refine CT_of (refnew_ev (by simp)) ?_
    rintro _ _ h
    rw [if_neg hbad] at h
    obtain ⟨aw0, ab0, t0, rfl, rfl, r0, p0, p1⟩ := h
    simp only [Int.toNat_natCast] at r0 ⊢
    simp -dsimp only [go_sem, Nat.reduceEqDiff, Nat.reduceAdd, Nat.reduceSub, Nat.reduceMul, Nat.reduceLeDiff, Nat.reduceLT, Nat.reduceBEq, Int.reduceLT, Int.reduceLE, Int.reduceGT, Int.reduceGE, Int.reduceEq, Int.reduceNe, Int.reduceBEq, Int.reduceBNe, Int.reduceAdd, Int.reduceSub, Int.reduceMul, Int.reduceToNat, Int.reduceNeg, ↓reduceIte, ↓reduceDIte]
    by_cases hbig : 4096 < n
    · have hbig' : 4096 < (n : Int) := by omega
      simp -dsimp only [go_sem, Nat.reduceEqDiff, Nat.reduceAdd, Nat.reduceSub, Nat.reduceMul, Nat.reduceLeDiff, Nat.reduceLT, Nat.reduceBEq, Int.reduceLT, Int.reduceLE, Int.reduceGT, Int.reduceGE, Int.reduceEq, Int.reduceNe, Int.reduceBEq, Int.reduceBNe, Int.reduceAdd, Int.reduceSub, Int.reduceMul, Int.reduceToNat, Int.reduceNeg, ↓reduceIte, ↓reduceDIte, hbig']
      refine CT_val (len_ev (mem_at (pre := []) ok0)) ?_
      have := ok0.w
      rw [this]
      simp -dsimp only [go_sem, Nat.reduceEqDiff, Nat.reduceAdd, Nat.reduceSub, Nat.reduceMul, Nat.reduceLeDiff, Nat.reduceLT, Nat.reduceBEq, Int.reduceLT, Int.reduceLE, Int.reduceGT, Int.reduceGE, Int.reduceEq, Int.reduceNe, Int.reduceBEq, Int.reduceBNe, Int.reduceAdd, Int.reduceSub, Int.reduceMul, Int.reduceToNat, Int.reduceNeg, ↓reduceIte, ↓reduceDIte]
      refine CT_val (one_ev _ _) ?_
      simp -dsimp only [go_sem, Nat.reduceEqDiff, Nat.reduceAdd, Nat.reduceSub, Nat.reduceMul, Nat.reduceLeDiff, Nat.reduceLT, Nat.reduceBEq, Int.reduceLT, Int.reduceLE, Int.reduceGT, Int.reduceGE, Int.reduceEq, Int.reduceNe, Int.reduceBEq, Int.reduceBNe, Int.reduceAdd, Int.reduceSub, Int.reduceMul, Int.reduceToNat, Int.reduceNeg, ↓reduceIte, ↓reduceDIte]
    · have hbig' : ¬ 4096 < (n : Int) := by omega
      simp -dsimp only [go_sem, Nat.reduceEqDiff, Nat.reduceAdd, Nat.reduceSub, Nat.reduceMul, Nat.reduceLeDiff, Nat.reduceLT, Nat.reduceBEq, Int.reduceLT, Int.reduceLE, Int.reduceGT, Int.reduceGE, Int.reduceEq, Int.reduceNe, Int.reduceBEq, Int.reduceBNe, Int.reduceAdd, Int.reduceSub, Int.reduceMul, Int.reduceToNat, Int.reduceNeg, ↓reduceIte, ↓reduceDIte, hbig']
      have off : ∀ {x : Option Addr}, Fresh (H ++ [wrow (MV.new n), brow (MV.new n), mrow H.length (H.length + 1) (MV.new n)]).length x → OffMem x (H.length + 2) H.length (H.length + 1) := fun h => OffMem.fresh h (by simp) (by simp) (by simp)
      refine LT_of (fun s : PS => [(0, i64 n), (1, .slice a l.length l.length), (5, ptr (H.length + 2)), (7, ptr (H.length + (t0.length + 3))), (9, i64 s.i)])
        (PS.G H t0 n) (fun s => s.i ≤ 60 ∧ s.I H t0 n) (fun s => 60 - s.i) ⟨0, MV.new n, aw0, ab0, []⟩ rfl rfl ⟨by simp, ⟨ok0, ?_, off p0.fresh, off p1⟩⟩ ?_
      · exact r0.into (by simp [unbox_app, unbox_cons, unboxO_box])
      rintro ⟨i, m, aw, ab, t⟩ ⟨hi, ho, hr, o1, o2⟩
      simp only [PS.G] at hi ho hr o1 o2 ⊢
      by_cases hc : i < l.length ∧ i < 60
      · have h1 : (i : Int) < l.length := by omega
        have h2 : (i : Int) < 60 := by omega
        have h3 : 0 ≤ (i : Int) := by omega
        have hw : IntKind.i64.wrap ((i : Int) + 1) = ((i + 1 : Nat) : Int) := by rw [wrap_i64] <;> omega
        have k1 : l[i]? = some (l[i]'hc.1) := List.getElem?_eq_getElem _
        generalize l[i]'hc.1 = c at k1
        obtain ⟨b, o, rfl, hb1, hg1, hg2⟩ := hs.rowsAt (m := 7) ActD.len (by omega) (by omega)
        have g1 := fun t => hg1 t i c k1
        have g2 := fun t => hg2 t i c 1 k1 (by omega)
        simp only [ActD.cells] at g1 g2
        simp -dsimp only [go_sem, Nat.reduceEqDiff, Nat.reduceAdd, Nat.reduceSub, Nat.reduceMul, Nat.reduceLeDiff, Nat.reduceLT, Nat.reduceBEq, Int.reduceLT, Int.reduceLE, Int.reduceGT, Int.reduceGE, Int.reduceEq, Int.reduceNe, Int.reduceBEq, Int.reduceBNe, Int.reduceAdd, Int.reduceSub, Int.reduceMul, Int.reduceToNat, Int.reduceNeg, ↓reduceIte, ↓reduceDIte, h1, h2, h3, g1]
        have hm : MemAt (H ++ (wrow m :: brow m :: mrow H.length (H.length + 1) m :: (t0 ++ rrow aw ab n m :: (t ++ [.row false 0 [.slice none 0 0, .slice none 0 0, i64 0, i64 0, i64 0, i64 0, i64 0, i64 0, i64 0, .bool false]])))) (H.length + 2) H.length (H.length + 1) m := mem_at (pre := []) ho
        refine CT_of (step_ev (c := c) (by simp) hm (hr.into (by simp [unbox_app, unbox_cons, unboxO_box])) o1 o2) ?_
        rintro _ _ ⟨aw1, ab1, t1, rfl, rfl, r1, q1, q2⟩
        have ho2 := ho.act c
        generalize m.act c = m' at ho2 r1 ⊢
        simp only [memPut, set_app, set_app0, List.set_cons_succ, List.set_cons_zero] at r1
        have r2 : RefAt (H ++ (wrow m' :: brow m' :: mrow H.length (H.length + 1) m' :: (t0 ++ rrow aw1 ab1 n m' :: (t ++ rrow aw1 ab1 n m' :: t1)))) aw1 ab1 n m' := r1.into (by simp [unbox_app, unbox_cons, unboxO_box])
        simp -dsimp only [go_sem, Nat.reduceEqDiff, Nat.reduceAdd, Nat.reduceSub, Nat.reduceMul, Nat.reduceLeDiff, Nat.reduceLT, Nat.reduceBEq, Int.reduceLT, Int.reduceLE, Int.reduceGT, Int.reduceGE, Int.reduceEq, Int.reduceNe, Int.reduceBEq, Int.reduceBNe, Int.reduceAdd, Int.reduceSub, Int.reduceMul, Int.reduceToNat, Int.reduceNeg, ↓reduceIte, ↓reduceDIte, h1, h2, h3, g1, memPut]
        refine CT_val (trap_ev (mem_at (pre := []) ho2)) ?_
        simp -dsimp only [go_sem, Nat.reduceEqDiff, Nat.reduceAdd, Nat.reduceSub, Nat.reduceMul, Nat.reduceLeDiff, Nat.reduceLT, Nat.reduceBEq, Int.reduceLT, Int.reduceLE, Int.reduceGT, Int.reduceGE, Int.reduceEq, Int.reduceNe, Int.reduceBEq, Int.reduceBNe, Int.reduceAdd, Int.reduceSub, Int.reduceMul, Int.reduceToNat, Int.reduceNeg, ↓reduceIte, ↓reduceDIte, h1, h2, h3, g1, g2]
        by_cases ha : c.a < 0
        · have hbad : m'.bad c.a = true := by simp [MV.bad, ha]
          refine CT_val (barred_ev (mem_at (pre := []) ho2)) ?_
          rw [hbad]
          simp -dsimp only [go_sem, Nat.reduceEqDiff, Nat.reduceAdd, Nat.reduceSub, Nat.reduceMul, Nat.reduceLeDiff, Nat.reduceLT, Nat.reduceBEq, Int.reduceLT, Int.reduceLE, Int.reduceGT, Int.reduceGE, Int.reduceEq, Int.reduceNe, Int.reduceBEq, Int.reduceBNe, Int.reduceAdd, Int.reduceSub, Int.reduceMul, Int.reduceToNat, Int.reduceNeg, ↓reduceIte, ↓reduceDIte, ha, h1, h3, g2, hw]
          exact ⟨⟨i + 1, m', aw1, ab1, _⟩, rfl, rfl, ⟨by dsimp only; omega, ⟨ho2, r2, q1, q2⟩⟩, by dsimp only; omega⟩
        · by_cases ha2 : (n : Int) ≤ c.a
          · have hbad : m'.bad c.a = true := by have := ho2.w; simp [MV.bad, this, ha2]
            refine CT_val (barred_ev (mem_at (pre := []) ho2)) ?_
            rw [hbad]
            simp -dsimp only [go_sem, Nat.reduceEqDiff, Nat.reduceAdd, Nat.reduceSub, Nat.reduceMul, Nat.reduceLeDiff, Nat.reduceLT, Nat.reduceBEq, Int.reduceLT, Int.reduceLE, Int.reduceGT, Int.reduceGE, Int.reduceEq, Int.reduceNe, Int.reduceBEq, Int.reduceBNe, Int.reduceAdd, Int.reduceSub, Int.reduceMul, Int.reduceToNat, Int.reduceNeg, ↓reduceIte, ↓reduceDIte, ha, ha2, h1, h3, g2, hw]
            exact ⟨⟨i + 1, m', aw1, ab1, _⟩, rfl, rfl, ⟨by dsimp only; omega, ⟨ho2, r2, q1, q2⟩⟩, by dsimp only; omega⟩
          · have ha3 : 0 ≤ c.a := by omega
            have ha4 : c.a < n := by omega
            have hlen := ho2.b
            have h5 : c.a.toNat < m'.bar.length := by omega
            have hbad : m'.bad c.a = m'.bar.getD c.a.toNat false := by
              have := ho2.w
              simp only [MV.bad]
              rw [decide_eq_false (by omega), decide_eq_false (by omega)]; rfl
            obtain ⟨bb, ob, rfl, _, hgb⟩ := r2.bs.all (by simp; omega)
            have gb := hgb [] c.a.toNat (.bool (m'.bar.getD c.a.toNat false)) (by simp [List.getElem?_eq_getElem h5, List.getD])
            simp only [List.append_nil, List.append_assoc, List.cons_append, List.nil_append, Nat.zero_mul, Nat.add_zero] at gb
            refine CT_val (barred_ev (mem_at (pre := []) ho2)) ?_
            rw [hbad]
            have gb2 : ∀ v : Bool, (v == v) = true := fun v => by simp
            simp -dsimp only [go_sem, Nat.reduceEqDiff, Nat.reduceAdd, Nat.reduceSub, Nat.reduceMul, Nat.reduceLeDiff, Nat.reduceLT, Nat.reduceBEq, Int.reduceLT, Int.reduceLE, Int.reduceGT, Int.reduceGE, Int.reduceEq, Int.reduceNe, Int.reduceBEq, Int.reduceBNe, Int.reduceAdd, Int.reduceSub, Int.reduceMul, Int.reduceToNat, Int.reduceNeg, ↓reduceIte, ↓reduceDIte, ha, ha2, ha3, ha4, h1, h3, g2, hw, gb, gb2]
            exact ⟨⟨i + 1, m', aw1, _, _⟩, rfl, rfl, ⟨by dsimp only; omega, ⟨ho2, r2, q1, q2⟩⟩, by dsimp only; omega⟩
      · have hwl := ho.w
        by_cases h1 : i < l.length
        · have h1' : (i : Int) < l.length := by omega
          have h2 : ¬ (i : Int) < 60 := by omega
          simp -dsimp only [go_sem, Nat.reduceEqDiff, Nat.reduceAdd, Nat.reduceSub, Nat.reduceMul, Nat.reduceLeDiff, Nat.reduceLT, Nat.reduceBEq, Int.reduceLT, Int.reduceLE, Int.reduceGT, Int.reduceGE, Int.reduceEq, Int.reduceNe, Int.reduceBEq, Int.reduceBNe, Int.reduceAdd, Int.reduceSub, Int.reduceMul, Int.reduceToNat, Int.reduceNeg, ↓reduceIte, ↓reduceDIte, h1', h2]
          refine CT_of (peek_ev (by simp) (mem_at (pre := []) ho) (by omega)) ?_
          rintro _ _ ⟨a1, t1, rfl, rfl, p1⟩
          rw [ho.peek_all] at p1 ⊢
          have hr2 := hr.into (H' := H ++ (wrow m :: brow m :: mrow H.length (H.length + 1) m :: (t0 ++ rrow aw ab n m :: (t ++ t1)))) (by simp [unbox_app, unbox_cons, unboxO_box])
          simp -dsimp only [go_sem, Nat.reduceEqDiff, Nat.reduceAdd, Nat.reduceSub, Nat.reduceMul, Nat.reduceLeDiff, Nat.reduceLT, Nat.reduceBEq, Int.reduceLT, Int.reduceLE, Int.reduceGT, Int.reduceGE, Int.reduceEq, Int.reduceNe, Int.reduceBEq, Int.reduceBNe, Int.reduceAdd, Int.reduceSub, Int.reduceMul, Int.reduceToNat, Int.reduceNeg, ↓reduceIte, ↓reduceDIte, hwl]
          refine CT_val (len_ev (mem_at (pre := []) ho)) ?_
          simp -dsimp only [go_sem, Nat.reduceEqDiff, Nat.reduceAdd, Nat.reduceSub, Nat.reduceMul, Nat.reduceLeDiff, Nat.reduceLT, Nat.reduceBEq, Int.reduceLT, Int.reduceLE, Int.reduceGT, Int.reduceGE, Int.reduceEq, Int.reduceNe, Int.reduceBEq, Int.reduceBNe, Int.reduceAdd, Int.reduceSub, Int.reduceMul, Int.reduceToNat, Int.reduceNeg, ↓reduceIte, ↓reduceDIte, hwl]
          refine LT_of (fun i : Nat => [(0, i64 n), (5, ptr (H.length + 2)), (7, ptr (H.length + (t0.length + 3))), (12, .slice a1 n n), (13, i64 i)])
            (fun _ => H ++ (wrow m :: brow m :: mrow H.length (H.length + 1) m :: (t0 ++ rrow aw ab n m :: (t ++ t1)))) (fun i => i ≤ n) (fun i => n - i) 0 rfl rfl (by omega) ?_
          intro j hj
          by_cases hjn : j < n
          · have q1 : (j : Int) < n := by omega
            have q2 : 0 ≤ (j : Int) := by omega
            have hw : IntKind.i64.wrap ((j : Int) + 1) = ((j + 1 : Nat) : Int) := by rw [wrap_i64] <;> omega
            have k1 : m.w[j]? = some (m.w[j]'(by omega)) := List.getElem?_eq_getElem _
            generalize m.w[j]'(by omega) = x at k1
            obtain ⟨b1, rfl, _, _, hg1⟩ := p1.has (by rw [List.length_map, hwl]; omega)
            obtain ⟨b2, o2', rfl, _, hg2⟩ := hr2.ws.all (by simp; omega)
            have g1 := lget_at hg1 j
            have g2 := hg2 [] j (w64 x) (by simp [k1])
            simp only [List.append_nil, List.append_assoc, List.cons_append, List.nil_append, Nat.zero_mul, Nat.add_zero, List.length_cons, List.length_nil, Nat.zero_add, Nat.reduceAdd, List.getElem?_map, k1, Option.map_some] at g1 g2
            simp -dsimp only [go_sem, Nat.reduceEqDiff, Nat.reduceAdd, Nat.reduceSub, Nat.reduceMul, Nat.reduceLeDiff, Nat.reduceLT, Nat.reduceBEq, Int.reduceLT, Int.reduceLE, Int.reduceGT, Int.reduceGE, Int.reduceEq, Int.reduceNe, Int.reduceBEq, Int.reduceBNe, Int.reduceAdd, Int.reduceSub, Int.reduceMul, Int.reduceToNat, Int.reduceNeg, ↓reduceIte, ↓reduceDIte, q1, q2, hw, g1, g2]
            exact ⟨j + 1, rfl, by omega, by omega⟩
          · have q1 : ¬ (j : Int) < n := by omega
            simp -dsimp only [go_sem, Nat.reduceEqDiff, Nat.reduceAdd, Nat.reduceSub, Nat.reduceMul, Nat.reduceLeDiff, Nat.reduceLT, Nat.reduceBEq, Int.reduceLT, Int.reduceLE, Int.reduceGT, Int.reduceGE, Int.reduceEq, Int.reduceNe, Int.reduceBEq, Int.reduceBNe, Int.reduceAdd, Int.reduceSub, Int.reduceMul, Int.reduceToNat, Int.reduceNeg, ↓reduceIte, ↓reduceDIte, q1]
            refine LT_of (fun k : Nat => [(5, ptr (H.length + 2)), (7, ptr (H.length + (t0.length + 3))), (14, i64 (m.sum k)), (15, i64 k)])
              (fun _ => H ++ (wrow m :: brow m :: mrow H.length (H.length + 1) m :: (t0 ++ rrow aw ab n m :: (t ++ t1)))) (fun k => k ≤ 6) (fun k => 6 - k) 0 rfl rfl (by omega) ?_
            intro k hk
            by_cases hk6 : k < 6
            · have q3 : (k : Int) < 6 := by omega
              have hw : IntKind.i64.wrap ((k : Int) + 1) = ((k + 1 : Nat) : Int) := by rw [wrap_i64] <;> omega
              have hk7 : k = 0 ∨ k = 1 ∨ k = 2 ∨ k = 3 ∨ k = 4 ∨ k = 5 := by omega
              rcases hk7 with rfl | rfl | rfl | rfl | rfl | rfl
              · simp -dsimp only [go_sem, Nat.reduceEqDiff, Nat.reduceAdd, Nat.reduceSub, Nat.reduceMul, Nat.reduceLeDiff, Nat.reduceLT, Nat.reduceBEq, Int.reduceLT, Int.reduceLE, Int.reduceGT, Int.reduceGE, Int.reduceEq, Int.reduceNe, Int.reduceBEq, Int.reduceBNe, Int.reduceAdd, Int.reduceSub, Int.reduceMul, Int.reduceToNat, Int.reduceNeg, ↓reduceIte, ↓reduceDIte, q3]
                refine CT_val (count_ev (mem_at (pre := []) ho)) ?_
                simp -dsimp only [go_sem, Nat.reduceEqDiff, Nat.reduceAdd, Nat.reduceSub, Nat.reduceMul, Nat.reduceLeDiff, Nat.reduceLT, Nat.reduceBEq, Int.reduceLT, Int.reduceLE, Int.reduceGT, Int.reduceGE, Int.reduceEq, Int.reduceNe, Int.reduceBEq, Int.reduceBNe, Int.reduceAdd, Int.reduceSub, Int.reduceMul, Int.reduceToNat, Int.reduceNeg, ↓reduceIte, ↓reduceDIte, q3, hw, MV.cnt]
                exact ⟨1, rfl, by omega, by omega⟩
              · simp -dsimp only [go_sem, Nat.reduceEqDiff, Nat.reduceAdd, Nat.reduceSub, Nat.reduceMul, Nat.reduceLeDiff, Nat.reduceLT, Nat.reduceBEq, Int.reduceLT, Int.reduceLE, Int.reduceGT, Int.reduceGE, Int.reduceEq, Int.reduceNe, Int.reduceBEq, Int.reduceBNe, Int.reduceAdd, Int.reduceSub, Int.reduceMul, Int.reduceToNat, Int.reduceNeg, ↓reduceIte, ↓reduceDIte, q3]
                refine CT_val (count_ev (mem_at (pre := []) ho)) ?_
                simp -dsimp only [go_sem, Nat.reduceEqDiff, Nat.reduceAdd, Nat.reduceSub, Nat.reduceMul, Nat.reduceLeDiff, Nat.reduceLT, Nat.reduceBEq, Int.reduceLT, Int.reduceLE, Int.reduceGT, Int.reduceGE, Int.reduceEq, Int.reduceNe, Int.reduceBEq, Int.reduceBNe, Int.reduceAdd, Int.reduceSub, Int.reduceMul, Int.reduceToNat, Int.reduceNeg, ↓reduceIte, ↓reduceDIte, q3, hw, MV.cnt]
                exact ⟨2, rfl, by omega, by omega⟩
              · simp -dsimp only [go_sem, Nat.reduceEqDiff, Nat.reduceAdd, Nat.reduceSub, Nat.reduceMul, Nat.reduceLeDiff, Nat.reduceLT, Nat.reduceBEq, Int.reduceLT, Int.reduceLE, Int.reduceGT, Int.reduceGE, Int.reduceEq, Int.reduceNe, Int.reduceBEq, Int.reduceBNe, Int.reduceAdd, Int.reduceSub, Int.reduceMul, Int.reduceToNat, Int.reduceNeg, ↓reduceIte, ↓reduceDIte, q3]
                refine CT_val (count_ev (mem_at (pre := []) ho)) ?_
                simp -dsimp only [go_sem, Nat.reduceEqDiff, Nat.reduceAdd, Nat.reduceSub, Nat.reduceMul, Nat.reduceLeDiff, Nat.reduceLT, Nat.reduceBEq, Int.reduceLT, Int.reduceLE, Int.reduceGT, Int.reduceGE, Int.reduceEq, Int.reduceNe, Int.reduceBEq, Int.reduceBNe, Int.reduceAdd, Int.reduceSub, Int.reduceMul, Int.reduceToNat, Int.reduceNeg, ↓reduceIte, ↓reduceDIte, q3, hw, MV.cnt]
                exact ⟨3, rfl, by omega, by omega⟩
              · simp -dsimp only [go_sem, Nat.reduceEqDiff, Nat.reduceAdd, Nat.reduceSub, Nat.reduceMul, Nat.reduceLeDiff, Nat.reduceLT, Nat.reduceBEq, Int.reduceLT, Int.reduceLE, Int.reduceGT, Int.reduceGE, Int.reduceEq, Int.reduceNe, Int.reduceBEq, Int.reduceBNe, Int.reduceAdd, Int.reduceSub, Int.reduceMul, Int.reduceToNat, Int.reduceNeg, ↓reduceIte, ↓reduceDIte, q3]
                refine CT_val (count_ev (mem_at (pre := []) ho)) ?_
                simp -dsimp only [go_sem, Nat.reduceEqDiff, Nat.reduceAdd, Nat.reduceSub, Nat.reduceMul, Nat.reduceLeDiff, Nat.reduceLT, Nat.reduceBEq, Int.reduceLT, Int.reduceLE, Int.reduceGT, Int.reduceGE, Int.reduceEq, Int.reduceNe, Int.reduceBEq, Int.reduceBNe, Int.reduceAdd, Int.reduceSub, Int.reduceMul, Int.reduceToNat, Int.reduceNeg, ↓reduceIte, ↓reduceDIte, q3, hw, MV.cnt]
                exact ⟨4, rfl, by omega, by omega⟩
              · simp -dsimp only [go_sem, Nat.reduceEqDiff, Nat.reduceAdd, Nat.reduceSub, Nat.reduceMul, Nat.reduceLeDiff, Nat.reduceLT, Nat.reduceBEq, Int.reduceLT, Int.reduceLE, Int.reduceGT, Int.reduceGE, Int.reduceEq, Int.reduceNe, Int.reduceBEq, Int.reduceBNe, Int.reduceAdd, Int.reduceSub, Int.reduceMul, Int.reduceToNat, Int.reduceNeg, ↓reduceIte, ↓reduceDIte, q3]
                refine CT_val (count_ev (mem_at (pre := []) ho)) ?_
                simp -dsimp only [go_sem, Nat.reduceEqDiff, Nat.reduceAdd, Nat.reduceSub, Nat.reduceMul, Nat.reduceLeDiff, Nat.reduceLT, Nat.reduceBEq, Int.reduceLT, Int.reduceLE, Int.reduceGT, Int.reduceGE, Int.reduceEq, Int.reduceNe, Int.reduceBEq, Int.reduceBNe, Int.reduceAdd, Int.reduceSub, Int.reduceMul, Int.reduceToNat, Int.reduceNeg, ↓reduceIte, ↓reduceDIte, q3, hw, MV.cnt]
                exact ⟨5, rfl, by omega, by omega⟩
              · simp -dsimp only [go_sem, Nat.reduceEqDiff, Nat.reduceAdd, Nat.reduceSub, Nat.reduceMul, Nat.reduceLeDiff, Nat.reduceLT, Nat.reduceBEq, Int.reduceLT, Int.reduceLE, Int.reduceGT, Int.reduceGE, Int.reduceEq, Int.reduceNe, Int.reduceBEq, Int.reduceBNe, Int.reduceAdd, Int.reduceSub, Int.reduceMul, Int.reduceToNat, Int.reduceNeg, ↓reduceIte, ↓reduceDIte, q3]
                refine CT_val (count_ev (mem_at (pre := []) ho)) ?_
                simp -dsimp only [go_sem, Nat.reduceEqDiff, Nat.reduceAdd, Nat.reduceSub, Nat.reduceMul, Nat.reduceLeDiff, Nat.reduceLT, Nat.reduceBEq, Int.reduceLT, Int.reduceLE, Int.reduceGT, Int.reduceGE, Int.reduceEq, Int.reduceNe, Int.reduceBEq, Int.reduceBNe, Int.reduceAdd, Int.reduceSub, Int.reduceMul, Int.reduceToNat, Int.reduceNeg, ↓reduceIte, ↓reduceDIte, q3, hw, MV.cnt]
                exact ⟨6, rfl, by omega, by omega⟩
            · have q3 : ¬ (k : Int) < 6 := by omega
              obtain rfl : k = 6 := by omega
              simp -dsimp only [go_sem, Nat.reduceEqDiff, Nat.reduceAdd, Nat.reduceSub, Nat.reduceMul, Nat.reduceLeDiff, Nat.reduceLT, Nat.reduceBEq, Int.reduceLT, Int.reduceLE, Int.reduceGT, Int.reduceGE, Int.reduceEq, Int.reduceNe, Int.reduceBEq, Int.reduceBNe, Int.reduceAdd, Int.reduceSub, Int.reduceMul, Int.reduceToNat, Int.reduceNeg, ↓reduceIte, ↓reduceDIte]
              refine CT_val (steps_ev (mem_at (pre := []) ho)) ?_
              simp -dsimp only [go_sem, Nat.reduceEqDiff, Nat.reduceAdd, Nat.reduceSub, Nat.reduceMul, Nat.reduceLeDiff, Nat.reduceLT, Nat.reduceBEq, Int.reduceLT, Int.reduceLE, Int.reduceGT, Int.reduceGE, Int.reduceEq, Int.reduceNe, Int.reduceBEq, Int.reduceBNe, Int.reduceAdd, Int.reduceSub, Int.reduceMul, Int.reduceToNat, Int.reduceNeg, ↓reduceIte, ↓reduceDIte]
              refine CT_val (count_ev (mem_at (pre := []) ho)) ?_
              simp -dsimp only [go_sem, Nat.reduceEqDiff, Nat.reduceAdd, Nat.reduceSub, Nat.reduceMul, Nat.reduceLeDiff, Nat.reduceLT, Nat.reduceBEq, Int.reduceLT, Int.reduceLE, Int.reduceGT, Int.reduceGE, Int.reduceEq, Int.reduceNe, Int.reduceBEq, Int.reduceBNe, Int.reduceAdd, Int.reduceSub, Int.reduceMul, Int.reduceToNat, Int.reduceNeg, ↓reduceIte, ↓reduceDIte]
              refine CT_val (count_ev (mem_at (pre := []) ho)) ?_
              simp -dsimp only [go_sem, Nat.reduceEqDiff, Nat.reduceAdd, Nat.reduceSub, Nat.reduceMul, Nat.reduceLeDiff, Nat.reduceLT, Nat.reduceBEq, Int.reduceLT, Int.reduceLE, Int.reduceGT, Int.reduceGE, Int.reduceEq, Int.reduceNe, Int.reduceBEq, Int.reduceBNe, Int.reduceAdd, Int.reduceSub, Int.reduceMul, Int.reduceToNat, Int.reduceNeg, ↓reduceIte, ↓reduceDIte]
              refine CT_val (one_ev _ _) ?_
              simp -dsimp only [go_sem, Nat.reduceEqDiff, Nat.reduceAdd, Nat.reduceSub, Nat.reduceMul, Nat.reduceLeDiff, Nat.reduceLT, Nat.reduceBEq, Int.reduceLT, Int.reduceLE, Int.reduceGT, Int.reduceGE, Int.reduceEq, Int.reduceNe, Int.reduceBEq, Int.reduceBNe, Int.reduceAdd, Int.reduceSub, Int.reduceMul, Int.reduceToNat, Int.reduceNeg, ↓reduceIte, ↓reduceDIte]
        · have h1' : ¬ (i : Int) < l.length := by omega
          simp -dsimp only [go_sem, Nat.reduceEqDiff, Nat.reduceAdd, Nat.reduceSub, Nat.reduceMul, Nat.reduceLeDiff, Nat.reduceLT, Nat.reduceBEq, Int.reduceLT, Int.reduceLE, Int.reduceGT, Int.reduceGE, Int.reduceEq, Int.reduceNe, Int.reduceBEq, Int.reduceBNe, Int.reduceAdd, Int.reduceSub, Int.reduceMul, Int.reduceToNat, Int.reduceNeg, ↓reduceIte, ↓reduceDIte, h1']
          refine CT_of (peek_ev (by simp) (mem_at (pre := []) ho) (by omega)) ?_
          rintro _ _ ⟨a1, t1, rfl, rfl, p1⟩
          rw [ho.peek_all] at p1 ⊢
          have hr2 := hr.into (H' := H ++ (wrow m :: brow m :: mrow H.length (H.length + 1) m :: (t0 ++ rrow aw ab n m :: (t ++ t1)))) (by simp [unbox_app, unbox_cons, unboxO_box])
          simp -dsimp only [go_sem, Nat.reduceEqDiff, Nat.reduceAdd, Nat.reduceSub, Nat.reduceMul, Nat.reduceLeDiff, Nat.reduceLT, Nat.reduceBEq, Int.reduceLT, Int.reduceLE, Int.reduceGT, Int.reduceGE, Int.reduceEq, Int.reduceNe, Int.reduceBEq, Int.reduceBNe, Int.reduceAdd, Int.reduceSub, Int.reduceMul, Int.reduceToNat, Int.reduceNeg, ↓reduceIte, ↓reduceDIte, hwl]
          refine CT_val (len_ev (mem_at (pre := []) ho)) ?_
          simp -dsimp only [go_sem, Nat.reduceEqDiff, Nat.reduceAdd, Nat.reduceSub, Nat.reduceMul, Nat.reduceLeDiff, Nat.reduceLT, Nat.reduceBEq, Int.reduceLT, Int.reduceLE, Int.reduceGT, Int.reduceGE, Int.reduceEq, Int.reduceNe, Int.reduceBEq, Int.reduceBNe, Int.reduceAdd, Int.reduceSub, Int.reduceMul, Int.reduceToNat, Int.reduceNeg, ↓reduceIte, ↓reduceDIte, hwl]
          refine LT_of (fun i : Nat => [(0, i64 n), (5, ptr (H.length + 2)), (7, ptr (H.length + (t0.length + 3))), (12, .slice a1 n n), (13, i64 i)])
            (fun _ => H ++ (wrow m :: brow m :: mrow H.length (H.length + 1) m :: (t0 ++ rrow aw ab n m :: (t ++ t1)))) (fun i => i ≤ n) (fun i => n - i) 0 rfl rfl (by omega) ?_
          intro j hj
          by_cases hjn : j < n
          · have q1 : (j : Int) < n := by omega
            have q2 : 0 ≤ (j : Int) := by omega
            have hw : IntKind.i64.wrap ((j : Int) + 1) = ((j + 1 : Nat) : Int) := by rw [wrap_i64] <;> omega
            have k1 : m.w[j]? = some (m.w[j]'(by omega)) := List.getElem?_eq_getElem _
            generalize m.w[j]'(by omega) = x at k1
            obtain ⟨b1, rfl, _, _, hg1⟩ := p1.has (by rw [List.length_map, hwl]; omega)
            obtain ⟨b2, o2', rfl, _, hg2⟩ := hr2.ws.all (by simp; omega)
            have g1 := lget_at hg1 j
            have g2 := hg2 [] j (w64 x) (by simp [k1])
            simp only [List.append_nil, List.append_assoc, List.cons_append, List.nil_append, Nat.zero_mul, Nat.add_zero, List.length_cons, List.length_nil, Nat.zero_add, Nat.reduceAdd, List.getElem?_map, k1, Option.map_some] at g1 g2
            simp -dsimp only [go_sem, Nat.reduceEqDiff, Nat.reduceAdd, Nat.reduceSub, Nat.reduceMul, Nat.reduceLeDiff, Nat.reduceLT, Nat.reduceBEq, Int.reduceLT, Int.reduceLE, Int.reduceGT, Int.reduceGE, Int.reduceEq, Int.reduceNe, Int.reduceBEq, Int.reduceBNe, Int.reduceAdd, Int.reduceSub, Int.reduceMul, Int.reduceToNat, Int.reduceNeg, ↓reduceIte, ↓reduceDIte, q1, q2, hw, g1, g2]
            exact ⟨j + 1, rfl, by omega, by omega⟩
          · have q1 : ¬ (j : Int) < n := by omega
            simp -dsimp only [go_sem, Nat.reduceEqDiff, Nat.reduceAdd, Nat.reduceSub, Nat.reduceMul, Nat.reduceLeDiff, Nat.reduceLT, Nat.reduceBEq, Int.reduceLT, Int.reduceLE, Int.reduceGT, Int.reduceGE, Int.reduceEq, Int.reduceNe, Int.reduceBEq, Int.reduceBNe, Int.reduceAdd, Int.reduceSub, Int.reduceMul, Int.reduceToNat, Int.reduceNeg, ↓reduceIte, ↓reduceDIte, q1]
            refine LT_of (fun k : Nat => [(5, ptr (H.length + 2)), (7, ptr (H.length + (t0.length + 3))), (14, i64 (m.sum k)), (15, i64 k)])
              (fun _ => H ++ (wrow m :: brow m :: mrow H.length (H.length + 1) m :: (t0 ++ rrow aw ab n m :: (t ++ t1)))) (fun k => k ≤ 6) (fun k => 6 - k) 0 rfl rfl (by omega) ?_
            intro k hk
            by_cases hk6 : k < 6
            · have q3 : (k : Int) < 6 := by omega
              have hw : IntKind.i64.wrap ((k : Int) + 1) = ((k + 1 : Nat) : Int) := by rw [wrap_i64] <;> omega
              have hk7 : k = 0 ∨ k = 1 ∨ k = 2 ∨ k = 3 ∨ k = 4 ∨ k = 5 := by omega
              rcases hk7 with rfl | rfl | rfl | rfl | rfl | rfl
              · simp -dsimp only [go_sem, Nat.reduceEqDiff, Nat.reduceAdd, Nat.reduceSub, Nat.reduceMul, Nat.reduceLeDiff, Nat.reduceLT, Nat.reduceBEq, Int.reduceLT, Int.reduceLE, Int.reduceGT, Int.reduceGE, Int.reduceEq, Int.reduceNe, Int.reduceBEq, Int.reduceBNe, Int.reduceAdd, Int.reduceSub, Int.reduceMul, Int.reduceToNat, Int.reduceNeg, ↓reduceIte, ↓reduceDIte, q3]
                refine CT_val (count_ev (mem_at (pre := []) ho)) ?_
                simp -dsimp only [go_sem, Nat.reduceEqDiff, Nat.reduceAdd, Nat.reduceSub, Nat.reduceMul, Nat.reduceLeDiff, Nat.reduceLT, Nat.reduceBEq, Int.reduceLT, Int.reduceLE, Int.reduceGT, Int.reduceGE, Int.reduceEq, Int.reduceNe, Int.reduceBEq, Int.reduceBNe, Int.reduceAdd, Int.reduceSub, Int.reduceMul, Int.reduceToNat, Int.reduceNeg, ↓reduceIte, ↓reduceDIte, q3, hw, MV.cnt]
                exact ⟨1, rfl, by omega, by omega⟩
              · simp -dsimp only [go_sem, Nat.reduceEqDiff, Nat.reduceAdd, Nat.reduceSub, Nat.reduceMul, Nat.reduceLeDiff, Nat.reduceLT, Nat.reduceBEq, Int.reduceLT, Int.reduceLE, Int.reduceGT, Int.reduceGE, Int.reduceEq, Int.reduceNe, Int.reduceBEq, Int.reduceBNe, Int.reduceAdd, Int.reduceSub, Int.reduceMul, Int.reduceToNat, Int.reduceNeg, ↓reduceIte, ↓reduceDIte, q3]
                refine CT_val (count_ev (mem_at (pre := []) ho)) ?_
                simp -dsimp only [go_sem, Nat.reduceEqDiff, Nat.reduceAdd, Nat.reduceSub, Nat.reduceMul, Nat.reduceLeDiff, Nat.reduceLT, Nat.reduceBEq, Int.reduceLT, Int.reduceLE, Int.reduceGT, Int.reduceGE, Int.reduceEq, Int.reduceNe, Int.reduceBEq, Int.reduceBNe, Int.reduceAdd, Int.reduceSub, Int.reduceMul, Int.reduceToNat, Int.reduceNeg, ↓reduceIte, ↓reduceDIte, q3, hw, MV.cnt]
                exact ⟨2, rfl, by omega, by omega⟩
              · simp -dsimp only [go_sem, Nat.reduceEqDiff, Nat.reduceAdd, Nat.reduceSub, Nat.reduceMul, Nat.reduceLeDiff, Nat.reduceLT, Nat.reduceBEq, Int.reduceLT, Int.reduceLE, Int.reduceGT, Int.reduceGE, Int.reduceEq, Int.reduceNe, Int.reduceBEq, Int.reduceBNe, Int.reduceAdd, Int.reduceSub, Int.reduceMul, Int.reduceToNat, Int.reduceNeg, ↓reduceIte, ↓reduceDIte, q3]
                refine CT_val (count_ev (mem_at (pre := []) ho)) ?_
                simp -dsimp only [go_sem, Nat.reduceEqDiff, Nat.reduceAdd, Nat.reduceSub, Nat.reduceMul, Nat.reduceLeDiff, Nat.reduceLT, Nat.reduceBEq, Int.reduceLT, Int.reduceLE, Int.reduceGT, Int.reduceGE, Int.reduceEq, Int.reduceNe, Int.reduceBEq, Int.reduceBNe, Int.reduceAdd, Int.reduceSub, Int.reduceMul, Int.reduceToNat, Int.reduceNeg, ↓reduceIte, ↓reduceDIte, q3, hw, MV.cnt]
                exact ⟨3, rfl, by omega, by omega⟩
              · simp -dsimp only [go_sem, Nat.reduceEqDiff, Nat.reduceAdd, Nat.reduceSub, Nat.reduceMul, Nat.reduceLeDiff, Nat.reduceLT, Nat.reduceBEq, Int.reduceLT, Int.reduceLE, Int.reduceGT, Int.reduceGE, Int.reduceEq, Int.reduceNe, Int.reduceBEq, Int.reduceBNe, Int.reduceAdd, Int.reduceSub, Int.reduceMul, Int.reduceToNat, Int.reduceNeg, ↓reduceIte, ↓reduceDIte, q3]
                refine CT_val (count_ev (mem_at (pre := []) ho)) ?_
                simp -dsimp only [go_sem, Nat.reduceEqDiff, Nat.reduceAdd, Nat.reduceSub, Nat.reduceMul, Nat.reduceLeDiff, Nat.reduceLT, Nat.reduceBEq, Int.reduceLT, Int.reduceLE, Int.reduceGT, Int.reduceGE, Int.reduceEq, Int.reduceNe, Int.reduceBEq, Int.reduceBNe, Int.reduceAdd, Int.reduceSub, Int.reduceMul, Int.reduceToNat, Int.reduceNeg, ↓reduceIte, ↓reduceDIte, q3, hw, MV.cnt]
                exact ⟨4, rfl, by omega, by omega⟩
              · simp -dsimp only [go_sem, Nat.reduceEqDiff, Nat.reduceAdd, Nat.reduceSub, Nat.reduceMul, Nat.reduceLeDiff, Nat.reduceLT, Nat.reduceBEq, Int.reduceLT, Int.reduceLE, Int.reduceGT, Int.reduceGE, Int.reduceEq, Int.reduceNe, Int.reduceBEq, Int.reduceBNe, Int.reduceAdd, Int.reduceSub, Int.reduceMul, Int.reduceToNat, Int.reduceNeg, ↓reduceIte, ↓reduceDIte, q3]
                refine CT_val (count_ev (mem_at (pre := []) ho)) ?_
                simp -dsimp only [go_sem, Nat.reduceEqDiff, Nat.reduceAdd, Nat.reduceSub, Nat.reduceMul, Nat.reduceLeDiff, Nat.reduceLT, Nat.reduceBEq, Int.reduceLT, Int.reduceLE, Int.reduceGT, Int.reduceGE, Int.reduceEq, Int.reduceNe, Int.reduceBEq, Int.reduceBNe, Int.reduceAdd, Int.reduceSub, Int.reduceMul, Int.reduceToNat, Int.reduceNeg, ↓reduceIte, ↓reduceDIte, q3, hw, MV.cnt]
                exact ⟨5, rfl, by omega, by omega⟩
              · simp -dsimp only [go_sem, Nat.reduceEqDiff, Nat.reduceAdd, Nat.reduceSub, Nat.reduceMul, Nat.reduceLeDiff, Nat.reduceLT, Nat.reduceBEq, Int.reduceLT, Int.reduceLE, Int.reduceGT, Int.reduceGE, Int.reduceEq, Int.reduceNe, Int.reduceBEq, Int.reduceBNe, Int.reduceAdd, Int.reduceSub, Int.reduceMul, Int.reduceToNat, Int.reduceNeg, ↓reduceIte, ↓reduceDIte, q3]
                refine CT_val (count_ev (mem_at (pre := []) ho)) ?_
                simp -dsimp only [go_sem, Nat.reduceEqDiff, Nat.reduceAdd, Nat.reduceSub, Nat.reduceMul, Nat.reduceLeDiff, Nat.reduceLT, Nat.reduceBEq, Int.reduceLT, Int.reduceLE, Int.reduceGT, Int.reduceGE, Int.reduceEq, Int.reduceNe, Int.reduceBEq, Int.reduceBNe, Int.reduceAdd, Int.reduceSub, Int.reduceMul, Int.reduceToNat, Int.reduceNeg, ↓reduceIte, ↓reduceDIte, q3, hw, MV.cnt]
                exact ⟨6, rfl, by omega, by omega⟩
            · have q3 : ¬ (k : Int) < 6 := by omega
              obtain rfl : k = 6 := by omega
              simp -dsimp only [go_sem, Nat.reduceEqDiff, Nat.reduceAdd, Nat.reduceSub, Nat.reduceMul, Nat.reduceLeDiff, Nat.reduceLT, Nat.reduceBEq, Int.reduceLT, Int.reduceLE, Int.reduceGT, Int.reduceGE, Int.reduceEq, Int.reduceNe, Int.reduceBEq, Int.reduceBNe, Int.reduceAdd, Int.reduceSub, Int.reduceMul, Int.reduceToNat, Int.reduceNeg, ↓reduceIte, ↓reduceDIte]
              refine CT_val (steps_ev (mem_at (pre := []) ho)) ?_
              simp -dsimp only [go_sem, Nat.reduceEqDiff, Nat.reduceAdd, Nat.reduceSub, Nat.reduceMul, Nat.reduceLeDiff, Nat.reduceLT, Nat.reduceBEq, Int.reduceLT, Int.reduceLE, Int.reduceGT, Int.reduceGE, Int.reduceEq, Int.reduceNe, Int.reduceBEq, Int.reduceBNe, Int.reduceAdd, Int.reduceSub, Int.reduceMul, Int.reduceToNat, Int.reduceNeg, ↓reduceIte, ↓reduceDIte]
              refine CT_val (count_ev (mem_at (pre := []) ho)) ?_
              simp -dsimp only [go_sem, Nat.reduceEqDiff, Nat.reduceAdd, Nat.reduceSub, Nat.reduceMul, Nat.reduceLeDiff, Nat.reduceLT, Nat.reduceBEq, Int.reduceLT, Int.reduceLE, Int.reduceGT, Int.reduceGE, Int.reduceEq, Int.reduceNe, Int.reduceBEq, Int.reduceBNe, Int.reduceAdd, Int.reduceSub, Int.reduceMul, Int.reduceToNat, Int.reduceNeg, ↓reduceIte, ↓reduceDIte]
              refine CT_val (count_ev (mem_at (pre := []) ho)) ?_
              simp -dsimp only [go_sem, Nat.reduceEqDiff, Nat.reduceAdd, Nat.reduceSub, Nat.reduceMul, Nat.reduceLeDiff, Nat.reduceLT, Nat.reduceBEq, Int.reduceLT, Int.reduceLE, Int.reduceGT, Int.reduceGE, Int.reduceEq, Int.reduceNe, Int.reduceBEq, Int.reduceBNe, Int.reduceAdd, Int.reduceSub, Int.reduceMul, Int.reduceToNat, Int.reduceNeg, ↓reduceIte, ↓reduceDIte]
              refine CT_val (one_ev _ _) ?_
              simp -dsimp only [go_sem, Nat.reduceEqDiff, Nat.reduceAdd, Nat.reduceSub, Nat.reduceMul, Nat.reduceLeDiff, Nat.reduceLT, Nat.reduceBEq, Int.reduceLT, Int.reduceLE, Int.reduceGT, Int.reduceGE, Int.reduceEq, Int.reduceNe, Int.reduceBEq, Int.reduceBNe, Int.reduceAdd, Int.reduceSub, Int.reduceMul, Int.reduceToNat, Int.reduceNeg, ↓reduceIte, ↓reduceDIte]
end Go.Proofs.Ytckfbicepdbafaa
