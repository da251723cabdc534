/- The statement HpClears. -/
import Derived.Test.YtcogpinognopcaaG2
import Derived.Test.YtcogpinognopcaaG3
namespace Go.Proofs.Ytcogpinognopcaa
open Go Go.LK
set_option linter.unusedSimpArgs false
set_option linter.unusedVariables false
/-- The numbers but 0. -/
def nz (l : List (BitVec 64)) : List (BitVec 64) := l.filter fun v => v != 0#64
theorem nz_app (l : List (BitVec 64)) (v : BitVec 64) : nz (l ++ [v]) = if v = 0#64 then nz l else nz l ++ [v] := by
  unfold nz
  rw [List.filter_append]
  by_cases h : v = 0#64
  · simp [h]
  · simp [h]
/-- A scan that has looked at some. -/
def scn (g : GV) (w : List (BitVec 64)) (k : Nat) : HOp :=
  ⟨g, 2, 0, 0, k, if k = 0 then 0#64 else BitVec.ofNat 64 (nz ((w.drop g.a.toNat).take k)).length, nz ((w.drop g.a.toNat).take k), decide (0 < k) && decide ((k : Int) = g.words), 0⟩
theorem scn_step {g : GV} {w : List (BitVec 64)} {m : MV} (c : Clean m w) (hr : g.right = true) {k : Nat} (hk : (k : Int) < g.words) (hw : g.a + g.words ≤ w.length) :
    ((scn g w k).step m).1 = scn g w (k + 1) ∧ Clean ((scn g w k).step m).2 w := by
  obtain ⟨a0, a1, t0, t1, s0, s1⟩ := GV.right_of hr
  have hd : (scn g w k).done = false := by simp [scn]; omega
  have es : (scn g w k).step m = ({ scn g w k with met := (if m.load (g.a + k) = 0#64 then (scn g w k).met else (scn g w k).met ++ [m.load (g.a + k)]), at_ := (k : Int) + 1, p := BitVec.ofNat 64 (if m.load (g.a + k) = 0#64 then (scn g w k).met else (scn g w k).met ++ [m.load (g.a + k)]).length, done := decide ((k : Int) + 1 = g.words) }, m.use 0 (g.a + k) id) := by
    simp only [HOp.step, hd]; rfl
  have hl : m.load (g.a + k) = w.getD (g.a.toNat + k) 0 := by
    rw [MV.load, c.bad (by omega) (by omega), c.at]
    rw [show (g.a + (k : Int)).toNat = g.a.toNat + k by omega]; rfl
  have hlt : g.a.toNat + k < w.length := by omega
  have ht : (w.drop g.a.toNat).take (k + 1) = (w.drop g.a.toNat).take k ++ [w.getD (g.a.toNat + k) 0] := by
    rw [List.take_add_one, List.getElem?_drop, List.getElem?_eq_getElem hlt]
    simp [List.getD, hlt]
  rw [es]
  refine ⟨?_, c.use_id (by omega) (by omega) 0⟩
  rw [hl]
  have hm : (if w.getD (g.a.toNat + k) 0 = 0#64 then (scn g w k).met else (scn g w k).met ++ [w.getD (g.a.toNat + k) 0]) = nz ((w.drop g.a.toNat).take (k + 1)) := by
    rw [ht, nz_app]; rfl
  rw [hm]
  simp [scn]
theorem nz_at : ∀ (l : List (BitVec 64)) (i : Nat) (v : BitVec 64), l[i]? = some v → v ≠ 0#64 → (nz l)[(nz (l.take i)).length]? = some v
  | [], i, v, h, _ => by simp at h
  | x :: l, 0, v, h, hv => by
    simp only [List.getElem?_cons_zero, Option.some.injEq] at h
    subst h
    have : nz (x :: l) = x :: nz l := by simp [nz, hv]
    rw [this]; rfl
  | x :: l, i + 1, v, h, hv => by
    simp only [List.getElem?_cons_succ] at h
    have ih := nz_at l i v h hv
    by_cases hx : x = 0#64
    · have e1 : nz (x :: l) = nz l := by simp [nz, hx]
      have e2 : nz ((x :: l).take (i + 1)) = nz (l.take i) := by simp [nz, hx]
      rw [e1, e2]; exact ih
    · have e1 : nz (x :: l) = x :: nz l := by simp [nz, hx]
      have e2 : nz ((x :: l).take (i + 1)) = x :: nz (l.take i) := by simp [nz, hx]
      rw [e1, e2, List.length_cons, List.getElem?_cons_succ]; exact ih
theorem nz_le (l : List (BitVec 64)) (i : Nat) (v : BitVec 64) (h : l[i]? = some v) (hv : v ≠ 0#64) : (nz (l.take i)).length < (nz l).length :=
  (List.getElem?_eq_some_iff.1 (nz_at l i v h hv)).1
/-- What is laid ahead. -/
def lays (l : List (BitVec 64)) : Nat → List (BitVec 64)
  | 0 => List.replicate 12 0#64
  | k + 1 => (lays l k).set (4 + k) (l.getD k 1)
theorem lays_len (l : List (BitVec 64)) : ∀ k, (lays l k).length = 12
  | 0 => rfl
  | k + 1 => by rw [lays, List.length_set, lays_len l k]
theorem Clean.peek {m : MV} {w : List (BitVec 64)} (c : Clean m w) {p n : Nat} (h : p + n ≤ w.length) (hn : 0 < n) : m.peek p n = (w.drop p).take n := by
  unfold MV.peek
  rw [c.ws, if_neg (by omega), if_neg (by omega), if_neg (by omega)]
  congr 1
  omega
theorem nz_len (l : List (BitVec 64)) (k : Nat) : (nz (l.take k)).length ≤ k := by
  refine Nat.le_trans (List.length_filter_le _ _) ?_
  rw [List.length_take]; omega
set_option maxHeartbeats 1000000 in
theorem clears_ev {lim : Nat} {H : LHeap} {a : Option Addr} {l : List (BitVec 64)} {t s : Int} (hl : Sl 1 H a (l.map w64)) : callE T 5 lim [.slice a l.length l.length, i64 t, i64 s] H fun v H' => v = .bool true := by
  refine callE_pop rfl (by simp) rfl ?_
  simp -dsimp only [go_sem, Nat.reduceEqDiff, Nat.reduceAdd, Nat.reduceSub, Nat.reduceMul, Nat.reduceLeDiff, Nat.reduceLT, Nat.reduceBEq, Int.reduceLT, Int.reduceLE, Int.reduceGT, Int.reduceGE, Int.reduceEq, Int.reduceNe, Int.reduceBEq, Int.reduceBNe, Int.reduceAdd, Int.reduceSub, Int.reduceMul, Int.reduceToNat, Int.reduceNeg, ↓reduceIte, ↓reduceDIte]
  refine CT_of (new_ev (by simp)) ?_
  rintro _ _ h
  rw [if_neg (by decide)] at h
  obtain ⟨rfl, rfl⟩ := h
  have ok := MV.Ok.new (n := 12) (by decide) (by decide)
  have cl0 := Clean.new (n := 12) (by decide) (by decide)
  simp only [show (12 : Int).toNat = 12 from rfl]
  generalize MV.new 12 = m0 at ok cl0 ⊢
  have mm := fun (m : MV) (ok : m.Ok 12) l => mem_at (H := H) (pre := [gro ⟨4, 4, 2⟩]) (t := l) ok
  simp only [List.length_cons, List.length_nil, Nat.zero_add, List.cons_append, List.nil_append, Nat.reduceAdd] at mm
  simp -dsimp only [go_sem, Nat.reduceEqDiff, Nat.reduceAdd, Nat.reduceSub, Nat.reduceMul, Nat.reduceLeDiff, Nat.reduceLT, Nat.reduceBEq, Int.reduceLT, Int.reduceLE, Int.reduceGT, Int.reduceGE, Int.reduceEq, Int.reduceNe, Int.reduceBEq, Int.reduceBNe, Int.reduceAdd, Int.reduceSub, Int.reduceMul, Int.reduceToNat, Int.reduceNeg, ↓reduceIte, ↓reduceDIte, Nat.add_assoc]
  refine CT_of (setup_ev (g := ⟨4, 4, 2⟩) (mm _ ok _) cl0 rfl (by decide)) ?_
  rintro _ _ ⟨m1, cl1, rfl, rfl⟩
  simp -dsimp only [go_sem, Nat.reduceEqDiff, Nat.reduceAdd, Nat.reduceSub, Nat.reduceMul, Nat.reduceLeDiff, Nat.reduceLT, Nat.reduceBEq, Int.reduceLT, Int.reduceLE, Int.reduceGT, Int.reduceGE, Int.reduceEq, Int.reduceNe, Int.reduceBEq, Int.reduceBNe, Int.reduceAdd, Int.reduceSub, Int.reduceMul, Int.reduceToNat, Int.reduceNeg, ↓reduceIte, ↓reduceDIte, memPut]
  refine LT_of (fun s' : Nat × MV => [(0, .slice a l.length l.length), (1, i64 t), (2, i64 s), (7, ptr H.length), (8, ptr (H.length + 3)), (10, i64 s'.1)]) (fun s' => H ++ [gro ⟨4, 4, 2⟩, wrow s'.2, brow s'.2, mrow (H.length + 1) (H.length + 2) s'.2]) (fun s' => s'.1 ≤ 8 ∧ Clean s'.2 (lays l s'.1)) (fun s' => 8 - s'.1) (0, m1) rfl rfl ⟨by omega, cl1⟩ ?_
  rintro ⟨i, m⟩ ⟨hi, cl⟩
  simp only at hi cl ⊢
  have hll := lays_len l i
  have okm : m.Ok 12 := by have := cl.ok; rwa [hll] at this
  by_cases hlt : i < 8
  · have c1 : (i : Int) < 8 := by omega
    have w1 : IntKind.i64.wrap ((i : Int) + 1) = ((i + 1 : Nat) : Int) := by rw [wrap_i64] <;> omega
    have w2 : IntKind.i64.wrap (4 + (i : Int)) = 4 + i := by rw [wrap_i64] <;> omega
    by_cases hil : i < l.length
    · have c2 : (i : Int) < l.length := by omega
      have c0 : 0 ≤ (i : Int) := by omega
      obtain ⟨bk, ok', rfl, _, hg⟩ := hl.all (by simp; omega)
      have gk := fun t => hg t i (w64 (l.getD i 1)) (by simp [hil])
      simp -dsimp only [go_sem, Nat.reduceEqDiff, Nat.reduceAdd, Nat.reduceSub, Nat.reduceMul, Nat.reduceLeDiff, Nat.reduceLT, Nat.reduceBEq, Int.reduceLT, Int.reduceLE, Int.reduceGT, Int.reduceGE, Int.reduceEq, Int.reduceNe, Int.reduceBEq, Int.reduceBNe, Int.reduceAdd, Int.reduceSub, Int.reduceMul, Int.reduceToNat, Int.reduceNeg, ↓reduceIte, ↓reduceDIte, c1, c2, c0, w1, w2, gk]
      refine CT_of (store_c (mm _ okm _) cl (by omega) (by rw [hll]; omega)) ?_
      rintro _ _ ⟨m2, cl2, rfl⟩
      rw [show (4 + (i : Int)).toNat = 4 + i by omega] at cl2
      simp -dsimp only [go_sem, Nat.reduceEqDiff, Nat.reduceAdd, Nat.reduceSub, Nat.reduceMul, Nat.reduceLeDiff, Nat.reduceLT, Nat.reduceBEq, Int.reduceLT, Int.reduceLE, Int.reduceGT, Int.reduceGE, Int.reduceEq, Int.reduceNe, Int.reduceBEq, Int.reduceBNe, Int.reduceAdd, Int.reduceSub, Int.reduceMul, Int.reduceToNat, Int.reduceNeg, ↓reduceIte, ↓reduceDIte, memPut, w1]
      exact ⟨(i + 1, m2), rfl, rfl, ⟨by simp only; omega, cl2⟩, by simp only; omega⟩
    · have c2 : ¬ (i : Int) < l.length := by omega
      have e1 : l.getD i 1 = 1#64 := by simp [List.getD, List.getElem?_eq_none (show l.length ≤ i by omega)]
      simp -dsimp only [go_sem, Nat.reduceEqDiff, Nat.reduceAdd, Nat.reduceSub, Nat.reduceMul, Nat.reduceLeDiff, Nat.reduceLT, Nat.reduceBEq, Int.reduceLT, Int.reduceLE, Int.reduceGT, Int.reduceGE, Int.reduceEq, Int.reduceNe, Int.reduceBEq, Int.reduceBNe, Int.reduceAdd, Int.reduceSub, Int.reduceMul, Int.reduceToNat, Int.reduceNeg, ↓reduceIte, ↓reduceDIte, c1, c2, w1, w2]
      refine CT_of (store_c (mm _ okm _) cl (by omega) (by rw [hll]; omega)) ?_
      rintro _ _ ⟨m2, cl2, rfl⟩
      rw [show (4 + (i : Int)).toNat = 4 + i by omega, ← e1] at cl2
      simp -dsimp only [go_sem, Nat.reduceEqDiff, Nat.reduceAdd, Nat.reduceSub, Nat.reduceMul, Nat.reduceLeDiff, Nat.reduceLT, Nat.reduceBEq, Int.reduceLT, Int.reduceLE, Int.reduceGT, Int.reduceGE, Int.reduceEq, Int.reduceNe, Int.reduceBEq, Int.reduceBNe, Int.reduceAdd, Int.reduceSub, Int.reduceMul, Int.reduceToNat, Int.reduceNeg, ↓reduceIte, ↓reduceDIte, memPut, w1]
      exact ⟨(i + 1, m2), rfl, rfl, ⟨by simp only; omega, cl2⟩, by simp only; omega⟩
  · have c1 : ¬ (i : Int) < 8 := by omega
    obtain ⟨t1, ht1, t0, t3⟩ := andK t 3 (by decide)
    obtain ⟨s1, hs1, s0, s3⟩ := andK s 1 (by decide)
    have t3 : t1 ≤ 3 := t3
    have s3 : s1 ≤ 1 := s3
    obtain rfl : i = 8 := by omega
    generalize lays l 8 = w at cl hll
    simp -dsimp only [go_sem, Nat.reduceEqDiff, Nat.reduceAdd, Nat.reduceSub, Nat.reduceMul, Nat.reduceLeDiff, Nat.reduceLT, Nat.reduceBEq, Int.reduceLT, Int.reduceLE, Int.reduceGT, Int.reduceGE, Int.reduceEq, Int.reduceNe, Int.reduceBEq, Int.reduceBNe, Int.reduceAdd, Int.reduceSub, Int.reduceMul, Int.reduceToNat, Int.reduceNeg, ↓reduceIte, ↓reduceDIte, c1, ht1, hs1]
    refine CT_of (peek_ev (by simp) (mm m okm _) (by decide)) ?_
    rintro _ _ ⟨aw, tw, rfl, rfl, ow⟩
    have hp1 : m.peek 4 8 = (w.drop 4).take 8 := cl.peek (p := 4) (n := 8) (by omega) (by decide)
    have hpl : ((w.drop 4).take 8).length = 8 := by simp [hll]
    rw [hp1] at ow ⊢
    rw [hpl]
    have r0 : (H ++ [gro ⟨4, 4, 2⟩, wrow m, brow m, mrow (H.length + 1) (H.length + 2) m] ++ tw)[H.length]? = some (gro ⟨4, 4, 2⟩) := get_old (get_app0 _ _) _
    have r1 := (mm m okm []).app tw
    have ow1 := ow.sl
    have hK : H.length + 4 ≤ (H ++ [gro ⟨4, 4, 2⟩, wrow m, brow m, mrow (H.length + 1) (H.length + 2) m] ++ tw).length := by simp
    have hfr := ow.fresh
    have hfr2 : Fresh (H.length + 4) aw := hfr.mono (by simp)
    generalize H ++ [gro ⟨4, 4, 2⟩, wrow m, brow m, mrow (H.length + 1) (H.length + 2) m] ++ tw = K0 at r0 r1 ow1 hK ⊢
    clear ow hfr
    have g0 : lcells K0 H.length 0 3 = some [i64 4, i64 4, i64 2] := lcells_of r0 rfl
    simp -dsimp only [go_sem, Nat.reduceEqDiff, Nat.reduceAdd, Nat.reduceSub, Nat.reduceMul, Nat.reduceLeDiff, Nat.reduceLT, Nat.reduceBEq, Int.reduceLT, Int.reduceLE, Int.reduceGT, Int.reduceGE, Int.reduceEq, Int.reduceNe, Int.reduceBEq, Int.reduceBNe, Int.reduceAdd, Int.reduceSub, Int.reduceMul, Int.reduceToNat, Int.reduceNeg, ↓reduceIte, ↓reduceDIte, g0]
    refine CT_of (hclear_ev (g := ⟨4, 4, 2⟩) (by omega)) ?_
    rintro _ _ ⟨u1, rfl, rfl⟩
    have hhas : (GV.mk 4 4 2).has t1 s1 = true := by
      have e1 : (GV.mk 4 4 2).right = true := rfl
      simp [GV.has, e1]; omega
    have hslot : (GV.mk 4 4 2).slot t1 s1 = 4 + t1 * 2 + s1 := by rw [GV.slot, if_pos hhas]
    rw [(GV.mk 4 4 2).slot_ge, hhas, hslot]
    simp only [HOp.begins, if_true]
    have A1 : Ahd H.length (K0.length + 2) (K0 ++ [u1, hrw none ⟨⟨4, 4, 2⟩, 1, 4 + t1 * 2 + s1, 0, 0, 0#64, [], false, 0⟩]) (K0.length + 1) (H.length + 3) (H.length + 1) (H.length + 2) none ⟨⟨4, 4, 2⟩, 1, 4 + t1 * 2 + s1, 0, 0, 0#64, [], false, 0⟩ m :=
      ⟨get_app K0 _ 1, Own.nil _ _ _, r1.app _, by omega, by omega, by omega, by omega, by omega, by omega, by omega, by omega, by omega, by simp⟩
    simp -dsimp only [go_sem, Nat.reduceEqDiff, Nat.reduceAdd, Nat.reduceSub, Nat.reduceMul, Nat.reduceLeDiff, Nat.reduceLT, Nat.reduceBEq, Int.reduceLT, Int.reduceLE, Int.reduceGT, Int.reduceGE, Int.reduceEq, Int.reduceNe, Int.reduceBEq, Int.reduceBNe, Int.reduceAdd, Int.reduceSub, Int.reduceMul, Int.reduceToNat, Int.reduceNeg, ↓reduceIte, ↓reduceDIte]
    refine CT_of (hstep_ev (n := 0) A1 rfl (by simp only; omega) rfl (by decide)) ?_
    rintro _ K2 ⟨rfl, ac, S1⟩
    have es : HOp.step ⟨⟨4, 4, 2⟩, 1, 4 + t1 * 2 + s1, 0, 0, 0#64, [], false, 0⟩ m = (⟨⟨4, 4, 2⟩, 1, 4 + t1 * 2 + s1, 0, 0, 0#64, [], true, 0⟩, m.use 1 (4 + t1 * 2 + s1) (fun _ => 0#64)) := rfl
    rw [es] at S1 ⊢
    obtain ⟨S, hS⟩ := Int.eq_ofNat_of_zero_le (show 0 ≤ t1 * 2 + s1 by omega)
    have cl2 : Clean (m.use 1 (4 + t1 * 2 + s1) (fun _ => 0#64)) (w.set (4 + S) 0#64) := by
      have := cl.use (a := 4 + t1 * 2 + s1) (by omega) (by omega) 1 (fun _ => 0#64)
      rwa [show (4 + t1 * 2 + s1).toNat = 4 + S by omega] at this
    have hll2 : (w.set (4 + S) 0#64).length = 12 := by simp [hll]
    have q0 : K2[H.length]? = some (gro ⟨4, 4, 2⟩) := by
      rw [S1.pre _ (by simp; omega) (by omega) (by omega) (by omega) (by omega) (fun _ h => by cases h)]
      exact get_old r0 _
    have q1 : Sl 1 K2 aw (((w.drop 4).take 8).map w64) := by
      rcases ow1 with h | ⟨b, o, ro, es, cc, h1, h2, h3⟩
      · exact .inl h
      · have hb := (List.getElem?_eq_some_iff.1 h2).1
        have hb2 := hfr2 _ h1
        simp only at hb2
        refine .inr ⟨b, o, ro, es, cc, h1, ?_, h3⟩
        rw [S1.pre b (by simp; omega) (by omega) (by omega) (by omega) (by omega) (fun _ h => by cases h)]
        exact get_old h2 _
    have q2 := S1.mem
    have hK2 : H.length + 4 ≤ K2.length := by have := S1.len; simp at this; omega
    generalize m.use 1 (4 + t1 * 2 + s1) (fun _ => 0#64) = m2 at cl2 q2 ⊢
    clear S1 A1 r0 r1 ow1 hK g0
    have g0 : lcells K2 H.length 0 3 = some [i64 4, i64 4, i64 2] := lcells_of q0 rfl
    simp -dsimp only [go_sem, Nat.reduceEqDiff, Nat.reduceAdd, Nat.reduceSub, Nat.reduceMul, Nat.reduceLeDiff, Nat.reduceLT, Nat.reduceBEq, Int.reduceLT, Int.reduceLE, Int.reduceGT, Int.reduceGE, Int.reduceEq, Int.reduceNe, Int.reduceBEq, Int.reduceBNe, Int.reduceAdd, Int.reduceSub, Int.reduceMul, Int.reduceToNat, Int.reduceNeg, ↓reduceIte, ↓reduceDIte, g0]
    refine CT_of (hscan_ev (g := ⟨4, 4, 2⟩) (by omega)) ?_
    rintro _ _ ⟨u2, rfl, rfl⟩
    rw [show HOp.begins ⟨⟨4, 4, 2⟩, 2, 0, 0, 0, 0#64, [], false, 0⟩ (GV.mk 4 4 2).right = scn ⟨4, 4, 2⟩ (w.set (4 + S) 0#64) 0 from rfl]
    generalize hw2 : w.set (4 + S) 0#64 = w2 at cl2 hll2 ⊢
    have A3 : Ahd H.length (K2.length + 2) (K2 ++ [u2, hrw none (scn ⟨4, 4, 2⟩ w2 0)]) (K2.length + 1) (H.length + 3) (H.length + 1) (H.length + 2) none (scn ⟨4, 4, 2⟩ w2 0) m2 :=
      ⟨get_app K2 _ 1, Own.nil _ _ _, q2.app _, by omega, by omega, by omega, by omega, by omega, by omega, by omega, by omega, by omega, by simp⟩
    have q1' := q1.app [u2, hrw none (scn ⟨4, 4, 2⟩ w2 0)]
    have hfr3 : ∀ x, aw = some x → H.length + 4 ≤ x.block ∧ x.block < K2.length := fun x hx => ⟨hfr2 _ hx, by
      rcases q1 with h | ⟨b, o, ro, es, cc, h1, h2, h3⟩
      · rw [h.1] at hx; cases hx
      · rw [h1] at hx; cases hx; exact (List.getElem?_eq_some_iff.1 h2).1⟩
    generalize K2 ++ [u2, hrw none (scn ⟨4, 4, 2⟩ w2 0)] = K3 at A3 q1' ⊢
    have ho3 : ∃ o, o = K2.length + 1 := ⟨_, rfl⟩
    obtain ⟨o3, ho3⟩ := ho3
    rw [← ho3] at A3 ⊢
    have hlo : K2.length + 2 = o3 + 1 := by omega
    rw [hlo] at A3
    simp -dsimp only [go_sem, Nat.reduceEqDiff, Nat.reduceAdd, Nat.reduceSub, Nat.reduceMul, Nat.reduceLeDiff, Nat.reduceLT, Nat.reduceBEq, Int.reduceLT, Int.reduceLE, Int.reduceGT, Int.reduceGE, Int.reduceEq, Int.reduceNe, Int.reduceBEq, Int.reduceBNe, Int.reduceAdd, Int.reduceSub, Int.reduceMul, Int.reduceToNat, Int.reduceNeg, ↓reduceIte, ↓reduceDIte]
    refine LT_of (fun s' : Nat × LHeap × Option Addr × MV => [(1, i64 t1), (2, i64 s1), (8, ptr (H.length + 3)), (12, .slice aw 8 8), (14, ptr o3), (15, i64 s'.1)]) (fun s' => s'.2.1) (fun s' => s'.1 ≤ 8 ∧ Ahd H.length (o3 + 1) s'.2.1 o3 (H.length + 3) (H.length + 1) (H.length + 2) s'.2.2.1 (scn ⟨4, 4, 2⟩ w2 s'.1) s'.2.2.2 ∧ Clean s'.2.2.2 w2 ∧ Sl 1 s'.2.1 aw (((w.drop 4).take 8).map w64)) (fun s' => 8 - s'.1) (0, K3, none, m2) rfl rfl ⟨by omega, A3, cl2, q1'⟩ ?_
    rintro ⟨k, K, ak, mk⟩ ⟨hk, A, clk, qk⟩
    simp only at hk A clk qk ⊢
    clear A3 q1'
    by_cases hk8 : k < 8
    · have c2 : (k : Int) < 8 := by omega
      have w1 : IntKind.i64.wrap ((k : Int) + 1) = ((k + 1 : Nat) : Int) := by rw [wrap_i64] <;> omega
      have hd : (scn ⟨4, 4, 2⟩ w2 k).done = false := by
        have : (GV.mk 4 4 2).words = 8 := rfl
        simp [scn, this]; omega
      have st := scn_step clk (show (GV.mk 4 4 2).right = true from rfl) (k := k) (by show (k : Int) < 8; omega) (by show (4 : Int) + 8 ≤ w2.length; omega)
      have hml := nz_len (w2.drop 4) k
      simp -dsimp only [go_sem, Nat.reduceEqDiff, Nat.reduceAdd, Nat.reduceSub, Nat.reduceMul, Nat.reduceLeDiff, Nat.reduceLT, Nat.reduceBEq, Int.reduceLT, Int.reduceLE, Int.reduceGT, Int.reduceGE, Int.reduceEq, Int.reduceNe, Int.reduceBEq, Int.reduceBNe, Int.reduceAdd, Int.reduceSub, Int.reduceMul, Int.reduceToNat, Int.reduceNeg, ↓reduceIte, ↓reduceDIte, c2]
      refine CT_val (hdone_ev A.row) ?_
      simp -dsimp only [go_sem, Nat.reduceEqDiff, Nat.reduceAdd, Nat.reduceSub, Nat.reduceMul, Nat.reduceLeDiff, Nat.reduceLT, Nat.reduceBEq, Int.reduceLT, Int.reduceLE, Int.reduceGT, Int.reduceGE, Int.reduceEq, Int.reduceNe, Int.reduceBEq, Int.reduceBNe, Int.reduceAdd, Int.reduceSub, Int.reduceMul, Int.reduceToNat, Int.reduceNeg, ↓reduceIte, ↓reduceDIte, hd]
      refine CT_of (hstep_ev A rfl (by simp only [scn]; omega) rfl (by simp only [scn]; show (nz ((w2.drop 4).take k)).length < _; omega)) ?_
      rintro _ K5 ⟨rfl, a5, S5⟩
      rw [st.1] at S5
      simp -dsimp only [go_sem, Nat.reduceEqDiff, Nat.reduceAdd, Nat.reduceSub, Nat.reduceMul, Nat.reduceLeDiff, Nat.reduceLT, Nat.reduceBEq, Int.reduceLT, Int.reduceLE, Int.reduceGT, Int.reduceGE, Int.reduceEq, Int.reduceNe, Int.reduceBEq, Int.reduceBNe, Int.reduceAdd, Int.reduceSub, Int.reduceMul, Int.reduceToNat, Int.reduceNeg, ↓reduceIte, ↓reduceDIte, w1]
      refine ⟨(k + 1, K5, a5, _), rfl, rfl, ⟨by simp only; omega, A.next S5, st.2, ?_⟩, by simp only; omega⟩
      rcases qk with h | ⟨b, o, ro, es, cc, h1, h2, h3⟩
      · exact .inl h
      · have hb := hfr3 _ h1
        simp only at hb
        refine .inr ⟨b, o, ro, es, cc, h1, ?_, h3⟩
        simp only
        rw [A.keep S5 (by omega) (by omega) (by omega) (by omega) (by omega)]
        exact h2
    · obtain rfl : k = 8 := by omega
      simp -dsimp only [go_sem, Nat.reduceEqDiff, Nat.reduceAdd, Nat.reduceSub, Nat.reduceMul, Nat.reduceLeDiff, Nat.reduceLT, Nat.reduceBEq, Int.reduceLT, Int.reduceLE, Int.reduceGT, Int.reduceGE, Int.reduceEq, Int.reduceNe, Int.reduceBEq, Int.reduceBNe, Int.reduceAdd, Int.reduceSub, Int.reduceMul, Int.reduceToNat, Int.reduceNeg, ↓reduceIte, ↓reduceDIte]
      refine CT_of (peek_ev (by have := A.l6; omega) A.mem (by decide)) ?_
      rintro _ _ ⟨an, tn, rfl, rfl, on⟩
      have hp2 : mk.peek 4 8 = (w2.drop 4).take 8 := clk.peek (p := 4) (n := 8) (by omega) (by decide)
      have hpl2 : ((w2.drop 4).take 8).length = 8 := by simp [hll2]
      rw [hp2] at on ⊢
      rw [hpl2]
      simp -dsimp only [go_sem, Nat.reduceEqDiff, Nat.reduceAdd, Nat.reduceSub, Nat.reduceMul, Nat.reduceLeDiff, Nat.reduceLT, Nat.reduceBEq, Int.reduceLT, Int.reduceLE, Int.reduceGT, Int.reduceGE, Int.reduceEq, Int.reduceNe, Int.reduceBEq, Int.reduceBNe, Int.reduceAdd, Int.reduceSub, Int.reduceMul, Int.reduceToNat, Int.reduceNeg, ↓reduceIte, ↓reduceDIte]
      have A2 := A.app tn
      refine CT_of (hmet_ev (by have := A2.l6; omega) A2.row A2.own rfl (by simp only [scn]; have := nz_len (w2.drop 4) 8; show (nz ((w2.drop 4).take 8)).length < _; omega)) ?_
      rintro _ _ ⟨am, tm, rfl, rfl, om⟩
      have A4 := A2.app tm
      have qk2 := (qk.app tn).app tm
      have on2 := (on.app tm).sl
      have om2 := om.sl
      have hmet : (scn ⟨4, 4, 2⟩ w2 8).met = nz ((w2.drop 4).take 8) := rfl
      rw [hmet] at om2 ⊢
      generalize K ++ tn ++ tm = K6 at A4 qk2 on2 om2 ⊢
      have hN : (w2.drop 4).take 8 = ((w.drop 4).take 8).set S 0#64 := by
        rw [← hw2]
        apply List.ext_getElem?
        intro j
        have hSl : S < 8 := by omega
        by_cases e : S = j
        · subst e
          rw [List.getElem?_set_self (by rw [hpl]; exact hSl), List.getElem?_take, if_pos hSl, List.getElem?_drop, List.getElem?_set_self (by omega)]
        · rw [List.getElem?_set_ne e, List.getElem?_take, List.getElem?_take, List.getElem?_drop, List.getElem?_drop, List.getElem?_set_ne (by omega)]
      have hNl : ((w2.drop 4).take 8).length = 8 := hpl2
      generalize (w2.drop 4).take 8 = Nw at hN hNl on2 om2 ⊢
      generalize (w.drop 4).take 8 = Ww at hN hpl qk2 ⊢
      obtain ⟨bn, onn, rfl, _, hgn⟩ := on2.all (by simp; omega)
      obtain ⟨bw, oww, rfl, _, hgw⟩ := qk2.all (by simp; omega)
      have okM : ∀ j v, Nw[j]? = some v → v ≠ 0#64 → ∃ bm omm, am = some ⟨bm, omm, none⟩ ∧ lget K6 bm (omm + (nz (Nw.take j)).length) = some (w64 v) := by
        intro j v hj hv
        have h1 := nz_le Nw j v hj hv
        obtain ⟨bm, omm, rfl, _, hgm⟩ := om2.all (by simp; omega)
        refine ⟨bm, omm, rfl, ?_⟩
        have := hgm [] (nz (Nw.take j)).length (w64 v) (by rw [List.getElem?_map, nz_at Nw j v hj hv]; rfl)
        rwa [List.append_nil] at this
      simp -dsimp only [go_sem, Nat.reduceEqDiff, Nat.reduceAdd, Nat.reduceSub, Nat.reduceMul, Nat.reduceLeDiff, Nat.reduceLT, Nat.reduceBEq, Int.reduceLT, Int.reduceLE, Int.reduceGT, Int.reduceGE, Int.reduceEq, Int.reduceNe, Int.reduceBEq, Int.reduceBNe, Int.reduceAdd, Int.reduceSub, Int.reduceMul, Int.reduceToNat, Int.reduceNeg, ↓reduceIte, ↓reduceDIte]
      refine LT_of (fun s' : Nat => [(1, i64 t1), (2, i64 s1), (12, .slice (some ⟨bw, oww, none⟩) 8 8), (14, ptr o3), (16, .slice (some ⟨bn, onn, none⟩) 8 8), (17, .slice am (nz Nw).length (nz Nw).length), (18, i64 (nz (Nw.take s')).length), (19, i64 s')]) (fun _ => K6) (fun s' => s' ≤ 8) (fun s' => 8 - s') 0 rfl rfl (by omega) ?_
      intro i hi8
      by_cases hi : i < 8
      · have c3 : (i : Int) < 8 := by omega
        have c0 : 0 ≤ (i : Int) := by omega
        have w1 : IntKind.i64.wrap ((i : Int) + 1) = ((i + 1 : Nat) : Int) := by rw [wrap_i64] <;> omega
        have w2' : IntKind.i64.wrap (2 * t1) = 2 * t1 := by rw [wrap_i64] <;> omega
        have w3 : IntKind.i64.wrap (2 * t1 + s1) = 2 * t1 + s1 := by rw [wrap_i64] <;> omega
        have gn := hgn [] i (w64 (Nw.getD i 0)) (by simp [hNl, hi])
        have gw := hgw [] i (w64 (Ww.getD i 0)) (by simp [hpl, hi])
        simp only [List.append_nil] at gn gw
        have hv : Nw[i]? = some (Nw.getD i 0) := by rw [List.getElem?_eq_getElem (by omega)]; simp [List.getD, hNl, hi]
        have htk : Nw.take (i + 1) = Nw.take i ++ [Nw.getD i 0] := by rw [List.take_add_one, hv]; rfl
        have hnz : nz (Nw.take (i + 1)) = if Nw.getD i 0 = 0#64 then nz (Nw.take i) else nz (Nw.take i) ++ [Nw.getD i 0] := by rw [htk, nz_app]
        have hb1 := nz_len Nw i
        by_cases eS : i = S
        · have own : ((i : Int) == 2 * t1 + s1) = true := by rw [beq_iff_eq]; omega
          have h0 : Nw.getD i 0 = 0#64 := by rw [hN, eS, List.getD, List.getElem?_set_self (by omega)]; rfl
          rw [if_pos h0] at hnz
          rw [h0] at gn
          simp -dsimp only [go_sem, Nat.reduceEqDiff, Nat.reduceAdd, Nat.reduceSub, Nat.reduceMul, Nat.reduceLeDiff, Nat.reduceLT, Nat.reduceBEq, Int.reduceLT, Int.reduceLE, Int.reduceGT, Int.reduceGE, Int.reduceEq, Int.reduceNe, Int.reduceBEq, Int.reduceBNe, Int.reduceAdd, Int.reduceSub, Int.reduceMul, Int.reduceToNat, Int.reduceNeg, ↓reduceIte, ↓reduceDIte, c3, c0, w1, w2', w3, own, gn, gw]
          exact ⟨i + 1, by rw [hnz], by omega, by omega⟩
        · have own : ((i : Int) == 2 * t1 + s1) = false := by rw [beq_eq_false_iff_ne]; omega
          have h0 : Nw.getD i 0 = Ww.getD i 0 := by rw [hN]; simp only [List.getD]; rw [List.getElem?_set_ne (Ne.symm eS)]
          rw [← h0] at gw
          by_cases hz : Nw.getD i 0 = 0#64
          · rw [if_pos hz] at hnz
            rw [hz] at gn gw
            simp -dsimp only [go_sem, Nat.reduceEqDiff, Nat.reduceAdd, Nat.reduceSub, Nat.reduceMul, Nat.reduceLeDiff, Nat.reduceLT, Nat.reduceBEq, Int.reduceLT, Int.reduceLE, Int.reduceGT, Int.reduceGE, Int.reduceEq, Int.reduceNe, Int.reduceBEq, Int.reduceBNe, Int.reduceAdd, Int.reduceSub, Int.reduceMul, Int.reduceToNat, Int.reduceNeg, ↓reduceIte, ↓reduceDIte, c3, c0, w1, w2', w3, own, gn, gw]
            exact ⟨i + 1, by rw [hnz], by omega, by omega⟩
          · rw [if_neg hz] at hnz
            have hz2 : (Nw.getD i 0 != 0#64) = true := by simpa using hz
            obtain ⟨bm, omm, rfl, gm⟩ := okM i _ hv hz
            have hlt := nz_le Nw i _ hv hz
            have c4 : ¬ ((nz Nw).length : Int) ≤ (nz (Nw.take i)).length := by omega
            have c5 : 0 ≤ ((nz (Nw.take i)).length : Int) := by omega
            have c6 : ((nz (Nw.take i)).length : Int) < (nz Nw).length := by omega
            have w4 : IntKind.i64.wrap (((nz (Nw.take i)).length : Int) + 1) = (((nz (Nw.take i)).length + 1 : Nat) : Int) := by rw [wrap_i64] <;> omega
            simp -dsimp only [go_sem, Nat.reduceEqDiff, Nat.reduceAdd, Nat.reduceSub, Nat.reduceMul, Nat.reduceLeDiff, Nat.reduceLT, Nat.reduceBEq, Int.reduceLT, Int.reduceLE, Int.reduceGT, Int.reduceGE, Int.reduceEq, Int.reduceNe, Int.reduceBEq, Int.reduceBNe, Int.reduceAdd, Int.reduceSub, Int.reduceMul, Int.reduceToNat, Int.reduceNeg, ↓reduceIte, ↓reduceDIte, c3, c0, w1, w2', w3, own, gn, gw, hz2, c4, c5, c6, gm, w4]
            exact ⟨i + 1, by rw [hnz]; simp, by omega, by omega⟩
      · obtain rfl : i = 8 := by omega
        have e8 : Nw.take 8 = Nw := List.take_of_length_le (by omega)
        rw [e8]
        simp -dsimp only [go_sem, Nat.reduceEqDiff, Nat.reduceAdd, Nat.reduceSub, Nat.reduceMul, Nat.reduceLeDiff, Nat.reduceLT, Nat.reduceBEq, Int.reduceLT, Int.reduceLE, Int.reduceGT, Int.reduceGE, Int.reduceEq, Int.reduceNe, Int.reduceBEq, Int.reduceBNe, Int.reduceAdd, Int.reduceSub, Int.reduceMul, Int.reduceToNat, Int.reduceNeg, ↓reduceIte, ↓reduceDIte]
        refine CT_val (hdone_ev A4.row) ?_
        have hd : (scn ⟨4, 4, 2⟩ w2 8).done = true := rfl
        simp -dsimp only [go_sem, Nat.reduceEqDiff, Nat.reduceAdd, Nat.reduceSub, Nat.reduceMul, Nat.reduceLeDiff, Nat.reduceLT, Nat.reduceBEq, Int.reduceLT, Int.reduceLE, Int.reduceGT, Int.reduceGE, Int.reduceEq, Int.reduceNe, Int.reduceBEq, Int.reduceBNe, Int.reduceAdd, Int.reduceSub, Int.reduceMul, Int.reduceToNat, Int.reduceNeg, ↓reduceIte, ↓reduceDIte, hd]
        refine CT_val (one_ev _ _) ?_
        simp -dsimp only [go_sem, Nat.reduceEqDiff, Nat.reduceAdd, Nat.reduceSub, Nat.reduceMul, Nat.reduceLeDiff, Nat.reduceLT, Nat.reduceBEq, Int.reduceLT, Int.reduceLE, Int.reduceGT, Int.reduceGE, Int.reduceEq, Int.reduceNe, Int.reduceBEq, Int.reduceBNe, Int.reduceAdd, Int.reduceSub, Int.reduceMul, Int.reduceToNat, Int.reduceNeg, ↓reduceIte, ↓reduceDIte]
end Go.Proofs.Ytcogpinognopcaa
