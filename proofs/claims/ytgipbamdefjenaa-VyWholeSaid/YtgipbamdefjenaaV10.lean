/- The statement VyAlone: the walk. -/
import Derived.Test.YtgipbamdefjenaaV9
namespace Go.Proofs.Ytgipbamdefjenaa
open Go Go.LK
set_option linter.unusedSimpArgs false
set_option linter.unusedVariables false
abbrev frw (s : Nat) (a : Option Addr) (l : List (BitVec 64)) : LObj := .row false 0 [i64 s, .slice a l.length l.length]
abbrev AG (H : LHeap) (s : Nat) (m : MV) (af : Option Addr) (l : List (BitVec 64)) (t : LHeap) : LHeap :=
  H ++ (rro ⟨0, s⟩ :: wrow m :: brow m :: mrow (H.length + 1) (H.length + 2) m :: frw s af l :: t)
theorem AG_mem {H : LHeap} {s n : Nat} {m : MV} (ok : m.Ok n) (af : Option Addr) (l : List (BitVec 64)) (t : LHeap) : MemAt (AG H s m af l t) (H.length + 3) (H.length + 1) (H.length + 2) m := mem_at (pre := [_]) ok
theorem right_two {s : Nat} (h : s = 2 ∨ s = 4 ∨ s = 8) : (RV.mk 0 s).right = true := by
  rcases h with rfl | rfl | rfl <;> decide
theorem AG_app (H : LHeap) (s : Nat) (m : MV) (af : Option Addr) (l : List (BitVec 64)) (t u : LHeap) : AG H s m af l t ++ u = AG H s m af l (t ++ u) := by simp [AG]
theorem AG_len (H : LHeap) (s : Nat) (m : MV) (af : Option Addr) (l : List (BitVec 64)) (t : LHeap) : (AG H s m af l t).length = H.length + 5 + t.length := by simp [AG]; omega
theorem AG_at (H : LHeap) (s : Nat) (m : MV) (af : Option Addr) (l : List (BitVec 64)) (t : LHeap) (j : Nat) : (AG H s m af l t)[H.length + 5 + j]? = t[j]? := by
  rw [AG, List.getElem?_append_right (by omega), show H.length + 5 + j - H.length = j + 5 by omega]; rfl
theorem AG_put (H : LHeap) (s : Nat) (m m' : MV) (af : Option Addr) (l : List (BitVec 64)) (t : LHeap) : memPut (AG H s m af l t) (H.length + 3) (H.length + 1) (H.length + 2) m' = AG H s m' af l t := by
  simp only [AG, memPut]
  simp -dsimp only [go_sem, Nat.reduceEqDiff, Nat.reduceAdd, Nat.reduceSub, Nat.reduceMul, Nat.reduceLeDiff, Nat.reduceLT, Nat.reduceBEq, Int.reduceLT, Int.reduceLE, Int.reduceGT, Int.reduceGE, Int.reduceEq, Int.reduceNe, Int.reduceBEq, Int.reduceBNe, Int.reduceAdd, Int.reduceSub, Int.reduceMul, Int.reduceToNat, Int.reduceNeg, ↓reduceIte, ↓reduceDIte]
theorem AG_sl {H : LHeap} {s : Nat} {m m' : MV} {af b : Option Addr} {l l' : List (BitVec 64)} {t : LHeap} {c : List Value} (h : Sl 1 (AG H s m af l t) b c) (f : Fresh (H.length + 5) b) (af' : Option Addr) : Sl 1 (AG H s m' af' l' t) b c := by
  rcases h with ⟨rfl, rfl⟩ | ⟨k, o, ro, es, cc, rfl, h2, h3, h4⟩
  · exact Sl.nil _ _
  · have g := f _ rfl
    simp only at g
    obtain ⟨j, rfl⟩ : ∃ j, k = H.length + 5 + j := ⟨k - (H.length + 5), by omega⟩
    rw [AG_at] at h2
    exact .inr ⟨_, o, ro, es, cc, rfl, by rw [AG_at]; exact h2, h3, h4⟩
theorem Seq.zero {s : Nat} (h : s = 2 ∨ s = 4 ∨ s = 8) : Seq s (vlay (2 + 2 * s) 0 s) 0 [] := by
  have s2 : 2 ≤ s := by omega
  have s8 : s ≤ 8 := by omega
  have g := fun j (hj : j < 2 + 2 * s) => vlay_get (2 + 2 * s) 0 s j hj
  refine ⟨s2, by omega, vlay_len _ _ _, by simp, by simp, ?_, ?_, ?_, ?_⟩
  · rw [List.getD, g 0 (by omega)]; rfl
  · rw [List.getD, g 1 (by omega)]; rfl
  · intro q q1 q2
    have hm : q % s = q := Nat.mod_eq_of_lt (by omega)
    rw [hm, List.getD, g _ (by omega), if_pos (by omega), if_neg (by simp)]
    rw [show (2 + 2 * q - 0 - 2) / 2 = q by omega]; rfl
  · intro i hi; simp at hi
theorem alone_step {s t : Nat} {w l : List (BitVec 64)} {m : MV} (h : Seq s w t l) (c : Clean m w) (hf : t + l.length < 100000) (q : Ask) {d : Int} (hd : d = 0 ∨ d = 1) :
    ∃ y m' w' t', runs 5 (q.op ⟨0, s⟩ d, m) = (y, m') ∧ y.at_ = 5 ∧ y.code = (doF s l d q.arg).2.1 ∧ y.v = (doF s l d q.arg).2.2 ∧ Clean m' w' ∧ Seq s w' t' (doF s l d q.arg).1 ∧ t' + (doF s l d q.arg).1.length ≤ t + l.length + 1 := by
  have s2 := h.s2
  have hle := h.le
  rcases hd with rfl | rfl
  · have e : q.op ⟨0, s⟩ 0 = ⟨⟨0, s⟩, false, q.arg, 0, 0#64, 0⟩ := rfl
    rw [e]
    by_cases hl : l.length < s
    · obtain ⟨m', w', e1, c1, h1⟩ := put_ok (v := q.arg) h c hl hf
      have ed : doF s l 0 q.arg = (l ++ [q.arg], 0, 0) := by rw [doF.eq_def, if_pos rfl, if_neg (by omega)]
      rw [ed]
      exact ⟨_, _, w', t, e1, rfl, rfl, rfl, c1, h1, by simp; omega⟩
    · obtain ⟨m', e1, c1⟩ := put_full (v := q.arg) h c (by omega) hf
      have ed : doF s l 0 q.arg = (l, 15, 0) := by rw [doF.eq_def, if_pos rfl, if_pos (by omega)]
      rw [ed]
      exact ⟨_, _, w, t, e1, rfl, rfl, rfl, c1, h, by simp⟩
  · have e : q.op ⟨0, s⟩ 1 = ⟨⟨0, s⟩, true, 0#64, 0, 0#64, 0⟩ := rfl
    rw [e]
    cases l with
    | nil =>
      obtain ⟨m', e1, c1⟩ := take_none h c (by simpa using hf)
      exact ⟨_, _, w, t, e1, rfl, rfl, rfl, c1, h, by simp [doF]⟩
    | cons v l =>
      obtain ⟨m', w', e1, c1, h1⟩ := take_ok h c (by simp at hf; omega)
      exact ⟨_, _, w', t + 1, e1, rfl, rfl, rfl, c1, h1, by simp [doF]; omega⟩
structure AS where
  i : Nat
  t : Nat
  l : List (BitVec 64)
  w : List (BitVec 64)
  m : MV
  af : Option Addr
  tl : LHeap
  n : Nat
structure AI (H : LHeap) (s : Nat) (q : AS) : Prop where
  hi : q.i ≤ 60
  seq : Seq s q.w q.t q.l
  cl : Clean q.m q.w
  few : q.m.Few q.n
  hn : q.n ≤ 18 + 5 * q.i
  ht : q.t + q.l.length ≤ q.i
  sl : Sl 1 (AG H s q.m q.af q.l q.tl) q.af (q.l.map w64)
  fr : Fresh (H.length + 5) q.af
set_option maxHeartbeats 1000000 in
theorem alone_ev {lim : Nat} {H : LHeap} {n : Int} {a : Option Addr} {l : List Ask} (hl : Sl 3 H a (l.flatMap Ask.cells)) : callE T 6 lim [i64 n, .slice a l.length l.length] H fun v H' => v = .bool true := by
  refine callE_pop rfl (by simp) rfl ?_
  obtain ⟨s, hs, two⟩ := two_ev H.length H n
  have s2 : 2 ≤ s := by omega
  have s8 : s ≤ 8 := by omega
  have hr := right_two hs
  have w1 : IntKind.i64.wrap (2 * (s : Int)) = 2 * s := by rw [wrap_i64] <;> omega
  have w2 : IntKind.i64.wrap (2 + 2 * (s : Int)) = 2 + 2 * s := by rw [wrap_i64] <;> omega
  simp -dsimp only [go_sem, Nat.reduceEqDiff, Nat.reduceAdd, Nat.reduceSub, Nat.reduceMul, Nat.reduceLeDiff, Nat.reduceLT, Nat.reduceBEq, Int.reduceLT, Int.reduceLE, Int.reduceGT, Int.reduceGE, Int.reduceEq, Int.reduceNe, Int.reduceBEq, Int.reduceBNe, Int.reduceAdd, Int.reduceSub, Int.reduceMul, Int.reduceToNat, Int.reduceNeg, ↓reduceIte, ↓reduceDIte]
  refine CT_val two ?_
  simp -dsimp only [go_sem, Nat.reduceEqDiff, Nat.reduceAdd, Nat.reduceSub, Nat.reduceMul, Nat.reduceLeDiff, Nat.reduceLT, Nat.reduceBEq, Int.reduceLT, Int.reduceLE, Int.reduceGT, Int.reduceGE, Int.reduceEq, Int.reduceNe, Int.reduceBEq, Int.reduceBNe, Int.reduceAdd, Int.reduceSub, Int.reduceMul, Int.reduceToNat, Int.reduceNeg, ↓reduceIte, ↓reduceDIte, w1, w2]
  refine CT_of (new_ev (by simp)) ?_
  rintro _ _ h
  rw [if_neg (by omega)] at h
  obtain ⟨rfl, rfl⟩ := h
  have en : (2 + 2 * (s : Int)).toNat = 2 + 2 * s := by omega
  rw [en]
  have ok := MV.Ok.new (n := 2 + 2 * s) (by omega) (by omega)
  have cl0 := Clean.new (n := 2 + 2 * s) (by omega) (by omega)
  have few0 := MV.Few.new (2 + 2 * s)
  generalize MV.new (2 + 2 * s) = m0 at ok cl0 few0 ⊢
  have mm := fun (m : MV) (ok : m.Ok (2 + 2 * s)) l => mem_at (H := H) (pre := [rro ⟨0, s⟩]) (t := l) ok
  simp only [List.length_cons, List.length_nil, Nat.zero_add, List.cons_append, List.nil_append, Nat.reduceAdd] at mm
  simp -dsimp only [go_sem, Nat.reduceEqDiff, Nat.reduceAdd, Nat.reduceSub, Nat.reduceMul, Nat.reduceLeDiff, Nat.reduceLT, Nat.reduceBEq, Int.reduceLT, Int.reduceLE, Int.reduceGT, Int.reduceGE, Int.reduceEq, Int.reduceNe, Int.reduceBEq, Int.reduceBNe, Int.reduceAdd, Int.reduceSub, Int.reduceMul, Int.reduceToNat, Int.reduceNeg, ↓reduceIte, ↓reduceDIte, Nat.add_assoc]
  refine CT_of (setup_ev (r := ⟨0, s⟩) (a := 0) (s := s) (mm _ ok _) cl0 few0 (by omega) hr rfl rfl (by omega)) ?_
  rintro _ _ ⟨m1, cl1, few1, rfl, rfl⟩
  simp -dsimp only [go_sem, Nat.reduceEqDiff, Nat.reduceAdd, Nat.reduceSub, Nat.reduceMul, Nat.reduceLeDiff, Nat.reduceLT, Nat.reduceBEq, Int.reduceLT, Int.reduceLE, Int.reduceGT, Int.reduceGE, Int.reduceEq, Int.reduceNe, Int.reduceBEq, Int.reduceBNe, Int.reduceAdd, Int.reduceSub, Int.reduceMul, Int.reduceToNat, Int.reduceNeg, ↓reduceIte, ↓reduceDIte, memPut]
  refine LT_of (fun q : AS => [(1, .slice a l.length l.length), (5, ptr H.length), (6, ptr (H.length + 3)), (8, ptr (H.length + 4)), (9, i64 q.i)]) (fun q => AG H s q.m q.af q.l q.tl) (AI H s) (fun q => 60 - q.i)
    ⟨0, 0, [], vlay (2 + 2 * s) 0 s, m1, none, [], 0 + 2 + 2 * s⟩ rfl rfl ⟨by simp, Seq.zero hs, cl1, few1, by simp; omega, by simp, Sl.nil _ _, Fresh.nil _⟩ ?_
  rintro ⟨i, t, lf, w, m, af, tl, n⟩ inv
  obtain ⟨hi, seq, cl, few, hn, ht, sl, fr⟩ := inv
  simp only at hi seq cl few hn ht sl fr
  dsimp only
  have okm := cl.ok
  rw [seq.len] at okm
  by_cases c1 : i < l.length
  · have c1' : (i : Int) < l.length := by omega
    by_cases c2 : i < 60
    · have c2' : (i : Int) < 60 := by omega
      obtain ⟨ba, oa, rfl, _, hgc, hgl⟩ := hl.rowsAt (f := Ask.cells) Ask.len (by omega) (by omega)
      have gc : ∀ t, lcells (H ++ t) ba (oa + i * 3) 3 = some (Ask.cells l[i]) := fun t => hgc t i _ (List.getElem?_eq_getElem c1)
      have gl1 : ∀ t, lget (H ++ t) ba (oa + i * 3 + 1) = some (i64 (l[i].kind)) := fun t => hgl t i _ 1 (List.getElem?_eq_getElem c1) (by omega)
      have gl2 : ∀ t, lget (H ++ t) ba (oa + i * 3 + 2) = some (w64 (l[i].arg)) := fun t => hgl t i _ 2 (List.getElem?_eq_getElem c1) (by omega)
      generalize l[i] = ask at gc gl1 gl2
      simp only [Ask.cells] at gc
      have i0 : 0 ≤ (i : Int) := by omega
      have hw1 : IntKind.i64.wrap ((i : Int) + 1) = ((i + 1 : Nat) : Int) := by rw [wrap_i64] <;> omega
      obtain ⟨d, hd, d0, d1⟩ := andK ask.kind 1 (by decide)
      have d1 : d ≤ 1 := d1
      simp -dsimp only [go_sem, Nat.reduceEqDiff, Nat.reduceAdd, Nat.reduceSub, Nat.reduceMul, Nat.reduceLeDiff, Nat.reduceLT, Nat.reduceBEq, Int.reduceLT, Int.reduceLE, Int.reduceGT, Int.reduceGE, Int.reduceEq, Int.reduceNe, Int.reduceBEq, Int.reduceBNe, Int.reduceAdd, Int.reduceSub, Int.reduceMul, Int.reduceToNat, Int.reduceNeg, ↓reduceIte, ↓reduceDIte, c1', c2', i0, gc]
      refine CT_of (abegin_ev (r := ⟨0, s⟩) (c := ask) (by rw [AG_len]; omega) hr hd) ?_
      rintro _ _ ⟨u1, u2, u3, u4, rfl, rfl⟩
      rw [AG_app]
      obtain ⟨o, ho⟩ : ∃ o, o = (AG H s m af lf tl).length + 4 := ⟨_, rfl⟩
      rw [← ho]
      have ho' := ho
      rw [AG_len] at ho'
      have hx : ∀ m af l u, (AG H s m af l (tl ++ [u1, u2, u3, u4, u]))[o]? = some u := by
        intro m af l u; rw [ho', show H.length + 5 + tl.length + 4 = H.length + 5 + (tl.length + 4) by omega, AG_at]; simp
      have hset : ∀ m af l u v, (AG H s m af l (tl ++ [u1, u2, u3, u4, u])).set o v = AG H s m af l (tl ++ [u1, u2, u3, u4, v]) := by
        intro m af l u v
        have e : ∀ y, AG H s m af l (tl ++ [u1, u2, u3, u4, y]) = (AG H s m af l tl ++ [u1, u2, u3, u4]) ++ [y] := by intro y; simp [AG]
        have eo : o = (AG H s m af l tl ++ [u1, u2, u3, u4]).length := by rw [List.length_append, AG_len, ho']; rfl
        rw [e, e, eo]
        generalize AG H s m af l tl ++ [u1, u2, u3, u4] = X
        simp
      have mem0 := fun (m' : MV) (ok : m'.Ok (2 + 2 * s)) af l t => AG_mem (H := H) (s := s) ok af l t
      simp -dsimp only [go_sem, Nat.reduceEqDiff, Nat.reduceAdd, Nat.reduceSub, Nat.reduceMul, Nat.reduceLeDiff, Nat.reduceLT, Nat.reduceBEq, Int.reduceLT, Int.reduceLE, Int.reduceGT, Int.reduceGE, Int.reduceEq, Int.reduceNe, Int.reduceBEq, Int.reduceBNe, Int.reduceAdd, Int.reduceSub, Int.reduceMul, Int.reduceToNat, Int.reduceNeg, ↓reduceIte, ↓reduceDIte]
      refine CT_val (steps_ev (mem0 _ okm _ _ _)) ?_
      rw [few.steps]
      simp -dsimp only [go_sem, Nat.reduceEqDiff, Nat.reduceAdd, Nat.reduceSub, Nat.reduceMul, Nat.reduceLeDiff, Nat.reduceLT, Nat.reduceBEq, Int.reduceLT, Int.reduceLE, Int.reduceGT, Int.reduceGE, Int.reduceEq, Int.reduceNe, Int.reduceBEq, Int.reduceBNe, Int.reduceAdd, Int.reduceSub, Int.reduceMul, Int.reduceToNat, Int.reduceNeg, ↓reduceIte, ↓reduceDIte]
      obtain ⟨z, hz⟩ : ∃ z, z = (ask.op ⟨0, s⟩ d, m) := ⟨_, rfl⟩
      refine LT_of (fun k : Nat => [(1, .slice (some ⟨ba, oa, none⟩) l.length l.length), (5, ptr H.length), (6, ptr (H.length + 3)), (8, ptr (H.length + 4)), (9, i64 i), (10, ptr o), (11, i64 n), (12, i64 k)]) (fun k => AG H s (runs k z).2 af lf (tl ++ [u1, u2, u3, u4, vrw (runs k z).1])) (fun k => k ≤ 5) (fun k => 5 - k) 0 rfl (by rw [hz]; rfl) (by omega) ?_
      · intro k hk
        have hok : (runs k z).2.Ok (2 + 2 * s) := by
          obtain ⟨e1, e2⟩ := runs_len k z
          rw [hz] at e1 e2 ⊢
          exact ⟨e1.trans okm.w, (congrArg List.length e2).trans okm.b, okm.pos, okm.le⟩
        by_cases c3 : k < 5
        · have c3' : (k : Int) < 5 := by omega
          have hw2 : IntKind.i64.wrap ((k : Int) + 1) = ((k + 1 : Nat) : Int) := by rw [wrap_i64] <;> omega
          simp -dsimp only [go_sem, Nat.reduceEqDiff, Nat.reduceAdd, Nat.reduceSub, Nat.reduceMul, Nat.reduceLeDiff, Nat.reduceLT, Nat.reduceBEq, Int.reduceLT, Int.reduceLE, Int.reduceGT, Int.reduceGE, Int.reduceEq, Int.reduceNe, Int.reduceBEq, Int.reduceBNe, Int.reduceAdd, Int.reduceSub, Int.reduceMul, Int.reduceToNat, Int.reduceNeg, ↓reduceIte, ↓reduceDIte, c3']
          refine CT_of (vstep_ev (hx _ _ _ _) (mem0 _ hok _ _ _) (by omega) (by omega) (by omega) (by rw [runs_r, hz]; simp only [Ask.op]; split <;> exact hr)) ?_
          rintro _ _ ⟨rfl, rfl⟩
          rw [hset, AG_put]
          simp -dsimp only [go_sem, Nat.reduceEqDiff, Nat.reduceAdd, Nat.reduceSub, Nat.reduceMul, Nat.reduceLeDiff, Nat.reduceLT, Nat.reduceBEq, Int.reduceLT, Int.reduceLE, Int.reduceGT, Int.reduceGE, Int.reduceEq, Int.reduceNe, Int.reduceBEq, Int.reduceBNe, Int.reduceAdd, Int.reduceSub, Int.reduceMul, Int.reduceToNat, Int.reduceNeg, ↓reduceIte, ↓reduceDIte, hw2]
          refine ⟨k + 1, rfl, ?_, by omega, by omega⟩
          rw [runs_succ]
        · obtain rfl : k = 5 := by omega
          obtain ⟨y, m', w', t', er, y5, yc, yv, cl', seq', ht'⟩ := alone_step seq cl (by omega) ask (d := d) (by omega)
          obtain ⟨n', hn', few'⟩ := runs_few 5 (z := z) (n := n) (by rw [hz]; exact few) (by omega)
          rw [← hz] at er
          rw [er] at few' hok ⊢
          simp only at few' hok ⊢
          have sl3 : ∀ u, Sl 1 (AG H s m' af lf (tl ++ u)) af (lf.map w64) := fun u => by
            have := sl.app u
            rw [AG_app] at this
            exact AG_sl this fr af
          simp -dsimp only [go_sem, Nat.reduceEqDiff, Nat.reduceAdd, Nat.reduceSub, Nat.reduceMul, Nat.reduceLeDiff, Nat.reduceLT, Nat.reduceBEq, Int.reduceLT, Int.reduceLE, Int.reduceGT, Int.reduceGE, Int.reduceEq, Int.reduceNe, Int.reduceBEq, Int.reduceBNe, Int.reduceAdd, Int.reduceSub, Int.reduceMul, Int.reduceToNat, Int.reduceNeg, ↓reduceIte, ↓reduceDIte]
          refine CT_val (vres_ev (hx _ _ _ _)) ?_
          rw [if_pos y5]
          simp -dsimp only [go_sem, Nat.reduceEqDiff, Nat.reduceAdd, Nat.reduceSub, Nat.reduceMul, Nat.reduceLeDiff, Nat.reduceLT, Nat.reduceBEq, Int.reduceLT, Int.reduceLE, Int.reduceGT, Int.reduceGE, Int.reduceEq, Int.reduceNe, Int.reduceBEq, Int.reduceBNe, Int.reduceAdd, Int.reduceSub, Int.reduceMul, Int.reduceToNat, Int.reduceNeg, ↓reduceIte, ↓reduceDIte, gl1, gl2, hd, i0, c1']
          refine CT_of (doF_ev (a := af) (l := lf) (cap := s) (kind := d) (x := ask.arg) (by simp) (sl3 _) (by omega)) ?_
          rintro _ _ ⟨af', t2, rfl, rfl, sl2, hf2⟩
          have fr2 : Fresh (H.length + 5) af' := by
            rcases hf2 with ⟨rfl, _⟩ | hf2
            · exact fr
            · exact hf2.mono (by simp)
          have hx3 : ∀ af l u, (AG H s m' af l (tl ++ u1 :: u2 :: u3 :: u4 :: vrw y :: u))[o]? = some (vrw y) := by
            intro af l u; rw [ho', show H.length + 5 + tl.length + 4 = H.length + 5 + (tl.length + 4) by omega, AG_at]; simp
          have mem1 := fun af l t => mem0 m' hok af l t
          have y5' : (y.at_ == 5) = true := by rw [y5]; rfl
          have hw3 : IntKind.i64.wrap ((n : Int) + 5) = (n : Int) + 5 := by rw [wrap_i64] <;> omega
          have hgt : ¬ (n' : Int) > (n : Int) + 5 := by omega
          generalize hD : doF s lf d ask.arg = D at yc yv seq' ht' sl2 hf2 ⊢
          rw [← yc, ← yv]
          simp -dsimp only [go_sem, Nat.reduceEqDiff, Nat.reduceAdd, Nat.reduceSub, Nat.reduceMul, Nat.reduceLeDiff, Nat.reduceLT, Nat.reduceBEq, Int.reduceLT, Int.reduceLE, Int.reduceGT, Int.reduceGE, Int.reduceEq, Int.reduceNe, Int.reduceBEq, Int.reduceBNe, Int.reduceAdd, Int.reduceSub, Int.reduceMul, Int.reduceToNat, Int.reduceNeg, ↓reduceIte, ↓reduceDIte]
          refine CT_val (vdone_ev (hx3 _ _ _)) ?_
          simp -dsimp only [go_sem, Nat.reduceEqDiff, Nat.reduceAdd, Nat.reduceSub, Nat.reduceMul, Nat.reduceLeDiff, Nat.reduceLT, Nat.reduceBEq, Int.reduceLT, Int.reduceLE, Int.reduceGT, Int.reduceGE, Int.reduceEq, Int.reduceNe, Int.reduceBEq, Int.reduceBNe, Int.reduceAdd, Int.reduceSub, Int.reduceMul, Int.reduceToNat, Int.reduceNeg, ↓reduceIte, ↓reduceDIte, y5']
          refine CT_val (steps_ev (mem1 _ _ _)) ?_
          rw [few'.steps]
          simp -dsimp only [go_sem, Nat.reduceEqDiff, Nat.reduceAdd, Nat.reduceSub, Nat.reduceMul, Nat.reduceLeDiff, Nat.reduceLT, Nat.reduceBEq, Int.reduceLT, Int.reduceLE, Int.reduceGT, Int.reduceGE, Int.reduceEq, Int.reduceNe, Int.reduceBEq, Int.reduceBNe, Int.reduceAdd, Int.reduceSub, Int.reduceMul, Int.reduceToNat, Int.reduceNeg, ↓reduceIte, ↓reduceDIte, hw3, hgt, hw1]
          refine ⟨⟨i + 1, t', D.1, w', m', af', tl ++ u1 :: u2 :: u3 :: u4 :: vrw y :: .row false 0 [i64 s, .slice af' D.1.length D.1.length] :: t2, n'⟩, rfl, rfl, ⟨by simp only; omega, seq', cl', few', by simp only; omega, by simp only; omega, ?_, fr2⟩, by simp only; omega⟩
          exact sl2.boxed (by omega) (by simp [AG, unbox_app, unbox_cons, unboxO_box])
    · have c2' : ¬ (i : Int) < 60 := by omega
      simp -dsimp only [go_sem, Nat.reduceEqDiff, Nat.reduceAdd, Nat.reduceSub, Nat.reduceMul, Nat.reduceLeDiff, Nat.reduceLT, Nat.reduceBEq, Int.reduceLT, Int.reduceLE, Int.reduceGT, Int.reduceGE, Int.reduceEq, Int.reduceNe, Int.reduceBEq, Int.reduceBNe, Int.reduceAdd, Int.reduceSub, Int.reduceMul, Int.reduceToNat, Int.reduceNeg, ↓reduceIte, ↓reduceDIte, c1', c2']
      refine CT_val (trap_c (AG_mem okm _ _ _) cl) ?_
      simp -dsimp only [go_sem, Nat.reduceEqDiff, Nat.reduceAdd, Nat.reduceSub, Nat.reduceMul, Nat.reduceLeDiff, Nat.reduceLT, Nat.reduceBEq, Int.reduceLT, Int.reduceLE, Int.reduceGT, Int.reduceGE, Int.reduceEq, Int.reduceNe, Int.reduceBEq, Int.reduceBNe, Int.reduceAdd, Int.reduceSub, Int.reduceMul, Int.reduceToNat, Int.reduceNeg, ↓reduceIte, ↓reduceDIte]
      refine CT_val (one_ev _ _) ?_
      simp -dsimp only [go_sem, Nat.reduceEqDiff, Nat.reduceAdd, Nat.reduceSub, Nat.reduceMul, Nat.reduceLeDiff, Nat.reduceLT, Nat.reduceBEq, Int.reduceLT, Int.reduceLE, Int.reduceGT, Int.reduceGE, Int.reduceEq, Int.reduceNe, Int.reduceBEq, Int.reduceBNe, Int.reduceAdd, Int.reduceSub, Int.reduceMul, Int.reduceToNat, Int.reduceNeg, ↓reduceIte, ↓reduceDIte]
  · have c1' : ¬ (i : Int) < l.length := by omega
    simp -dsimp only [go_sem, Nat.reduceEqDiff, Nat.reduceAdd, Nat.reduceSub, Nat.reduceMul, Nat.reduceLeDiff, Nat.reduceLT, Nat.reduceBEq, Int.reduceLT, Int.reduceLE, Int.reduceGT, Int.reduceGE, Int.reduceEq, Int.reduceNe, Int.reduceBEq, Int.reduceBNe, Int.reduceAdd, Int.reduceSub, Int.reduceMul, Int.reduceToNat, Int.reduceNeg, ↓reduceIte, ↓reduceDIte, c1']
    refine CT_val (trap_c (AG_mem okm _ _ _) cl) ?_
    simp -dsimp only [go_sem, Nat.reduceEqDiff, Nat.reduceAdd, Nat.reduceSub, Nat.reduceMul, Nat.reduceLeDiff, Nat.reduceLT, Nat.reduceBEq, Int.reduceLT, Int.reduceLE, Int.reduceGT, Int.reduceGE, Int.reduceEq, Int.reduceNe, Int.reduceBEq, Int.reduceBNe, Int.reduceAdd, Int.reduceSub, Int.reduceMul, Int.reduceToNat, Int.reduceNeg, ↓reduceIte, ↓reduceDIte]
    refine CT_val (one_ev _ _) ?_
    simp -dsimp only [go_sem, Nat.reduceEqDiff, Nat.reduceAdd, Nat.reduceSub, Nat.reduceMul, Nat.reduceLeDiff, Nat.reduceLT, Nat.reduceBEq, Int.reduceLT, Int.reduceLE, Int.reduceGT, Int.reduceGE, Int.reduceEq, Int.reduceNe, Int.reduceBEq, Int.reduceBNe, Int.reduceAdd, Int.reduceSub, Int.reduceMul, Int.reduceToNat, Int.reduceNeg, ↓reduceIte, ↓reduceDIte]
end Go.Proofs.Ytgipbamdefjenaa
