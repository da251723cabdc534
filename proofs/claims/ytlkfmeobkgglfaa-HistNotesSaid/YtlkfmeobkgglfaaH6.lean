/- The statement HistNotes. -/
import Derived.Test.YtlkfmeobkgglfaaH5
namespace Go.Proofs.Ytlkfmeobkgglfaa
open Go Go.LK
set_option linter.unusedSimpArgs false
set_option linter.unusedVariables false
/-- Of other blocks than a log's. -/
def Apart (b m : Nat) (a s : Option Addr) : Prop := ∀ x, s = some x → x.block ≠ b ∧ x.block ≠ m ∧ Off x.block a
theorem Apart.sl {k b m : Nat} {H H' : LHeap} {s a a' : Option Addr} {c : List Value} (h : Apart b m a s) (hs : Sl k H s c) (hk : Keeps b m a a' H H') : Sl k H' s c ∧ Apart b m a' s := by
  rcases hs with ⟨rfl, h2⟩ | ⟨q, o, ro, es, cc, rfl, h2, h3⟩
  · exact ⟨.inl ⟨rfl, h2⟩, fun x hx => by cases hx⟩
  · obtain ⟨n1, n2, n3⟩ := h _ rfl
    have := hk.2 q (List.getElem?_eq_some_iff.1 h2).1 n1 n2 n3
    refine ⟨.inr ⟨q, o, ro, es, cc, rfl, by rw [this.1]; exact h2, h3⟩, fun x hx => ?_⟩
    cases hx
    exact ⟨n1, n2, this.2⟩
theorem Apart.old {b m : Nat} {a : Option Addr} {H : LHeap} {v : HV} {n : Nat} (h : LogAt n H b m a v) {s s' : Option Addr} (hs : Apart b m a s) (q : s' = s ∨ Fresh H.length s') : Apart b m a s' := by
  rcases q with rfl | q
  · exact hs
  · intro x hx
    have := q x hx
    have := h.lb
    refine ⟨by omega, by omega, ?_⟩
    rcases h.ls with ⟨h1, _⟩ | ⟨p, h1, h2⟩
    · rw [h1]; intro y hy; cases hy
    · rw [h1]; intro y hy; cases hy
      have := (List.getElem?_eq_some_iff.1 h2).1
      dsimp only; omega
/-- Another block is turned. -/
theorem LogAt.other {n b m c : Nat} {H : LHeap} {a : Option Addr} {v : HV} (h : LogAt n H b m a v) (h1 : c ≠ b) (h2 : c ≠ m) (h3 : Off c a) (x : LObj) : LogAt n (H.set c x) b m a v := by
  refine ⟨by rw [get_set_ne h1]; exact h.row, by rw [get_set_ne h2]; exact h.mp, ?_, h.nb, h.nm, h.na, h.ne, h.ob, h.om⟩
  rcases h.ls with h | ⟨q, q1, q2⟩
  · exact .inl h
  · exact .inr ⟨q, q1, by rw [get_set_ne (fun e => h3 _ q1 e.symm)]; exact q2⟩
theorem begin_ids (v : HV) (t kind : Int) (arg : BitVec 64) : True := trivial
/-- What the two logs stand at. -/
structure Both (H K : LHeap) (s : Option Addr) (l : List ActD) (i : Nat) (v : HV) (a ra : Option Addr) : Prop where
  h1 : i ≤ l.length
  h2 : i ≤ 80
  hL : LogAt H.length K (H.length + 1) H.length a v
  hI : HInv v
  h3 : v.l.length ≤ i
  h4 : v.now ≤ i
  h5 : H.length + 2 < K.length
  h6 : Sl 4 K s (l.flatMap ActD.cells)
  hr : K[H.length + 2]? = some (.row false 0 [.slice ra v.l.length v.l.length, i64 v.now])
  ho : Off (H.length + 2) a
  hs : Sl 8 K ra (v.l.flatMap CallD.cells)
  hp : Apart (H.length + 1) H.length a ra
  hq : Off (H.length + 2) ra
set_option maxHeartbeats 4000000 in
theorem notes_ev {lim : Nat} {s : Option Addr} {l : List ActD} {H : LHeap} (hs : Sl 4 H s (l.flatMap ActD.cells)) :
    callE T 5 lim [.slice s l.length l.length] H fun v H' => v = .bool true := by
  refine callE_pop rfl (by simp) rfl ?_
  simp -dsimp only [go_sem, Nat.reduceEqDiff, Nat.reduceAdd, Nat.reduceSub, Nat.reduceMul, Nat.reduceLeDiff, Nat.reduceLT, Nat.reduceBEq, Int.reduceLT, Int.reduceLE, Int.reduceGT, Int.reduceGE, Int.reduceEq, Int.reduceNe, Int.reduceBEq, Int.reduceBNe, Int.reduceAdd, Int.reduceSub, Int.reduceMul, Int.reduceToNat, Int.reduceNeg, ↓reduceIte, ↓reduceDIte]
  refine CT_val new_ev ?_
  simp -dsimp only [go_sem, Nat.reduceEqDiff, Nat.reduceAdd, Nat.reduceSub, Nat.reduceMul, Nat.reduceLeDiff, Nat.reduceLT, Nat.reduceBEq, Int.reduceLT, Int.reduceLE, Int.reduceGT, Int.reduceGE, Int.reduceEq, Int.reduceNe, Int.reduceBEq, Int.reduceBNe, Int.reduceAdd, Int.reduceSub, Int.reduceMul, Int.reduceToNat, Int.reduceNeg, ↓reduceIte, ↓reduceDIte]
  have hu := Sl.under hs
  have f1 : (false == true) = false := rfl
  have f2 : (true == false) = false := rfl
  refine LT_of (fun q : Nat × HV × Option Addr × Option Addr × LHeap => [(0, .slice s l.length l.length), (3, ptr (H.length + 1)), (4, ptr (H.length + 2)), (5, i64 q.1)]) (fun q => q.2.2.2.2)
    (fun q => Both H q.2.2.2.2 s l q.1 q.2.1 q.2.2.1 q.2.2.2.1) (fun q => l.length - q.1)
    (0, { l := [], op := [], now := 0 }, none, none, H ++ [.map [], .row false 0 [.slice none 0 0, .map (some H.length), i64 0], .row false 0 [.slice none 0 0, i64 0]]) (by simp) rfl ?_ ?_
  · have hL := (LogAt.new H).app [.row false 0 [.slice none 0 0, i64 0]]
    simp only [List.append_assoc, List.cons_append, List.nil_append] at hL
    exact ⟨by simp, by simp, hL, HInv.zero, by simp, by simp, by simp, hs.app _, by simp, (fun x hx => by cases hx), Sl.nil _ _, (fun x hx => by cases hx), fun x hx => by cases hx⟩
  rintro ⟨i, v, a, ra, K⟩ hB
  simp only at hB ⊢
  obtain ⟨h1, h2, hL, hI, h3, h4, h5, h6, hr, ho, hs8, hp, hq⟩ := hB
  by_cases hi : i < l.length ∧ i < 80
  · have k1 : (i : Int) < l.length := by omega
    have k2 : (i : Int) < 80 := by omega
    have k3 : 0 ≤ (i : Int) := by omega
    have hw : IntKind.i64.wrap ((i : Int) + 1) = ((i + 1 : Nat) : Int) := by rw [wrap_i64] <;> omega
    have hc : l[i]? = some (l[i]'hi.1) := List.getElem?_eq_getElem _
    generalize l[i]'hi.1 = c at hc
    obtain ⟨b1, o1, rfl, hb1, hg1⟩ := h6.rows (f := ActD.cells) ActD.len (by omega) (by omega)
    have g1 := hg1 [] i c hc
    simp only [List.append_nil, ActD.cells] at g1
    have hn0 := hI.n0
    have hr0 : ∀ t, lcells (K ++ t) (H.length + 2) 0 2 = some [.slice ra v.l.length v.l.length, i64 v.now] := fun t => lcells_of (get_old hr t) rfl
    by_cases hk0 : c.kind = 0
    · have e0 : (c.kind == 0) = true := by simpa using hk0
      simp -dsimp only [go_sem, Nat.reduceEqDiff, Nat.reduceAdd, Nat.reduceSub, Nat.reduceMul, Nat.reduceLeDiff, Nat.reduceLT, Nat.reduceBEq, Int.reduceLT, Int.reduceLE, Int.reduceGT, Int.reduceGE, Int.reduceEq, Int.reduceNe, Int.reduceBEq, Int.reduceBNe, Int.reduceAdd, Int.reduceSub, Int.reduceMul, Int.reduceToNat, Int.reduceNeg, ↓reduceIte, ↓reduceDIte, k1, k2, k3, hw, g1, e0, hr0]
      refine CT_of (refbegin_ev (by simp; omega) hI (hs8.app _) (by omega) (by omega)) ?_
      rintro _ _ ⟨ra2, u, rfl, rfl, gs, gq⟩
      have lk1 : H.length ≤ K.length + (u.length + 1) := by omega
      simp -dsimp only [go_sem, Nat.reduceEqDiff, Nat.reduceAdd, Nat.reduceSub, Nat.reduceMul, Nat.reduceLeDiff, Nat.reduceLT, Nat.reduceBEq, Int.reduceLT, Int.reduceLE, Int.reduceGT, Int.reduceGE, Int.reduceEq, Int.reduceNe, Int.reduceBEq, Int.reduceBNe, Int.reduceAdd, Int.reduceSub, Int.reduceMul, Int.reduceToNat, Int.reduceNeg, ↓reduceIte, ↓reduceDIte, lk1]
      have hX : K ++ LObj.row false 0 [i64 c.kind, i64 c.n, i64 c.what, w64 c.arg] :: (u ++ [LObj.row false 0 [.slice ra2 (v.begin c.n c.what c.arg).1.l.length (v.begin c.n c.what c.arg).1.l.length, i64 (v.begin c.n c.what c.arg).1.now]]) = (K ++ [LObj.row false 0 [i64 c.kind, i64 c.n, i64 c.what, w64 c.arg]] ++ u) ++ [LObj.row false 0 [.slice ra2 (v.begin c.n c.what c.arg).1.l.length (v.begin c.n c.what c.arg).1.l.length, i64 (v.begin c.n c.what c.arg).1.now]] := by simp
      refine CT_of (begin_ev (Nat.le_refl _) (by simp; omega) (hL.app _) (by omega) (by omega)) ?_
      rintro _ K' ⟨a2, rfl, z1, z2⟩
      have bs := begin_small v c.n c.what c.arg
      have hI' := hI.begin c.n c.what c.arg
      generalize v.begin c.n c.what c.arg = bg at *
      obtain ⟨v2, id, er⟩ := bg
      simp only at bs z1 gs hI' hX
      have hua := Sl.under hL.sl
      have hlb := hL.lb
      have f6 : K'[K.length]? = some (.row false 0 [i64 c.kind, i64 c.n, i64 c.what, w64 c.arg]) ∧ Off K.length a2 := by
        have := z2.2 K.length (by simp) (by omega) (by omega) (fun x hx => by have := hua x hx; omega)
        rw [get_app0] at this
        exact this
      have f7 : K'[K.length + (u.length + 1)]? = some (.row false 0 [.slice ra2 v2.l.length v2.l.length, i64 v2.now]) := by
        have := (z2.2 (K.length + (u.length + 1)) (by simp) (by omega) (by omega) (fun x hx => by have := hua x hx; omega)).1
        rw [get_app] at this
        simpa using this
      have f4 : K'[H.length + 2]? = some (.row false 0 [.slice ra v.l.length v.l.length, i64 v.now]) ∧ Off (H.length + 2) a2 := by
        have := z2.2 (H.length + 2) (by simp; omega) (by omega) (by omega) ho
        rw [get_left (by omega), hr] at this
        exact this
      have hK' : K.length ≤ K'.length := by have := z2.1; simp at this; omega
      have f7c : lcells K' (K.length + (u.length + 1)) 0 2 = some [.slice ra2 v2.l.length v2.l.length, i64 v2.now] := lcells_of f7 rfl
      have f4l := f4.1
      have d4 : H.length + 2 < K'.length := by omega
      have hKs := Apart.sl (Apart.old (hL.app _) (fun x hx => hp x hx) (show ra2 = ra ∨ Fresh _ ra2 from by
        rcases gq with gq | gq
        · exact .inl gq
        · exact .inr gq)) (gs.app _) (by rw [hX] at z2; exact z2)
      have hKa := Apart.sl (s := some ⟨b1, o1, none⟩) (c := l.flatMap ActD.cells) (fun x hx => by have := hu x hx; refine ⟨by omega, by omega, hL.na.off this⟩) (h6.app _) z2
      have hqr : Off (H.length + 2) ra2 := by
        rcases gq with rfl | gq
        · exact hq
        · exact gq.off (by simp; omega)
      have hB2 : Both H (K'.set (H.length + 2) (.row false 0 [.slice ra2 v2.l.length v2.l.length, i64 v2.now])) (some ⟨b1, o1, none⟩) l (i + 1) v2 a2 ra2 :=
        ⟨by omega, by omega, z1.other (by omega) (by omega) f4.2 _, hI', by omega, by omega, by simp; omega, hKa.1.set_off (fun x hx => by have := hu x hx; omega) _, get_set_eq (by omega) _, f4.2, hKs.1.set_off hqr _, hKs.2, hqr⟩
      have hact : (K'.set (H.length + 2) (.row false 0 [.slice ra2 v2.l.length v2.l.length, i64 v2.now]))[K.length]? = some (.row false 0 [i64 c.kind, i64 c.n, i64 c.what, w64 c.arg]) := by
        rw [get_set_ne (by omega)]; exact f6.1
      simp -dsimp only [go_sem, Nat.reduceEqDiff, Nat.reduceAdd, Nat.reduceSub, Nat.reduceMul, Nat.reduceLeDiff, Nat.reduceLT, Nat.reduceBEq, Int.reduceLT, Int.reduceLE, Int.reduceGT, Int.reduceGE, Int.reduceEq, Int.reduceNe, Int.reduceBEq, Int.reduceBNe, Int.reduceAdd, Int.reduceSub, Int.reduceMul, Int.reduceToNat, Int.reduceNeg, ↓reduceIte, ↓reduceDIte, f7c, f4l, d4]
      generalize K'.set (H.length + 2) (.row false 0 [.slice ra2 v2.l.length v2.l.length, i64 v2.now]) = K2 at *
      have a1 : lget K2 K.length 1 = some (i64 c.n) := lget_at hact 1
      have r2 : lcells K2 (H.length + 2) 0 2 = some [.slice ra2 v2.l.length v2.l.length, i64 v2.now] := lcells_of hB2.hr rfl
      have r21 : lget K2 (H.length + 2) 1 = some (i64 v2.now) := lget_at hB2.hr 1
      have hlen2 := hB2.h3
      have hB2i := hB2.h2
      simp -dsimp only [go_sem, Nat.reduceEqDiff, Nat.reduceAdd, Nat.reduceSub, Nat.reduceMul, Nat.reduceLeDiff, Nat.reduceLT, Nat.reduceBEq, Int.reduceLT, Int.reduceLE, Int.reduceGT, Int.reduceGE, Int.reduceEq, Int.reduceNe, Int.reduceBEq, Int.reduceBNe, Int.reduceAdd, Int.reduceSub, Int.reduceMul, Int.reduceToNat, Int.reduceNeg, ↓reduceIte, ↓reduceDIte, a1, r2, r21]
      refine CT_val (open_ev hB2.hL) ?_
      simp -dsimp only [go_sem, Nat.reduceEqDiff, Nat.reduceAdd, Nat.reduceSub, Nat.reduceMul, Nat.reduceLeDiff, Nat.reduceLT, Nat.reduceBEq, Int.reduceLT, Int.reduceLE, Int.reduceGT, Int.reduceGE, Int.reduceEq, Int.reduceNe, Int.reduceBEq, Int.reduceBNe, Int.reduceAdd, Int.reduceSub, Int.reduceMul, Int.reduceToNat, Int.reduceNeg, ↓reduceIte, ↓reduceDIte, a1, r2, r21]
      refine CT_of (refopen_ev hB2.hs (by omega)) ?_
      rintro _ _ ⟨rfl, k, rfl, hk⟩
      obtain ⟨ho1, ho2⟩ := openIs hB2.hI hk
      simp -dsimp only [go_sem, Nat.reduceEqDiff, Nat.reduceAdd, Nat.reduceSub, Nat.reduceMul, Nat.reduceLeDiff, Nat.reduceLT, Nat.reduceBEq, Int.reduceLT, Int.reduceLE, Int.reduceGT, Int.reduceGE, Int.reduceEq, Int.reduceNe, Int.reduceBEq, Int.reduceBNe, Int.reduceAdd, Int.reduceSub, Int.reduceMul, Int.reduceToNat, Int.reduceNeg, ↓reduceIte, ↓reduceDIte, a1, r2, r21]
      refine CT_val (now_ev hB2.hL) ?_
      cases hop : v2.open c.n with
      | none =>
        have hkn : ¬ 0 ≤ k := by rw [ho1, hop]; simp
        simp -dsimp only [go_sem, Nat.reduceEqDiff, Nat.reduceAdd, Nat.reduceSub, Nat.reduceMul, Nat.reduceLeDiff, Nat.reduceLT, Nat.reduceBEq, Int.reduceLT, Int.reduceLE, Int.reduceGT, Int.reduceGE, Int.reduceEq, Int.reduceNe, Int.reduceBEq, Int.reduceBNe, Int.reduceAdd, Int.reduceSub, Int.reduceMul, Int.reduceToNat, Int.reduceNeg, ↓reduceIte, ↓reduceDIte, a1, r2, r21, hkn, hop, hw, f1, f2, Option.isSome_none, Option.getD_none, Bool.not_false]
        exact ⟨(i + 1, v2, a2, ra2, _), rfl, rfl, hB2, by dsimp only; omega⟩
      | some q =>
        have hkn : 0 ≤ k := by rw [ho1, hop]; simp
        obtain rfl := ho2 q hop
        simp -dsimp only [go_sem, Nat.reduceEqDiff, Nat.reduceAdd, Nat.reduceSub, Nat.reduceMul, Nat.reduceLeDiff, Nat.reduceLT, Nat.reduceBEq, Int.reduceLT, Int.reduceLE, Int.reduceGT, Int.reduceGE, Int.reduceEq, Int.reduceNe, Int.reduceBEq, Int.reduceBNe, Int.reduceAdd, Int.reduceSub, Int.reduceMul, Int.reduceToNat, Int.reduceNeg, ↓reduceIte, ↓reduceDIte, a1, r2, r21, hkn, hop, hw, f1, f2, Option.isSome_some, Option.getD_some, Bool.not_false]
        exact ⟨(i + 1, v2, a2, ra2, _), rfl, rfl, hB2, by dsimp only; omega⟩
    · have e0 : (c.kind == 0) = false := by simpa using hk0
      by_cases hk1 : c.kind = 1
      · have e1 : (c.kind == 1) = true := by simpa using hk1
        simp -dsimp only [go_sem, Nat.reduceEqDiff, Nat.reduceAdd, Nat.reduceSub, Nat.reduceMul, Nat.reduceLeDiff, Nat.reduceLT, Nat.reduceBEq, Int.reduceLT, Int.reduceLE, Int.reduceGT, Int.reduceGE, Int.reduceEq, Int.reduceNe, Int.reduceBEq, Int.reduceBNe, Int.reduceAdd, Int.reduceSub, Int.reduceMul, Int.reduceToNat, Int.reduceNeg, ↓reduceIte, ↓reduceDIte, k1, k2, k3, hw, g1, e0, e1, hr0]
        refine CT_of (refend_ev (by simp; omega) (hs8.app _) (by omega) (by omega)) ?_
        rintro _ _ ⟨ra2, u, rfl, rfl, gs, gq⟩
        have lk1 : H.length ≤ K.length + (u.length + 1) := by omega
        simp -dsimp only [go_sem, Nat.reduceEqDiff, Nat.reduceAdd, Nat.reduceSub, Nat.reduceMul, Nat.reduceLeDiff, Nat.reduceLT, Nat.reduceBEq, Int.reduceLT, Int.reduceLE, Int.reduceGT, Int.reduceGE, Int.reduceEq, Int.reduceNe, Int.reduceBEq, Int.reduceBNe, Int.reduceAdd, Int.reduceSub, Int.reduceMul, Int.reduceToNat, Int.reduceNeg, ↓reduceIte, ↓reduceDIte, lk1]
        have hX : K ++ LObj.row false 0 [i64 c.kind, i64 c.n, i64 c.what, w64 c.arg] :: (u ++ [LObj.row false 0 [.slice ra2 (v.fin c.n c.what c.arg).1.l.length (v.fin c.n c.what c.arg).1.l.length, i64 (v.fin c.n c.what c.arg).1.now]]) = (K ++ [LObj.row false 0 [i64 c.kind, i64 c.n, i64 c.what, w64 c.arg]] ++ u) ++ [LObj.row false 0 [.slice ra2 (v.fin c.n c.what c.arg).1.l.length (v.fin c.n c.what c.arg).1.l.length, i64 (v.fin c.n c.what c.arg).1.now]] := by simp
        refine CT_of (fin_ev (Nat.le_refl _) (hL.app _) (by omega) (by omega)) ?_
        rintro _ K' ⟨rfl, z1, z2⟩
        have bs := fin_small v c.n c.what c.arg
        have hI' := hI.fin c.n c.what c.arg
        generalize v.fin c.n c.what c.arg = bg at *
        obtain ⟨v2, er⟩ := bg
        simp only at bs z1 gs hI' hX
        have hua := Sl.under hL.sl
        have hlb := hL.lb
        have f6 : K'[K.length]? = some (.row false 0 [i64 c.kind, i64 c.n, i64 c.what, w64 c.arg]) ∧ Off K.length a := by
          have := z2.2 K.length (by simp) (by omega) (by omega) (fun x hx => by have := hua x hx; omega)
          rw [get_app0] at this
          exact this
        have f7 : K'[K.length + (u.length + 1)]? = some (.row false 0 [.slice ra2 v2.l.length v2.l.length, i64 v2.now]) := by
          have := (z2.2 (K.length + (u.length + 1)) (by simp) (by omega) (by omega) (fun x hx => by have := hua x hx; omega)).1
          rw [get_app] at this
          simpa using this
        have f4 : K'[H.length + 2]? = some (.row false 0 [.slice ra v.l.length v.l.length, i64 v.now]) ∧ Off (H.length + 2) a := by
          have := z2.2 (H.length + 2) (by simp; omega) (by omega) (by omega) ho
          rw [get_left (by omega), hr] at this
          exact this
        have hK' : K.length ≤ K'.length := by have := z2.1; simp at this; omega
        have f7c : lcells K' (K.length + (u.length + 1)) 0 2 = some [.slice ra2 v2.l.length v2.l.length, i64 v2.now] := lcells_of f7 rfl
        have f4l := f4.1
        have d4 : H.length + 2 < K'.length := by omega
        have hKs := Apart.sl (Apart.old (hL.app _) (fun x hx => hp x hx) (show ra2 = ra ∨ Fresh _ ra2 from by
          rcases gq with gq | gq
          · exact .inl gq
          · exact .inr gq)) (gs.app _) (by rw [hX] at z2; exact z2)
        have hKa := Apart.sl (s := some ⟨b1, o1, none⟩) (c := l.flatMap ActD.cells) (fun x hx => by have := hu x hx; refine ⟨by omega, by omega, hL.na.off this⟩) (h6.app _) z2
        have hqr : Off (H.length + 2) ra2 := by
          rcases gq with rfl | gq
          · exact hq
          · exact gq.off (by simp; omega)
        have hB2 : Both H (K'.set (H.length + 2) (.row false 0 [.slice ra2 v2.l.length v2.l.length, i64 v2.now])) (some ⟨b1, o1, none⟩) l (i + 1) v2 a ra2 :=
          ⟨by omega, by omega, z1.other (by omega) (by omega) f4.2 _, hI', by omega, by omega, by simp; omega, hKa.1.set_off (fun x hx => by have := hu x hx; omega) _, get_set_eq (by omega) _, f4.2, hKs.1.set_off hqr _, hKs.2, hqr⟩
        have hact : (K'.set (H.length + 2) (.row false 0 [.slice ra2 v2.l.length v2.l.length, i64 v2.now]))[K.length]? = some (.row false 0 [i64 c.kind, i64 c.n, i64 c.what, w64 c.arg]) := by
          rw [get_set_ne (by omega)]; exact f6.1
        simp -dsimp only [go_sem, Nat.reduceEqDiff, Nat.reduceAdd, Nat.reduceSub, Nat.reduceMul, Nat.reduceLeDiff, Nat.reduceLT, Nat.reduceBEq, Int.reduceLT, Int.reduceLE, Int.reduceGT, Int.reduceGE, Int.reduceEq, Int.reduceNe, Int.reduceBEq, Int.reduceBNe, Int.reduceAdd, Int.reduceSub, Int.reduceMul, Int.reduceToNat, Int.reduceNeg, ↓reduceIte, ↓reduceDIte, f7c, f4l, d4]
        generalize K'.set (H.length + 2) (.row false 0 [.slice ra2 v2.l.length v2.l.length, i64 v2.now]) = K2 at *
        have a1 : lget K2 K.length 1 = some (i64 c.n) := lget_at hact 1
        have r2 : lcells K2 (H.length + 2) 0 2 = some [.slice ra2 v2.l.length v2.l.length, i64 v2.now] := lcells_of hB2.hr rfl
        have r21 : lget K2 (H.length + 2) 1 = some (i64 v2.now) := lget_at hB2.hr 1
        have hlen2 := hB2.h3
        have hB2i := hB2.h2
        simp -dsimp only [go_sem, Nat.reduceEqDiff, Nat.reduceAdd, Nat.reduceSub, Nat.reduceMul, Nat.reduceLeDiff, Nat.reduceLT, Nat.reduceBEq, Int.reduceLT, Int.reduceLE, Int.reduceGT, Int.reduceGE, Int.reduceEq, Int.reduceNe, Int.reduceBEq, Int.reduceBNe, Int.reduceAdd, Int.reduceSub, Int.reduceMul, Int.reduceToNat, Int.reduceNeg, ↓reduceIte, ↓reduceDIte, a1, r2, r21]
        refine CT_val (open_ev hB2.hL) ?_
        simp -dsimp only [go_sem, Nat.reduceEqDiff, Nat.reduceAdd, Nat.reduceSub, Nat.reduceMul, Nat.reduceLeDiff, Nat.reduceLT, Nat.reduceBEq, Int.reduceLT, Int.reduceLE, Int.reduceGT, Int.reduceGE, Int.reduceEq, Int.reduceNe, Int.reduceBEq, Int.reduceBNe, Int.reduceAdd, Int.reduceSub, Int.reduceMul, Int.reduceToNat, Int.reduceNeg, ↓reduceIte, ↓reduceDIte, a1, r2, r21]
        refine CT_of (refopen_ev hB2.hs (by omega)) ?_
        rintro _ _ ⟨rfl, k, rfl, hk⟩
        obtain ⟨ho1, ho2⟩ := openIs hB2.hI hk
        simp -dsimp only [go_sem, Nat.reduceEqDiff, Nat.reduceAdd, Nat.reduceSub, Nat.reduceMul, Nat.reduceLeDiff, Nat.reduceLT, Nat.reduceBEq, Int.reduceLT, Int.reduceLE, Int.reduceGT, Int.reduceGE, Int.reduceEq, Int.reduceNe, Int.reduceBEq, Int.reduceBNe, Int.reduceAdd, Int.reduceSub, Int.reduceMul, Int.reduceToNat, Int.reduceNeg, ↓reduceIte, ↓reduceDIte, a1, r2, r21]
        refine CT_val (now_ev hB2.hL) ?_
        cases hop : v2.open c.n with
        | none =>
          have hkn : ¬ 0 ≤ k := by rw [ho1, hop]; simp
          simp -dsimp only [go_sem, Nat.reduceEqDiff, Nat.reduceAdd, Nat.reduceSub, Nat.reduceMul, Nat.reduceLeDiff, Nat.reduceLT, Nat.reduceBEq, Int.reduceLT, Int.reduceLE, Int.reduceGT, Int.reduceGE, Int.reduceEq, Int.reduceNe, Int.reduceBEq, Int.reduceBNe, Int.reduceAdd, Int.reduceSub, Int.reduceMul, Int.reduceToNat, Int.reduceNeg, ↓reduceIte, ↓reduceDIte, a1, r2, r21, hkn, hop, hw, f1, f2, Option.isSome_none, Option.getD_none, Bool.not_false]
          exact ⟨(i + 1, v2, a, ra2, _), rfl, rfl, hB2, by dsimp only; omega⟩
        | some q =>
          have hkn : 0 ≤ k := by rw [ho1, hop]; simp
          obtain rfl := ho2 q hop
          simp -dsimp only [go_sem, Nat.reduceEqDiff, Nat.reduceAdd, Nat.reduceSub, Nat.reduceMul, Nat.reduceLeDiff, Nat.reduceLT, Nat.reduceBEq, Int.reduceLT, Int.reduceLE, Int.reduceGT, Int.reduceGE, Int.reduceEq, Int.reduceNe, Int.reduceBEq, Int.reduceBNe, Int.reduceAdd, Int.reduceSub, Int.reduceMul, Int.reduceToNat, Int.reduceNeg, ↓reduceIte, ↓reduceDIte, a1, r2, r21, hkn, hop, hw, f1, f2, Option.isSome_some, Option.getD_some, Bool.not_false]
          exact ⟨(i + 1, v2, a, ra2, _), rfl, rfl, hB2, by dsimp only; omega⟩
      · have e1 : (c.kind == 1) = false := by simpa using hk1
        have hX := hL.app [.row false 0 [i64 c.kind, i64 c.n, i64 c.what, w64 c.arg]]
        simp -dsimp only [go_sem, Nat.reduceEqDiff, Nat.reduceAdd, Nat.reduceSub, Nat.reduceMul, Nat.reduceLeDiff, Nat.reduceLT, Nat.reduceBEq, Int.reduceLT, Int.reduceLE, Int.reduceGT, Int.reduceGE, Int.reduceEq, Int.reduceNe, Int.reduceBEq, Int.reduceBNe, Int.reduceAdd, Int.reduceSub, Int.reduceMul, Int.reduceToNat, Int.reduceNeg, ↓reduceIte, ↓reduceDIte, k1, k2, k3, hw, g1, e0, e1, hr0]
        refine CT_heap (step_ev hX (by omega)) fun _ => ?_
        have hua := Sl.under hL.sl
        have hlb := hL.lb
        have z1 := hX.step (v.now + 1)
        have z2 : Keeps (H.length + 1) H.length a a (K ++ [LObj.row false 0 [i64 c.kind, i64 c.n, i64 c.what, w64 c.arg]]) ((K ++ [LObj.row false 0 [i64 c.kind, i64 c.n, i64 c.what, w64 c.arg]]).set (H.length + 1) (.row false 0 [.slice a v.l.length v.l.length, .map (some H.length), i64 (v.now + 1)])) := Keeps.step _
        generalize (K ++ [LObj.row false 0 [i64 c.kind, i64 c.n, i64 c.what, w64 c.arg]]).set (H.length + 1) (.row false 0 [.slice a v.l.length v.l.length, .map (some H.length), i64 (v.now + 1)]) = K' at *
        have f6 : K'[K.length]? = some (.row false 0 [i64 c.kind, i64 c.n, i64 c.what, w64 c.arg]) := by
          have := (z2.2 K.length (by simp) (by omega) (by omega) (fun x hx => by have := hua x hx; omega)).1
          rw [get_app0] at this
          exact this
        have f4 : K'[H.length + 2]? = some (.row false 0 [.slice ra v.l.length v.l.length, i64 v.now]) := by
          have := (z2.2 (H.length + 2) (by simp; omega) (by omega) (by omega) ho).1
          rw [get_left (by omega), hr] at this
          exact this
        have hK' : K.length ≤ K'.length := by have := z2.1; simp at this; omega
        have d4 : H.length + 2 < K'.length := by omega
        have hKs := Apart.sl hp (hs8.app _) z2
        have hKa := Apart.sl (s := some ⟨b1, o1, none⟩) (c := l.flatMap ActD.cells) (fun x hx => by have := hu x hx; refine ⟨by omega, by omega, hL.na.off this⟩) (h6.app _) z2
        have hB2 : Both H (K'.set (H.length + 2) (.row false 0 [.slice ra v.l.length v.l.length, i64 (v.now + 1)])) (some ⟨b1, o1, none⟩) l (i + 1) { v with now := v.now + 1 } a ra :=
          ⟨by omega, by omega, z1.other (by omega) (by omega) ho _, hI.step, by dsimp only; omega, by dsimp only; omega, by simp; omega, hKa.1.set_off (fun x hx => by have := hu x hx; omega) _, get_set_eq (by omega) _, ho, hKs.1.set_off hq _, hKs.2, hq⟩
        have hact : (K'.set (H.length + 2) (.row false 0 [.slice ra v.l.length v.l.length, i64 (v.now + 1)]))[K.length]? = some (.row false 0 [i64 c.kind, i64 c.n, i64 c.what, w64 c.arg]) := by
          rw [get_set_ne (by omega)]; exact f6
        have f41 : lget K' (H.length + 2) 1 = some (i64 v.now) := lget_at f4 1
        have hw9 : IntKind.i64.wrap (v.now + 1) = v.now + 1 := by rw [wrap_i64] <;> omega
        simp -dsimp only [go_sem, Nat.reduceEqDiff, Nat.reduceAdd, Nat.reduceSub, Nat.reduceMul, Nat.reduceLeDiff, Nat.reduceLT, Nat.reduceBEq, Int.reduceLT, Int.reduceLE, Int.reduceGT, Int.reduceGE, Int.reduceEq, Int.reduceNe, Int.reduceBEq, Int.reduceBNe, Int.reduceAdd, Int.reduceSub, Int.reduceMul, Int.reduceToNat, Int.reduceNeg, ↓reduceIte, ↓reduceDIte, f4, f41, d4, hw9]
        generalize K'.set (H.length + 2) (.row false 0 [.slice ra v.l.length v.l.length, i64 (v.now + 1)]) = K2 at *
        have a1 : lget K2 K.length 1 = some (i64 c.n) := lget_at hact 1
        have r2 : lcells K2 (H.length + 2) 0 2 = some [.slice ra v.l.length v.l.length, i64 (v.now + 1)] := lcells_of hB2.hr rfl
        have r21 : lget K2 (H.length + 2) 1 = some (i64 (v.now + 1)) := lget_at hB2.hr 1
        have hlen2 : v.l.length ≤ i + 1 := hB2.h3
        have hB2i := hB2.h2
        simp -dsimp only [go_sem, Nat.reduceEqDiff, Nat.reduceAdd, Nat.reduceSub, Nat.reduceMul, Nat.reduceLeDiff, Nat.reduceLT, Nat.reduceBEq, Int.reduceLT, Int.reduceLE, Int.reduceGT, Int.reduceGE, Int.reduceEq, Int.reduceNe, Int.reduceBEq, Int.reduceBNe, Int.reduceAdd, Int.reduceSub, Int.reduceMul, Int.reduceToNat, Int.reduceNeg, ↓reduceIte, ↓reduceDIte, a1, r2, r21]
        refine CT_val (open_ev hB2.hL) ?_
        simp -dsimp only [go_sem, Nat.reduceEqDiff, Nat.reduceAdd, Nat.reduceSub, Nat.reduceMul, Nat.reduceLeDiff, Nat.reduceLT, Nat.reduceBEq, Int.reduceLT, Int.reduceLE, Int.reduceGT, Int.reduceGE, Int.reduceEq, Int.reduceNe, Int.reduceBEq, Int.reduceBNe, Int.reduceAdd, Int.reduceSub, Int.reduceMul, Int.reduceToNat, Int.reduceNeg, ↓reduceIte, ↓reduceDIte, a1, r2, r21]
        refine CT_of (refopen_ev hB2.hs (by omega)) ?_
        rintro _ _ ⟨rfl, k, rfl, hk⟩
        obtain ⟨ho1, ho2⟩ := openIs hB2.hI hk
        simp -dsimp only [go_sem, Nat.reduceEqDiff, Nat.reduceAdd, Nat.reduceSub, Nat.reduceMul, Nat.reduceLeDiff, Nat.reduceLT, Nat.reduceBEq, Int.reduceLT, Int.reduceLE, Int.reduceGT, Int.reduceGE, Int.reduceEq, Int.reduceNe, Int.reduceBEq, Int.reduceBNe, Int.reduceAdd, Int.reduceSub, Int.reduceMul, Int.reduceToNat, Int.reduceNeg, ↓reduceIte, ↓reduceDIte, a1, r2, r21]
        refine CT_val (now_ev hB2.hL) ?_
        cases hop : ({ v with now := v.now + 1 } : HV).open c.n with
        | none =>
          have hkn : ¬ 0 ≤ k := by rw [ho1, hop]; simp
          simp -dsimp only [go_sem, Nat.reduceEqDiff, Nat.reduceAdd, Nat.reduceSub, Nat.reduceMul, Nat.reduceLeDiff, Nat.reduceLT, Nat.reduceBEq, Int.reduceLT, Int.reduceLE, Int.reduceGT, Int.reduceGE, Int.reduceEq, Int.reduceNe, Int.reduceBEq, Int.reduceBNe, Int.reduceAdd, Int.reduceSub, Int.reduceMul, Int.reduceToNat, Int.reduceNeg, ↓reduceIte, ↓reduceDIte, a1, r2, r21, hkn, hop, hw, f1, f2, Option.isSome_none, Option.getD_none, Bool.not_false]
          exact ⟨(i + 1, { v with now := v.now + 1 }, a, ra, _), rfl, rfl, hB2, by dsimp only; omega⟩
        | some q =>
          have hkn : 0 ≤ k := by rw [ho1, hop]; simp
          obtain rfl := ho2 q hop
          simp -dsimp only [go_sem, Nat.reduceEqDiff, Nat.reduceAdd, Nat.reduceSub, Nat.reduceMul, Nat.reduceLeDiff, Nat.reduceLT, Nat.reduceBEq, Int.reduceLT, Int.reduceLE, Int.reduceGT, Int.reduceGE, Int.reduceEq, Int.reduceNe, Int.reduceBEq, Int.reduceBNe, Int.reduceAdd, Int.reduceSub, Int.reduceMul, Int.reduceToNat, Int.reduceNeg, ↓reduceIte, ↓reduceDIte, a1, r2, r21, hkn, hop, hw, f1, f2, Option.isSome_some, Option.getD_some, Bool.not_false]
          exact ⟨(i + 1, { v with now := v.now + 1 }, a, ra, _), rfl, rfl, hB2, by dsimp only; omega⟩
  · have hlen : v.l.length ≤ 80 := by omega
    have two : (¬ i < l.length) ∨ (i < l.length ∧ ¬ i < 80) := by omega
    rcases two with q | q
    · have k1 : ¬ (i : Int) < l.length := by omega
      simp -dsimp only [go_sem, Nat.reduceEqDiff, Nat.reduceAdd, Nat.reduceSub, Nat.reduceMul, Nat.reduceLeDiff, Nat.reduceLT, Nat.reduceBEq, Int.reduceLT, Int.reduceLE, Int.reduceGT, Int.reduceGE, Int.reduceEq, Int.reduceNe, Int.reduceBEq, Int.reduceBNe, Int.reduceAdd, Int.reduceSub, Int.reduceMul, Int.reduceToNat, Int.reduceNeg, ↓reduceIte, ↓reduceDIte, k1]
      refine CT_of (calls_ev (by omega) hL (by omega)) ?_
      rintro _ _ ⟨a2, t, rfl, rfl, g⟩
      simp -dsimp only [go_sem, Nat.reduceEqDiff, Nat.reduceAdd, Nat.reduceSub, Nat.reduceMul, Nat.reduceLeDiff, Nat.reduceLT, Nat.reduceBEq, Int.reduceLT, Int.reduceLE, Int.reduceGT, Int.reduceGE, Int.reduceEq, Int.reduceNe, Int.reduceBEq, Int.reduceBNe, Int.reduceAdd, Int.reduceSub, Int.reduceMul, Int.reduceToNat, Int.reduceNeg, ↓reduceIte, ↓reduceDIte]
      refine CT_of (own_ev (by simp; omega) g (by omega)) ?_
      rintro _ _ ⟨a3, t2, rfl, rfl, g3⟩
      have hr0 : ∀ t, lget (K ++ t) (H.length + 2) 0 = some (.slice ra v.l.length v.l.length) := fun t => lget_at (get_old hr t) 0
      simp -dsimp only [go_sem, Nat.reduceEqDiff, Nat.reduceAdd, Nat.reduceSub, Nat.reduceMul, Nat.reduceLeDiff, Nat.reduceLT, Nat.reduceBEq, Int.reduceLT, Int.reduceLE, Int.reduceGT, Int.reduceGE, Int.reduceEq, Int.reduceNe, Int.reduceBEq, Int.reduceBNe, Int.reduceAdd, Int.reduceSub, Int.reduceMul, Int.reduceToNat, Int.reduceNeg, ↓reduceIte, ↓reduceDIte, hr0]
      have gs := g3.sl
      refine LT_of (fun q : Nat => [(4, ptr (H.length + 2)), (17, .slice a3 v.l.length v.l.length), (18, i64 q)]) (fun _ => K ++ (t ++ t2)) (fun q => q ≤ v.l.length) (fun q => v.l.length - q) 0 (by simp) rfl (by omega) ?_
      intro j hj
      by_cases hjl : j < v.l.length
      · have m1 : (j : Int) < v.l.length := by omega
        have m3 : 0 ≤ (j : Int) := by omega
        have hw : IntKind.i64.wrap ((j : Int) + 1) = ((j + 1 : Nat) : Int) := by rw [wrap_i64] <;> omega
        have hc : v.l[j]? = some (v.l[j]'hjl) := List.getElem?_eq_getElem _
        generalize v.l[j]'hjl = c at hc
        obtain ⟨b1, o1, rfl, hb1, hg1⟩ := gs.rows (f := CallD.cells) CallD.len (by omega) (by omega)
        obtain ⟨b2, o2, rfl, hb2, hg2⟩ := hs8.rows (f := CallD.cells) CallD.len (by omega) (by omega)
        have r1 := hg1 [] j c hc
        have r2 := fun t => hg2 t j c hc
        simp only [List.append_assoc, List.append_nil, CallD.cells] at r1 r2
        simp -dsimp only [go_sem, Nat.reduceEqDiff, Nat.reduceAdd, Nat.reduceSub, Nat.reduceMul, Nat.reduceLeDiff, Nat.reduceLT, Nat.reduceBEq, Int.reduceLT, Int.reduceLE, Int.reduceGT, Int.reduceGE, Int.reduceEq, Int.reduceNe, Int.reduceBEq, Int.reduceBNe, Int.reduceAdd, Int.reduceSub, Int.reduceMul, Int.reduceToNat, Int.reduceNeg, ↓reduceIte, ↓reduceDIte, m1, m3, r1, r2, hr0, hw]
        exact ⟨j + 1, rfl, by omega, by omega⟩
      · have m1 : ¬ (j : Int) < v.l.length := by omega
        simp -dsimp only [go_sem, Nat.reduceEqDiff, Nat.reduceAdd, Nat.reduceSub, Nat.reduceMul, Nat.reduceLeDiff, Nat.reduceLT, Nat.reduceBEq, Int.reduceLT, Int.reduceLE, Int.reduceGT, Int.reduceGE, Int.reduceEq, Int.reduceNe, Int.reduceBEq, Int.reduceBNe, Int.reduceAdd, Int.reduceSub, Int.reduceMul, Int.reduceToNat, Int.reduceNeg, ↓reduceIte, ↓reduceDIte, m1]
        refine CT_val (one_ev _ _) ?_
        simp -dsimp only [go_sem, Nat.reduceEqDiff, Nat.reduceAdd, Nat.reduceSub, Nat.reduceMul, Nat.reduceLeDiff, Nat.reduceLT, Nat.reduceBEq, Int.reduceLT, Int.reduceLE, Int.reduceGT, Int.reduceGE, Int.reduceEq, Int.reduceNe, Int.reduceBEq, Int.reduceBNe, Int.reduceAdd, Int.reduceSub, Int.reduceMul, Int.reduceToNat, Int.reduceNeg, ↓reduceIte, ↓reduceDIte]
    · have k1 : (i : Int) < l.length := by omega
      have k2 : ¬ (i : Int) < 80 := by omega
      simp -dsimp only [go_sem, Nat.reduceEqDiff, Nat.reduceAdd, Nat.reduceSub, Nat.reduceMul, Nat.reduceLeDiff, Nat.reduceLT, Nat.reduceBEq, Int.reduceLT, Int.reduceLE, Int.reduceGT, Int.reduceGE, Int.reduceEq, Int.reduceNe, Int.reduceBEq, Int.reduceBNe, Int.reduceAdd, Int.reduceSub, Int.reduceMul, Int.reduceToNat, Int.reduceNeg, ↓reduceIte, ↓reduceDIte, k1, k2]
      refine CT_of (calls_ev (by omega) hL (by omega)) ?_
      rintro _ _ ⟨a2, t, rfl, rfl, g⟩
      simp -dsimp only [go_sem, Nat.reduceEqDiff, Nat.reduceAdd, Nat.reduceSub, Nat.reduceMul, Nat.reduceLeDiff, Nat.reduceLT, Nat.reduceBEq, Int.reduceLT, Int.reduceLE, Int.reduceGT, Int.reduceGE, Int.reduceEq, Int.reduceNe, Int.reduceBEq, Int.reduceBNe, Int.reduceAdd, Int.reduceSub, Int.reduceMul, Int.reduceToNat, Int.reduceNeg, ↓reduceIte, ↓reduceDIte]
      refine CT_of (own_ev (by simp; omega) g (by omega)) ?_
      rintro _ _ ⟨a3, t2, rfl, rfl, g3⟩
      have hr0 : ∀ t, lget (K ++ t) (H.length + 2) 0 = some (.slice ra v.l.length v.l.length) := fun t => lget_at (get_old hr t) 0
      simp -dsimp only [go_sem, Nat.reduceEqDiff, Nat.reduceAdd, Nat.reduceSub, Nat.reduceMul, Nat.reduceLeDiff, Nat.reduceLT, Nat.reduceBEq, Int.reduceLT, Int.reduceLE, Int.reduceGT, Int.reduceGE, Int.reduceEq, Int.reduceNe, Int.reduceBEq, Int.reduceBNe, Int.reduceAdd, Int.reduceSub, Int.reduceMul, Int.reduceToNat, Int.reduceNeg, ↓reduceIte, ↓reduceDIte, hr0]
      have gs := g3.sl
      refine LT_of (fun q : Nat => [(4, ptr (H.length + 2)), (17, .slice a3 v.l.length v.l.length), (18, i64 q)]) (fun _ => K ++ (t ++ t2)) (fun q => q ≤ v.l.length) (fun q => v.l.length - q) 0 (by simp) rfl (by omega) ?_
      intro j hj
      by_cases hjl : j < v.l.length
      · have m1 : (j : Int) < v.l.length := by omega
        have m3 : 0 ≤ (j : Int) := by omega
        have hw : IntKind.i64.wrap ((j : Int) + 1) = ((j + 1 : Nat) : Int) := by rw [wrap_i64] <;> omega
        have hc : v.l[j]? = some (v.l[j]'hjl) := List.getElem?_eq_getElem _
        generalize v.l[j]'hjl = c at hc
        obtain ⟨b1, o1, rfl, hb1, hg1⟩ := gs.rows (f := CallD.cells) CallD.len (by omega) (by omega)
        obtain ⟨b2, o2, rfl, hb2, hg2⟩ := hs8.rows (f := CallD.cells) CallD.len (by omega) (by omega)
        have r1 := hg1 [] j c hc
        have r2 := fun t => hg2 t j c hc
        simp only [List.append_assoc, List.append_nil, CallD.cells] at r1 r2
        simp -dsimp only [go_sem, Nat.reduceEqDiff, Nat.reduceAdd, Nat.reduceSub, Nat.reduceMul, Nat.reduceLeDiff, Nat.reduceLT, Nat.reduceBEq, Int.reduceLT, Int.reduceLE, Int.reduceGT, Int.reduceGE, Int.reduceEq, Int.reduceNe, Int.reduceBEq, Int.reduceBNe, Int.reduceAdd, Int.reduceSub, Int.reduceMul, Int.reduceToNat, Int.reduceNeg, ↓reduceIte, ↓reduceDIte, m1, m3, r1, r2, hr0, hw]
        exact ⟨j + 1, rfl, by omega, by omega⟩
      · have m1 : ¬ (j : Int) < v.l.length := by omega
        simp -dsimp only [go_sem, Nat.reduceEqDiff, Nat.reduceAdd, Nat.reduceSub, Nat.reduceMul, Nat.reduceLeDiff, Nat.reduceLT, Nat.reduceBEq, Int.reduceLT, Int.reduceLE, Int.reduceGT, Int.reduceGE, Int.reduceEq, Int.reduceNe, Int.reduceBEq, Int.reduceBNe, Int.reduceAdd, Int.reduceSub, Int.reduceMul, Int.reduceToNat, Int.reduceNeg, ↓reduceIte, ↓reduceDIte, m1]
        refine CT_val (one_ev _ _) ?_
        simp -dsimp only [go_sem, Nat.reduceEqDiff, Nat.reduceAdd, Nat.reduceSub, Nat.reduceMul, Nat.reduceLeDiff, Nat.reduceLT, Nat.reduceBEq, Int.reduceLT, Int.reduceLE, Int.reduceGT, Int.reduceGE, Int.reduceEq, Int.reduceNe, Int.reduceBEq, Int.reduceBNe, Int.reduceAdd, Int.reduceSub, Int.reduceMul, Int.reduceToNat, Int.reduceNeg, ↓reduceIte, ↓reduceDIte]
