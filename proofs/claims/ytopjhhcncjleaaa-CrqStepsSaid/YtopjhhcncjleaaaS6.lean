/- The statement CrqSteps: the walk, from the operations on. -/
import Derived.Test.YtopjhhcncjleaaaS5
namespace Go.Proofs.Ytopjhhcncjleaaa
open Go Go.LK
set_option linter.unusedSimpArgs false
set_option linter.unusedVariables false
theorem small62 (x : BitVec 64) : (x &&& 65535#64) >>> 62 = 0#64 := by
  rw [v62, BitVec.lt_def, BitVec.toNat_and]
  have : x.toNat &&& 65535 ≤ 65535 := Nat.and_le_right
  show x.toNat &&& 65535 < 4611686018427387904
  omega
theorem kind3 (a : Int) : ∃ k : Int, (k = 0 ∨ k = 1 ∨ k = 2) ∧ Int.tmod (IntKind.i64.wrap (Int.tmod a 3 + 3)) 3 = k := by
  obtain ⟨j, h1, h2⟩ := pick_in a (n := 3) (by decide) (by decide)
  exact ⟨j, by omega, h2⟩
def d0 (s : Nat) (k : Int) (v : BitVec 64) : DOp := ⟨2, s, k, v, 0, 0#64, 0#64, 0#64, 0#64, 0, 0, 0#64⟩
theorem rel0 {s : Nat} {k : Int} {v : BitVec 64} (hk : k = 0 ∨ k = 1 ∨ k = 2) : COk s (c0 ⟨2, s⟩ k v, d0 s k v) := by
  refine ⟨rfl, ?_⟩
  constructor <;> simp [d0] <;> omega
section
variable {H B K : LHeap} {lo b pw pb bx s : Nat} {m mr : MV} {w : List (BitVec 64)} {aw ab ao ap aq : Option Addr} {L : List (Nat × (COp × DOp))} {e : Env} {Q : LExit → Env → LHeap → Prop}
structure LS where
  K : LHeap
  ap : Option Addr
  ao : Option Addr
  L : List (Nat × (COp × DOp))
structure LI (H1 : LHeap) (s : Nat) (q : LS) : Prop where
  hi : q.L.length ≤ 12
  bi : BI (fun z : COp × DOp => crw z.1) (fun z => z.2.dc) 12 H1 q.K q.ap q.ao q.L
  ok : ∀ (j p : Nat) (z : COp × DOp), q.L[j]? = some (p, z) → COk s z
set_option maxHeartbeats 1000000 in
theorem csL_ev {a1 a2 : Option Addr} {l : List Ask} {P : List Int} {H1 : LHeap} (hB : B = H ++ [rro ⟨2, s⟩]) (hs : s = 1 ∨ s = 2 ∨ s = 4 ∨ s = 8) (hl : Sl 3 H a1 (l.flatMap Ask.cells)) (hp : Sl 1 H a2 (P.map i64))
    (keep : ∃ t, H1 = B ++ t) (h2 : lo ≤ H1.length) (mem : MemAt H1 b pw pb m) (lb : Lay lo b pw pb bx B.length) (cl : Clean m w) (clr : Clean mr w) (wl : w.length = 22) (ref : RefAt H1 aw ab 22 mr) (fw : Off4 b pw pb bx aw) (fb : Off4 b pw pb bx ab) (box : H1[bx]? = some (xrow aw ab 22 mr))
    (e1 : LK.look e 1 = .slice a1 l.length l.length) (e2 : LK.look e 2 = .slice a2 P.length P.length) (e7 : LK.look e 7 = ptr H.length) (e8 : LK.look e 8 = ptr b) (e10 : LK.look e 10 = ptr bx)
    (hQ : ∀ e' H', LK.look e' 6 = .bool true → Q .ret e' H') : XW (callE T) H.length csL e H1 Q := by
  unfold csL
  simp -dsimp only [go_sem, Nat.reduceEqDiff, Nat.reduceAdd, Nat.reduceSub, Nat.reduceMul, Nat.reduceLeDiff, Nat.reduceLT, Nat.reduceBEq, Int.reduceLT, Int.reduceLE, Int.reduceGT, Int.reduceGE, Int.reduceEq, Int.reduceNe, Int.reduceBEq, Int.reduceBNe, Int.reduceAdd, Int.reduceSub, Int.reduceMul, Int.reduceToNat, Int.reduceNeg, ↓reduceIte, ↓reduceDIte]
  refine LT_of (fun q : LS => [(1, .slice a1 l.length l.length), (2, .slice a2 P.length P.length), (7, ptr H.length), (8, ptr b), (10, ptr bx), (13, .slice q.ap q.L.length q.L.length), (14, .slice q.ao q.L.length q.L.length), (15, i64 q.L.length)]) (fun q => q.K) (LI H1 s) (fun q => 12 - q.L.length)
    ⟨H1, none, none, []⟩ (by simp [restrict, LK.look, e1, e2, e7, e8, e10]) rfl ⟨by simp, BI.nil, fun j p x g => by simp at g⟩ ?_
  rintro ⟨K, ap, ao, L⟩ ⟨hi, bi, hL⟩
  simp only at hi bi hL ⊢
  have fin : ∀ e', LK.look e' 7 = ptr H.length → LK.look e' 2 = .slice a2 P.length P.length → LK.look e' 8 = ptr b → LK.look e' 10 = ptr bx → LK.look e' 13 = .slice ap L.length L.length → LK.look e' 14 = .slice ao L.length L.length → XW (callE T) H.length csP e' K Q :=
    fun e' e7 e2 e8 e10 e13 e14 => csP_ev hB (bi.all keep h2 mem lb cl clr wl ref fw fb box) hs hp e2 e7 e8 e10 e13 e14 hL hi hQ
  have hr := rights hs
  by_cases c1 : L.length < l.length
  · have c1' : (L.length : Int) < l.length := by omega
    by_cases c2 : L.length < 12
    · have c2' : (L.length : Int) < 12 := by omega
      have i0 : 0 ≤ (L.length : Int) := by omega
      have w1 : IntKind.i64.wrap ((L.length : Int) + 1) = ((L.length + 1 : Nat) : Int) := by rw [wrap_i64] <;> omega
      obtain ⟨t0, ht0⟩ : ∃ t0, H1 = H ++ t0 := by
        obtain ⟨t0, ht0⟩ := keep
        exact ⟨[rro ⟨2, s⟩] ++ t0, by rw [ht0, hB, List.append_assoc]⟩
      have hrr : H1[H.length]? = some (rro ⟨2, s⟩) := by
        obtain ⟨t0, ht0⟩ := keep
        rw [ht0, hB, List.append_assoc, get_app0]; rfl
      obtain ⟨t1, ht1⟩ := bi.keep
      have hl' := (hl.app t0).app t1
      rw [← ht0, ← ht1] at hl'
      obtain ⟨ba, oa, rfl, _, hgc, hgl⟩ := hl'.rowsAt (f := Ask.cells) Ask.len (by omega) (by omega)
      have gl1 := hgl [] _ _ 1 (List.getElem?_eq_getElem c1) (by omega)
      have gl2 := hgl [] _ _ 2 (List.getElem?_eq_getElem c1) (by omega)
      generalize hask : l[L.length] = ask at gl1 gl2
      rw [List.append_nil] at gl1 gl2
      simp only [Ask.cells, List.getElem?_cons_zero, List.getElem?_cons_succ] at gl1 gl2
      have hrK : K[H.length]? = some (rro ⟨2, s⟩) := by rw [ht1]; exact get_old hrr t1
      have hr2 : lcells K H.length 0 2 = some [i64 2, i64 s] := lcells_of hrK rfl
      have hHK : H.length ≤ K.length := by rw [ht1, ht0]; simp
      obtain ⟨k, hk, hke⟩ := kind3 ask.kind
      obtain ⟨v, hv⟩ : ∃ v, v = if k = 0 then ask.arg &&& 65535#64 else 0#64 := ⟨_, rfl⟩
      have hv0 : k = 0 → v >>> 62 = 0#64 := fun q => by rw [hv, if_pos q]; exact small62 _
      have hv1 : k ≠ 0 → v = 0#64 := fun q => by rw [hv, if_neg q]
      have three : ¬ (3 : Int) = 0 := by decide
      by_cases hk0 : k = 0
      · have hk0' : (k != 0) = false := by simp [hk0]
        rw [if_pos hk0] at hv
        simp -dsimp only [go_sem, Nat.reduceEqDiff, Nat.reduceAdd, Nat.reduceSub, Nat.reduceMul, Nat.reduceLeDiff, Nat.reduceLT, Nat.reduceBEq, Int.reduceLT, Int.reduceLE, Int.reduceGT, Int.reduceGE, Int.reduceEq, Int.reduceNe, Int.reduceBEq, Int.reduceBNe, Int.reduceAdd, Int.reduceSub, Int.reduceMul, Int.reduceToNat, Int.reduceNeg, ↓reduceIte, ↓reduceDIte, c1', c2', i0, gl1, gl2, three, hke, hk0', hr2, ← hv]
        refine CT_of (beg_ev (r := ⟨2, s⟩) hHK hr hk hv0 hv1) ?_
        rintro _ _ ⟨u1, u2, u3, rfl, rfl⟩
        obtain ⟨ap', K1, r1, r2, ⟨t3, r3⟩, r4⟩ := bi.push (fun z => crow0 z) cdc12 (by decide) (by decide) (lim := H.length) (q := K.length + 3) (n := L.length) (bytes := 96) (t := [u1, u2, u3, crw (c0 ⟨2, s⟩ k v), .row false 1 [ptr (K.length + 3)]]) (x := (c0 ⟨2, s⟩ k v, d0 s k v)) rfl (by omega) (by omega) (by rw [ht0]; simp) (by omega) (by rw [get_app]; rfl)
        have hr1 : K1[H.length]? = some (rro ⟨2, s⟩) := by rw [r3]; exact get_old hrr t3
        simp -dsimp only [go_sem, Nat.reduceEqDiff, Nat.reduceAdd, Nat.reduceSub, Nat.reduceMul, Nat.reduceLeDiff, Nat.reduceLT, Nat.reduceBEq, Int.reduceLT, Int.reduceLE, Int.reduceGT, Int.reduceGE, Int.reduceEq, Int.reduceNe, Int.reduceBEq, Int.reduceBNe, Int.reduceAdd, Int.reduceSub, Int.reduceMul, Int.reduceToNat, Int.reduceNeg, ↓reduceIte, ↓reduceDIte, Nat.add_assoc, r1]
        simp -dsimp only [go_sem, Nat.reduceEqDiff, Nat.reduceAdd, Nat.reduceSub, Nat.reduceMul, Nat.reduceLeDiff, Nat.reduceLT, Nat.reduceBEq, Int.reduceLT, Int.reduceLE, Int.reduceGT, Int.reduceGE, Int.reduceEq, Int.reduceNe, Int.reduceBEq, Int.reduceBNe, Int.reduceAdd, Int.reduceSub, Int.reduceMul, Int.reduceToNat, Int.reduceNeg, ↓reduceIte, ↓reduceDIte, lget_at hr1, r2]
        obtain ⟨ao', K2, r5, r6⟩ := r4 [.row false 12 [i64 2, i64 s, i64 k, w64 v, i64 0, w64 0#64, w64 0#64, w64 0#64, w64 0#64, i64 0, i64 0, w64 0#64]]
        have r5 : lappend H.length (K1 ++ [.row false 12 [i64 2, i64 s, i64 k, w64 v, i64 0, w64 0#64, w64 0#64, w64 0#64, w64 0#64, i64 0, i64 0, w64 0#64]]) 12 96 (.slice ao L.length L.length) [i64 2, i64 s, i64 k, w64 v, i64 0, w64 0#64, w64 0#64, w64 0#64, w64 0#64, i64 0, i64 0, w64 0#64] 1 = some (.slice ao' (L.length + 1) (L.length + 1), K2) := r5
        simp -dsimp only [go_sem, Nat.reduceEqDiff, Nat.reduceAdd, Nat.reduceSub, Nat.reduceMul, Nat.reduceLeDiff, Nat.reduceLT, Nat.reduceBEq, Int.reduceLT, Int.reduceLE, Int.reduceGT, Int.reduceGE, Int.reduceEq, Int.reduceNe, Int.reduceBEq, Int.reduceBNe, Int.reduceAdd, Int.reduceSub, Int.reduceMul, Int.reduceToNat, Int.reduceNeg, ↓reduceIte, ↓reduceDIte, r5, w1]
        refine ⟨⟨K2, ap', ao', L ++ [(K.length + 3, c0 ⟨2, s⟩ k v, d0 s k v)]⟩, by simp, rfl, ⟨by simp; omega, r6, ?_⟩, by simp; omega⟩
        intro j p y hy
        simp only at hy
        rcases Nat.lt_or_ge j L.length with hj | hj
        · rw [List.getElem?_append_left hj] at hy
          exact hL j p y hy
        · rw [List.getElem?_append_right hj] at hy
          have e : j - L.length = 0 := by
            have := (List.getElem?_eq_some_iff.1 hy).1
            simpa using this
          rw [e] at hy
          cases hy
          exact rel0 hk
      · have hk0' : (k != 0) = true := by simp [hk0]
        rw [if_neg hk0] at hv
        simp -dsimp only [go_sem, Nat.reduceEqDiff, Nat.reduceAdd, Nat.reduceSub, Nat.reduceMul, Nat.reduceLeDiff, Nat.reduceLT, Nat.reduceBEq, Int.reduceLT, Int.reduceLE, Int.reduceGT, Int.reduceGE, Int.reduceEq, Int.reduceNe, Int.reduceBEq, Int.reduceBNe, Int.reduceAdd, Int.reduceSub, Int.reduceMul, Int.reduceToNat, Int.reduceNeg, ↓reduceIte, ↓reduceDIte, c1', c2', i0, gl1, gl2, three, hke, hk0', hr2, ← hv]
        refine CT_of (beg_ev (r := ⟨2, s⟩) hHK hr hk hv0 hv1) ?_
        rintro _ _ ⟨u1, u2, u3, rfl, rfl⟩
        obtain ⟨ap', K1, r1, r2, ⟨t3, r3⟩, r4⟩ := bi.push (fun z => crow0 z) cdc12 (by decide) (by decide) (lim := H.length) (q := K.length + 3) (n := L.length) (bytes := 96) (t := [u1, u2, u3, crw (c0 ⟨2, s⟩ k v), .row false 1 [ptr (K.length + 3)]]) (x := (c0 ⟨2, s⟩ k v, d0 s k v)) rfl (by omega) (by omega) (by rw [ht0]; simp) (by omega) (by rw [get_app]; rfl)
        have hr1 : K1[H.length]? = some (rro ⟨2, s⟩) := by rw [r3]; exact get_old hrr t3
        simp -dsimp only [go_sem, Nat.reduceEqDiff, Nat.reduceAdd, Nat.reduceSub, Nat.reduceMul, Nat.reduceLeDiff, Nat.reduceLT, Nat.reduceBEq, Int.reduceLT, Int.reduceLE, Int.reduceGT, Int.reduceGE, Int.reduceEq, Int.reduceNe, Int.reduceBEq, Int.reduceBNe, Int.reduceAdd, Int.reduceSub, Int.reduceMul, Int.reduceToNat, Int.reduceNeg, ↓reduceIte, ↓reduceDIte, Nat.add_assoc, r1]
        simp -dsimp only [go_sem, Nat.reduceEqDiff, Nat.reduceAdd, Nat.reduceSub, Nat.reduceMul, Nat.reduceLeDiff, Nat.reduceLT, Nat.reduceBEq, Int.reduceLT, Int.reduceLE, Int.reduceGT, Int.reduceGE, Int.reduceEq, Int.reduceNe, Int.reduceBEq, Int.reduceBNe, Int.reduceAdd, Int.reduceSub, Int.reduceMul, Int.reduceToNat, Int.reduceNeg, ↓reduceIte, ↓reduceDIte, lget_at hr1, r2]
        obtain ⟨ao', K2, r5, r6⟩ := r4 [.row false 12 [i64 2, i64 s, i64 k, w64 v, i64 0, w64 0#64, w64 0#64, w64 0#64, w64 0#64, i64 0, i64 0, w64 0#64]]
        have r5 : lappend H.length (K1 ++ [.row false 12 [i64 2, i64 s, i64 k, w64 v, i64 0, w64 0#64, w64 0#64, w64 0#64, w64 0#64, i64 0, i64 0, w64 0#64]]) 12 96 (.slice ao L.length L.length) [i64 2, i64 s, i64 k, w64 v, i64 0, w64 0#64, w64 0#64, w64 0#64, w64 0#64, i64 0, i64 0, w64 0#64] 1 = some (.slice ao' (L.length + 1) (L.length + 1), K2) := r5
        simp -dsimp only [go_sem, Nat.reduceEqDiff, Nat.reduceAdd, Nat.reduceSub, Nat.reduceMul, Nat.reduceLeDiff, Nat.reduceLT, Nat.reduceBEq, Int.reduceLT, Int.reduceLE, Int.reduceGT, Int.reduceGE, Int.reduceEq, Int.reduceNe, Int.reduceBEq, Int.reduceBNe, Int.reduceAdd, Int.reduceSub, Int.reduceMul, Int.reduceToNat, Int.reduceNeg, ↓reduceIte, ↓reduceDIte, r5, w1]
        refine ⟨⟨K2, ap', ao', L ++ [(K.length + 3, c0 ⟨2, s⟩ k v, d0 s k v)]⟩, by simp, rfl, ⟨by simp; omega, r6, ?_⟩, by simp; omega⟩
        intro j p y hy
        simp only at hy
        rcases Nat.lt_or_ge j L.length with hj | hj
        · rw [List.getElem?_append_left hj] at hy
          exact hL j p y hy
        · rw [List.getElem?_append_right hj] at hy
          have e : j - L.length = 0 := by
            have := (List.getElem?_eq_some_iff.1 hy).1
            simpa using this
          rw [e] at hy
          cases hy
          exact rel0 hk
    · have c2' : ¬ (L.length : Int) < 12 := by omega
      simp -dsimp only [go_sem, Nat.reduceEqDiff, Nat.reduceAdd, Nat.reduceSub, Nat.reduceMul, Nat.reduceLeDiff, Nat.reduceLT, Nat.reduceBEq, Int.reduceLT, Int.reduceLE, Int.reduceGT, Int.reduceGE, Int.reduceEq, Int.reduceNe, Int.reduceBEq, Int.reduceBNe, Int.reduceAdd, Int.reduceSub, Int.reduceMul, Int.reduceToNat, Int.reduceNeg, ↓reduceIte, ↓reduceDIte, c1', c2']
      exact fin _ rfl rfl rfl rfl rfl rfl
  · have c1' : ¬ (L.length : Int) < l.length := by omega
    simp -dsimp only [go_sem, Nat.reduceEqDiff, Nat.reduceAdd, Nat.reduceSub, Nat.reduceMul, Nat.reduceLeDiff, Nat.reduceLT, Nat.reduceBEq, Int.reduceLT, Int.reduceLE, Int.reduceGT, Int.reduceGE, Int.reduceEq, Int.reduceNe, Int.reduceBEq, Int.reduceBNe, Int.reduceAdd, Int.reduceSub, Int.reduceMul, Int.reduceToNat, Int.reduceNeg, ↓reduceIte, ↓reduceDIte, c1']
    exact fin _ rfl rfl rfl rfl rfl rfl
end
end Go.Proofs.Ytopjhhcncjleaaa
