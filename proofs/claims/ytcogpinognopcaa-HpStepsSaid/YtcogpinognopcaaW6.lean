/- The statement HpSteps: the walk, from the operations on. -/
import Derived.Test.YtcogpinognopcaaW5
namespace Go.Proofs.Ytcogpinognopcaa
open Go Go.LK
set_option linter.unusedSimpArgs false
set_option linter.unusedVariables false
structure AskH where
  kind : Int
  th : Int
  slot : Int
  word : Int
  v : BitVec 64
def AskH.cells (c : AskH) : List Value := [.int .i64 c.kind, .int .i64 c.th, .int .i64 c.slot, .int .i64 c.word, w64 c.v]
theorem AskH.len (c : AskH) : c.cells.length = 5 := rfl
def AskH.Ok (c : AskH) : Prop := (-9223372036854775808 ≤ c.kind ∧ c.kind ≤ 9223372036854775807) ∧ (-9223372036854775808 ≤ c.th ∧ c.th ≤ 9223372036854775807) ∧ (-9223372036854775808 ≤ c.slot ∧ c.slot ≤ 9223372036854775807) ∧ (-9223372036854775808 ≤ c.word ∧ c.word ≤ 9223372036854775807)
theorem AskH.row (r : List Value) (h_0 : Row2 CellIs [.int .i64, .int .i64, .int .i64, .int .i64, .int .u64] r) : ∃ x, r = AskH.cells x ∧ AskH.Ok x := by
  obtain ⟨_, _, rfl, k0, h_1⟩ := row_cons h_0
  obtain ⟨x0, rfl, y0⟩ := is_i64 k0
  obtain ⟨_, _, rfl, k1, h_2⟩ := row_cons h_1
  obtain ⟨x1, rfl, y1⟩ := is_i64 k1
  obtain ⟨_, _, rfl, k2, h_3⟩ := row_cons h_2
  obtain ⟨x2, rfl, y2⟩ := is_i64 k2
  obtain ⟨_, _, rfl, k3, h_4⟩ := row_cons h_3
  obtain ⟨x3, rfl, y3⟩ := is_i64 k3
  obtain ⟨_, _, rfl, k4, h_5⟩ := row_cons h_4
  obtain ⟨x4, rfl⟩ := is_u64 k4
  obtain rfl := row_nil h_5
  exact ⟨⟨x0, x1, x2, x3, x4⟩, rfl, ⟨y0, y1, y2, y3⟩⟩

abbrev gbox (g : GV) : LObj := .row false 0 [i64 g.a, i64 g.t, i64 g.s]
theorem begins_true (x : HOp) : x.begins true = x := rfl
section
variable {H B K : LHeap} {l0 lo b pw pb bx : Nat} {m mr : MV} {w : List (BitVec 64)} {aw ab ao ap aq : Option Addr} {L : List (Nat × HZ)} {e : Env} {Q : LExit → Env → LHeap → Prop} {g : GV}
structure LS where
  K : LHeap
  ap : Option Addr
  ao : Option Addr
  L : List (Nat × HZ)
structure LI (H1 : LHeap) (g : GV) (q : LS) : Prop where
  hi : q.L.length ≤ 12
  bi : BI HZ.row HZ.cells 9 H1 q.K q.ap q.ao q.L
  ok : ∀ (j p : Nat) (z : HZ), q.L[j]? = some (p, z) → Rel g z.x z.y
  hz : ∀ (j p : Nat) (z : HZ), q.L[j]? = some (p, z) → z.a1 = none ∧ z.a2 = none ∧ z.x.met = [] ∧ z.y.met = []
set_option maxHeartbeats 2000000 in
theorem spL_ev {a1 a2 : Option Addr} {l : List AskH} {P : List Int} {H1 : LHeap} {gp : Nat} (ga : g.a = 4) (gt : 1 ≤ g.t ∧ g.t ≤ 4) (gs : g.s = 1 ∨ g.s = 2) (hl : Sl 5 H a1 (l.flatMap AskH.cells)) (hp : Sl 1 H a2 (P.map i64))
    (keep : ∃ t, H1 = H ++ t) (hgp : H1[gp]? = some (gbox g)) (hl0 : l0 ≤ H1.length) (mem : MemAt H1 b pw pb m) (lb : Lay l0 b pw pb bx H.length) (cl : Clean m w) (clr : Clean mr w) (wl : w.length = 12)
    (ws : ∃ bw, aw = some ⟨bw, 0, none⟩ ∧ H1[bw]? = some (.row false 1 (mr.w.map w64))) (hw : ∀ x, aw = some x → H.length ≤ x.block) (bs : Sl 1 H1 ab (mr.bar.map Value.bool)) (fw : Off4 b pw pb bx aw) (fb : Off4 b pw pb bx ab) (box : H1[bx]? = some (xrow aw ab 12 mr)) (dwb : Dj aw ab)
    (e1 : LK.look e 1 = .slice a1 l.length l.length) (e2 : LK.look e 2 = .slice a2 P.length P.length) (e7 : LK.look e 7 = ptr gp) (e8 : LK.look e 8 = ptr b) (e10 : LK.look e 10 = ptr bx)
    (hQ : ∀ e' H', LK.look e' 6 = .bool true → Q .ret e' H') : XW (callE T) H.length spL e H1 Q := by
  unfold spL
  have gr : g.right = true := by
    simp only [GV.right, Bool.and_eq_true, decide_eq_true_eq]
    omega
  have gwd : g.words = g.t * g.s := by rw [GV.words, if_pos gr]
  have gw : 1 ≤ g.words ∧ g.words ≤ 8 := by
    rw [gwd]
    rcases gs with q | q <;> rw [q] <;> omega
  simp -dsimp only [go_sem, Nat.reduceEqDiff, Nat.reduceAdd, Nat.reduceSub, Nat.reduceMul, Nat.reduceLeDiff, Nat.reduceLT, Nat.reduceBEq, Int.reduceLT, Int.reduceLE, Int.reduceGT, Int.reduceGE, Int.reduceEq, Int.reduceNe, Int.reduceBEq, Int.reduceBNe, Int.reduceAdd, Int.reduceSub, Int.reduceMul, Int.reduceToNat, Int.reduceNeg, ↓reduceIte, ↓reduceDIte]
  refine LT_of (fun q : LS => [(1, .slice a1 l.length l.length), (2, .slice a2 P.length P.length), (7, ptr gp), (8, ptr b), (10, ptr bx), (12, .slice q.ap q.L.length q.L.length), (13, .slice q.ao q.L.length q.L.length), (14, i64 q.L.length)]) (fun q => q.K) (LI H1 g) (fun q => 12 - q.L.length)
    ⟨H1, none, none, []⟩ (by simp [restrict, LK.look, e1, e2, e7, e8, e10]) rfl ⟨by simp, BI.nil, fun j p x g => by simp at g, fun j p x g => by simp at g⟩ ?_
  rintro ⟨K, ap, ao, L⟩ ⟨hi, bi, hL, hz⟩
  simp only at hi bi hL hz ⊢
  have fin : ∀ e', LK.look e' 2 = .slice a2 P.length P.length → LK.look e' 8 = ptr b → LK.look e' 10 = ptr bx → LK.look e' 12 = .slice ap L.length L.length → LK.look e' 13 = .slice ao L.length L.length → XW (callE T) H.length spP e' K Q :=
    fun e' e2 e8 e10 e12 e13 => spP_ev (bi.alls keep hl0 mem lb cl clr wl (by decide) (by decide) ws bs fw fb box dwb hz) hw ga gw gr hp e2 e8 e10 e12 e13 hL hi hQ
  by_cases c1 : L.length < l.length
  · have c1' : (L.length : Int) < l.length := by omega
    by_cases c2 : L.length < 12
    · have c2' : (L.length : Int) < 12 := by omega
      have i0 : 0 ≤ (L.length : Int) := by omega
      have w1 : IntKind.i64.wrap ((L.length : Int) + 1) = ((L.length + 1 : Nat) : Int) := by rw [wrap_i64] <;> omega
      obtain ⟨t0, ht0⟩ := keep
      obtain ⟨t1, ht1⟩ := bi.keep
      have hl' := (hl.app t0).app t1
      rw [← ht0, ← ht1] at hl'
      obtain ⟨ba, oa, rfl, _, hgc, _⟩ := hl'.rowsAt (f := AskH.cells) AskH.len (by omega) (by omega)
      have gc := hgc [] _ _ (List.getElem?_eq_getElem c1)
      rw [List.append_nil] at gc
      generalize l[L.length] = ask at gc
      simp only [AskH.cells] at gc
      have hgK : K[gp]? = some (gbox g) := by rw [ht1]; exact get_old hgp t1
      have hgl := (List.getElem?_eq_some_iff.1 hgK).1
      have hHK : H.length ≤ K.length := by rw [ht1, ht0]; simp
      obtain ⟨dt, hdt, dt0, dt3⟩ := andK ask.th 3 (by decide)
      have dt3 : dt ≤ 3 := dt3
      obtain ⟨ds, hds, ds0, ds1⟩ := andK ask.slot 1 (by decide)
      have ds1 : ds ≤ 1 := ds1
      obtain ⟨dw, hdw, dw0, dw3⟩ := andK ask.word 3 (by decide)
      have dw3 : dw ≤ 3 := dw3
      have th0 : 0 ≤ Int.tmod dt g.t := Int.tmod_nonneg _ dt0
      have th1 := Int.tmod_lt_of_pos dt (show 0 < g.t by omega)
      have sl0 : 0 ≤ Int.tmod ds g.s := Int.tmod_nonneg _ ds0
      have sl1 := Int.tmod_lt_of_pos ds (show 0 < g.s by omega)
      generalize hth : Int.tmod dt g.t = th at th0 th1
      generalize hsl : Int.tmod ds g.s = sl at sl0 sl1
      have hps : 0 ≤ th * g.s ∧ th * g.s + sl < g.t * g.s ∧ g.t * g.s ≤ 8 := by
        rcases gs with q | q <;> rw [q] at sl1 ⊢ <;> omega
      have v1 : IntKind.i64.wrap (th * g.s) = th * g.s := by rw [wrap_i64] <;> omega
      have v2 : IntKind.i64.wrap (4 + th * g.s) = 4 + th * g.s := by rw [wrap_i64] <;> omega
      have v3 : IntKind.i64.wrap (4 + th * g.s + sl) = 4 + th * g.s + sl := by rw [wrap_i64] <;> omega
      have hslot : g.slot th sl = 4 + th * g.s + sl := by
        have : g.has th sl = true := by
          simp only [GV.has, gr, Bool.true_and, Bool.and_eq_true, decide_eq_true_eq]
          omega
        rw [GV.slot, if_pos this, ga]
      have hmay : decide (0 ≤ g.slot th sl) = true := by rw [hslot, decide_eq_true_eq]; omega
      have t00 : ¬ g.t = 0 := by omega
      have s00 : ¬ g.s = 0 := by omega
      have k3 : lcells K gp 0 3 = some [i64 g.a, i64 g.t, i64 g.s] := lcells_of hgK rfl
      simp -dsimp only [go_sem, Nat.reduceEqDiff, Nat.reduceAdd, Nat.reduceSub, Nat.reduceMul, Nat.reduceLeDiff, Nat.reduceLT, Nat.reduceBEq, Int.reduceLT, Int.reduceLE, Int.reduceGT, Int.reduceGE, Int.reduceEq, Int.reduceNe, Int.reduceBEq, Int.reduceBNe, Int.reduceAdd, Int.reduceSub, Int.reduceMul, Int.reduceToNat, Int.reduceNeg, ↓reduceIte, ↓reduceDIte, c1', c2', i0, gc, hdt, hds, hdw, lget_left hgl, lget_at hgK, lcells_left hgl, k3, t00, s00, hth, hsl, v1, v2, v3]
      refine CT_val (words_ev (g := g)) ?_
      by_cases k0 : ask.kind = 0
      · have k0' : (ask.kind == 0) = true := by simp [k0]
        simp -dsimp only [go_sem, Nat.reduceEqDiff, Nat.reduceAdd, Nat.reduceSub, Nat.reduceMul, Nat.reduceLeDiff, Nat.reduceLT, Nat.reduceBEq, Int.reduceLT, Int.reduceLE, Int.reduceGT, Int.reduceGE, Int.reduceEq, Int.reduceNe, Int.reduceBEq, Int.reduceBNe, Int.reduceAdd, Int.reduceSub, Int.reduceMul, Int.reduceToNat, Int.reduceNeg, ↓reduceIte, ↓reduceDIte, c1', c2', i0, lget_left hgl, lget_at hgK, lcells_left hgl, k3, k0']
        refine CT_of (hprotect_ev (g := g) (by simp; omega)) ?_
        rintro _ _ ⟨u, rfl, rfl⟩
        rw [hmay, hslot, begins_true]
        obtain ⟨ap', K1, r1, r2, ⟨t3, r3⟩, r3', r4⟩ := bi.push' (fun z => hrow0 z) hcell9 (by decide) (by decide) (lim := H.length) (q := K.length + 3) (n := L.length) (bytes := 88) (t := [.row false 0 [i64 ask.kind, i64 ask.th, i64 ask.slot, i64 ask.word, w64 ask.v], .row false 0 [i64 0, i64 4, i64 g.words, i64 (4 + th * g.s + sl), i64 dw, i64 0, w64 0#64, .slice none 0 0, .bool false], u, hrw none ⟨g,0,4 + th * g.s + sl,dw,0,0#64,[],false,0⟩, .row false 1 [ptr (K.length + 3)]]) (x := ⟨⟨g,0,4 + th * g.s + sl,dw,0,0#64,[],false,0⟩, none, ⟨0, 4, g.words, 4 + th * g.s + sl, dw, 0, 0#64, [], false⟩, none⟩) rfl (by omega) (by omega) (by rw [ht0]; simp) (by omega) (by rw [get_app]; rfl)
        have yb : K1[K.length + 1]? = some (.row false 0 [i64 0, i64 4, i64 g.words, i64 (4 + th * g.s + sl), i64 dw, i64 0, w64 0#64, .slice none 0 0, .bool false]) := by
          rw [r3' _ (by simp) (fun c => by rw [get_app]; simp), get_app]; rfl
        have yb9 : lcells K1 (K.length + 1) 0 9 = some [i64 0, i64 4, i64 g.words, i64 (4 + th * g.s + sl), i64 dw, i64 0, w64 0#64, .slice none 0 0, .bool false] := lcells_of yb rfl
        simp -dsimp only [go_sem, Nat.reduceEqDiff, Nat.reduceAdd, Nat.reduceSub, Nat.reduceMul, Nat.reduceLeDiff, Nat.reduceLT, Nat.reduceBEq, Int.reduceLT, Int.reduceLE, Int.reduceGT, Int.reduceGE, Int.reduceEq, Int.reduceNe, Int.reduceBEq, Int.reduceBNe, Int.reduceAdd, Int.reduceSub, Int.reduceMul, Int.reduceToNat, Int.reduceNeg, ↓reduceIte, ↓reduceDIte, Nat.add_assoc, r1]
        simp -dsimp only [go_sem, Nat.reduceEqDiff, Nat.reduceAdd, Nat.reduceSub, Nat.reduceMul, Nat.reduceLeDiff, Nat.reduceLT, Nat.reduceBEq, Int.reduceLT, Int.reduceLE, Int.reduceGT, Int.reduceGE, Int.reduceEq, Int.reduceNe, Int.reduceBEq, Int.reduceBNe, Int.reduceAdd, Int.reduceSub, Int.reduceMul, Int.reduceToNat, Int.reduceNeg, ↓reduceIte, ↓reduceDIte, yb9, r2]
        obtain ⟨ao', K2, r5, r6⟩ := r4 [.row false 9 [i64 0, i64 4, i64 g.words, i64 (4 + th * g.s + sl), i64 dw, i64 0, w64 0#64, .slice none 0 0, .bool false]]
        have r5 : lappend H.length (K1 ++ [.row false 9 [i64 0, i64 4, i64 g.words, i64 (4 + th * g.s + sl), i64 dw, i64 0, w64 0#64, .slice none 0 0, .bool false]]) 9 88 (.slice ao L.length L.length) [i64 0, i64 4, i64 g.words, i64 (4 + th * g.s + sl), i64 dw, i64 0, w64 0#64, .slice none 0 0, .bool false] 1 = some (.slice ao' (L.length + 1) (L.length + 1), K2) := r5
        simp -dsimp only [go_sem, Nat.reduceEqDiff, Nat.reduceAdd, Nat.reduceSub, Nat.reduceMul, Nat.reduceLeDiff, Nat.reduceLT, Nat.reduceBEq, Int.reduceLT, Int.reduceLE, Int.reduceGT, Int.reduceGE, Int.reduceEq, Int.reduceNe, Int.reduceBEq, Int.reduceBNe, Int.reduceAdd, Int.reduceSub, Int.reduceMul, Int.reduceToNat, Int.reduceNeg, ↓reduceIte, ↓reduceDIte, r5, w1]
        refine ⟨⟨K2, ap', ao', L ++ [(K.length + 3, ⟨⟨g,0,4 + th * g.s + sl,dw,0,0#64,[],false,0⟩, none, ⟨0, 4, g.words, 4 + th * g.s + sl, dw, 0, 0#64, [], false⟩, none⟩)]⟩, by simp, rfl, ⟨by simp; omega, r6, ?_, ?_⟩, by simp; omega⟩
        · intro j p y hy
          simp only at hy
          rcases Nat.lt_or_ge j L.length with hj | hj
          · rw [List.getElem?_append_left hj] at hy
            exact hL j p y hy
          · rw [List.getElem?_append_right hj] at hy
            have e : j - L.length = 0 := by
              have := (List.getElem?_eq_some_iff.1 hy).1
              simpa using this
            rw [e] at hy
            cases hy
            constructor <;> simp <;> omega
        · intro j p y hy
          simp only at hy
          rcases Nat.lt_or_ge j L.length with hj | hj
          · rw [List.getElem?_append_left hj] at hy
            exact hz j p y hy
          · rw [List.getElem?_append_right hj] at hy
            have e : j - L.length = 0 := by
              have := (List.getElem?_eq_some_iff.1 hy).1
              simpa using this
            rw [e] at hy
            cases hy
            exact ⟨rfl, rfl, rfl, rfl⟩
      · have k0' : (ask.kind == 0) = false := by simp [k0]
        by_cases k1 : ask.kind = 1
        · have k1' : (ask.kind == 1) = true := by simp [k1]
          simp -dsimp only [go_sem, Nat.reduceEqDiff, Nat.reduceAdd, Nat.reduceSub, Nat.reduceMul, Nat.reduceLeDiff, Nat.reduceLT, Nat.reduceBEq, Int.reduceLT, Int.reduceLE, Int.reduceGT, Int.reduceGE, Int.reduceEq, Int.reduceNe, Int.reduceBEq, Int.reduceBNe, Int.reduceAdd, Int.reduceSub, Int.reduceMul, Int.reduceToNat, Int.reduceNeg, ↓reduceIte, ↓reduceDIte, c1', c2', i0, lget_left hgl, lget_at hgK, lcells_left hgl, k3, k0', k1']
          refine CT_of (hclear_ev (g := g) (by simp; omega)) ?_
          rintro _ _ ⟨u, rfl, rfl⟩
          rw [hmay, hslot, begins_true]
          obtain ⟨ap', K1, r1, r2, ⟨t3, r3⟩, r3', r4⟩ := bi.push' (fun z => hrow0 z) hcell9 (by decide) (by decide) (lim := H.length) (q := K.length + 3) (n := L.length) (bytes := 88) (t := [.row false 0 [i64 ask.kind, i64 ask.th, i64 ask.slot, i64 ask.word, w64 ask.v], .row false 0 [i64 1, i64 4, i64 g.words, i64 (4 + th * g.s + sl), i64 dw, i64 0, w64 0#64, .slice none 0 0, .bool false], u, hrw none ⟨g,1,4 + th * g.s + sl,0,0,0#64,[],false,0⟩, .row false 1 [ptr (K.length + 3)]]) (x := ⟨⟨g,1,4 + th * g.s + sl,0,0,0#64,[],false,0⟩, none, ⟨1, 4, g.words, 4 + th * g.s + sl, dw, 0, 0#64, [], false⟩, none⟩) rfl (by omega) (by omega) (by rw [ht0]; simp) (by omega) (by rw [get_app]; rfl)
          have yb : K1[K.length + 1]? = some (.row false 0 [i64 1, i64 4, i64 g.words, i64 (4 + th * g.s + sl), i64 dw, i64 0, w64 0#64, .slice none 0 0, .bool false]) := by
            rw [r3' _ (by simp) (fun c => by rw [get_app]; simp), get_app]; rfl
          have yb9 : lcells K1 (K.length + 1) 0 9 = some [i64 1, i64 4, i64 g.words, i64 (4 + th * g.s + sl), i64 dw, i64 0, w64 0#64, .slice none 0 0, .bool false] := lcells_of yb rfl
          simp -dsimp only [go_sem, Nat.reduceEqDiff, Nat.reduceAdd, Nat.reduceSub, Nat.reduceMul, Nat.reduceLeDiff, Nat.reduceLT, Nat.reduceBEq, Int.reduceLT, Int.reduceLE, Int.reduceGT, Int.reduceGE, Int.reduceEq, Int.reduceNe, Int.reduceBEq, Int.reduceBNe, Int.reduceAdd, Int.reduceSub, Int.reduceMul, Int.reduceToNat, Int.reduceNeg, ↓reduceIte, ↓reduceDIte, Nat.add_assoc, r1]
          simp -dsimp only [go_sem, Nat.reduceEqDiff, Nat.reduceAdd, Nat.reduceSub, Nat.reduceMul, Nat.reduceLeDiff, Nat.reduceLT, Nat.reduceBEq, Int.reduceLT, Int.reduceLE, Int.reduceGT, Int.reduceGE, Int.reduceEq, Int.reduceNe, Int.reduceBEq, Int.reduceBNe, Int.reduceAdd, Int.reduceSub, Int.reduceMul, Int.reduceToNat, Int.reduceNeg, ↓reduceIte, ↓reduceDIte, yb9, r2]
          obtain ⟨ao', K2, r5, r6⟩ := r4 [.row false 9 [i64 1, i64 4, i64 g.words, i64 (4 + th * g.s + sl), i64 dw, i64 0, w64 0#64, .slice none 0 0, .bool false]]
          have r5 : lappend H.length (K1 ++ [.row false 9 [i64 1, i64 4, i64 g.words, i64 (4 + th * g.s + sl), i64 dw, i64 0, w64 0#64, .slice none 0 0, .bool false]]) 9 88 (.slice ao L.length L.length) [i64 1, i64 4, i64 g.words, i64 (4 + th * g.s + sl), i64 dw, i64 0, w64 0#64, .slice none 0 0, .bool false] 1 = some (.slice ao' (L.length + 1) (L.length + 1), K2) := r5
          simp -dsimp only [go_sem, Nat.reduceEqDiff, Nat.reduceAdd, Nat.reduceSub, Nat.reduceMul, Nat.reduceLeDiff, Nat.reduceLT, Nat.reduceBEq, Int.reduceLT, Int.reduceLE, Int.reduceGT, Int.reduceGE, Int.reduceEq, Int.reduceNe, Int.reduceBEq, Int.reduceBNe, Int.reduceAdd, Int.reduceSub, Int.reduceMul, Int.reduceToNat, Int.reduceNeg, ↓reduceIte, ↓reduceDIte, r5, w1]
          refine ⟨⟨K2, ap', ao', L ++ [(K.length + 3, ⟨⟨g,1,4 + th * g.s + sl,0,0,0#64,[],false,0⟩, none, ⟨1, 4, g.words, 4 + th * g.s + sl, dw, 0, 0#64, [], false⟩, none⟩)]⟩, by simp, rfl, ⟨by simp; omega, r6, ?_, ?_⟩, by simp; omega⟩
          · intro j p y hy
            simp only at hy
            rcases Nat.lt_or_ge j L.length with hj | hj
            · rw [List.getElem?_append_left hj] at hy
              exact hL j p y hy
            · rw [List.getElem?_append_right hj] at hy
              have e : j - L.length = 0 := by
                have := (List.getElem?_eq_some_iff.1 hy).1
                simpa using this
              rw [e] at hy
              cases hy
              constructor <;> simp <;> omega
          · intro j p y hy
            simp only at hy
            rcases Nat.lt_or_ge j L.length with hj | hj
            · rw [List.getElem?_append_left hj] at hy
              exact hz j p y hy
            · rw [List.getElem?_append_right hj] at hy
              have e : j - L.length = 0 := by
                have := (List.getElem?_eq_some_iff.1 hy).1
                simpa using this
              rw [e] at hy
              cases hy
              exact ⟨rfl, rfl, rfl, rfl⟩
        · have k1' : (ask.kind == 1) = false := by simp [k1]
          simp -dsimp only [go_sem, Nat.reduceEqDiff, Nat.reduceAdd, Nat.reduceSub, Nat.reduceMul, Nat.reduceLeDiff, Nat.reduceLT, Nat.reduceBEq, Int.reduceLT, Int.reduceLE, Int.reduceGT, Int.reduceGE, Int.reduceEq, Int.reduceNe, Int.reduceBEq, Int.reduceBNe, Int.reduceAdd, Int.reduceSub, Int.reduceMul, Int.reduceToNat, Int.reduceNeg, ↓reduceIte, ↓reduceDIte, c1', c2', i0, lget_left hgl, lget_at hgK, lcells_left hgl, k3, k0', k1']
          refine CT_of (hscan_ev (g := g) (by simp; omega)) ?_
          rintro _ _ ⟨u, rfl, rfl⟩
          rw [gr, begins_true]
          obtain ⟨ap', K1, r1, r2, ⟨t3, r3⟩, r3', r4⟩ := bi.push' (fun z => hrow0 z) hcell9 (by decide) (by decide) (lim := H.length) (q := K.length + 3) (n := L.length) (bytes := 88) (t := [.row false 0 [i64 ask.kind, i64 ask.th, i64 ask.slot, i64 ask.word, w64 ask.v], .row false 0 [i64 2, i64 4, i64 g.words, i64 (4 + th * g.s + sl), i64 dw, i64 0, w64 0#64, .slice none 0 0, .bool false], u, hrw none ⟨g,2,0,0,0,0#64,[],false,0⟩, .row false 1 [ptr (K.length + 3)]]) (x := ⟨⟨g,2,0,0,0,0#64,[],false,0⟩, none, ⟨2, 4, g.words, 4 + th * g.s + sl, dw, 0, 0#64, [], false⟩, none⟩) rfl (by omega) (by omega) (by rw [ht0]; simp) (by omega) (by rw [get_app]; rfl)
          have yb : K1[K.length + 1]? = some (.row false 0 [i64 2, i64 4, i64 g.words, i64 (4 + th * g.s + sl), i64 dw, i64 0, w64 0#64, .slice none 0 0, .bool false]) := by
            rw [r3' _ (by simp) (fun c => by rw [get_app]; simp), get_app]; rfl
          have yb9 : lcells K1 (K.length + 1) 0 9 = some [i64 2, i64 4, i64 g.words, i64 (4 + th * g.s + sl), i64 dw, i64 0, w64 0#64, .slice none 0 0, .bool false] := lcells_of yb rfl
          simp -dsimp only [go_sem, Nat.reduceEqDiff, Nat.reduceAdd, Nat.reduceSub, Nat.reduceMul, Nat.reduceLeDiff, Nat.reduceLT, Nat.reduceBEq, Int.reduceLT, Int.reduceLE, Int.reduceGT, Int.reduceGE, Int.reduceEq, Int.reduceNe, Int.reduceBEq, Int.reduceBNe, Int.reduceAdd, Int.reduceSub, Int.reduceMul, Int.reduceToNat, Int.reduceNeg, ↓reduceIte, ↓reduceDIte, Nat.add_assoc, r1]
          simp -dsimp only [go_sem, Nat.reduceEqDiff, Nat.reduceAdd, Nat.reduceSub, Nat.reduceMul, Nat.reduceLeDiff, Nat.reduceLT, Nat.reduceBEq, Int.reduceLT, Int.reduceLE, Int.reduceGT, Int.reduceGE, Int.reduceEq, Int.reduceNe, Int.reduceBEq, Int.reduceBNe, Int.reduceAdd, Int.reduceSub, Int.reduceMul, Int.reduceToNat, Int.reduceNeg, ↓reduceIte, ↓reduceDIte, yb9, r2]
          obtain ⟨ao', K2, r5, r6⟩ := r4 [.row false 9 [i64 2, i64 4, i64 g.words, i64 (4 + th * g.s + sl), i64 dw, i64 0, w64 0#64, .slice none 0 0, .bool false]]
          have r5 : lappend H.length (K1 ++ [.row false 9 [i64 2, i64 4, i64 g.words, i64 (4 + th * g.s + sl), i64 dw, i64 0, w64 0#64, .slice none 0 0, .bool false]]) 9 88 (.slice ao L.length L.length) [i64 2, i64 4, i64 g.words, i64 (4 + th * g.s + sl), i64 dw, i64 0, w64 0#64, .slice none 0 0, .bool false] 1 = some (.slice ao' (L.length + 1) (L.length + 1), K2) := r5
          simp -dsimp only [go_sem, Nat.reduceEqDiff, Nat.reduceAdd, Nat.reduceSub, Nat.reduceMul, Nat.reduceLeDiff, Nat.reduceLT, Nat.reduceBEq, Int.reduceLT, Int.reduceLE, Int.reduceGT, Int.reduceGE, Int.reduceEq, Int.reduceNe, Int.reduceBEq, Int.reduceBNe, Int.reduceAdd, Int.reduceSub, Int.reduceMul, Int.reduceToNat, Int.reduceNeg, ↓reduceIte, ↓reduceDIte, r5, w1]
          refine ⟨⟨K2, ap', ao', L ++ [(K.length + 3, ⟨⟨g,2,0,0,0,0#64,[],false,0⟩, none, ⟨2, 4, g.words, 4 + th * g.s + sl, dw, 0, 0#64, [], false⟩, none⟩)]⟩, by simp, rfl, ⟨by simp; omega, r6, ?_, ?_⟩, by simp; omega⟩
          · intro j p y hy
            simp only at hy
            rcases Nat.lt_or_ge j L.length with hj | hj
            · rw [List.getElem?_append_left hj] at hy
              exact hL j p y hy
            · rw [List.getElem?_append_right hj] at hy
              have e : j - L.length = 0 := by
                have := (List.getElem?_eq_some_iff.1 hy).1
                simpa using this
              rw [e] at hy
              cases hy
              constructor <;> simp <;> omega
          · intro j p y hy
            simp only at hy
            rcases Nat.lt_or_ge j L.length with hj | hj
            · rw [List.getElem?_append_left hj] at hy
              exact hz j p y hy
            · rw [List.getElem?_append_right hj] at hy
              have e : j - L.length = 0 := by
                have := (List.getElem?_eq_some_iff.1 hy).1
                simpa using this
              rw [e] at hy
              cases hy
              exact ⟨rfl, rfl, rfl, rfl⟩
    · have c2' : ¬ (L.length : Int) < 12 := by omega
      simp -dsimp only [go_sem, Nat.reduceEqDiff, Nat.reduceAdd, Nat.reduceSub, Nat.reduceMul, Nat.reduceLeDiff, Nat.reduceLT, Nat.reduceBEq, Int.reduceLT, Int.reduceLE, Int.reduceGT, Int.reduceGE, Int.reduceEq, Int.reduceNe, Int.reduceBEq, Int.reduceBNe, Int.reduceAdd, Int.reduceSub, Int.reduceMul, Int.reduceToNat, Int.reduceNeg, ↓reduceIte, ↓reduceDIte, c1', c2']
      exact fin _ rfl rfl rfl rfl rfl
  · have c1' : ¬ (L.length : Int) < l.length := by omega
    simp -dsimp only [go_sem, Nat.reduceEqDiff, Nat.reduceAdd, Nat.reduceSub, Nat.reduceMul, Nat.reduceLeDiff, Nat.reduceLT, Nat.reduceBEq, Int.reduceLT, Int.reduceLE, Int.reduceGT, Int.reduceGE, Int.reduceEq, Int.reduceNe, Int.reduceBEq, Int.reduceBNe, Int.reduceAdd, Int.reduceSub, Int.reduceMul, Int.reduceToNat, Int.reduceNeg, ↓reduceIte, ↓reduceDIte, c1']
    exact fin _ rfl rfl rfl rfl rfl
end
end Go.Proofs.Ytcogpinognopcaa
