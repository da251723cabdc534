/- The statement HistRight. -/
import Derived.Test.YtlkfmeobkgglfaaH3
namespace Go.Proofs.Ytlkfmeobkgglfaa
open Go Go.LK
set_option linter.unusedSimpArgs false
set_option linter.unusedVariables false
structure ActD where
  kind : Int
  n : Int
  what : Int
  arg : BitVec 64
def ActD.cells (c : ActD) : List Value := [.int .i64 c.kind, .int .i64 c.n, .int .i64 c.what, w64 c.arg]
theorem ActD.len (c : ActD) : c.cells.length = 4 := rfl
def ActD.Ok (c : ActD) : Prop := (-9223372036854775808 ≤ c.kind ∧ c.kind ≤ 9223372036854775807) ∧ (-9223372036854775808 ≤ c.n ∧ c.n ≤ 9223372036854775807) ∧ (-9223372036854775808 ≤ c.what ∧ c.what ≤ 9223372036854775807)
theorem ActD.row (r : List Value) (h_0 : Row2 CellIs [.int .i64, .int .i64, .int .i64, .int .u64] r) : ∃ x, r = ActD.cells x ∧ ActD.Ok x := by
  obtain ⟨_, _, rfl, k0, h_1⟩ := row_cons h_0
  obtain ⟨x0, rfl, y0⟩ := is_i64 k0
  obtain ⟨_, _, rfl, k1, h_2⟩ := row_cons h_1
  obtain ⟨x1, rfl, y1⟩ := is_i64 k1
  obtain ⟨_, _, rfl, k2, h_3⟩ := row_cons h_2
  obtain ⟨x2, rfl, y2⟩ := is_i64 k2
  obtain ⟨_, _, rfl, k3, h_4⟩ := row_cons h_3
  obtain ⟨x3, rfl⟩ := is_u64 k3
  obtain rfl := row_nil h_4
  exact ⟨⟨x0, x1, x2, x3⟩, rfl, ⟨y0, y1, y2⟩⟩

def HV.act (v : HV) (c : ActD) : HV :=
  if c.kind = 0 then (v.begin c.n c.what c.arg).1
  else if c.kind = 1 then (v.fin c.n c.what c.arg).1
  else { v with now := v.now + 1 }
theorem HInv.act {v : HV} (h : HInv v) (c : ActD) : HInv (v.act c) := by
  unfold HV.act
  split
  · exact h.begin _ _ _
  · split
    · exact h.fin _ _ _
    · exact h.step
theorem begin_small (v : HV) (t kind : Int) (arg : BitVec 64) : (v.begin t kind arg).1.l.length ≤ v.l.length + 1 ∧ (v.begin t kind arg).1.now ≤ v.now + 1 := by
  unfold HV.begin
  repeat' split
  all_goals simp
  all_goals omega
theorem fin_small (v : HV) (id code : Int) (ret : BitVec 64) : (v.fin id code ret).1.l.length ≤ v.l.length + 1 ∧ (v.fin id code ret).1.now ≤ v.now + 1 := by
  unfold HV.fin
  repeat' split
  all_goals simp
  all_goals omega
/-- Of blocks below a number. -/
def Under (n : Nat) (a : Option Addr) : Prop := ∀ x, a = some x → x.block < n
theorem Sl.under {m : Nat} {H : LHeap} {a : Option Addr} {c : List Value} (h : Sl m H a c) : Under H.length a := by
  rcases h with ⟨rfl, _⟩ | ⟨b, o, ro, es, cc, rfl, h2, _⟩
  · intro x hx; cases hx
  · intro x hx; cases hx; exact (List.getElem?_eq_some_iff.1 h2).1
theorem Sl.keeps {k n b m : Nat} {H H' : LHeap} {s a a' : Option Addr} {c : List Value} (h : Sl k H s c) (hu : Under n s) (hb : n ≤ b) (hm : n ≤ m) (ha : Fresh n a) (hk : Keeps b m a a' H H') : Sl k H' s c := by
  rcases h with h | ⟨q, o, ro, es, cc, rfl, h2, h3⟩
  · exact .inl h
  · have hq := hu _ rfl
    dsimp only at hq
    refine .inr ⟨q, o, ro, es, cc, rfl, ?_, h3⟩
    rw [(hk.2 q (List.getElem?_eq_some_iff.1 h2).1 (by omega) (by omega) (ha.off hq)).1]
    exact h2
theorem new_ev {lim : Nat} {H : LHeap} : callE T 8 lim [] H fun r H' => r = ptr (H.length + 1) ∧ H' = H ++ [.map [], .row false 0 [.slice none 0 0, .map (some H.length), i64 0]] := by
  refine callE_stay rfl (by simp) rfl ?_
  simp -dsimp only [go_sem, Nat.reduceEqDiff, Nat.reduceAdd, Nat.reduceSub, Nat.reduceMul, Nat.reduceLeDiff, Nat.reduceLT, Nat.reduceBEq, Int.reduceLT, Int.reduceLE, Int.reduceGT, Int.reduceGE, Int.reduceEq, Int.reduceNe, Int.reduceBEq, Int.reduceBNe, Int.reduceAdd, Int.reduceSub, Int.reduceMul, Int.reduceToNat, Int.reduceNeg, ↓reduceIte, ↓reduceDIte]
theorem LogAt.new (H : LHeap) : LogAt H.length (H ++ [.map [], .row false 0 [.slice none 0 0, .map (some H.length), i64 0]]) (H.length + 1) H.length none { l := [], op := [], now := 0 } := by
  refine ⟨by simp, by simp [ents], .inl ⟨rfl, rfl⟩, by omega, Nat.le_refl _, Fresh.nil _, by omega, ?_, ?_⟩
  · intro x hx; cases hx
  · intro x hx; cases hx
/-- The moments that are met. -/
def metOf (l : List CallD) : List (Int × Bool) := l.flatMap fun c => (c.fr, true) :: (if c.dn = true then [(c.to, true)] else [])
theorem met_mem {l : List CallD} {q : Int × Bool} (h : q ∈ metOf l) : ∃ o ∈ l, q.1 = o.fr ∨ (o.dn = true ∧ q.1 = o.to) := by
  obtain ⟨o, ho, hq⟩ := List.mem_flatMap.1 h
  refine ⟨o, ho, ?_⟩
  rcases List.mem_cons.1 hq with rfl | hq
  · exact .inl rfl
  · split at hq
    · rename_i hd
      simp only [List.mem_singleton] at hq
      rw [hq]; exact .inr ⟨hd, rfl⟩
    · cases hq
theorem take_at {l : List CallD} {j : Nat} {o : CallD} (h : o ∈ l.take j) : ∃ k, k < j ∧ l[k]? = some o := by
  obtain ⟨k, hk, rfl⟩ := List.getElem_of_mem h
  have : k < j ∧ k < l.length := by simp at hk; omega
  exact ⟨k, this.1, by rw [List.getElem_take]; exact List.getElem?_eq_getElem this.2⟩
theorem met_fr {v : HV} (h : HInv v) {j : Nat} {c : CallD} (hc : v.l[j]? = some c) : mfind c.fr (metOf (v.l.take j)) = none := by
  rw [mfind_none]
  intro q hq e
  obtain ⟨o, ho, h1⟩ := met_mem hq
  obtain ⟨k, hk, hko⟩ := take_at ho
  rcases h1 with h1 | ⟨hd, h1⟩
  · have := h.rise k j o c hk hko hc; omega
  · have := (h.away k j o c (by omega) hko hc hd).1; omega
theorem met_to {v : HV} (h : HInv v) {j : Nat} {c : CallD} (hc : v.l[j]? = some c) (hcd : c.dn = true) : mfind c.to (metOf (v.l.take j)) = none := by
  rw [mfind_none]
  intro q hq e
  obtain ⟨o, ho, h1⟩ := met_mem hq
  obtain ⟨k, hk, hko⟩ := take_at ho
  rcases h1 with h1 | ⟨hd, h1⟩
  · have := (h.away j k c o (by omega) hc hko hcd).1; omega
  · have := (h.away k j o c (by omega) hko hc hd).2 hcd; omega
theorem met_snoc {l : List CallD} {j : Nat} {c : CallD} (hc : l[j]? = some c) : metOf (l.take (j + 1)) = metOf (l.take j) ++ ((c.fr, true) :: (if c.dn = true then [(c.to, true)] else [])) := by
  rw [List.take_add_one, hc]
  simp [metOf]
set_option maxHeartbeats 2000000 in
theorem right_law_ev {lim : Nat} {s : Option Addr} {l : List ActD} {H : LHeap} (hs : Sl 4 H s (l.flatMap ActD.cells)) :
    callE T 3 lim [.slice s l.length l.length] H fun v H' => v = .bool true := by
  refine callE_pop rfl (by simp) rfl ?_
  simp -dsimp only [go_sem, Nat.reduceEqDiff, Nat.reduceAdd, Nat.reduceSub, Nat.reduceMul, Nat.reduceLeDiff, Nat.reduceLT, Nat.reduceBEq, Int.reduceLT, Int.reduceLE, Int.reduceGT, Int.reduceGE, Int.reduceEq, Int.reduceNe, Int.reduceBEq, Int.reduceBNe, Int.reduceAdd, Int.reduceSub, Int.reduceMul, Int.reduceToNat, Int.reduceNeg, ↓reduceIte, ↓reduceDIte]
  refine CT_val new_ev ?_
  simp -dsimp only [go_sem, Nat.reduceEqDiff, Nat.reduceAdd, Nat.reduceSub, Nat.reduceMul, Nat.reduceLeDiff, Nat.reduceLT, Nat.reduceBEq, Int.reduceLT, Int.reduceLE, Int.reduceGT, Int.reduceGE, Int.reduceEq, Int.reduceNe, Int.reduceBEq, Int.reduceBNe, Int.reduceAdd, Int.reduceSub, Int.reduceMul, Int.reduceToNat, Int.reduceNeg, ↓reduceIte, ↓reduceDIte]
  refine LT_of (fun q : Nat × HV × Option Addr × LHeap => [(0, .slice s l.length l.length), (3, ptr (H.length + 1)), (4, i64 q.1)]) (fun q => q.2.2.2)
    (fun q => q.1 ≤ l.length ∧ q.1 ≤ 80 ∧ LogAt H.length q.2.2.2 (H.length + 1) H.length q.2.2.1 q.2.1 ∧ HInv q.2.1 ∧ q.2.1.l.length ≤ q.1 ∧ q.2.1.now ≤ q.1 ∧ H.length ≤ q.2.2.2.length ∧ Sl 4 q.2.2.2 s (l.flatMap ActD.cells)) (fun q => l.length - q.1)
    (0, { l := [], op := [], now := 0 }, none, H ++ [.map [], .row false 0 [.slice none 0 0, .map (some H.length), i64 0]]) (by simp) rfl ⟨by simp, by simp, LogAt.new H, HInv.zero, by simp, by simp, by simp, hs.app _⟩ ?_
  have hu := Sl.under hs
  rintro ⟨i, v, a, K⟩ ⟨h1, h2, hL, hI, h3, h4, h5, h6⟩
  simp only at h1 h2 hL hI h3 h4 h5 h6 ⊢
  have hend : i = l.length ∨ i = 80 → True := fun _ => trivial
  by_cases hi : i < l.length ∧ i < 80
  · have k1 : (i : Int) < l.length := by omega
    have k2 : (i : Int) < 80 := by omega
    have k3 : 0 ≤ (i : Int) := by omega
    have hw : IntKind.i64.wrap ((i : Int) + 1) = ((i + 1 : Nat) : Int) := by rw [wrap_i64] <;> omega
    have hc : l[i]? = some (l[i]'hi.1) := List.getElem?_eq_getElem _
    generalize l[i]'hi.1 = c at hc
    obtain ⟨b1, o1, rfl, hb1, hg1⟩ := h6.rows (f := ActD.cells) ActD.len (by omega) (by omega)
    have g1 := hg1 [] i c hc
    simp only [List.append_nil, ActD.cells] at g1
    have hL2 := hL.app [.row false 0 c.cells]
    have h62 := h6.app [.row false 0 c.cells]
    simp only [ActD.cells] at hL2 h62
    have hn0 := hI.n0
    have next : ∀ v' a' K', HInv v' → v'.l.length ≤ v.l.length + 1 → v'.now ≤ v.now + 1 → LogAt H.length K' (H.length + 1) H.length a' v' → Keeps (H.length + 1) H.length a a' (K ++ [.row false 0 c.cells]) K' →
        i + 1 ≤ l.length ∧ i + 1 ≤ 80 ∧ LogAt H.length K' (H.length + 1) H.length a' v' ∧ HInv v' ∧ v'.l.length ≤ i + 1 ∧ v'.now ≤ ((i + 1 : Nat) : Int) ∧ H.length ≤ K'.length ∧ Sl 4 K' (some ⟨b1, o1, none⟩) (l.flatMap ActD.cells) := by
      intro v' a' K' q1 q2 q3 q4 q5
      refine ⟨by omega, by omega, q4, q1, by omega, by omega, ?_, Sl.keeps (h6.app _) hu (by omega) (Nat.le_refl _) hL.na q5⟩
      have := q5.1; simp at this; omega
    by_cases hk0 : c.kind = 0
    · have e0 : (c.kind == 0) = true := by simpa using hk0
      simp -dsimp only [go_sem, Nat.reduceEqDiff, Nat.reduceAdd, Nat.reduceSub, Nat.reduceMul, Nat.reduceLeDiff, Nat.reduceLT, Nat.reduceBEq, Int.reduceLT, Int.reduceLE, Int.reduceGT, Int.reduceGE, Int.reduceEq, Int.reduceNe, Int.reduceBEq, Int.reduceBNe, Int.reduceAdd, Int.reduceSub, Int.reduceMul, Int.reduceToNat, Int.reduceNeg, ↓reduceIte, ↓reduceDIte, k1, k2, k3, hw, g1, e0]
      refine CT_of (begin_ev (Nat.le_refl _) (by simp; omega) hL2 (by omega) (by omega)) ?_
      rintro _ K' ⟨a', rfl, z1, z2⟩
      simp -dsimp only [go_sem, Nat.reduceEqDiff, Nat.reduceAdd, Nat.reduceSub, Nat.reduceMul, Nat.reduceLeDiff, Nat.reduceLT, Nat.reduceBEq, Int.reduceLT, Int.reduceLE, Int.reduceGT, Int.reduceGE, Int.reduceEq, Int.reduceNe, Int.reduceBEq, Int.reduceBNe, Int.reduceAdd, Int.reduceSub, Int.reduceMul, Int.reduceToNat, Int.reduceNeg, ↓reduceIte, ↓reduceDIte, k1, k2, k3, hw, g1, e0]
      have bs := begin_small v c.n c.what c.arg
      exact ⟨(i + 1, (v.begin c.n c.what c.arg).1, a', K'), rfl, rfl, next _ a' K' (hI.begin _ _ _) bs.1 bs.2 z1 z2, by dsimp only; omega⟩
    · have e0 : (c.kind == 0) = false := by simpa using hk0
      by_cases hk1 : c.kind = 1
      · have e1 : (c.kind == 1) = true := by simpa using hk1
        simp -dsimp only [go_sem, Nat.reduceEqDiff, Nat.reduceAdd, Nat.reduceSub, Nat.reduceMul, Nat.reduceLeDiff, Nat.reduceLT, Nat.reduceBEq, Int.reduceLT, Int.reduceLE, Int.reduceGT, Int.reduceGE, Int.reduceEq, Int.reduceNe, Int.reduceBEq, Int.reduceBNe, Int.reduceAdd, Int.reduceSub, Int.reduceMul, Int.reduceToNat, Int.reduceNeg, ↓reduceIte, ↓reduceDIte, k1, k2, k3, hw, g1, e0, e1]
        refine CT_of (fin_ev (Nat.le_refl _) hL2 (by omega) (by omega)) ?_
        rintro _ K' ⟨rfl, z1, z2⟩
        simp -dsimp only [go_sem, Nat.reduceEqDiff, Nat.reduceAdd, Nat.reduceSub, Nat.reduceMul, Nat.reduceLeDiff, Nat.reduceLT, Nat.reduceBEq, Int.reduceLT, Int.reduceLE, Int.reduceGT, Int.reduceGE, Int.reduceEq, Int.reduceNe, Int.reduceBEq, Int.reduceBNe, Int.reduceAdd, Int.reduceSub, Int.reduceMul, Int.reduceToNat, Int.reduceNeg, ↓reduceIte, ↓reduceDIte, k1, k2, k3, hw, g1, e0]
        have bs := fin_small v c.n c.what c.arg
        exact ⟨(i + 1, (v.fin c.n c.what c.arg).1, a, K'), rfl, rfl, next _ a K' (hI.fin _ _ _) bs.1 bs.2 z1 z2, by dsimp only; omega⟩
      · have e1 : (c.kind == 1) = false := by simpa using hk1
        simp -dsimp only [go_sem, Nat.reduceEqDiff, Nat.reduceAdd, Nat.reduceSub, Nat.reduceMul, Nat.reduceLeDiff, Nat.reduceLT, Nat.reduceBEq, Int.reduceLT, Int.reduceLE, Int.reduceGT, Int.reduceGE, Int.reduceEq, Int.reduceNe, Int.reduceBEq, Int.reduceBNe, Int.reduceAdd, Int.reduceSub, Int.reduceMul, Int.reduceToNat, Int.reduceNeg, ↓reduceIte, ↓reduceDIte, k1, k2, k3, hw, g1, e0, e1]
        refine CT_heap (step_ev hL2 (by omega)) fun _ => ?_
        simp -dsimp only [go_sem, Nat.reduceEqDiff, Nat.reduceAdd, Nat.reduceSub, Nat.reduceMul, Nat.reduceLeDiff, Nat.reduceLT, Nat.reduceBEq, Int.reduceLT, Int.reduceLE, Int.reduceGT, Int.reduceGE, Int.reduceEq, Int.reduceNe, Int.reduceBEq, Int.reduceBNe, Int.reduceAdd, Int.reduceSub, Int.reduceMul, Int.reduceToNat, Int.reduceNeg, ↓reduceIte, ↓reduceDIte, k1, k2, k3, hw, g1, e0]
        exact ⟨(i + 1, { v with now := v.now + 1 }, a, _), rfl, rfl, next _ a _ hI.step (by simp) (by simp) (hL2.step _) (Keeps.step _), by dsimp only; omega⟩
  · have rc := hI.right (by omega)
    have hlen : v.l.length ≤ 80 := by omega
    have two : (¬ i < l.length) ∨ (i < l.length ∧ ¬ i < 80) := by omega
    rcases two with q | q
    · have k1 : ¬ (i : Int) < l.length := by omega
      simp -dsimp only [go_sem, Nat.reduceEqDiff, Nat.reduceAdd, Nat.reduceSub, Nat.reduceMul, Nat.reduceLeDiff, Nat.reduceLT, Nat.reduceBEq, Int.reduceLT, Int.reduceLE, Int.reduceGT, Int.reduceGE, Int.reduceEq, Int.reduceNe, Int.reduceBEq, Int.reduceBNe, Int.reduceAdd, Int.reduceSub, Int.reduceMul, Int.reduceToNat, Int.reduceNeg, ↓reduceIte, ↓reduceDIte, k1]
      refine CT_of (calls_ev h5 hL (by omega)) ?_
      rintro _ _ ⟨a2, t, rfl, rfl, g⟩
      simp -dsimp only [go_sem, Nat.reduceEqDiff, Nat.reduceAdd, Nat.reduceSub, Nat.reduceMul, Nat.reduceLeDiff, Nat.reduceLT, Nat.reduceBEq, Int.reduceLT, Int.reduceLE, Int.reduceGT, Int.reduceGE, Int.reduceEq, Int.reduceNe, Int.reduceBEq, Int.reduceBNe, Int.reduceAdd, Int.reduceSub, Int.reduceMul, Int.reduceToNat, Int.reduceNeg, ↓reduceIte, ↓reduceDIte]
      refine CT_val (right_ev g) ?_
      rw [rc]
      simp -dsimp only [go_sem, Nat.reduceEqDiff, Nat.reduceAdd, Nat.reduceSub, Nat.reduceMul, Nat.reduceLeDiff, Nat.reduceLT, Nat.reduceBEq, Int.reduceLT, Int.reduceLE, Int.reduceGT, Int.reduceGE, Int.reduceEq, Int.reduceNe, Int.reduceBEq, Int.reduceBNe, Int.reduceAdd, Int.reduceSub, Int.reduceMul, Int.reduceToNat, Int.reduceNeg, ↓reduceIte, ↓reduceDIte]
      refine LT_of (fun q : Nat => [(6, .slice a2 v.l.length v.l.length), (7, .map (some (K.length + t.length))), (8, i64 q)]) (fun q => K ++ (t ++ [.map (ents Value.bool (metOf (v.l.take q)))])) (fun q => q ≤ v.l.length) (fun q => v.l.length - q) 0 (by simp) (by simp [metOf, ents]) (by omega) ?_
      intro j hj
      by_cases hjl : j < v.l.length
      · have m1 : (j : Int) < v.l.length := by omega
        have m3 : 0 ≤ (j : Int) := by omega
        have hw : IntKind.i64.wrap ((j : Int) + 1) = ((j + 1 : Nat) : Int) := by rw [wrap_i64] <;> omega
        have hc : v.l[j]? = some (v.l[j]'hjl) := List.getElem?_eq_getElem _
        generalize v.l[j]'hjl = c at hc
        obtain ⟨b1, o1, rfl, hb1, hg1, hg2⟩ := g.rowsAt (f := CallD.cells) CallD.len (by omega) (by omega)
        have r0 := fun t => hg2 t j c 0 hc (by omega)
        have r3 := fun t => hg2 t j c 3 hc (by omega)
        have r4 := fun t => hg2 t j c 4 hc (by omega)
        have r5 := fun t => hg2 t j c 5 hc (by omega)
        have rr := fun t => hg1 t j c hc
        simp only [List.append_assoc, CallD.cells, List.getElem?_cons_zero, List.getElem?_cons_succ, Nat.add_zero] at r0 r3 r4 r5 rr
        have ff := hI.fine j c hc
        have hKt : H.length ≤ K.length + t.length := by omega
        have lf1 := lfind_ents Value.bool c.fr (metOf (v.l.take j))
        rw [met_fr hI hc] at lf1
        have lf2 := lfind_ents Value.bool c.to (metOf (v.l.take j))
        have lf3 := lfind_ents Value.bool c.to (metOf (v.l.take j) ++ [(c.fr, true)])
        have mc := met_snoc hc
        simp only [Option.map_none] at lf1
        have inner : ∀ (M : List (Int × Bool)), M = metOf (v.l.take (j + 1)) → True := fun _ _ => trivial
        cases hd : c.dn
        · rw [hd] at r5 mc
          simp only [Bool.false_eq_true, if_false] at mc
          simp -dsimp only [go_sem, Nat.reduceEqDiff, Nat.reduceAdd, Nat.reduceSub, Nat.reduceMul, Nat.reduceLeDiff, Nat.reduceLT, Nat.reduceBEq, Int.reduceLT, Int.reduceLE, Int.reduceGT, Int.reduceGE, Int.reduceEq, Int.reduceNe, Int.reduceBEq, Int.reduceBNe, Int.reduceAdd, Int.reduceSub, Int.reduceMul, Int.reduceToNat, Int.reduceNeg, ↓reduceIte, ↓reduceDIte, m1, m3, r0, r3, r4, r5, lf1, hw, Option.getD_none, hKt]
          refine LT_of (fun q : Nat => [(6, .slice (some ⟨b1, o1, none⟩) v.l.length v.l.length), (7, .map (some (K.length + t.length))), (8, i64 j), (9, i64 q)]) (fun _ => K ++ (t ++ [.map (ents Value.bool (metOf (v.l.take (j + 1))))])) (fun q => q ≤ j) (fun q => j - q) 0 (by simp) (by rw [mc]; simp [ents]) (by omega) ?_
          intro k hk
          by_cases hkj : k < j
          · have p1 : (k : Int) < j := by omega
            have p2 : (k : Int) < v.l.length := by omega
            have p3 : 0 ≤ (k : Int) := by omega
            have hw2 : IntKind.i64.wrap ((k : Int) + 1) = ((k + 1 : Nat) : Int) := by rw [wrap_i64] <;> omega
            have ho : v.l[k]? = some (v.l[k]'(by omega)) := List.getElem?_eq_getElem _
            generalize v.l[k]'(by omega) = o at ho
            have s0 := fun t => hg2 t k o 0 ho (by omega)
            have ss := fun t => hg1 t k o ho
            simp only [List.append_assoc, CallD.cells, List.getElem?_cons_zero, List.getElem?_cons_succ, Nat.add_zero] at s0 ss
            by_cases hth : o.th = c.th
            · have e1 : (o.th == c.th) = true := by simpa using hth
              have hth3 := hI.thr k j o c hkj ho hc hth
              have hah : aheadF o c = true := by simp [aheadF, hth3]
              simp -dsimp only [go_sem, Nat.reduceEqDiff, Nat.reduceAdd, Nat.reduceSub, Nat.reduceMul, Nat.reduceLeDiff, Nat.reduceLT, Nat.reduceBEq, Int.reduceLT, Int.reduceLE, Int.reduceGT, Int.reduceGE, Int.reduceEq, Int.reduceNe, Int.reduceBEq, Int.reduceBNe, Int.reduceAdd, Int.reduceSub, Int.reduceMul, Int.reduceToNat, Int.reduceNeg, ↓reduceIte, ↓reduceDIte, p1, p2, p3, m1, m3, r0, rr, s0, ss, e1]
              refine CT_val ahead_ev ?_
              rw [hah]
              simp -dsimp only [go_sem, Nat.reduceEqDiff, Nat.reduceAdd, Nat.reduceSub, Nat.reduceMul, Nat.reduceLeDiff, Nat.reduceLT, Nat.reduceBEq, Int.reduceLT, Int.reduceLE, Int.reduceGT, Int.reduceGE, Int.reduceEq, Int.reduceNe, Int.reduceBEq, Int.reduceBNe, Int.reduceAdd, Int.reduceSub, Int.reduceMul, Int.reduceToNat, Int.reduceNeg, ↓reduceIte, ↓reduceDIte, hw2]
              exact ⟨k + 1, rfl, by omega, by omega⟩
            · have e1 : (o.th == c.th) = false := by simpa using hth
              simp -dsimp only [go_sem, Nat.reduceEqDiff, Nat.reduceAdd, Nat.reduceSub, Nat.reduceMul, Nat.reduceLeDiff, Nat.reduceLT, Nat.reduceBEq, Int.reduceLT, Int.reduceLE, Int.reduceGT, Int.reduceGE, Int.reduceEq, Int.reduceNe, Int.reduceBEq, Int.reduceBNe, Int.reduceAdd, Int.reduceSub, Int.reduceMul, Int.reduceToNat, Int.reduceNeg, ↓reduceIte, ↓reduceDIte, p1, p2, p3, m1, m3, r0, rr, s0, ss, e1, hw2]
              exact ⟨k + 1, rfl, by omega, by omega⟩
          · have p1 : ¬ (k : Int) < j := by omega
            simp -dsimp only [go_sem, Nat.reduceEqDiff, Nat.reduceAdd, Nat.reduceSub, Nat.reduceMul, Nat.reduceLeDiff, Nat.reduceLT, Nat.reduceBEq, Int.reduceLT, Int.reduceLE, Int.reduceGT, Int.reduceGE, Int.reduceEq, Int.reduceNe, Int.reduceBEq, Int.reduceBNe, Int.reduceAdd, Int.reduceSub, Int.reduceMul, Int.reduceToNat, Int.reduceNeg, ↓reduceIte, ↓reduceDIte, p1, hw]
            exact ⟨j + 1, rfl, rfl, by omega, by omega⟩
        · rw [hd] at r5 mc
          have hne : c.to ≠ c.fr := by have := (ff.d hd).1; omega
          have hne1 : (c.to == c.fr) = false := by simpa using hne
          rw [met_to hI hc hd] at lf2
          rw [mfind_none.2 (by
            intro q hq
            rcases List.mem_append.1 hq with hq | hq
            · exact mfind_none.1 (met_to hI hc hd) q hq
            · simp only [List.mem_singleton] at hq; rw [hq]; exact hne.symm)] at lf3
          simp only [Option.map_none, ents, List.map_append, List.map_cons, List.map_nil] at lf2 lf3
          simp only [if_true] at mc
          simp -dsimp only [go_sem, Nat.reduceEqDiff, Nat.reduceAdd, Nat.reduceSub, Nat.reduceMul, Nat.reduceLeDiff, Nat.reduceLT, Nat.reduceBEq, Int.reduceLT, Int.reduceLE, Int.reduceGT, Int.reduceGE, Int.reduceEq, Int.reduceNe, Int.reduceBEq, Int.reduceBNe, Int.reduceAdd, Int.reduceSub, Int.reduceMul, Int.reduceToNat, Int.reduceNeg, ↓reduceIte, ↓reduceDIte, m1, m3, r0, r3, r4, r5, lf1, lf2, lf3, hw, hne1, Option.getD_none, hKt]
          refine LT_of (fun q : Nat => [(6, .slice (some ⟨b1, o1, none⟩) v.l.length v.l.length), (7, .map (some (K.length + t.length))), (8, i64 j), (9, i64 q)]) (fun _ => K ++ (t ++ [.map (ents Value.bool (metOf (v.l.take (j + 1))))])) (fun q => q ≤ j) (fun q => j - q) 0 (by simp) (by rw [mc]; simp [ents]) (by omega) ?_
          intro k hk
          by_cases hkj : k < j
          · have p1 : (k : Int) < j := by omega
            have p2 : (k : Int) < v.l.length := by omega
            have p3 : 0 ≤ (k : Int) := by omega
            have hw2 : IntKind.i64.wrap ((k : Int) + 1) = ((k + 1 : Nat) : Int) := by rw [wrap_i64] <;> omega
            have ho : v.l[k]? = some (v.l[k]'(by omega)) := List.getElem?_eq_getElem _
            generalize v.l[k]'(by omega) = o at ho
            have s0 := fun t => hg2 t k o 0 ho (by omega)
            have ss := fun t => hg1 t k o ho
            simp only [List.append_assoc, CallD.cells, List.getElem?_cons_zero, List.getElem?_cons_succ, Nat.add_zero] at s0 ss
            by_cases hth : o.th = c.th
            · have e1 : (o.th == c.th) = true := by simpa using hth
              have hth3 := hI.thr k j o c hkj ho hc hth
              have hah : aheadF o c = true := by simp [aheadF, hth3]
              simp -dsimp only [go_sem, Nat.reduceEqDiff, Nat.reduceAdd, Nat.reduceSub, Nat.reduceMul, Nat.reduceLeDiff, Nat.reduceLT, Nat.reduceBEq, Int.reduceLT, Int.reduceLE, Int.reduceGT, Int.reduceGE, Int.reduceEq, Int.reduceNe, Int.reduceBEq, Int.reduceBNe, Int.reduceAdd, Int.reduceSub, Int.reduceMul, Int.reduceToNat, Int.reduceNeg, ↓reduceIte, ↓reduceDIte, p1, p2, p3, m1, m3, r0, rr, s0, ss, e1]
              refine CT_val ahead_ev ?_
              rw [hah]
              simp -dsimp only [go_sem, Nat.reduceEqDiff, Nat.reduceAdd, Nat.reduceSub, Nat.reduceMul, Nat.reduceLeDiff, Nat.reduceLT, Nat.reduceBEq, Int.reduceLT, Int.reduceLE, Int.reduceGT, Int.reduceGE, Int.reduceEq, Int.reduceNe, Int.reduceBEq, Int.reduceBNe, Int.reduceAdd, Int.reduceSub, Int.reduceMul, Int.reduceToNat, Int.reduceNeg, ↓reduceIte, ↓reduceDIte, hw2]
              exact ⟨k + 1, rfl, by omega, by omega⟩
            · have e1 : (o.th == c.th) = false := by simpa using hth
              simp -dsimp only [go_sem, Nat.reduceEqDiff, Nat.reduceAdd, Nat.reduceSub, Nat.reduceMul, Nat.reduceLeDiff, Nat.reduceLT, Nat.reduceBEq, Int.reduceLT, Int.reduceLE, Int.reduceGT, Int.reduceGE, Int.reduceEq, Int.reduceNe, Int.reduceBEq, Int.reduceBNe, Int.reduceAdd, Int.reduceSub, Int.reduceMul, Int.reduceToNat, Int.reduceNeg, ↓reduceIte, ↓reduceDIte, p1, p2, p3, m1, m3, r0, rr, s0, ss, e1, hw2]
              exact ⟨k + 1, rfl, by omega, by omega⟩
          · have p1 : ¬ (k : Int) < j := by omega
            simp -dsimp only [go_sem, Nat.reduceEqDiff, Nat.reduceAdd, Nat.reduceSub, Nat.reduceMul, Nat.reduceLeDiff, Nat.reduceLT, Nat.reduceBEq, Int.reduceLT, Int.reduceLE, Int.reduceGT, Int.reduceGE, Int.reduceEq, Int.reduceNe, Int.reduceBEq, Int.reduceBNe, Int.reduceAdd, Int.reduceSub, Int.reduceMul, Int.reduceToNat, Int.reduceNeg, ↓reduceIte, ↓reduceDIte, p1, hw]
            exact ⟨j + 1, rfl, rfl, by omega, by omega⟩
      · have m1 : ¬ (j : Int) < v.l.length := by omega
        simp -dsimp only [go_sem, Nat.reduceEqDiff, Nat.reduceAdd, Nat.reduceSub, Nat.reduceMul, Nat.reduceLeDiff, Nat.reduceLT, Nat.reduceBEq, Int.reduceLT, Int.reduceLE, Int.reduceGT, Int.reduceGE, Int.reduceEq, Int.reduceNe, Int.reduceBEq, Int.reduceBNe, Int.reduceAdd, Int.reduceSub, Int.reduceMul, Int.reduceToNat, Int.reduceNeg, ↓reduceIte, ↓reduceDIte, m1]
        refine CT_val (one_ev _ _) ?_
        simp -dsimp only [go_sem, Nat.reduceEqDiff, Nat.reduceAdd, Nat.reduceSub, Nat.reduceMul, Nat.reduceLeDiff, Nat.reduceLT, Nat.reduceBEq, Int.reduceLT, Int.reduceLE, Int.reduceGT, Int.reduceGE, Int.reduceEq, Int.reduceNe, Int.reduceBEq, Int.reduceBNe, Int.reduceAdd, Int.reduceSub, Int.reduceMul, Int.reduceToNat, Int.reduceNeg, ↓reduceIte, ↓reduceDIte]
    · have k1 : (i : Int) < l.length := by omega
      have k2 : ¬ (i : Int) < 80 := by omega
      simp -dsimp only [go_sem, Nat.reduceEqDiff, Nat.reduceAdd, Nat.reduceSub, Nat.reduceMul, Nat.reduceLeDiff, Nat.reduceLT, Nat.reduceBEq, Int.reduceLT, Int.reduceLE, Int.reduceGT, Int.reduceGE, Int.reduceEq, Int.reduceNe, Int.reduceBEq, Int.reduceBNe, Int.reduceAdd, Int.reduceSub, Int.reduceMul, Int.reduceToNat, Int.reduceNeg, ↓reduceIte, ↓reduceDIte, k1, k2]
      refine CT_of (calls_ev h5 hL (by omega)) ?_
      rintro _ _ ⟨a2, t, rfl, rfl, g⟩
      simp -dsimp only [go_sem, Nat.reduceEqDiff, Nat.reduceAdd, Nat.reduceSub, Nat.reduceMul, Nat.reduceLeDiff, Nat.reduceLT, Nat.reduceBEq, Int.reduceLT, Int.reduceLE, Int.reduceGT, Int.reduceGE, Int.reduceEq, Int.reduceNe, Int.reduceBEq, Int.reduceBNe, Int.reduceAdd, Int.reduceSub, Int.reduceMul, Int.reduceToNat, Int.reduceNeg, ↓reduceIte, ↓reduceDIte]
      refine CT_val (right_ev g) ?_
      rw [rc]
      simp -dsimp only [go_sem, Nat.reduceEqDiff, Nat.reduceAdd, Nat.reduceSub, Nat.reduceMul, Nat.reduceLeDiff, Nat.reduceLT, Nat.reduceBEq, Int.reduceLT, Int.reduceLE, Int.reduceGT, Int.reduceGE, Int.reduceEq, Int.reduceNe, Int.reduceBEq, Int.reduceBNe, Int.reduceAdd, Int.reduceSub, Int.reduceMul, Int.reduceToNat, Int.reduceNeg, ↓reduceIte, ↓reduceDIte]
      refine LT_of (fun q : Nat => [(6, .slice a2 v.l.length v.l.length), (7, .map (some (K.length + t.length))), (8, i64 q)]) (fun q => K ++ (t ++ [.map (ents Value.bool (metOf (v.l.take q)))])) (fun q => q ≤ v.l.length) (fun q => v.l.length - q) 0 (by simp) (by simp [metOf, ents]) (by omega) ?_
      intro j hj
      by_cases hjl : j < v.l.length
      · have m1 : (j : Int) < v.l.length := by omega
        have m3 : 0 ≤ (j : Int) := by omega
        have hw : IntKind.i64.wrap ((j : Int) + 1) = ((j + 1 : Nat) : Int) := by rw [wrap_i64] <;> omega
        have hc : v.l[j]? = some (v.l[j]'hjl) := List.getElem?_eq_getElem _
        generalize v.l[j]'hjl = c at hc
        obtain ⟨b1, o1, rfl, hb1, hg1, hg2⟩ := g.rowsAt (f := CallD.cells) CallD.len (by omega) (by omega)
        have r0 := fun t => hg2 t j c 0 hc (by omega)
        have r3 := fun t => hg2 t j c 3 hc (by omega)
        have r4 := fun t => hg2 t j c 4 hc (by omega)
        have r5 := fun t => hg2 t j c 5 hc (by omega)
        have rr := fun t => hg1 t j c hc
        simp only [List.append_assoc, CallD.cells, List.getElem?_cons_zero, List.getElem?_cons_succ, Nat.add_zero] at r0 r3 r4 r5 rr
        have ff := hI.fine j c hc
        have hKt : H.length ≤ K.length + t.length := by omega
        have lf1 := lfind_ents Value.bool c.fr (metOf (v.l.take j))
        rw [met_fr hI hc] at lf1
        have lf2 := lfind_ents Value.bool c.to (metOf (v.l.take j))
        have lf3 := lfind_ents Value.bool c.to (metOf (v.l.take j) ++ [(c.fr, true)])
        have mc := met_snoc hc
        simp only [Option.map_none] at lf1
        have inner : ∀ (M : List (Int × Bool)), M = metOf (v.l.take (j + 1)) → True := fun _ _ => trivial
        cases hd : c.dn
        · rw [hd] at r5 mc
          simp only [Bool.false_eq_true, if_false] at mc
          simp -dsimp only [go_sem, Nat.reduceEqDiff, Nat.reduceAdd, Nat.reduceSub, Nat.reduceMul, Nat.reduceLeDiff, Nat.reduceLT, Nat.reduceBEq, Int.reduceLT, Int.reduceLE, Int.reduceGT, Int.reduceGE, Int.reduceEq, Int.reduceNe, Int.reduceBEq, Int.reduceBNe, Int.reduceAdd, Int.reduceSub, Int.reduceMul, Int.reduceToNat, Int.reduceNeg, ↓reduceIte, ↓reduceDIte, m1, m3, r0, r3, r4, r5, lf1, hw, Option.getD_none, hKt]
          refine LT_of (fun q : Nat => [(6, .slice (some ⟨b1, o1, none⟩) v.l.length v.l.length), (7, .map (some (K.length + t.length))), (8, i64 j), (9, i64 q)]) (fun _ => K ++ (t ++ [.map (ents Value.bool (metOf (v.l.take (j + 1))))])) (fun q => q ≤ j) (fun q => j - q) 0 (by simp) (by rw [mc]; simp [ents]) (by omega) ?_
          intro k hk
          by_cases hkj : k < j
          · have p1 : (k : Int) < j := by omega
            have p2 : (k : Int) < v.l.length := by omega
            have p3 : 0 ≤ (k : Int) := by omega
            have hw2 : IntKind.i64.wrap ((k : Int) + 1) = ((k + 1 : Nat) : Int) := by rw [wrap_i64] <;> omega
            have ho : v.l[k]? = some (v.l[k]'(by omega)) := List.getElem?_eq_getElem _
            generalize v.l[k]'(by omega) = o at ho
            have s0 := fun t => hg2 t k o 0 ho (by omega)
            have ss := fun t => hg1 t k o ho
            simp only [List.append_assoc, CallD.cells, List.getElem?_cons_zero, List.getElem?_cons_succ, Nat.add_zero] at s0 ss
            by_cases hth : o.th = c.th
            · have e1 : (o.th == c.th) = true := by simpa using hth
              have hth3 := hI.thr k j o c hkj ho hc hth
              have hah : aheadF o c = true := by simp [aheadF, hth3]
              simp -dsimp only [go_sem, Nat.reduceEqDiff, Nat.reduceAdd, Nat.reduceSub, Nat.reduceMul, Nat.reduceLeDiff, Nat.reduceLT, Nat.reduceBEq, Int.reduceLT, Int.reduceLE, Int.reduceGT, Int.reduceGE, Int.reduceEq, Int.reduceNe, Int.reduceBEq, Int.reduceBNe, Int.reduceAdd, Int.reduceSub, Int.reduceMul, Int.reduceToNat, Int.reduceNeg, ↓reduceIte, ↓reduceDIte, p1, p2, p3, m1, m3, r0, rr, s0, ss, e1]
              refine CT_val ahead_ev ?_
              rw [hah]
              simp -dsimp only [go_sem, Nat.reduceEqDiff, Nat.reduceAdd, Nat.reduceSub, Nat.reduceMul, Nat.reduceLeDiff, Nat.reduceLT, Nat.reduceBEq, Int.reduceLT, Int.reduceLE, Int.reduceGT, Int.reduceGE, Int.reduceEq, Int.reduceNe, Int.reduceBEq, Int.reduceBNe, Int.reduceAdd, Int.reduceSub, Int.reduceMul, Int.reduceToNat, Int.reduceNeg, ↓reduceIte, ↓reduceDIte, hw2]
              exact ⟨k + 1, rfl, by omega, by omega⟩
            · have e1 : (o.th == c.th) = false := by simpa using hth
              simp -dsimp only [go_sem, Nat.reduceEqDiff, Nat.reduceAdd, Nat.reduceSub, Nat.reduceMul, Nat.reduceLeDiff, Nat.reduceLT, Nat.reduceBEq, Int.reduceLT, Int.reduceLE, Int.reduceGT, Int.reduceGE, Int.reduceEq, Int.reduceNe, Int.reduceBEq, Int.reduceBNe, Int.reduceAdd, Int.reduceSub, Int.reduceMul, Int.reduceToNat, Int.reduceNeg, ↓reduceIte, ↓reduceDIte, p1, p2, p3, m1, m3, r0, rr, s0, ss, e1, hw2]
              exact ⟨k + 1, rfl, by omega, by omega⟩
          · have p1 : ¬ (k : Int) < j := by omega
            simp -dsimp only [go_sem, Nat.reduceEqDiff, Nat.reduceAdd, Nat.reduceSub, Nat.reduceMul, Nat.reduceLeDiff, Nat.reduceLT, Nat.reduceBEq, Int.reduceLT, Int.reduceLE, Int.reduceGT, Int.reduceGE, Int.reduceEq, Int.reduceNe, Int.reduceBEq, Int.reduceBNe, Int.reduceAdd, Int.reduceSub, Int.reduceMul, Int.reduceToNat, Int.reduceNeg, ↓reduceIte, ↓reduceDIte, p1, hw]
            exact ⟨j + 1, rfl, rfl, by omega, by omega⟩
        · rw [hd] at r5 mc
          have hne : c.to ≠ c.fr := by have := (ff.d hd).1; omega
          have hne1 : (c.to == c.fr) = false := by simpa using hne
          rw [met_to hI hc hd] at lf2
          rw [mfind_none.2 (by
            intro q hq
            rcases List.mem_append.1 hq with hq | hq
            · exact mfind_none.1 (met_to hI hc hd) q hq
            · simp only [List.mem_singleton] at hq; rw [hq]; exact hne.symm)] at lf3
          simp only [Option.map_none, ents, List.map_append, List.map_cons, List.map_nil] at lf2 lf3
          simp only [if_true] at mc
          simp -dsimp only [go_sem, Nat.reduceEqDiff, Nat.reduceAdd, Nat.reduceSub, Nat.reduceMul, Nat.reduceLeDiff, Nat.reduceLT, Nat.reduceBEq, Int.reduceLT, Int.reduceLE, Int.reduceGT, Int.reduceGE, Int.reduceEq, Int.reduceNe, Int.reduceBEq, Int.reduceBNe, Int.reduceAdd, Int.reduceSub, Int.reduceMul, Int.reduceToNat, Int.reduceNeg, ↓reduceIte, ↓reduceDIte, m1, m3, r0, r3, r4, r5, lf1, lf2, lf3, hw, hne1, Option.getD_none, hKt]
          refine LT_of (fun q : Nat => [(6, .slice (some ⟨b1, o1, none⟩) v.l.length v.l.length), (7, .map (some (K.length + t.length))), (8, i64 j), (9, i64 q)]) (fun _ => K ++ (t ++ [.map (ents Value.bool (metOf (v.l.take (j + 1))))])) (fun q => q ≤ j) (fun q => j - q) 0 (by simp) (by rw [mc]; simp [ents]) (by omega) ?_
          intro k hk
          by_cases hkj : k < j
          · have p1 : (k : Int) < j := by omega
            have p2 : (k : Int) < v.l.length := by omega
            have p3 : 0 ≤ (k : Int) := by omega
            have hw2 : IntKind.i64.wrap ((k : Int) + 1) = ((k + 1 : Nat) : Int) := by rw [wrap_i64] <;> omega
            have ho : v.l[k]? = some (v.l[k]'(by omega)) := List.getElem?_eq_getElem _
            generalize v.l[k]'(by omega) = o at ho
            have s0 := fun t => hg2 t k o 0 ho (by omega)
            have ss := fun t => hg1 t k o ho
            simp only [List.append_assoc, CallD.cells, List.getElem?_cons_zero, List.getElem?_cons_succ, Nat.add_zero] at s0 ss
            by_cases hth : o.th = c.th
            · have e1 : (o.th == c.th) = true := by simpa using hth
              have hth3 := hI.thr k j o c hkj ho hc hth
              have hah : aheadF o c = true := by simp [aheadF, hth3]
              simp -dsimp only [go_sem, Nat.reduceEqDiff, Nat.reduceAdd, Nat.reduceSub, Nat.reduceMul, Nat.reduceLeDiff, Nat.reduceLT, Nat.reduceBEq, Int.reduceLT, Int.reduceLE, Int.reduceGT, Int.reduceGE, Int.reduceEq, Int.reduceNe, Int.reduceBEq, Int.reduceBNe, Int.reduceAdd, Int.reduceSub, Int.reduceMul, Int.reduceToNat, Int.reduceNeg, ↓reduceIte, ↓reduceDIte, p1, p2, p3, m1, m3, r0, rr, s0, ss, e1]
              refine CT_val ahead_ev ?_
              rw [hah]
              simp -dsimp only [go_sem, Nat.reduceEqDiff, Nat.reduceAdd, Nat.reduceSub, Nat.reduceMul, Nat.reduceLeDiff, Nat.reduceLT, Nat.reduceBEq, Int.reduceLT, Int.reduceLE, Int.reduceGT, Int.reduceGE, Int.reduceEq, Int.reduceNe, Int.reduceBEq, Int.reduceBNe, Int.reduceAdd, Int.reduceSub, Int.reduceMul, Int.reduceToNat, Int.reduceNeg, ↓reduceIte, ↓reduceDIte, hw2]
              exact ⟨k + 1, rfl, by omega, by omega⟩
            · have e1 : (o.th == c.th) = false := by simpa using hth
              simp -dsimp only [go_sem, Nat.reduceEqDiff, Nat.reduceAdd, Nat.reduceSub, Nat.reduceMul, Nat.reduceLeDiff, Nat.reduceLT, Nat.reduceBEq, Int.reduceLT, Int.reduceLE, Int.reduceGT, Int.reduceGE, Int.reduceEq, Int.reduceNe, Int.reduceBEq, Int.reduceBNe, Int.reduceAdd, Int.reduceSub, Int.reduceMul, Int.reduceToNat, Int.reduceNeg, ↓reduceIte, ↓reduceDIte, p1, p2, p3, m1, m3, r0, rr, s0, ss, e1, hw2]
              exact ⟨k + 1, rfl, by omega, by omega⟩
          · have p1 : ¬ (k : Int) < j := by omega
            simp -dsimp only [go_sem, Nat.reduceEqDiff, Nat.reduceAdd, Nat.reduceSub, Nat.reduceMul, Nat.reduceLeDiff, Nat.reduceLT, Nat.reduceBEq, Int.reduceLT, Int.reduceLE, Int.reduceGT, Int.reduceGE, Int.reduceEq, Int.reduceNe, Int.reduceBEq, Int.reduceBNe, Int.reduceAdd, Int.reduceSub, Int.reduceMul, Int.reduceToNat, Int.reduceNeg, ↓reduceIte, ↓reduceDIte, p1, hw]
            exact ⟨j + 1, rfl, rfl, by omega, by omega⟩
      · have m1 : ¬ (j : Int) < v.l.length := by omega
        simp -dsimp only [go_sem, Nat.reduceEqDiff, Nat.reduceAdd, Nat.reduceSub, Nat.reduceMul, Nat.reduceLeDiff, Nat.reduceLT, Nat.reduceBEq, Int.reduceLT, Int.reduceLE, Int.reduceGT, Int.reduceGE, Int.reduceEq, Int.reduceNe, Int.reduceBEq, Int.reduceBNe, Int.reduceAdd, Int.reduceSub, Int.reduceMul, Int.reduceToNat, Int.reduceNeg, ↓reduceIte, ↓reduceDIte, m1]
        refine CT_val (one_ev _ _) ?_
        simp -dsimp only [go_sem, Nat.reduceEqDiff, Nat.reduceAdd, Nat.reduceSub, Nat.reduceMul, Nat.reduceLeDiff, Nat.reduceLT, Nat.reduceBEq, Int.reduceLT, Int.reduceLE, Int.reduceGT, Int.reduceGE, Int.reduceEq, Int.reduceNe, Int.reduceBEq, Int.reduceBNe, Int.reduceAdd, Int.reduceSub, Int.reduceMul, Int.reduceToNat, Int.reduceNeg, ↓reduceIte, ↓reduceDIte]
