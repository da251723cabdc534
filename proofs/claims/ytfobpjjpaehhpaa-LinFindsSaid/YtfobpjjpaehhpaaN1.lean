/- The document's search, worked out: whole. -/
import Derived.Test.YtfobpjjpaehhpaaN0
namespace Go.Proofs.Ytfobpjjpaehhpaa
open Go Go.LK
set_option linter.unusedSimpArgs false
set_option linter.unusedVariables false
def leftTo (l : List CallD) (u : BitVec 64) : Nat → Bool
  | 0 => false
  | k + 1 => leftTo l u k || match l[k]? with
    | some o => o.dn && !u.getLsbD k
    | none => false
theorem leftTo_iff {l : List CallD} {u : BitVec 64} : ∀ n, n ≤ l.length → (leftTo l u n = false ↔ ∀ k o, k < n → l[k]? = some o → u.getLsbD k = false → o.dn = false)
  | 0, _ => ⟨fun _ k o h => by omega, fun _ => rfl⟩
  | n + 1, hn => by
    have ih := leftTo_iff (l := l) (u := u) n (by omega)
    have hd : l[n]? = some (l[n]'(by omega)) := List.getElem?_eq_getElem _
    generalize l[n]'(by omega) = d at hd
    rw [leftTo, hd, Bool.or_eq_false_iff, ih]
    constructor
    · rintro ⟨h1, h2⟩ k o hk ho hu
      by_cases e : k = n
      · subst e
        rw [hd] at ho; cases ho
        rw [hu] at h2
        simpa using h2
      · exact h1 k o (by omega) ho hu
    · intro h
      refine ⟨fun k o hk => h k o (by omega), ?_⟩
      cases hu : u.getLsbD n
      · simp [h n d (by omega) hd hu]
      · simp
def firstTo (l : List CallD) (u : BitVec 64) (x : Nat) (c : CallD) : Nat → Bool
  | 0 => !u.getLsbD x
  | k + 1 => firstTo l u x c k && match l[k]? with
    | some o => u.getLsbD k || decide (k = x) || !aheadF o c
    | none => true
theorem firstTo_iff {l : List CallD} {u : BitVec 64} {x : Nat} {c : CallD} : ∀ n, n ≤ l.length → (firstTo l u x c n = true ↔ u.getLsbD x = false ∧ ∀ k o, k < n → l[k]? = some o → k ≠ x → u.getLsbD k = false → aheadF o c = false)
  | 0, _ => by
    rw [firstTo]
    constructor
    · exact fun h => ⟨by simpa using h, fun k o h => by omega⟩
    · rintro ⟨h, _⟩; simp [h]
  | n + 1, hn => by
    have ih := firstTo_iff (l := l) (u := u) (x := x) (c := c) n (by omega)
    have hd : l[n]? = some (l[n]'(by omega)) := List.getElem?_eq_getElem _
    generalize l[n]'(by omega) = d at hd
    rw [firstTo, hd, Bool.and_eq_true, ih]
    constructor
    · rintro ⟨⟨h0, h1⟩, h2⟩
      refine ⟨h0, fun k o hk ho hx hu => ?_⟩
      by_cases e : k = n
      · subst e
        rw [hd] at ho; cases ho
        simpa [hu, hx] using h2
      · exact h1 k o (by omega) ho hx hu
    · rintro ⟨h0, h⟩
      refine ⟨⟨h0, fun k o hk => h k o (by omega)⟩, ?_⟩
      cases hu : u.getLsbD n
      · by_cases hx : n = x
        · simp [hx]
        · simp [h n d (by omega) hd hx hu]
      · simp
def OrdRes (H' : LHeap) (o : Option (List Nat)) (v : Value) : Prop :=
  match o with
  | some r => ∃ a', v = .tuple #[.slice a' r.length r.length, .bool true] ∧ Sl 1 H' a' (r.map fun i : Nat => i64 (i : Int))
  | none => v = .tuple #[.slice none 0 0, .bool false]
theorem sl_last {H Z A : LHeap} {b : Nat} {c : List Value} (h : Z = A ++ [.row false 1 c]) (hb : b = H.length + A.length) : Sl 1 (H ++ Z) (some ⟨b, 0, none⟩) c := by
  subst h
  subst hb
  refine Sl.row (ro := false) ?_
  rw [get_app, List.getElem?_append_right (Nat.le_refl _), Nat.sub_self]; rfl
set_option maxHeartbeats 4000000 in
theorem order_ev {cap mode : Int} {al : Option Addr} {l : List CallD} {lim : Nat} (h62 : l.length ≤ 62) (hc : cap ≤ 9223372036854775807) : ∀ (k : Nat) (u : BitVec 64) (s : Queue) (H : LHeap) (ua b : Option Addr),
    leftN l.length u = k → Sl 8 H al (l.flatMap CallD.cells) → Sl 1 H ua (usedC l.length u) → Sl 1 H b (s.map w64) → s.length + k ≤ 100 → lim ≤ H.length →
    callE T 11 lim [.slice al l.length l.length, .slice ua l.length l.length, fifo cap b s.length, i64 mode] H fun v H' => ∃ t, H' = H ++ t ∧ OrdRes (H ++ t) ((prob l (stepM cap l mode)).fnd u s) v := by
  intro k
  induction k using Nat.strongRecOn with
  | ind k ih =>
  intro u s H ua b hk hs hu hb hsl hl
  refine callE_stay rfl (by simp) rfl ?_
  have hfe := (prob l (stepM cap l mode)).fnd_eq (show l.length ≤ 64 by omega) u s
  simp -dsimp only [go_sem, Nat.reduceEqDiff, Nat.reduceAdd, Nat.reduceSub, Nat.reduceMul, Nat.reduceLeDiff, Nat.reduceLT, Nat.reduceBEq, Int.reduceLT, Int.reduceLE, Int.reduceGT, Int.reduceGE, Int.reduceEq, Int.reduceNe, Int.reduceBEq, Int.reduceBNe, Int.reduceAdd, Int.reduceSub, Int.reduceMul, Int.reduceToNat, Int.reduceNeg, ↓reduceIte, ↓reduceDIte]
  refine LT_of (fun i : Nat => [(0, .slice al l.length l.length), (1, .slice ua l.length l.length), (3, i64 mode), (6, ptrF H.length), (10, .bool (leftTo l u i)), (11, i64 i)]) (fun i => H ++ [.row false 0 [i64 cap, .slice b s.length s.length]]) (fun i => i ≤ l.length) (fun i => l.length - i) 0 (by simp [leftTo]) (by simp) (by simp) ?_
  intro i hi
  by_cases hlt : i < l.length
  · have m1 : (i : Int) < l.length := by omega
    have m3 : 0 ≤ (i : Int) := by omega
    have hw : IntKind.i64.wrap ((i : Int) + 1) = ((i + 1 : Nat) : Int) := by rw [wrap_i64] <;> omega
    have hd : l[i]? = some (l[i]'hlt) := List.getElem?_eq_getElem _
    generalize l[i]'hlt = d at hd
    obtain ⟨lb, lo, rfl, hlb1, hlg, hlg2⟩ := hs.rowsAt (f := CallD.cells) CallD.len (by omega) (by omega)
    obtain ⟨ub, uo, rfl, hub1, hug⟩ := hu.all (by rw [usedC_len]; omega)
    have gd := fun t => hlg2 t i d 5 hd (by omega)
    have gu := fun t => hug t i _ (usedC_at hlt)
    simp only [CallD.cells, List.getElem?_cons_succ, List.getElem?_cons_zero] at gd
    have next : leftTo l u (i + 1) = (leftTo l u i || (d.dn && !u.getLsbD i)) := by rw [leftTo, hd]
    cases hq : leftTo l u i
    · rw [hq] at next
      cases hdd : d.dn
      · rw [hdd] at gd next
        simp -dsimp only [go_sem, Nat.reduceEqDiff, Nat.reduceAdd, Nat.reduceSub, Nat.reduceMul, Nat.reduceLeDiff, Nat.reduceLT, Nat.reduceBEq, Int.reduceLT, Int.reduceLE, Int.reduceGT, Int.reduceGE, Int.reduceEq, Int.reduceNe, Int.reduceBEq, Int.reduceBNe, Int.reduceAdd, Int.reduceSub, Int.reduceMul, Int.reduceToNat, Int.reduceNeg, ↓reduceIte, ↓reduceDIte, m1, m3, hw, gd, gu]
        exact ⟨i + 1, by rw [next]; rfl, by omega, by omega⟩
      · rw [hdd] at gd next
        simp -dsimp only [go_sem, Nat.reduceEqDiff, Nat.reduceAdd, Nat.reduceSub, Nat.reduceMul, Nat.reduceLeDiff, Nat.reduceLT, Nat.reduceBEq, Int.reduceLT, Int.reduceLE, Int.reduceGT, Int.reduceGE, Int.reduceEq, Int.reduceNe, Int.reduceBEq, Int.reduceBNe, Int.reduceAdd, Int.reduceSub, Int.reduceMul, Int.reduceToNat, Int.reduceNeg, ↓reduceIte, ↓reduceDIte, m1, m3, hw, gd, gu]
        exact ⟨i + 1, by rw [next]; simp, by omega, by omega⟩
    · rw [hq] at next
      simp -dsimp only [go_sem, Nat.reduceEqDiff, Nat.reduceAdd, Nat.reduceSub, Nat.reduceMul, Nat.reduceLeDiff, Nat.reduceLT, Nat.reduceBEq, Int.reduceLT, Int.reduceLE, Int.reduceGT, Int.reduceGE, Int.reduceEq, Int.reduceNe, Int.reduceBEq, Int.reduceBNe, Int.reduceAdd, Int.reduceSub, Int.reduceMul, Int.reduceToNat, Int.reduceNeg, ↓reduceIte, ↓reduceDIte, m1, m3, hw, gd, gu]
      exact ⟨i + 1, by rw [next]; rfl, by omega, by omega⟩
  · have m1 : ¬ (i : Int) < l.length := by omega
    have hii : i = l.length := by omega
    subst hii
    have hlt := leftTo_iff (l := l) (u := u) l.length (Nat.le_refl _)
    have hds : (prob l (stepM cap l mode)).done &&& ~~~u = 0#64 ↔ ∀ k o, l[k]? = some o → u.getLsbD k = false → o.dn = false := done_sub (by omega)
    cases hq : leftTo l u l.length
    · have hz : (prob l (stepM cap l mode)).done &&& ~~~u = 0#64 := hds.2 fun k o h1 => hlt.1 hq k o (List.getElem?_eq_some_iff.1 h1).1 h1
      rw [if_pos hz] at hfe
      simp -dsimp only [go_sem, Nat.reduceEqDiff, Nat.reduceAdd, Nat.reduceSub, Nat.reduceMul, Nat.reduceLeDiff, Nat.reduceLT, Nat.reduceBEq, Int.reduceLT, Int.reduceLE, Int.reduceGT, Int.reduceGE, Int.reduceEq, Int.reduceNe, Int.reduceBEq, Int.reduceBNe, Int.reduceAdd, Int.reduceSub, Int.reduceMul, Int.reduceToNat, Int.reduceNeg, ↓reduceIte, ↓reduceDIte, m1]
      rw [hfe]
      exact ⟨_, rfl, none, rfl, Sl.nil _ _⟩
    · have hz : ¬ ((prob l (stepM cap l mode)).done &&& ~~~u = 0#64) := fun h => by
        have := hlt.2 fun k o _ h1 => hds.1 h k o h1
        rw [hq] at this; cases this
      rw [if_neg hz] at hfe
      simp -dsimp only [go_sem, Nat.reduceEqDiff, Nat.reduceAdd, Nat.reduceSub, Nat.reduceMul, Nat.reduceLeDiff, Nat.reduceLT, Nat.reduceBEq, Int.reduceLT, Int.reduceLE, Int.reduceGT, Int.reduceGE, Int.reduceEq, Int.reduceNe, Int.reduceBEq, Int.reduceBNe, Int.reduceAdd, Int.reduceSub, Int.reduceMul, Int.reduceToNat, Int.reduceNeg, ↓reduceIte, ↓reduceDIte, m1]
      refine LT_of (fun x : Nat × LHeap => [(0, .slice al l.length l.length), (1, .slice ua l.length l.length), (3, i64 mode), (6, ptrF H.length), (12, i64 x.1)]) (fun x => H ++ (.row false 0 [i64 cap, .slice b s.length s.length] :: x.2)) (fun x => x.1 ≤ l.length ∧ ∀ j, j < x.1 → (prob l (stepM cap l mode)).tryAt (prob l (stepM cap l mode)).fnd u s j = none) (fun x => l.length - x.1) (0, []) (by simp) (by simp) ⟨by simp, fun j h => (by simp at h)⟩ ?_
      rintro ⟨i, t⟩ ⟨hi, htry⟩
      simp only at hi htry ⊢
      by_cases hlti : i < l.length
      · have m1 : (i : Int) < l.length := by omega
        have m3 : 0 ≤ (i : Int) := by omega
        have hw : IntKind.i64.wrap ((i : Int) + 1) = ((i + 1 : Nat) : Int) := by rw [wrap_i64] <;> omega
        have hcx : l[i]? = some (l[i]'hlti) := List.getElem?_eq_getElem _
        generalize l[i]'hlti = c at hcx
        obtain ⟨lb, lo, hlab, hlb1, hlg⟩ := hs.rows (f := CallD.cells) CallD.len (by omega) (by omega)
        subst hlab
        obtain ⟨ub, uo, huab, hub1, hug⟩ := hu.all (by rw [usedC_len]; omega)
        subst huab
        have gc := fun t => hlg t i c hcx
        simp only [CallD.cells] at gc
        have gu := fun t => hug t i _ (usedC_at hlti)
        have hnext : (prob l (stepM cap l mode)).tryAt (prob l (stepM cap l mode)).fnd u s i = none → ∀ j, j < i + 1 → (prob l (stepM cap l mode)).tryAt (prob l (stepM cap l mode)).fnd u s j = none := by
          intro h j hj
          by_cases hji : j < i
          · exact htry j hji
          · obtain rfl : j = i := by omega
            exact h
        have hahx : (prob l (stepM cap l mode)).ah i &&& ~~~u = 0#64 ↔ ∀ k o, l[k]? = some o → k ≠ i → u.getLsbD k = false → aheadF o c = false := ah_sub (by omega) hcx
        simp -dsimp only [go_sem, Nat.reduceEqDiff, Nat.reduceAdd, Nat.reduceSub, Nat.reduceMul, Nat.reduceLeDiff, Nat.reduceLT, Nat.reduceBEq, Int.reduceLT, Int.reduceLE, Int.reduceGT, Int.reduceGE, Int.reduceEq, Int.reduceNe, Int.reduceBEq, Int.reduceBNe, Int.reduceAdd, Int.reduceSub, Int.reduceMul, Int.reduceToNat, Int.reduceNeg, ↓reduceIte, ↓reduceDIte, m1, m3, gu]
        refine LT_of (fun k : Nat => [(0, .slice (some ⟨lb, lo, none⟩) l.length l.length), (1, .slice (some ⟨ub, uo, none⟩) l.length l.length), (3, i64 mode), (6, ptrF H.length), (12, i64 i), (13, .bool (firstTo l u i c k)), (14, i64 k)]) (fun _ => H ++ (.row false 0 [i64 cap, .slice b s.length s.length] :: t)) (fun k => k ≤ l.length) (fun k => l.length - k) 0 (by simp [firstTo]) (by simp) (by simp) ?_
        intro k hk'
        by_cases hkl : k < l.length
        · have p1 : (k : Int) < l.length := by omega
          have p3 : 0 ≤ (k : Int) := by omega
          have pw : IntKind.i64.wrap ((k : Int) + 1) = ((k + 1 : Nat) : Int) := by rw [wrap_i64] <;> omega
          have hd : l[k]? = some (l[k]'hkl) := List.getElem?_eq_getElem _
          generalize l[k]'hkl = d at hd
          have gd := fun t => hlg t k d hd
          simp only [CallD.cells] at gd
          have gv := fun t => hug t k _ (usedC_at hkl)
          have next : firstTo l u i c (k + 1) = (firstTo l u i c k && (u.getLsbD k || decide (k = i) || !aheadF d c)) := by rw [firstTo, hd]
          cases hf : firstTo l u i c k
          · rw [hf] at next
            simp -dsimp only [go_sem, Nat.reduceEqDiff, Nat.reduceAdd, Nat.reduceSub, Nat.reduceMul, Nat.reduceLeDiff, Nat.reduceLT, Nat.reduceBEq, Int.reduceLT, Int.reduceLE, Int.reduceGT, Int.reduceGE, Int.reduceEq, Int.reduceNe, Int.reduceBEq, Int.reduceBNe, Int.reduceAdd, Int.reduceSub, Int.reduceMul, Int.reduceToNat, Int.reduceNeg, ↓reduceIte, ↓reduceDIte, p1, p3, pw]
            exact ⟨k + 1, by rw [next]; rfl, by omega, by omega⟩
          · rw [hf] at next
            cases huk : u.getLsbD k
            · rw [huk] at gv next
              by_cases hki : k = i
              · have e1 : ((k : Int) == (i : Int)) = true := by simp [hki]
                simp -dsimp only [go_sem, Nat.reduceEqDiff, Nat.reduceAdd, Nat.reduceSub, Nat.reduceMul, Nat.reduceLeDiff, Nat.reduceLT, Nat.reduceBEq, Int.reduceLT, Int.reduceLE, Int.reduceGT, Int.reduceGE, Int.reduceEq, Int.reduceNe, Int.reduceBEq, Int.reduceBNe, Int.reduceAdd, Int.reduceSub, Int.reduceMul, Int.reduceToNat, Int.reduceNeg, ↓reduceIte, ↓reduceDIte, p1, p3, pw, gv, e1]
                exact ⟨k + 1, by rw [next]; simp [hki], by omega, by omega⟩
              · have e1 : ((k : Int) == (i : Int)) = false := by simp; omega
                simp -dsimp only [go_sem, Nat.reduceEqDiff, Nat.reduceAdd, Nat.reduceSub, Nat.reduceMul, Nat.reduceLeDiff, Nat.reduceLT, Nat.reduceBEq, Int.reduceLT, Int.reduceLE, Int.reduceGT, Int.reduceGE, Int.reduceEq, Int.reduceNe, Int.reduceBEq, Int.reduceBNe, Int.reduceAdd, Int.reduceSub, Int.reduceMul, Int.reduceToNat, Int.reduceNeg, ↓reduceIte, ↓reduceDIte, p1, p3, m1, m3, pw, gv, gd, gc, e1]
                refine CT_val (refahead_ev (a := d) (b := c)) ?_
                simp -dsimp only [go_sem, Nat.reduceEqDiff, Nat.reduceAdd, Nat.reduceSub, Nat.reduceMul, Nat.reduceLeDiff, Nat.reduceLT, Nat.reduceBEq, Int.reduceLT, Int.reduceLE, Int.reduceGT, Int.reduceGE, Int.reduceEq, Int.reduceNe, Int.reduceBEq, Int.reduceBNe, Int.reduceAdd, Int.reduceSub, Int.reduceMul, Int.reduceToNat, Int.reduceNeg, ↓reduceIte, ↓reduceDIte, pw]
                exact ⟨k + 1, by rw [next]; simp [hki], by omega, by omega⟩
            · rw [huk] at gv next
              simp -dsimp only [go_sem, Nat.reduceEqDiff, Nat.reduceAdd, Nat.reduceSub, Nat.reduceMul, Nat.reduceLeDiff, Nat.reduceLT, Nat.reduceBEq, Int.reduceLT, Int.reduceLE, Int.reduceGT, Int.reduceGE, Int.reduceEq, Int.reduceNe, Int.reduceBEq, Int.reduceBNe, Int.reduceAdd, Int.reduceSub, Int.reduceMul, Int.reduceToNat, Int.reduceNeg, ↓reduceIte, ↓reduceDIte, p1, p3, pw, gv]
              exact ⟨k + 1, by rw [next]; simp, by omega, by omega⟩
        · have p1 : ¬ (k : Int) < l.length := by omega
          have hkk : k = l.length := by omega
          subst hkk
          have hfi := firstTo_iff (l := l) (u := u) (x := i) (c := c) l.length (Nat.le_refl _)
          cases hf : firstTo l u i c l.length
          · simp -dsimp only [go_sem, Nat.reduceEqDiff, Nat.reduceAdd, Nat.reduceSub, Nat.reduceMul, Nat.reduceLeDiff, Nat.reduceLT, Nat.reduceBEq, Int.reduceLT, Int.reduceLE, Int.reduceGT, Int.reduceGE, Int.reduceEq, Int.reduceNe, Int.reduceBEq, Int.reduceBNe, Int.reduceAdd, Int.reduceSub, Int.reduceMul, Int.reduceToNat, Int.reduceNeg, ↓reduceIte, ↓reduceDIte, p1, hw]
            refine ⟨(i + 1, t), rfl, rfl, ⟨by dsimp only; omega, hnext ?_⟩, by dsimp only; omega⟩
            rw [Prob.tryAt]
            refine if_pos ?_
            cases hui : u.getLsbD i
            · refine .inr fun h => ?_
              have := hfi.2 ⟨hui, fun k o _ h1 => hahx.1 h k o h1⟩
              rw [hf] at this; cases this
            · exact .inl rfl
          · obtain ⟨hui, hfa⟩ := hfi.1 hf
            have hah0 : (prob l (stepM cap l mode)).ah i &&& ~~~u = 0#64 := hahx.2 fun k o h1 => hfa k o (List.getElem?_eq_some_iff.1 h1).1 h1
            have q6 : ∀ t', lcells (H ++ (.row false 0 [i64 cap, .slice b s.length s.length] :: t')) H.length 0 2 = some [i64 cap, .slice b s.length s.length] := fun t' => lcells_of (get_app0 H _) rfl
            simp -dsimp only [go_sem, Nat.reduceEqDiff, Nat.reduceAdd, Nat.reduceSub, Nat.reduceMul, Nat.reduceLeDiff, Nat.reduceLT, Nat.reduceBEq, Int.reduceLT, Int.reduceLE, Int.reduceGT, Int.reduceGE, Int.reduceEq, Int.reduceNe, Int.reduceBEq, Int.reduceBNe, Int.reduceAdd, Int.reduceSub, Int.reduceMul, Int.reduceToNat, Int.reduceNeg, ↓reduceIte, ↓reduceDIte, p1, m1, m3, gc, q6]
            refine CT_val (counts_ev (kind := 0) (hs.app _) (by omega) hlti) ?_
            simp -dsimp only [go_sem, Nat.reduceEqDiff, Nat.reduceAdd, Nat.reduceSub, Nat.reduceMul, Nat.reduceLeDiff, Nat.reduceLT, Nat.reduceBEq, Int.reduceLT, Int.reduceLE, Int.reduceGT, Int.reduceGE, Int.reduceEq, Int.reduceNe, Int.reduceBEq, Int.reduceBNe, Int.reduceAdd, Int.reduceSub, Int.reduceMul, Int.reduceToNat, Int.reduceNeg, ↓reduceIte, ↓reduceDIte, m1, m3, gc, q6]
            refine CT_val (counts_ev (kind := 1) (hs.app _) (by omega) hlti) ?_
            simp -dsimp only [go_sem, Nat.reduceEqDiff, Nat.reduceAdd, Nat.reduceSub, Nat.reduceMul, Nat.reduceLeDiff, Nat.reduceLT, Nat.reduceBEq, Int.reduceLT, Int.reduceLE, Int.reduceGT, Int.reduceGE, Int.reduceEq, Int.reduceNe, Int.reduceBEq, Int.reduceBNe, Int.reduceAdd, Int.reduceSub, Int.reduceMul, Int.reduceToNat, Int.reduceNeg, ↓reduceIte, ↓reduceDIte, m1, m3, gc, q6]
            refine CT_of (refmay_ev (c := c) (by simp; omega) (hb.app _) hc (by omega) (by have := cnt_le l i 0 l.length; omega)) ?_
            rintro _ _ ⟨t3, rfl, hm⟩
            have hst' : stepM cap l mode s i = mayF cap s c mode (cntF l i ((0 : Nat) : Int) l.length) (cntF l i ((1 : Nat) : Int) l.length) := by simp [stepM, hcx]
            replace hm := MayRes_of hst' hm
            cases hst : stepM cap l mode s i with
            | none =>
              rw [hst] at hm
              simp only [MayRes] at hm
              subst hm
              simp -dsimp only [go_sem, Nat.reduceEqDiff, Nat.reduceAdd, Nat.reduceSub, Nat.reduceMul, Nat.reduceLeDiff, Nat.reduceLT, Nat.reduceBEq, Int.reduceLT, Int.reduceLE, Int.reduceGT, Int.reduceGE, Int.reduceEq, Int.reduceNe, Int.reduceBEq, Int.reduceBNe, Int.reduceAdd, Int.reduceSub, Int.reduceMul, Int.reduceToNat, Int.reduceNeg, ↓reduceIte, ↓reduceDIte, hw, take_app_n, get_app_n, get_app_n0, set_app_n, set_app_n0, lget_app_n, lget_app_n0, lcells_app_n, lcells_app_n0, List.length_set, List.take_of_length_le, List.set_set, get_left, set_left, lget_left, lcells_left, get_set_eq, get_set_ne, lget_set_eq, lget_set_ne, lcells_set_ne]
              refine ⟨(i + 1, _), rfl, rfl, ⟨by dsimp only; omega, hnext ?_⟩, by dsimp only; omega⟩
              rw [Prob.tryAt]
              split
              · rfl
              · rw [show (prob l (stepM cap l mode)).step s i = none from hst]
            | some s2 =>
              rw [hst] at hm
              simp only [MayRes] at hm
              obtain ⟨b2, rfl, hm1⟩ := hm
              have hl2 : s2.length ≤ s.length + 1 := by
                rw [hst'] at hst
                exact mayF_len hst
              have hsrc := fun t' => (hu.app t').src (m := 1) (n := l.length) (cap := l.length) (by omega) (by rw [usedC_len]; omega)
              have hone := usedC_one l.length u
              have n1 : l.length * 1 ≤ 140737488355328 := by omega
              have n2 : l.length ≤ 140737488355328 := by omega
              have hl1 : lim ≤ H.length + 1 := by omega
              have hll : ∀ x, lim ≤ H.length + x := fun x => by omega
              have i1 : i + 1 ≤ l.length := by omega
              have hno : ¬ (l.length = 0) := by omega
              simp -dsimp only [go_sem, Nat.reduceEqDiff, Nat.reduceAdd, Nat.reduceSub, Nat.reduceMul, Nat.reduceLeDiff, Nat.reduceLT, Nat.reduceBEq, Int.reduceLT, Int.reduceLE, Int.reduceGT, Int.reduceGE, Int.reduceEq, Int.reduceNe, Int.reduceBEq, Int.reduceBNe, Int.reduceAdd, Int.reduceSub, Int.reduceMul, Int.reduceToNat, Int.reduceNeg, ↓reduceIte, ↓reduceDIte, hw, hsrc, hone, n1, n2, hl, hl1, hll, m1, m3, i1, usedC_len, usedC_set (u := u) (show l.length ≤ 64 by omega) hlti, take_app_n, get_app_n, get_app_n0, set_app_n, set_app_n0, lget_app_n, lget_app_n0, lcells_app_n, lcells_app_n0, List.length_set, List.take_of_length_le, List.set_set, get_left, set_left, lget_left, lcells_left, get_set_eq, get_set_ne, lget_set_eq, lget_set_ne, lcells_set_ne]
              have hun : leftN l.length (withB u i) + 1 = leftN l.length u := left_with (by omega) hlti hui
              have htr : (prob l (stepM cap l mode)).tryAt (prob l (stepM cap l mode)).fnd u s i = ((prob l (stepM cap l mode)).fnd (withB u i) s2).map (i :: ·) := by
                rw [Prob.tryAt, if_neg (by rw [hui]; simp [hah0])]
                rw [show (prob l (stepM cap l mode)).step s i = some s2 from hst]
              refine CT_of (ih (leftN l.length (withB u i)) (by omega) (withB u i) s2 _ _ b2 rfl (hs.app _) (Sl.row (ro := false) ?_) (hm1.into (by omega) (by simp [unbox_app, unbox_cons, unboxO_box])) (by omega) (by simp; omega)) ?_
              · rw [get_app, List.getElem?_cons_succ, List.getElem?_append_right (by omega), show t.length + (t3.length + 1 + 1) - t.length = (t3.length + 1) + 1 by omega, List.getElem?_cons_succ, List.getElem?_append_right (by omega), show t3.length + 1 - t3.length = 1 by omega]
                rfl
              rintro _ _ ⟨t4, rfl, hr⟩
              cases hfn : (prob l (stepM cap l mode)).fnd (withB u i) s2 with
              | none =>
                rw [hfn] at hr htr
                simp only [OrdRes] at hr
                subst hr
                simp -dsimp only [go_sem, Nat.reduceEqDiff, Nat.reduceAdd, Nat.reduceSub, Nat.reduceMul, Nat.reduceLeDiff, Nat.reduceLT, Nat.reduceBEq, Int.reduceLT, Int.reduceLE, Int.reduceGT, Int.reduceGE, Int.reduceEq, Int.reduceNe, Int.reduceBEq, Int.reduceBNe, Int.reduceAdd, Int.reduceSub, Int.reduceMul, Int.reduceToNat, Int.reduceNeg, ↓reduceIte, ↓reduceDIte, hw, take_app_n, get_app_n, get_app_n0, set_app_n, set_app_n0, lget_app_n, lget_app_n0, lcells_app_n, lcells_app_n0, List.length_set, List.take_of_length_le, List.set_set, get_left, set_left, lget_left, lcells_left, get_set_eq, get_set_ne, lget_set_eq, lget_set_ne, lcells_set_ne]
                exact ⟨(i + 1, _), rfl, rfl, ⟨by dsimp only; omega, hnext htr⟩, by dsimp only; omega⟩
              | some r =>
                rw [hfn] at hr htr
                simp only [OrdRes] at hr
                obtain ⟨a4, rfl, hr1⟩ := hr
                rw [show (prob l (stepM cap l mode)).n = l.length from rfl, findSome_at hlti htry htr] at hfe
                have hrl : r.length ≤ 62 := by
                  have h1 := Prob.dfs_len _ _ _ _ _ hfn
                  have h2 := leftN_le (prob l (stepM cap l mode)).n (withB u i)
                  have h3 : (prob l (stepM cap l mode)).n = l.length := rfl
                  omega
                have hsrc4 := fun t' => (hr1.app t').src (m := 1) (n := r.length) (cap := r.length) (by omega) (by simp)
                have g1 : (1 + r.length) * 8 ≤ 140737488355328 := by omega
                have g2 : 1 + r.length ≤ 140737488355328 := by omega
                have g3 : (r.map fun i : Nat => i64 (i : Int)).all Value.oneCell' = true := by simp [List.all_eq_true, Value.oneCell']
                simp only [List.append_assoc, List.cons_append, List.nil_append] at hsrc4
                cases r with
                | nil =>
                  simp only [List.length_nil] at hsrc4 g1 g2
                  simp -dsimp only [go_sem, Nat.reduceEqDiff, Nat.reduceAdd, Nat.reduceSub, Nat.reduceMul, Nat.reduceLeDiff, Nat.reduceLT, Nat.reduceBEq, Int.reduceLT, Int.reduceLE, Int.reduceGT, Int.reduceGE, Int.reduceEq, Int.reduceNe, Int.reduceBEq, Int.reduceBNe, Int.reduceAdd, Int.reduceSub, Int.reduceMul, Int.reduceToNat, Int.reduceNeg, ↓reduceIte, ↓reduceDIte, hw, hsrc4, g1, g2, g3, hl, hl1, hll, take_app_n, get_app_n, get_app_n0, set_app_n, set_app_n0, lget_app_n, lget_app_n0, lcells_app_n, lcells_app_n0, List.length_set, List.take_of_length_le, List.set_set, get_left, set_left, lget_left, lcells_left, get_set_eq, get_set_ne, lget_set_eq, lget_set_ne, lcells_set_ne]
                  rw [hfe]
                  refine ⟨_, rfl, _, rfl, sl_last (A := .row false 0 [i64 cap, .slice b s.length s.length] :: (t ++ .row false 0 [i64 cap, .slice b2 s2.length s2.length] :: (t3 ++ .dead :: .row false 1 (usedC l.length (withB u i)) :: t4))) ?_ ?_⟩
                  · simp
                  · simp
                | cons y r =>
                  have g4 : ¬ (1 + (y :: r).length ≤ 1) := by simp
                  simp only [List.length_cons] at hsrc4 g1 g2 g4
                  simp -dsimp only [go_sem, Nat.reduceEqDiff, Nat.reduceAdd, Nat.reduceSub, Nat.reduceMul, Nat.reduceLeDiff, Nat.reduceLT, Nat.reduceBEq, Int.reduceLT, Int.reduceLE, Int.reduceGT, Int.reduceGE, Int.reduceEq, Int.reduceNe, Int.reduceBEq, Int.reduceBNe, Int.reduceAdd, Int.reduceSub, Int.reduceMul, Int.reduceToNat, Int.reduceNeg, ↓reduceIte, ↓reduceDIte, hw, hsrc4, g1, g2, g3, g4, hl, hl1, hll, take_app_n, get_app_n, get_app_n0, set_app_n, set_app_n0, lget_app_n, lget_app_n0, lcells_app_n, lcells_app_n0, List.length_set, List.take_of_length_le, List.set_set, get_left, set_left, lget_left, lcells_left, get_set_eq, get_set_ne, lget_set_eq, lget_set_ne, lcells_set_ne]
                  rw [hfe]
                  refine ⟨by simp [List.all_eq_true, Value.oneCell'], _, rfl, _, by rw [Nat.add_comm 1 (r.length + 1)]; rfl, sl_last (A := .row false 0 [i64 cap, .slice b s.length s.length] :: (t ++ .row false 0 [i64 cap, .slice b2 s2.length s2.length] :: (t3 ++ .dead :: .row false 1 (usedC l.length (withB u i)) :: (t4 ++ [.dead])))) ?_ ?_⟩
                  · simp
                  · simp
      · have m1 : ¬ (i : Int) < l.length := by omega
        have hii : i = l.length := by omega
        subst hii
        rw [show (prob l (stepM cap l mode)).n = l.length from rfl, findSome_none htry] at hfe
        simp -dsimp only [go_sem, Nat.reduceEqDiff, Nat.reduceAdd, Nat.reduceSub, Nat.reduceMul, Nat.reduceLeDiff, Nat.reduceLT, Nat.reduceBEq, Int.reduceLT, Int.reduceLE, Int.reduceGT, Int.reduceGE, Int.reduceEq, Int.reduceNe, Int.reduceBEq, Int.reduceBNe, Int.reduceAdd, Int.reduceSub, Int.reduceMul, Int.reduceToNat, Int.reduceNeg, ↓reduceIte, ↓reduceDIte, m1]
        rw [hfe]
        exact ⟨_, rfl, rfl⟩
end Go.Proofs.Ytfobpjjpaehhpaa
