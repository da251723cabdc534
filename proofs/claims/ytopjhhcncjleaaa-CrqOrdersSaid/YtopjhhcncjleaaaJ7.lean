/- DROP Orders of calls, looked for step by step: plain. -/
import Derived.Test.YtopjhhcncjleaaaJ3
namespace Go.Proofs.Ytopjhhcncjleaaa
open Go Go.LK
set_option linter.unusedSimpArgs false
set_option linter.unusedVariables false
/-- A set of places, with one more. -/
def withB (u : BitVec 64) (i : Nat) : BitVec 64 := u ||| (1#64 <<< i)
theorem get_with {u : BitVec 64} {i j : Nat} (hj : j < 64) : (withB u i).getLsbD j = (u.getLsbD j || decide (i = j)) := by
  unfold withB
  rw [BitVec.getLsbD_or, BitVec.getLsbD_shiftLeft]
  by_cases h : i = j
  · subst h; simp [hj]
  · by_cases h2 : j < i
    · simp [hj, h, h2]
    · have h3 : ¬ j - i = 0 := by omega
      have : (1#64).getLsbD (j - i) = false := by
        rw [BitVec.getLsbD_one]; simp [h3]
      simp [hj, h, h2, this]
theorem sub_iff {a u : BitVec 64} : a &&& ~~~u = 0#64 ↔ ∀ j, j < 64 → a.getLsbD j = true → u.getLsbD j = true := by
  constructor
  · intro h j hj ha
    have := congrArg (fun x => x.getLsbD j) h
    simp only [BitVec.getLsbD_and, BitVec.getLsbD_not, ha, hj, decide_true, Bool.true_and, BitVec.getLsbD_zero] at this
    simpa using this
  · intro h
    refine BitVec.eq_of_getLsbD_eq fun j hj => ?_
    simp only [BitVec.getLsbD_and, BitVec.getLsbD_not, hj, decide_true, Bool.true_and, BitVec.getLsbD_zero]
    cases ha : a.getLsbD j
    · rfl
    · rw [h j hj ha]; rfl
/-- What is looked for: so many places, what is ahead of each, which are to be used, and what each does. -/
structure Prob (σ : Type) where
  n : Nat
  ah : Nat → BitVec 64
  done : BitVec 64
  step : σ → Nat → Option σ
variable {σ : Type}
def leftN (n : Nat) (u : BitVec 64) : Nat := (List.range n).countP fun i => !u.getLsbD i
theorem left_with {n : Nat} {u : BitVec 64} {i : Nat} (hn : n ≤ 64) (hi : i < n) (hu : u.getLsbD i = false) : leftN n (withB u i) + 1 = leftN n u := by
  unfold leftN
  induction n with
  | zero => omega
  | succ n ih =>
    rw [List.range_succ, List.countP_append, List.countP_append]
    simp only [List.countP_singleton, get_with (u := u) (i := i) (show n < 64 by omega)]
    by_cases h : i = n
    · subst h
      have : (List.range i).countP (fun j => !(withB u i).getLsbD j) = (List.range i).countP (fun j => !u.getLsbD j) := by
        refine List.countP_congr fun j hj => ?_
        have := List.mem_range.1 hj
        rw [get_with (by omega)]
        simp; omega
      rw [this]; simp [hu]
    · have := ih (by omega) (by omega)
      simp [h]; omega
def Prob.tryAt (P : Prob σ) (rec : BitVec 64 → σ → Option (List Nat)) (u : BitVec 64) (s : σ) (i : Nat) : Option (List Nat) :=
  if u.getLsbD i = true ∨ P.ah i &&& ~~~u ≠ 0#64 then none
  else match P.step s i with
    | none => none
    | some t => (rec (withB u i) t).map (i :: ·)
def Prob.dfs (P : Prob σ) : Nat → BitVec 64 → σ → Option (List Nat)
  | 0, u, s => if P.done &&& ~~~u = 0#64 then some [] else none
  | k + 1, u, s => if P.done &&& ~~~u = 0#64 then some [] else (List.range P.n).findSome? (P.tryAt (P.dfs k) u s)
/-- The first order that goes on from there. -/
def Prob.fnd (P : Prob σ) (u : BitVec 64) (s : σ) : Option (List Nat) := P.dfs (leftN P.n u) u s
theorem findSome_none {n : Nat} {g : Nat → Option (List Nat)} (h : ∀ i, i < n → g i = none) : (List.range n).findSome? g = none := by
  rw [List.findSome?_eq_none_iff]
  intro i hi
  exact h i (List.mem_range.1 hi)
theorem findSome_congr {n : Nat} {g f : Nat → Option (List Nat)} (h : ∀ i, i < n → g i = f i) : (List.range n).findSome? g = (List.range n).findSome? f := by
  induction n with
  | zero => rfl
  | succ n ih =>
    rw [List.range_succ, List.findSome?_append, List.findSome?_append, ih fun i hi => h i (by omega)]
    simp [h n (by omega)]
theorem findSome_at {n i : Nat} {g : Nat → Option (List Nat)} {x : List Nat} (hi : i < n) (h : ∀ j, j < i → g j = none) (hx : g i = some x) : (List.range n).findSome? g = some x := by
  induction n with
  | zero => omega
  | succ n ih =>
    rw [List.range_succ, List.findSome?_append]
    by_cases e : i = n
    · subst e; rw [findSome_none h]; simp [hx]
    · rw [ih (by omega)]; rfl
theorem findSome_some {n : Nat} {g : Nat → Option (List Nat)} {x : List Nat} (h : (List.range n).findSome? g = some x) : ∃ i, i < n ∧ g i = some x ∧ ∀ j, j < i → g j = none := by
  induction n with
  | zero => simp at h
  | succ n ih =>
    rw [List.range_succ, List.findSome?_append] at h
    cases hq : (List.range n).findSome? g with
    | some y =>
      rw [hq] at h
      obtain ⟨i, h1, h2⟩ := ih (by rw [hq]; exact h)
      exact ⟨i, by omega, h2⟩
    | none =>
      rw [hq] at h
      rw [List.findSome?_eq_none_iff] at hq
      exact ⟨n, by omega, by simpa using h, fun j hj => hq j (List.mem_range.2 hj)⟩
theorem Prob.fnd_eq (P : Prob σ) (hn : P.n ≤ 64) (u : BitVec 64) (s : σ) :
    P.fnd u s = if P.done &&& ~~~u = 0#64 then some [] else (List.range P.n).findSome? (P.tryAt P.fnd u s) := by
  unfold Prob.fnd
  cases hk : leftN P.n u with
  | zero =>
    rw [Prob.dfs]
    split
    · rfl
    · rw [findSome_none]
      intro i hi
      unfold leftN at hk
      rw [List.countP_eq_zero] at hk
      have := hk i (List.mem_range.2 hi)
      simp only [Bool.not_eq_true, Bool.not_eq_false', Bool.not_eq_eq_eq_not] at this
      rw [Prob.tryAt, if_pos (.inl (by simpa using this))]
  | succ k =>
    rw [Prob.dfs]
    split
    · rfl
    · refine findSome_congr fun i hi => ?_
      unfold Prob.tryAt
      split
      · rfl
      · rename_i h
        have hu : u.getLsbD i = false := by
          cases hq : u.getLsbD i
          · rfl
          · exact absurd (.inl hq) h
        have := left_with hn hi hu
        have e : leftN P.n (withB u i) = k := by omega
        simp only [e]
theorem shr_zero {v : BitVec 64} {k : Nat} : v >>> (8 * k) = 0#64 ↔ v.toNat < 256 ^ k := by
  rw [← BitVec.toNat_inj, BitVec.toNat_ushiftRight, Nat.shiftRight_eq_div_pow, BitVec.toNat_ofNat, Nat.zero_mod, Nat.pow_mul, Nat.div_eq_zero_iff]
  have := Nat.pow_pos (n := k) (show 0 < 2 ^ 8 by decide)
  simp
theorem bytesN_low {v : BitVec 64} {k : Nat} (hk : v >>> (8 * k) = 0#64) : ∀ m, k ≤ m → bytesN v m = bytesN v k ++ List.replicate (m - k) 0 := by
  intro m hm
  induction m with
  | zero => obtain rfl : k = 0 := by omega
            simp
  | succ m ih =>
    by_cases e : k = m + 1
    · subst e; simp
    · rw [bytesN_succ, ih (by omega), show m + 1 - k = (m - k) + 1 by omega, List.replicate_succ']
      have : v >>> (8 * m) = 0#64 := by
        rw [shr_zero] at hk ⊢
        exact Nat.lt_of_lt_of_le hk (Nat.pow_le_pow_right (by decide) (by omega))
      rw [this]; simp
/-- A name: of a set, and a queue. -/
def nameN (k : Nat) (cap : Int) (u : BitVec 64) (s : List (BitVec 64)) : List UInt8 := UInt8.ofNat k :: bytesN u k ++ keyN cap s
theorem name_inj {k m : Nat} {cap : Int} {u v : BitVec 64} {s t : List (BitVec 64)} (hk : k ≤ 8) (hm : m ≤ 8) (hu : u >>> (8 * k) = 0#64) (hv : v >>> (8 * m) = 0#64) (h : nameN k cap u s = nameN m cap v t) : u = v ∧ s = t := by
  simp only [nameN, List.cons_append, List.cons.injEq] at h
  obtain ⟨h1, h2⟩ := h
  have e : k = m := by
    have := congrArg UInt8.toNat h1
    simp only [UInt8.toNat_ofNat'] at this
    omega
  subst e
  obtain ⟨h3, h4⟩ := List.append_inj h2 (by simp [bytesN_len])
  obtain ⟨_, h5⟩ := List.append_inj h4 (by simp [bytesN_len])
  refine ⟨bytesN_inj ?_, keys_inj h5⟩
  rw [bytesN_low hu 8 hk, bytesN_low hv 8 hk, h3]
end Go.Proofs.Ytopjhhcncjleaaa
/- DROP Sets of places, and names, worked out. -/
namespace Go.Proofs.Ytopjhhcncjleaaa
open Go Go.LK
set_option linter.unusedSimpArgs false
set_option linter.unusedVariables false
theorem has_ev {lim : Nat} {u : BitVec 64} {i : Nat} {H : LHeap} (hi : i < 64) : callE T 101 lim [w64 u, i64 i] H fun v H' => v = .bool (u.getLsbD i) ∧ H' = H := by
  refine callE_pop rfl (by simp) rfl ?_
  have h1 : 0 ≤ (i : Int) := by omega
  have h2 : min i 64 = i := by omega
  have h3 : ((u >>> i &&& 1#64) == 1#64) = u.getLsbD i := by
    rw [show u.getLsbD i = (u >>> i).getLsbD 0 by simp [BitVec.getLsbD_ushiftRight]]
    generalize u >>> i = x
    cases hb : x.getLsbD 0
    · rw [beq_eq_false_iff_ne]
      intro h
      have := congrArg (fun y => y.getLsbD 0) h
      simp only [BitVec.getLsbD_and, hb, Bool.false_and] at this
      exact absurd this (by decide)
    · rw [beq_iff_eq]
      refine BitVec.eq_of_getLsbD_eq fun j hj => ?_
      rw [BitVec.getLsbD_and, BitVec.getLsbD_one]
      by_cases e : j = 0
      · subst e; simp [hb]
      · simp [e]
  simp -dsimp only [go_sem, Nat.reduceEqDiff, Nat.reduceAdd, Nat.reduceSub, Nat.reduceMul, Nat.reduceLeDiff, Nat.reduceLT, Nat.reduceBEq, Int.reduceLT, Int.reduceLE, Int.reduceGT, Int.reduceGE, Int.reduceEq, Int.reduceNe, Int.reduceBEq, Int.reduceBNe, Int.reduceAdd, Int.reduceSub, Int.reduceMul, Int.reduceToNat, Int.reduceNeg, ↓reduceIte, ↓reduceDIte, h1, h2, h3, lbin_shr]
theorem with_ev {lim : Nat} {u : BitVec 64} {i : Nat} {H : LHeap} (hi : i < 64) : callE T 83 lim [w64 u, i64 i] H fun v H' => v = w64 (withB u i) ∧ H' = H := by
  refine callE_pop rfl (by simp) rfl ?_
  have h1 : 0 ≤ (i : Int) := by omega
  have h2 : min i 64 = i := by omega
  simp -dsimp only [go_sem, Nat.reduceEqDiff, Nat.reduceAdd, Nat.reduceSub, Nat.reduceMul, Nat.reduceLeDiff, Nat.reduceLT, Nat.reduceBEq, Int.reduceLT, Int.reduceLE, Int.reduceGT, Int.reduceGE, Int.reduceEq, Int.reduceNe, Int.reduceBEq, Int.reduceBNe, Int.reduceAdd, Int.reduceSub, Int.reduceMul, Int.reduceToNat, Int.reduceNeg, ↓reduceIte, ↓reduceDIte, h1, h2, lbin_shl]
  rfl
abbrev ptrF (b : Nat) : Value := .pointer (some ⟨b, 0, none⟩)
set_option maxHeartbeats 1000000 in
theorem name_ev {lim p : Nat} {cap : Int} {a : Option Addr} {s : List (BitVec 64)} {us : BitVec 64} {c0 c1 c2 c3 c5 c6 : Value} {kk : FuncId} {ck : List Value} {H : LHeap}
    (hp : H[p]? = some (.row false 0 [c0, c1, c2, c3, .func (.func kk) #[] ck.toArray, c5, c6])) (hs : Sl 1 H a (s.map w64)) (hn : s.length < 1000000)
    (hkey : ∀ (t : LHeap) lim', callE T kk lim' ([fifo cap a s.length] ++ ck) (H ++ t) fun v H' => v = strV (keyN cap s) ∧ H' = H ++ t) :
    callE T 100 lim [ptrF p, w64 us, fifo cap a s.length] H fun v H' => (∃ k, k ≤ 8 ∧ us >>> (8 * k) = 0#64 ∧ v = strV (nameN k cap us s)) ∧ H' = H := by
  refine callE_pop rfl (by simp) rfl ?_
  have g4 : ∀ t, lget (H ++ t) p 4 = some (.func (.func kk) #[] ck.toArray) := fun t => by rw [lget_at (get_old hp t)]; rfl
  simp -dsimp only [go_sem, Nat.reduceEqDiff, Nat.reduceAdd, Nat.reduceSub, Nat.reduceMul, Nat.reduceLeDiff, Nat.reduceLT, Nat.reduceBEq, Int.reduceLT, Int.reduceLE, Int.reduceGT, Int.reduceGE, Int.reduceEq, Int.reduceNe, Int.reduceBEq, Int.reduceBNe, Int.reduceAdd, Int.reduceSub, Int.reduceMul, Int.reduceToNat, Int.reduceNeg, ↓reduceIte, ↓reduceDIte]
  refine LT_of (fun q : Nat × Option Addr × LHeap => [(0, ptrF p), (5, ptrF H.length), (7, .slice q.2.1 q.1 q.1), (8, w64 (us >>> (8 * q.1)))]) (fun q => H ++ q.2.2) (fun q => q.1 ≤ 8 ∧ Own 1 (H ++ q.2.2) H.length q.2.1 ((bytesN us q.1).map b8) ∧ q.2.2[0]? = some (.row false 0 [i64 cap, .slice a s.length s.length]) ∧ Off H.length q.2.1) (fun q => 8 - q.1) (0, none, [.row false 0 [i64 cap, .slice a s.length s.length]]) (by simp) (by simp) ⟨by simp, Own.nil _ _ _, rfl, fun x hx => by cases hx⟩ ?_
  rintro ⟨i, a', t⟩ ⟨hi, ho, h0, hoff⟩
  simp only at hi ho h0 hoff ⊢
  by_cases hz : us >>> (8 * i) = 0#64
  · have h1 : ¬ (0#64 < 0#64) := by decide
    have hw8 : Value.int IntKind.u8 (IntKind.u8.wrap (i : Int)) = b8 (UInt8.ofNat i) := by
      obtain hq : i = 0 ∨ i = 1 ∨ i = 2 ∨ i = 3 ∨ i = 4 ∨ i = 5 ∨ i = 6 ∨ i = 7 ∨ i = 8 := by omega
      rcases hq with rfl | rfl | rfl | rfl | rfl | rfl | rfl | rfl | rfl <;> rfl
    have hb0 : H ++ t = (H ++ [.row false 0 [i64 cap, .slice a s.length s.length]]) ++ t.drop 1 := by
      cases t with
      | nil => cases h0
      | cons x t => cases h0; simp
    have hk1 : ([UInt8.ofNat i].length : Nat) + (bytesN us i).length ≤ 4611686018427387904 := by rw [bytesN_len]; simp; omega
    have hk2 : ([UInt8.ofNat i] ++ bytesN us i).length + (keyN cap s).length ≤ 4611686018427387904 := by rw [List.length_append, bytesN_len, keyN_len]; simp; omega
    have hb8 : bytesOf [b8 (UInt8.ofNat i)] = some [UInt8.ofNat i] := bytesOf_b8 [UInt8.ofNat i]
    have a1 := lstr_add hk1
    have a2 := lstr_add hk2
    have hB := fun t' => lcells_of (n := 2) (get_old h0 t') rfl
    rcases ho with ⟨rfl, ho⟩ | ⟨b, rfl, hb1, hb2⟩
    · have hbn : bytesN us i = [] := by
        cases hq : bytesN us i with
        | nil => rfl
        | cons x y => rw [hq] at ho; cases ho
      rw [hbn] at a1 a2
      simp only [List.append_nil, List.cons_append, List.nil_append] at a1 a2
      simp -dsimp only [go_sem, Nat.reduceEqDiff, Nat.reduceAdd, Nat.reduceSub, Nat.reduceMul, Nat.reduceLeDiff, Nat.reduceLT, Nat.reduceBEq, Int.reduceLT, Int.reduceLE, Int.reduceGT, Int.reduceGE, Int.reduceEq, Int.reduceNe, Int.reduceBEq, Int.reduceBNe, Int.reduceAdd, Int.reduceSub, Int.reduceMul, Int.reduceToNat, Int.reduceNeg, ↓reduceIte, ↓reduceDIte, h1, g4, hz, hw8, hb8, a1, hB]
      refine CT_of (hkey _ _) ?_
      rintro _ _ ⟨rfl, rfl⟩
      simp -dsimp only [go_sem, Nat.reduceEqDiff, Nat.reduceAdd, Nat.reduceSub, Nat.reduceMul, Nat.reduceLeDiff, Nat.reduceLT, Nat.reduceBEq, Int.reduceLT, Int.reduceLE, Int.reduceGT, Int.reduceGE, Int.reduceEq, Int.reduceNe, Int.reduceBEq, Int.reduceBNe, Int.reduceAdd, Int.reduceSub, Int.reduceMul, Int.reduceToNat, Int.reduceNeg, ↓reduceIte, ↓reduceDIte, h1, g4, hz, hw8, bytesOf_b8, hb8, a1, a2, hB]
      exact ⟨i, hi, hz, by rw [nameN, hbn]; rfl⟩
    · have hc := fun t' => lcells_of (n := i) (get_old hb2 t') (by simp [bytesN_len])
      simp only [List.append_assoc] at hc
      simp only [List.cons_append, List.nil_append] at a1 a2
      simp -dsimp only [go_sem, Nat.reduceEqDiff, Nat.reduceAdd, Nat.reduceSub, Nat.reduceMul, Nat.reduceLeDiff, Nat.reduceLT, Nat.reduceBEq, Int.reduceLT, Int.reduceLE, Int.reduceGT, Int.reduceGE, Int.reduceEq, Int.reduceNe, Int.reduceBEq, Int.reduceBNe, Int.reduceAdd, Int.reduceSub, Int.reduceMul, Int.reduceToNat, Int.reduceNeg, ↓reduceIte, ↓reduceDIte, h1, g4, hz, hw8, hc, bytesOf_b8, hb8, a1, hB]
      refine CT_of (hkey _ _) ?_
      rintro _ _ ⟨rfl, rfl⟩
      simp -dsimp only [go_sem, Nat.reduceEqDiff, Nat.reduceAdd, Nat.reduceSub, Nat.reduceMul, Nat.reduceLeDiff, Nat.reduceLT, Nat.reduceBEq, Int.reduceLT, Int.reduceLE, Int.reduceGT, Int.reduceGE, Int.reduceEq, Int.reduceNe, Int.reduceBEq, Int.reduceBNe, Int.reduceAdd, Int.reduceSub, Int.reduceMul, Int.reduceToNat, Int.reduceNeg, ↓reduceIte, ↓reduceDIte, h1, g4, hz, hw8, hc, bytesOf_b8, hb8, a1, a2, hB]
      exact ⟨i, hi, hz, rfl⟩
  · have h1 : 0#64 < us >>> (8 * i) := by
      rw [BitVec.lt_def]
      rcases Nat.eq_zero_or_pos (us >>> (8 * i)).toNat with h | h
      · exact absurd (BitVec.eq_of_toNat_eq (by simpa using h)) hz
      · simpa using h
    have hi8 : i < 8 := by
      rcases Nat.lt_or_ge i 8 with h | h
      · exact h
      · obtain rfl : i = 8 := by omega
        exact absurd (shr_zero.2 (by have := us.isLt; simpa using this)) hz
    have g2 := fun u news => ho.grow (k := i) (bytes := 1) (lim := H.length) (by simp [bytesN_len]) (by omega) (Nat.le_refl _) (by omega) (by omega) u news
    have h8 : min (8#64).toNat 64 = 8 := rfl
    simp -dsimp only [go_sem, Nat.reduceEqDiff, Nat.reduceAdd, Nat.reduceSub, Nat.reduceMul, Nat.reduceLeDiff, Nat.reduceLT, Nat.reduceBEq, Int.reduceLT, Int.reduceLE, Int.reduceGT, Int.reduceGE, Int.reduceEq, Int.reduceNe, Int.reduceBEq, Int.reduceBNe, Int.reduceAdd, Int.reduceSub, Int.reduceMul, Int.reduceToNat, Int.reduceNeg, ↓reduceIte, ↓reduceDIte, h1, g4, g2, h8, shr_eq us i]
    refine ⟨(i + 1, some ⟨H.length + (t.length + 1), 0, none⟩, _), rfl, rfl, ⟨by dsimp only; omega, ?_, ?_, fun x hx => by cases hx; dsimp only; have := (List.getElem?_eq_some_iff.1 h0).1; omega⟩, by dsimp only; omega⟩
    · dsimp only
      rw [show (bytesN us (i + 1)).map b8 = (bytesN us i).map b8 ++ [b8 (UInt8.ofNat (us >>> (8 * i)).toNat)] by simp [bytesN_succ]]
      exact Own.grown (u := [_]) rfl (by simp) a'
    · exact get_old (killT_get ho rfl h0 hoff) _
end Go.Proofs.Ytopjhhcncjleaaa
/- DROP The search: what it keeps. -/
namespace Go.Proofs.Ytopjhhcncjleaaa
open Go Go.LK
set_option linter.unusedSimpArgs false
set_option linter.unusedVariables false
/-- An order that grows, and is cut back. -/
def OrdAt (lim : Nat) (H : LHeap) (a : Option Addr) (cap : Nat) (o : List Nat) : Prop :=
  (a = none ∧ o = [] ∧ cap = 0) ∨ ∃ b cc, a = some ⟨b, 0, none⟩ ∧ lim ≤ b ∧ H[b]? = some (.row false 1 cc) ∧ cc.length = cap ∧ o.length ≤ cap ∧ cc.take o.length = o.map (fun i : Nat => i64 (i : Int))
theorem OrdAt.push {lim cap : Nat} {K : LHeap} {a : Option Addr} {o : List Nat} (h : OrdAt lim K a cap o) (hl : lim ≤ K.length) (hn : o.length < 1000) (i : Nat) :
    ∃ a' cap' K', lappend lim K 1 8 (.slice a o.length cap) [i64 i] 1 = some (.slice a' (o.length + 1) cap', K') ∧ OrdAt lim K' a' cap' (o ++ [i]) ∧ K.length ≤ K'.length ∧ (∀ j, j < K.length → Off j a → K'[j]? = K[j]? ∧ Off j a') := by
  rcases h with ⟨rfl, rfl, rfl⟩ | ⟨b, cc, rfl, h1, h2, h3, h4, h5⟩
  · refine ⟨some ⟨K.length, 0, none⟩, 1, K ++ [.row false 1 [i64 i]], ?_, .inr ⟨_, _, rfl, hl, get_app0 _ _, rfl, Nat.le_refl _, rfl⟩, by simp, fun j hj _ => ⟨get_left hj _, fun x hx => by cases hx; dsimp only; omega⟩⟩
    rw [List.length_nil, lappend_nil, if_neg (by decide), if_pos ⟨by decide, by decide, by decide⟩]
  · have hbl := (List.getElem?_eq_some_iff.1 h2).1
    by_cases hc : o.length + 1 ≤ cap ∧ 0 < cap
    · refine ⟨_, cap, K.set b (.row false 1 (setMany cc (0 + o.length * 1) [i64 i])), ?_, .inr ⟨b, _, rfl, h1, get_set_eq hbl _, ?_, ?_, ?_⟩, by simp, fun j hj ho => ⟨get_set_ne (fun q => ho _ rfl q) _, ho⟩⟩
      · rw [lappend_some, if_pos hc]
        simp only [lput, h2]
        rw [if_pos ⟨by simp; omega, .inl h1, rfl⟩]
        rfl
      · simp [setMany, h3]
      · simp; omega
      · simp only [setMany, Nat.mul_one, Nat.zero_add, List.length_append, List.length_singleton, List.map_append, List.map_cons, List.map_nil]
        rw [List.take_add_one, List.take_set_of_le (by omega), h5, List.getElem?_set_self (by omega)]
        rfl
    · refine ⟨some ⟨K.length, 0, none⟩, o.length + 1, K.set b .dead ++ [.row false 1 (o.map (fun i : Nat => i64 (i : Int)) ++ [i64 i])], ?_, .inr ⟨K.length, o.map (fun i : Nat => i64 (i : Int)) ++ [i64 i], rfl, hl, ?_, ?_, ?_, ?_⟩, by simp, fun j hj ho => ⟨?_, fun x hx => by cases hx; dsimp only; omega⟩⟩
      · rw [lappend_some, if_neg hc, h2]
        simp only
        rw [if_pos ⟨trivial, by omega, by omega, by omega, by omega, by decide, h1⟩, List.drop_zero, Nat.mul_one, h5]
      · have := get_app0 (K.set b .dead) [.row false 1 (o.map (fun i : Nat => i64 (i : Int)) ++ [i64 i])]
        rw [List.length_set] at this
        exact this
      · simp
      · simp
      · rw [List.take_of_length_le (by simp)]; simp
      · rw [get_left (by simpa using hj), get_set_ne (fun q => ho _ rfl q)]
theorem OrdAt.cut {lim cap : Nat} {K : LHeap} {a : Option Addr} {o : List Nat} {i : Nat} (h : OrdAt lim K a cap (o ++ [i])) :
    (∀ t, lslice (K ++ t) 1 (.slice a (o.length + 1) cap) none (some (i64 (o.length : Nat))) none = some (.slice a o.length cap)) ∧ OrdAt lim K a cap o := by
  rcases h with ⟨_, h, _⟩ | ⟨b, cc, rfl, h1, h2, h3, h4, h5⟩
  · simp at h
  · simp only [List.length_append, List.length_singleton] at h4 h5
    refine ⟨fun t => ?_, .inr ⟨b, cc, rfl, h1, h2, h3, by omega, ?_⟩⟩
    · have e : (0 : Int) ≤ (o.length : Int) ∧ (o.length : Int) ≤ (cap : Int) := by omega
      have e2 : o.length ≤ cap := by omega
      simp [lslice, lbound, e, e2, get_old h2 t]
    · have := congrArg (List.take o.length) h5
      rw [List.take_take, Nat.min_eq_left (by omega)] at this
      rw [this]; simp
/-- Names that are dead. -/
def deadE (D : List (List UInt8)) : List (Value × Value) := D.map fun x => (strV x, .bool true)
theorem dead_find (k : List UInt8) : ∀ D : List (List UInt8), (k ∈ D → ∃ i, D[i]? = some k ∧ lfind true (strV k) (deadE D) = some (some (i, .bool true))) ∧ (k ∉ D → lfind true (strV k) (deadE D) = some none)
  | [] => ⟨fun h => by simp at h, fun _ => rfl⟩
  | x :: D => by
    obtain ⟨h1, h2⟩ := dead_find k D
    simp only [deadE, List.map_cons, lfind, sameKey_sv]
    by_cases e : k = x
    · subst e
      refine ⟨fun _ => ⟨0, rfl, by simp⟩, fun h => by simp at h⟩
    · have eb : (k == x) = false := by simpa using e
      rw [eb]
      refine ⟨fun h => ?_, fun h => ?_⟩
      · obtain ⟨i, a1, a2⟩ := h1 (by simpa [e] using h)
        refine ⟨i + 1, by simpa using a1, ?_⟩
        simp only [deadE] at a2
        simp [a2]
      · have := h2 (fun q => h (by simp [q]))
        simp only [deadE] at this
        simp [this]
/-- What a finder has. -/
structure FI (lim : Nat) (cap : Int) (P : Prob (List (BitVec 64))) (p q : Nat) (sl sa sf kf : Value) (H : LHeap) (a : Option Addr) (oc : Nat) (o : List Nat) (D : List (List UInt8)) : Prop where
  row : H[p]? = some (.row false 0 [sl, sa, w64 P.done, sf, kf, .map (some q), .slice a o.length oc])
  mp : H[q]? = some (.map (deadE D))
  ord : OrdAt lim H a oc o
  pq : p ≠ q
  limp : lim ≤ p
  limq : lim ≤ q
  offp : Off p a
  offq : Off q a
  sound : ∀ x ∈ D, ∀ (k : Nat) (u : BitVec 64) (s : List (BitVec 64)), k ≤ 8 → u >>> (8 * k) = 0#64 → x = nameN k cap u s → P.fnd u s = none
theorem OrdAt.app {lim cap : Nat} {K : LHeap} {a : Option Addr} {o : List Nat} (h : OrdAt lim K a cap o) (t : LHeap) : OrdAt lim (K ++ t) a cap o := by
  rcases h with h | ⟨b, cc, h1, h2, h3, h4⟩
  · exact .inl h
  · exact .inr ⟨b, cc, h1, h2, get_old h3 t, h4⟩
theorem FI.app {lim : Nat} {cap : Int} {P : Prob (List (BitVec 64))} {p q : Nat} {sl sa sf kf : Value} {H : LHeap} {a : Option Addr} {oc : Nat} {o : List Nat} {D : List (List UInt8)} (h : FI lim cap P p q sl sa sf kf H a oc o D) (t : LHeap) : FI lim cap P p q sl sa sf kf (H ++ t) a oc o D :=
  ⟨get_old h.row t, get_old h.mp t, h.ord.app t, h.pq, h.limp, h.limq, h.offp, h.offq, h.sound⟩
/-- Blocks that stay. -/
def Kp (p q : Nat) (a a' : Option Addr) (H H' : LHeap) : Prop := H.length ≤ H'.length ∧ ∀ j, j < H.length → j ≠ p → j ≠ q → Off j a → H'[j]? = H[j]? ∧ Off j a'
theorem Kp.refl {p q : Nat} {a : Option Addr} {H : LHeap} : Kp p q a a H H := ⟨Nat.le_refl _, fun j _ _ _ h => ⟨rfl, h⟩⟩
theorem Kp.app {p q : Nat} {a : Option Addr} {H : LHeap} (t : LHeap) : Kp p q a a H (H ++ t) := ⟨by simp, fun j hj _ _ h => ⟨get_left hj _, h⟩⟩
theorem Kp.trans {p q : Nat} {a b c : Option Addr} {H K L : LHeap} (h : Kp p q a b H K) (g : Kp p q b c K L) : Kp p q a c H L :=
  ⟨Nat.le_trans h.1 g.1, fun j hj h1 h2 h3 => by
    obtain ⟨a1, a2⟩ := h.2 j hj h1 h2 h3
    obtain ⟨b1, b2⟩ := g.2 j (Nat.lt_of_lt_of_le hj h.1) h1 h2 a2
    exact ⟨b1.trans a1, b2⟩⟩
theorem Kp.at_ {p q : Nat} {a a' : Option Addr} {H H' : LHeap} (h : Kp p q a a' H H') {j : Nat} {o : LObj} (h1 : j ≠ p) (h2 : j ≠ q) (h3 : Off j a) (g : H[j]? = some o) : H'[j]? = some o ∧ Off j a' := by
  obtain ⟨a1, a2⟩ := h.2 j (List.getElem?_eq_some_iff.1 g).1 h1 h2 h3
  exact ⟨a1.trans g, a2⟩
theorem Kp.setp {p q : Nat} {a : Option Addr} {H : LHeap} (x : LObj) : Kp p q a a H (H.set p x) := ⟨by simp, fun j hj h1 _ h => ⟨get_set_ne (fun e => h1 e.symm) _, h⟩⟩
theorem Kp.setq {p q : Nat} {a : Option Addr} {H : LHeap} (x : LObj) : Kp p q a a H (H.set q x) := ⟨by simp, fun j hj _ h1 h => ⟨get_set_ne (fun e => h1 e.symm) _, h⟩⟩
theorem OrdAt.off {lim cap b : Nat} {K : LHeap} {a : Option Addr} {o : List Nat} (h : OrdAt lim K a cap o) (hb : K.length ≤ b) : Off b a := by
  rcases h with ⟨rfl, _⟩ | ⟨c, cc, rfl, h1, h2, _⟩
  · exact fun x hx => by cases hx
  · have := (List.getElem?_eq_some_iff.1 h2).1
    exact fun x hx => by cases hx; dsimp only; omega
theorem OrdAt.set {lim cap b : Nat} {K : LHeap} {a : Option Addr} {o : List Nat} (h : OrdAt lim K a cap o) (hb : Off b a) (x : LObj) : OrdAt lim (K.set b x) a cap o := by
  rcases h with h | ⟨c, cc, rfl, h1, h2, h3⟩
  · exact .inl h
  · exact .inr ⟨c, cc, rfl, h1, by rw [get_set_ne (fun e => hb _ rfl e.symm)]; exact h2, h3⟩
theorem FI.kill {lim : Nat} {cap : Int} {P : Prob (List (BitVec 64))} {p q : Nat} {sl sa sf kf : Value} {H : LHeap} {a : Option Addr} {oc : Nat} {o : List Nat} {D : List (List UInt8)} (h : FI lim cap P p q sl sa sf kf H a oc o D) (D' : List (List UInt8))
    (hs : ∀ x ∈ D', ∀ (k : Nat) (u : BitVec 64) (s : List (BitVec 64)), k ≤ 8 → u >>> (8 * k) = 0#64 → x = nameN k cap u s → P.fnd u s = none) : FI lim cap P p q sl sa sf kf (H.set q (.map (deadE D'))) a oc o D' :=
  ⟨by rw [get_set_ne h.pq.symm]; exact h.row, get_set_eq (List.getElem?_eq_some_iff.1 h.mp).1 _, h.ord.set h.offq _, h.pq, h.limp, h.limq, h.offp, h.offq, hs⟩
theorem FI.setp {lim : Nat} {cap : Int} {P : Prob (List (BitVec 64))} {p q : Nat} {sl sa sf kf : Value} {H : LHeap} {a : Option Addr} {oc : Nat} {o o' : List Nat} {D : List (List UInt8)} (h : FI lim cap P p q sl sa sf kf H a oc o D) (ho : OrdAt lim H a oc o') : FI lim cap P p q sl sa sf kf (H.set p (.row false 0 [sl, sa, w64 P.done, sf, kf, .map (some q), .slice a o'.length oc])) a oc o' D :=
  ⟨get_set_eq (List.getElem?_eq_some_iff.1 h.row).1 _, by rw [get_set_ne h.pq]; exact h.mp, ho.set h.offp _, h.pq, h.limp, h.limq, h.offp, h.offq, h.sound⟩
/-- A slice stands in no block that changes. -/
def OffS (p q : Nat) (a sb : Option Addr) : Prop := ∀ x, sb = some x → x.block ≠ p ∧ x.block ≠ q ∧ Off x.block a
theorem Kp.sl {p q m : Nat} {a a' sb : Option Addr} {H H' : LHeap} {c : List Value} (h : Kp p q a a' H H') (hs : Sl m H sb c) (ho : OffS p q a sb) : Sl m H' sb c ∧ OffS p q a' sb := by
  rcases hs with ⟨rfl, rfl⟩ | ⟨b, o, ro, es, cc, rfl, h1, h2⟩
  · exact ⟨.inl ⟨rfl, rfl⟩, fun x hx => by cases hx⟩
  · obtain ⟨k1, k2, k3⟩ := ho _ rfl
    obtain ⟨g1, g2⟩ := h.at_ k1 k2 k3 h1
    exact ⟨.inr ⟨b, o, ro, es, cc, rfl, g1, h2⟩, fun x hx => by cases hx; exact ⟨k1, k2, g2⟩⟩
/-- What the search is given stays. -/
def Has (E : List (Nat × LObj)) (H : LHeap) : Prop := ∀ x ∈ E, H[x.1]? = some x.2
def OffE (p q : Nat) (a : Option Addr) (E : List (Nat × LObj)) : Prop := ∀ x ∈ E, x.1 ≠ p ∧ x.1 ≠ q ∧ Off x.1 a
theorem Kp.has {p q : Nat} {a a' : Option Addr} {H H' : LHeap} {E : List (Nat × LObj)} (h : Kp p q a a' H H') (g : Has E H) (o : OffE p q a E) : Has E H' ∧ OffE p q a' E :=
  ⟨fun x hx => (h.at_ (o x hx).1 (o x hx).2.1 (o x hx).2.2 (g x hx)).1, fun x hx => ⟨(o x hx).1, (o x hx).2.1, (h.at_ (o x hx).1 (o x hx).2.1 (o x hx).2.2 (g x hx)).2⟩⟩
theorem Has.app {E : List (Nat × LObj)} {H : LHeap} (h : Has E H) (t : LHeap) : Has E (H ++ t) := fun x hx => get_old (h x hx) t
end Go.Proofs.Ytopjhhcncjleaaa
/- DROP The search, worked out. -/
namespace Go.Proofs.Ytopjhhcncjleaaa
open Go Go.LK
set_option linter.unusedSimpArgs false
set_option linter.unusedVariables false
/-- What a search is given: calls' steps and keys, in blocks that stay. -/
structure Given (cap : Int) (P : Prob (List (BitVec 64))) (E : List (Nat × LObj)) (aa : Option Addr) (sk kk : FuncId) (sc kc : List Value) : Prop where
  n : P.n ≤ 62
  ah : ∀ H, Has E H → Sl 1 H aa (((List.range P.n).map P.ah).map w64)
  step : ∀ H lim, Has E H → lim ≤ H.length → ∀ b s (i : Nat), i < P.n → Sl 1 H b (s.map w64) → s.length < 1000 → callE T sk lim ([fifo cap b s.length, i64 i] ++ sc) H fun v H2 => ∃ t, H2 = H ++ t ∧ MayN (H ++ t) H.length b cap (P.step s i) v
  key : ∀ H lim, Has E H → ∀ b s, Sl 1 H b (s.map w64) → s.length < 1000 → callE T kk lim ([fifo cap b s.length] ++ kc) H fun v H2 => v = strV (keyN cap s) ∧ H2 = H
  len : ∀ s i t, P.step s i = some t → t.length ≤ s.length + 1
theorem set_same {α : Type} {l : List α} {i : Nat} {x : α} (h : l[i]? = some x) : l.set i x = l := by
  obtain ⟨h1, rfl⟩ := List.getElem?_eq_some_iff.1 h
  exact List.set_getElem_self h1
set_option maxHeartbeats 4000000 in
theorem find_ev {lim p q : Nat} {cap : Int} {P : Prob (List (BitVec 64))} {E : List (Nat × LObj)} {aa al : Option Addr} {nl ncap : Nat} {sk kk : FuncId} {sc kc : List Value} (hG : Given cap P E aa sk kk sc kc) (hnl : nl = P.n) : ∀ (k : Nat) (u : BitVec 64) (s : List (BitVec 64)) (H : LHeap) (a : Option Addr) (oc : Nat) (o : List Nat) (D : List (List UInt8)) (sb : Option Addr),
    leftN P.n u = k → FI lim cap P p q (.slice al nl ncap) (.slice aa nl nl) (.func (.func sk) #[] sc.toArray) (.func (.func kk) #[] kc.toArray) H a oc o D → Has E H → OffE p q a E → Sl 1 H sb (s.map w64) → OffS p q a sb → s.length + k ≤ 100 → o.length + k ≤ 100 → lim ≤ H.length →
    callE T 84 lim [ptrF p, w64 u, fifo cap sb s.length] H fun v H' => ∃ a' oc' D', v = .bool (P.fnd u s).isSome ∧ FI lim cap P p q (.slice al nl ncap) (.slice aa nl nl) (.func (.func sk) #[] sc.toArray) (.func (.func kk) #[] kc.toArray) H' a' oc' (o ++ (P.fnd u s).getD []) D' ∧ Kp p q a a' H H' := by
  subst hnl
  intro k
  induction k using Nat.strongRecOn with
  | ind k ih =>
  intro u s H a oc o D sb hk hF hE hO hs hso hsl hol hl
  refine callE_stay rfl (by simp) rfl ?_
  have hfe := P.fnd_eq (by have := hG.n; omega) u s
  have r2 : ∀ t, lget (H ++ t) p 2 = some (w64 P.done) := fun t => by rw [lget_at (get_old hF.row t)]; rfl
  have r5 : ∀ t, lget (H ++ t) p 5 = some (.map (some q)) := fun t => by rw [lget_at (get_old hF.row t)]; rfl
  have rq : ∀ t, (H ++ t)[q]? = some (.map (deadE D)) := fun t => get_old hF.mp t
  by_cases hd : P.done &&& ~~~u = 0#64
  · simp -dsimp only [go_sem, Nat.reduceEqDiff, Nat.reduceAdd, Nat.reduceSub, Nat.reduceMul, Nat.reduceLeDiff, Nat.reduceLT, Nat.reduceBEq, Int.reduceLT, Int.reduceLE, Int.reduceGT, Int.reduceGE, Int.reduceEq, Int.reduceNe, Int.reduceBEq, Int.reduceBNe, Int.reduceAdd, Int.reduceSub, Int.reduceMul, Int.reduceToNat, Int.reduceNeg, ↓reduceIte, ↓reduceDIte, r2, hd]
    rw [if_pos hd] at hfe
    rw [hfe]
    refine ⟨a, oc, D, rfl, ?_, Kp.app _⟩
    simpa using hF.app _
  · rw [if_neg hd] at hfe
    have hd' : (P.done &&& ~~~u == 0#64) = false := by simpa using hd
    simp -dsimp only [go_sem, Nat.reduceEqDiff, Nat.reduceAdd, Nat.reduceSub, Nat.reduceMul, Nat.reduceLeDiff, Nat.reduceLT, Nat.reduceBEq, Int.reduceLT, Int.reduceLE, Int.reduceGT, Int.reduceGE, Int.reduceEq, Int.reduceNe, Int.reduceBEq, Int.reduceBNe, Int.reduceAdd, Int.reduceSub, Int.reduceMul, Int.reduceToNat, Int.reduceNeg, ↓reduceIte, ↓reduceDIte, r2, hd']
    refine CT_of (name_ev (get_old hF.row _) (hs.app _) (by omega) (fun t lim' => hG.key _ lim' ((hE.app _).app _) _ _ ((hs.app _).app _) (by omega))) ?_
    rintro _ _ ⟨⟨kn, hkn, hkz, rfl⟩, rfl⟩
    generalize hnm : nameN kn cap u s = nm
    obtain ⟨d1, d2⟩ := dead_find nm D
    by_cases hin : nm ∈ D
    · obtain ⟨di, d3, d4⟩ := d1 hin
      simp -dsimp only [go_sem, Nat.reduceEqDiff, Nat.reduceAdd, Nat.reduceSub, Nat.reduceMul, Nat.reduceLeDiff, Nat.reduceLT, Nat.reduceBEq, Int.reduceLT, Int.reduceLE, Int.reduceGT, Int.reduceGE, Int.reduceEq, Int.reduceNe, Int.reduceBEq, Int.reduceBNe, Int.reduceAdd, Int.reduceSub, Int.reduceMul, Int.reduceToNat, Int.reduceNeg, ↓reduceIte, ↓reduceDIte, r5, rq, d4, Option.getD_some]
      have hno : P.fnd u s = none := hF.sound nm hin kn _ _ hkn hkz hnm.symm
      rw [hno]
      exact ⟨a, oc, D, rfl, by simpa using hF.app _, Kp.app _⟩
    · have d4 := d2 hin
      have r0 : ∀ t, lget (H ++ t) p 0 = some (.slice al P.n ncap) := fun t => by rw [lget_at (get_old hF.row t)]; rfl
      simp -dsimp only [go_sem, Nat.reduceEqDiff, Nat.reduceAdd, Nat.reduceSub, Nat.reduceMul, Nat.reduceLeDiff, Nat.reduceLT, Nat.reduceBEq, Int.reduceLT, Int.reduceLE, Int.reduceGT, Int.reduceGE, Int.reduceEq, Int.reduceNe, Int.reduceBEq, Int.reduceBNe, Int.reduceAdd, Int.reduceSub, Int.reduceMul, Int.reduceToNat, Int.reduceNeg, ↓reduceIte, ↓reduceDIte, r5, rq, d4, Option.getD_none, r0]
      refine LT_of (fun x : Nat × Option Addr × Nat × List (List UInt8) × LHeap => [(0, ptrF p), (1, w64 u), (5, ptrF H.length), (7, strV nm), (32, i64 P.n), (33, i64 x.1)]) (fun x => x.2.2.2.2)
        (fun x => x.1 ≤ P.n ∧ FI lim cap P p q (.slice al P.n ncap) (.slice aa P.n P.n) (.func (.func sk) #[] sc.toArray) (.func (.func kk) #[] kc.toArray) x.2.2.2.2 x.2.1 x.2.2.1 o x.2.2.2.1 ∧ Kp p q a x.2.1 (H ++ [.row false 0 [i64 cap, .slice sb s.length s.length]]) x.2.2.2.2 ∧ ∀ j, j < x.1 → P.tryAt P.fnd u s j = none) (fun x => P.n - x.1)
        (0, a, oc, D, H ++ [.row false 0 [i64 cap, .slice sb s.length s.length]]) (by simp) rfl ⟨by simp, hF.app _, Kp.refl, fun j h => by simp at h⟩ ?_
      rintro ⟨i, a1, oc1, D1, K⟩ ⟨hi, hF1, hKp, htry⟩
      simp only at hi hF1 hKp htry ⊢
      have hpl := (List.getElem?_eq_some_iff.1 hF.row).1
      have hql := (List.getElem?_eq_some_iff.1 hF.mp).1
      have hlK : lim ≤ K.length := by have := hKp.1; simp at this; omega
      by_cases hlt : i < P.n
      · have h1 : (i : Int) < P.n := by omega
        have hn62 := hG.n
        simp -dsimp only [go_sem, Nat.reduceEqDiff, Nat.reduceAdd, Nat.reduceSub, Nat.reduceMul, Nat.reduceLeDiff, Nat.reduceLT, Nat.reduceBEq, Int.reduceLT, Int.reduceLE, Int.reduceGT, Int.reduceGE, Int.reduceEq, Int.reduceNe, Int.reduceBEq, Int.reduceBNe, Int.reduceAdd, Int.reduceSub, Int.reduceMul, Int.reduceToNat, Int.reduceNeg, ↓reduceIte, ↓reduceDIte, h1]
        refine CT_val (has_ev (by omega)) ?_
        have hnext : P.tryAt P.fnd u s i = none → ∀ j, j < i + 1 → P.tryAt P.fnd u s j = none := by
          intro h j hj
          by_cases hji : j < i
          · exact htry j hji
          · obtain rfl : j = i := by omega
            exact h
        have hw : IntKind.i64.wrap ((i : Int) + 1) = ((i + 1 : Nat) : Int) := by rw [wrap_i64] <;> omega
        cases hb : u.getLsbD i
        · obtain ⟨hE1, hO1⟩ := hKp.has (hE.app _) hO
          obtain ⟨hs1, hso1⟩ := hKp.sl (hs.app _) hso
          obtain ⟨ab, ao, hab, hab1, hg⟩ := (hG.ah K hE1).all (by simp; omega)
          have ga := fun t => hg t i (w64 (P.ah i)) (by simp [hlt])
          have ga0 := ga []
          rw [List.append_nil] at ga0
          have k1 : lget K p 1 = some (.slice (some ⟨ab, ao, none⟩) P.n P.n) := by rw [lget_at hF1.row, ← hab]; rfl
          have h3 : 0 ≤ (i : Int) := by omega
          by_cases hz : P.ah i &&& ~~~u = 0#64
          · have k3 : ∀ t, lget (K ++ t) p 3 = some (.func (.func sk) #[] sc.toArray) := fun t => by rw [lget_at (get_old hF1.row t)]; rfl
            have k30 := k3 []
            rw [List.append_nil] at k30
            have kb : ∀ t, lcells (K ++ t) H.length 0 2 = some [i64 cap, .slice sb s.length s.length] := fun t => lcells_of (get_old (hKp.at_ (by omega) (by omega) (hF.ord.off (Nat.le_refl _)) (get_app0 H _)).1 t) rfl
            have kb0 := kb []
            rw [List.append_nil] at kb0
            simp -dsimp only [go_sem, Nat.reduceEqDiff, Nat.reduceAdd, Nat.reduceSub, Nat.reduceMul, Nat.reduceLeDiff, Nat.reduceLT, Nat.reduceBEq, Int.reduceLT, Int.reduceLE, Int.reduceGT, Int.reduceGE, Int.reduceEq, Int.reduceNe, Int.reduceBEq, Int.reduceBNe, Int.reduceAdd, Int.reduceSub, Int.reduceMul, Int.reduceToNat, Int.reduceNeg, ↓reduceIte, ↓reduceDIte, k1, ga0, h1, h3, hz, k30, kb0]
            refine CT_of (hG.step _ _ (hE1.app _) (by simp; omega) sb s i hlt (hs1.app _) (by omega)) ?_
            rintro _ _ ⟨t, rfl, hm⟩
            have k6 : ∀ t, lget (K ++ t) p 6 = some (.slice a1 o.length oc1) := fun t => by rw [lget_at (get_old hF1.row t)]; rfl
            cases hst : P.step s i with
            | none =>
              rw [hst] at hm
              simp only [MayN] at hm
              subst hm
              simp -dsimp only [go_sem, Nat.reduceEqDiff, Nat.reduceAdd, Nat.reduceSub, Nat.reduceMul, Nat.reduceLeDiff, Nat.reduceLT, Nat.reduceBEq, Int.reduceLT, Int.reduceLE, Int.reduceGT, Int.reduceGE, Int.reduceEq, Int.reduceNe, Int.reduceBEq, Int.reduceBNe, Int.reduceAdd, Int.reduceSub, Int.reduceMul, Int.reduceToNat, Int.reduceNeg, ↓reduceIte, ↓reduceDIte, hw, take_app_n, get_app_n, get_app_n0, set_app_n, set_app_n0, lget_app_n, lget_app_n0, lcells_app_n, lcells_app_n0, List.length_set, List.take_of_length_le, List.set_set, get_left, set_left, lget_left, lcells_left, get_set_eq, get_set_ne, lget_set_eq, lget_set_ne, lcells_set_ne]
              refine ⟨(i + 1, a1, oc1, D1, _), rfl, rfl, ⟨by dsimp only; omega, hF1.app _, hKp.trans (Kp.app _), hnext ?_⟩, by dsimp only; omega⟩
              simp [Prob.tryAt, hst]
            | some s' =>
              rw [hst] at hm
              simp only [MayN] at hm
              obtain ⟨b', rfl, hb', hbf⟩ := hm
              generalize hK3 : K ++ LObj.row false 0 [i64 cap, Value.slice b' s'.length s'.length] :: (t ++ [LObj.row false 1 [i64 i]]) = K3
              have hF3 : FI lim cap P p q (.slice al P.n ncap) (.slice aa P.n P.n) (.func (.func sk) #[] sc.toArray) (.func (.func kk) #[] kc.toArray) K3 a1 oc1 o D1 := by rw [← hK3]; exact hF1.app _
              have hp3 := (List.getElem?_eq_some_iff.1 hF3.row).1
              have hq3 := (List.getElem?_eq_some_iff.1 hF3.mp).1
              have hKp3 : Kp p q a1 a1 K K3 := by rw [← hK3]; exact Kp.app _
              have hl3 : lim ≤ K3.length := Nat.le_trans hlK hKp3.1
              obtain ⟨a2, cap2, K4, hap, hO4, hl4, hk4⟩ := hF3.ord.push hl3 (by omega) i
              have hp4 := hk4 p hp3 hF3.offp
              have hq4 := hk4 q hq3 hF3.offq
              have row4 : K4[p]? = _ := hp4.1.trans hF3.row
              have mp4 : K4[q]? = _ := hq4.1.trans hF3.mp
              have limp := hF3.limp
              have n3 : K3[K.length + (t.length + 1)]? = some (.row false 1 [i64 i]) := by rw [← hK3]; simp [List.getElem?_append]
              have b3 : K3[K.length]? = some (.row false 0 [i64 cap, .slice b' s'.length s'.length]) := by rw [← hK3]; simp
              have b4 := (hk4 K.length (by rw [← hK3]; simp) (hF1.ord.off (Nat.le_refl _)))
              have b4' := b4.1.trans b3
              have hsrc : lsrc K3 1 (.slice (some ⟨K.length + (t.length + 1), 0, none⟩) 1 1) = some ([i64 i], 1) := by
                simp only [lsrc, Nat.mul_one, lcells_of (n := 1) n3 rfl]; rfl
              have hpl4 := (List.getElem?_eq_some_iff.1 row4).1
              generalize hK5 : K4.set p (LObj.row false 0 [Value.slice al P.n ncap, Value.slice aa P.n P.n, w64 P.done, Value.func (Fn.func sk) #[] sc.toArray, Value.func (Fn.func kk) #[] kc.toArray, Value.map (some q), Value.slice a2 (o.length + 1) cap2]) = K5
              have hlen1 : (o ++ [i]).length = o.length + 1 := by simp
              have hkk : K.length ≠ p := by have := (List.getElem?_eq_some_iff.1 hF1.row).1; omega
              have hkq : K.length ≠ q := by have := (List.getElem?_eq_some_iff.1 hF1.mp).1; omega
              have b5 : K5[K.length]? = some (.row false 0 [i64 cap, .slice b' s'.length s'.length]) := by rw [← hK5, get_set_ne hkk.symm]; exact b4'
              have lc5 := lcells_of (n := 2) b5 rfl
              have hF5 : FI lim cap P p q (.slice al P.n ncap) (.slice aa P.n P.n) (.func (.func sk) #[] sc.toArray) (.func (.func kk) #[] kc.toArray) K5 a2 cap2 (o ++ [i]) D1 := by
                rw [← hK5, ← hlen1]
                exact ⟨get_set_eq hpl4 _, by rw [get_set_ne hF3.pq]; exact mp4, hO4.set hp4.2 _, hF3.pq, hF3.limp, hF3.limq, hp4.2, hq4.2, hF3.sound⟩
              have hKp5 : Kp p q a1 a2 K K5 := by
                rw [← hK5]
                refine (hKp3.trans ⟨hl4, fun j hj _ _ ho => hk4 j hj ho⟩).trans (Kp.setp _)
              obtain ⟨hE5, hO5⟩ := hKp5.has hE1 hO1
              have hsb5 : Sl 1 K5 b' (s'.map w64) ∧ OffS p q a2 b' := by
                have hKp35 : Kp p q a1 a2 K3 K5 := by
                  rw [← hK5]
                  exact Kp.trans ⟨hl4, fun j hj _ _ ho => hk4 j hj ho⟩ (Kp.setp _)
                have hb3 : Sl 1 K3 b' (s'.map w64) := by
                  have := (hb'.into (H' := K ++ LObj.row false 0 [i64 cap, Value.slice b' s'.length s'.length] :: t) (by omega) (by simp [unbox_app, unbox_cons, unboxO_box])).app [LObj.row false 1 [i64 i]]
                  rw [← hK3]
                  simpa using this
                refine hKp35.sl hb3 fun x hx => ?_
                rcases hbf with rfl | hbf
                · exact hso1 x hx
                · have hx1 := hbf x hx
                  rw [List.length_append, List.length_singleton] at hx1
                  have hpK := (List.getElem?_eq_some_iff.1 hF1.row).1
                  have hqK := (List.getElem?_eq_some_iff.1 hF1.mp).1
                  exact ⟨by omega, by omega, hF1.ord.off (by omega)⟩
              simp -dsimp only [go_sem, Nat.reduceEqDiff, Nat.reduceAdd, Nat.reduceSub, Nat.reduceMul, Nat.reduceLeDiff, Nat.reduceLT, Nat.reduceBEq, Int.reduceLT, Int.reduceLE, Int.reduceGT, Int.reduceGE, Int.reduceEq, Int.reduceNe, Int.reduceBEq, Int.reduceBNe, Int.reduceAdd, Int.reduceSub, Int.reduceMul, Int.reduceToNat, Int.reduceNeg, ↓reduceIte, ↓reduceDIte, hw, k6, hK3, hsrc, hap, hlK, hpl4, row4, limp, hK5, lc5, take_app_n, get_app_n, get_app_n0, set_app_n, set_app_n0, lget_app_n, lget_app_n0, lcells_app_n, lcells_app_n0, List.length_set, List.take_of_length_le, List.set_set, get_left, set_left, lget_left, lcells_left, get_set_eq, get_set_ne, lget_set_eq, lget_set_ne, lcells_set_ne]
              refine CT_val (with_ev (by omega)) ?_
              have hun : leftN P.n (withB u i) + 1 = leftN P.n u := left_with (by omega) hlt hb
              have hsl' := hG.len _ _ _ hst
              simp -dsimp only [go_sem, Nat.reduceEqDiff, Nat.reduceAdd, Nat.reduceSub, Nat.reduceMul, Nat.reduceLeDiff, Nat.reduceLT, Nat.reduceBEq, Int.reduceLT, Int.reduceLE, Int.reduceGT, Int.reduceGE, Int.reduceEq, Int.reduceNe, Int.reduceBEq, Int.reduceBNe, Int.reduceAdd, Int.reduceSub, Int.reduceMul, Int.reduceToNat, Int.reduceNeg, ↓reduceIte, ↓reduceDIte, lc5, hw, take_app_n, get_app_n, get_app_n0, set_app_n, set_app_n0, lget_app_n, lget_app_n0, lcells_app_n, lcells_app_n0, List.length_set, List.take_of_length_le, List.set_set, get_left, set_left, lget_left, lcells_left, get_set_eq, get_set_ne, lget_set_eq, lget_set_ne, lcells_set_ne]
              refine CT_of (ih (leftN P.n (withB u i)) (by omega) (withB u i) s' K5 a2 cap2 (o ++ [i]) D1 b' rfl hF5 hE5 hO5 hsb5.1 hsb5.2 (by omega) (by rw [hlen1]; omega) (Nat.le_trans hlK hKp5.1)) ?_
              rintro _ K6 ⟨a6, oc6, D6, rfl, hF6, hKp6⟩
              have hKp06 := hKp.trans (hKp5.trans hKp6)
              have htr : P.tryAt P.fnd u s i = (P.fnd (withB u i) s').map (i :: ·) := by simp [Prob.tryAt, hst, hb, hz]
              cases hr : P.fnd (withB u i) s' with
              | some r =>
                rw [hr] at hF6 htr
                rw [findSome_at hlt htry htr] at hfe
                simp -dsimp only [go_sem, Nat.reduceEqDiff, Nat.reduceAdd, Nat.reduceSub, Nat.reduceMul, Nat.reduceLeDiff, Nat.reduceLT, Nat.reduceBEq, Int.reduceLT, Int.reduceLE, Int.reduceGT, Int.reduceGE, Int.reduceEq, Int.reduceNe, Int.reduceBEq, Int.reduceBNe, Int.reduceAdd, Int.reduceSub, Int.reduceMul, Int.reduceToNat, Int.reduceNeg, ↓reduceIte, ↓reduceDIte, Option.isSome_some]
                rw [hfe]
                refine ⟨a6, oc6, D6, rfl, by simpa using hF6, (Kp.app _).trans hKp06⟩
              | none =>
                rw [hr] at hF6 htr
                simp only [Option.getD_none, List.append_nil] at hF6
                obtain ⟨hcut, hO6⟩ := hF6.ord.cut
                have hcut0 := hcut []
                rw [List.append_nil] at hcut0
                have row6 := hF6.row
                have q6 : lget K6 p 6 = some (.slice a6 (o.length + 1) oc6) := by rw [lget_at row6, ← hlen1]; rfl
                have hpl6 := (List.getElem?_eq_some_iff.1 row6).1
                have hw1 : IntKind.i64.wrap (((o.length + 1 : Nat) : Int) - 1) = (o.length : Int) := by rw [wrap_i64] <;> omega
                simp -dsimp only [go_sem, Nat.reduceEqDiff, Nat.reduceAdd, Nat.reduceSub, Nat.reduceMul, Nat.reduceLeDiff, Nat.reduceLT, Nat.reduceBEq, Int.reduceLT, Int.reduceLE, Int.reduceGT, Int.reduceGE, Int.reduceEq, Int.reduceNe, Int.reduceBEq, Int.reduceBNe, Int.reduceAdd, Int.reduceSub, Int.reduceMul, Int.reduceToNat, Int.reduceNeg, ↓reduceIte, ↓reduceDIte, Option.isSome_none, q6, hw1, hcut0, row6, hpl6, limp, hw, take_app_n, get_app_n, get_app_n0, set_app_n, set_app_n0, lget_app_n, lget_app_n0, lcells_app_n, lcells_app_n0, List.length_set, List.take_of_length_le, List.set_set, get_left, set_left, lget_left, lcells_left, get_set_eq, get_set_ne, lget_set_eq, lget_set_ne, lcells_set_ne]
                refine ⟨(i + 1, a6, oc6, D6, _), rfl, rfl, ⟨by dsimp only; omega, hF6.setp hO6, hKp06.trans (Kp.setp _), hnext ?_⟩, by dsimp only; omega⟩
                rw [htr]; rfl
          · have hz' : (P.ah i &&& ~~~u != 0#64) = true := by simpa using hz
            simp -dsimp only [go_sem, Nat.reduceEqDiff, Nat.reduceAdd, Nat.reduceSub, Nat.reduceMul, Nat.reduceLeDiff, Nat.reduceLT, Nat.reduceBEq, Int.reduceLT, Int.reduceLE, Int.reduceGT, Int.reduceGE, Int.reduceEq, Int.reduceNe, Int.reduceBEq, Int.reduceBNe, Int.reduceAdd, Int.reduceSub, Int.reduceMul, Int.reduceToNat, Int.reduceNeg, ↓reduceIte, ↓reduceDIte, k1, ga0, h1, h3, hz', hw]
            refine ⟨(i + 1, a1, oc1, D1, K), rfl, rfl, ⟨by dsimp only; omega, hF1, hKp, hnext ?_⟩, by dsimp only; omega⟩
            rw [Prob.tryAt, if_pos (.inr hz)]
        · simp -dsimp only [go_sem, Nat.reduceEqDiff, Nat.reduceAdd, Nat.reduceSub, Nat.reduceMul, Nat.reduceLeDiff, Nat.reduceLT, Nat.reduceBEq, Int.reduceLT, Int.reduceLE, Int.reduceGT, Int.reduceGE, Int.reduceEq, Int.reduceNe, Int.reduceBEq, Int.reduceBNe, Int.reduceAdd, Int.reduceSub, Int.reduceMul, Int.reduceToNat, Int.reduceNeg, ↓reduceIte, ↓reduceDIte, hw]
          refine ⟨(i + 1, a1, oc1, D1, K), rfl, rfl, ⟨by dsimp only; omega, hF1, hKp, hnext ?_⟩, by dsimp only; omega⟩
          rw [Prob.tryAt, if_pos (.inl hb)]
      · have h1 : ¬ (i : Int) < P.n := by omega
        have k5 : lget K p 5 = some (.map (some q)) := by rw [lget_at hF1.row]; rfl
        have kq := hF1.mp
        have hii : i = P.n := by omega
        subst hii
        rw [findSome_none htry] at hfe
        obtain ⟨e1, e2⟩ := dead_find nm D1
        have lq := hF.limq
        by_cases hin1 : nm ∈ D1
        · obtain ⟨di, e3, e4⟩ := e1 hin1
          simp -dsimp only [go_sem, Nat.reduceEqDiff, Nat.reduceAdd, Nat.reduceSub, Nat.reduceMul, Nat.reduceLeDiff, Nat.reduceLT, Nat.reduceBEq, Int.reduceLT, Int.reduceLE, Int.reduceGT, Int.reduceGE, Int.reduceEq, Int.reduceNe, Int.reduceBEq, Int.reduceBNe, Int.reduceAdd, Int.reduceSub, Int.reduceMul, Int.reduceToNat, Int.reduceNeg, ↓reduceIte, ↓reduceDIte, h1, k5, kq, e4, lq]
          rw [hfe, show (deadE D1).set di (strV nm, Value.bool true) = deadE D1 by (unfold deadE; rw [← List.map_set]; congr 1; exact set_same e3)]
          exact ⟨a1, oc1, D1, rfl, by simpa using hF1.kill D1 hF1.sound, (Kp.app _).trans (hKp.trans (Kp.setq _))⟩
        · have e4 := e2 hin1
          simp -dsimp only [go_sem, Nat.reduceEqDiff, Nat.reduceAdd, Nat.reduceSub, Nat.reduceMul, Nat.reduceLeDiff, Nat.reduceLT, Nat.reduceBEq, Int.reduceLT, Int.reduceLE, Int.reduceGT, Int.reduceGE, Int.reduceEq, Int.reduceNe, Int.reduceBEq, Int.reduceBNe, Int.reduceAdd, Int.reduceSub, Int.reduceMul, Int.reduceToNat, Int.reduceNeg, ↓reduceIte, ↓reduceDIte, h1, k5, kq, e4, lq]
          rw [hfe, show deadE D1 ++ [(strV nm, Value.bool true)] = deadE (D1 ++ [nm]) by simp [deadE]]
          refine ⟨a1, oc1, D1 ++ [nm], rfl, ?_, (Kp.app _).trans (hKp.trans (Kp.setq _))⟩
          simp only [Option.getD_none, List.append_nil]
          refine hF1.kill (D1 ++ [nm]) ?_
          intro x hx k' u' s' h1' h2' h3'
          rcases List.mem_append.1 hx with hx | hx
          · exact hF1.sound x hx k' u' s' h1' h2' h3'
          · obtain rfl := List.mem_singleton.1 hx
            obtain ⟨rfl, rfl⟩ := name_inj hkn h1' hkz h2' (hnm.trans h3')
            exact hfe
end Go.Proofs.Ytopjhhcncjleaaa
