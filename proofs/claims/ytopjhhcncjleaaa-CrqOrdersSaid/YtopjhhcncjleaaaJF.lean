/- DROP Orders that are ones: plain. -/
import Derived.Test.YtopjhhcncjleaaaJ9
namespace Go.Proofs.Ytopjhhcncjleaaa
open Go Go.LK
set_option linter.unusedSimpArgs false
set_option linter.unusedVariables false
variable {σ : Type}
/-- Is this an order, from there on? -/
def Prob.vrun (P : Prob σ) : List Nat → BitVec 64 → σ → Bool
  | [], u, _ => decide (P.done &&& ~~~u = 0#64)
  | i :: r, u, s => if i < P.n ∧ u.getLsbD i = false ∧ P.ah i &&& ~~~u = 0#64 then match P.step s i with
      | some t => P.vrun r (withB u i) t
      | none => false
    else false
theorem Prob.fnd_sound (P : Prob σ) (hn : P.n ≤ 64) : ∀ (k : Nat) (u : BitVec 64) (s : σ) (r : List Nat), leftN P.n u = k → P.fnd u s = some r → P.vrun r u s = true := by
  intro k
  induction k using Nat.strongRecOn with
  | ind k ih =>
  intro u s r hk h
  rw [P.fnd_eq hn] at h
  split at h
  · rename_i hd
    cases h
    simp [Prob.vrun, hd]
  · obtain ⟨i, hi, h2, _⟩ := findSome_some h
    unfold Prob.tryAt at h2
    split at h2
    · cases h2
    · rename_i hc
      split at h2
      · cases h2
      · rename_i t ht
        obtain ⟨r', h3, rfl⟩ := Option.map_eq_some_iff.1 h2
        have hu : u.getLsbD i = false := by
          cases hq : u.getLsbD i
          · rfl
          · exact absurd (.inl hq) hc
        have ha : P.ah i &&& ~~~u = 0#64 := by
          refine Decidable.byContradiction fun q => hc (.inr q)
        have hl := left_with hn hi hu
        rw [Prob.vrun, if_pos ⟨hi, hu, ha⟩, ht]
        exact ih _ (by omega) _ _ _ rfl h3
theorem Prob.fnd_complete (P : Prob σ) (hn : P.n ≤ 64) : ∀ (r : List Nat) (u : BitVec 64) (s : σ), P.vrun r u s = true → (P.fnd u s).isSome = true
  | [], u, s, h => by
    rw [P.fnd_eq hn, if_pos (by simpa [Prob.vrun] using h)]; rfl
  | i :: r, u, s, h => by
    rw [Prob.vrun] at h
    split at h
    · rename_i hc
      obtain ⟨hi, hu, ha⟩ := hc
      split at h
      · rename_i t ht
        have h1 := P.fnd_complete hn r _ _ h
        rw [P.fnd_eq hn]
        split
        · rfl
        · cases hq : (List.range P.n).findSome? (P.tryAt P.fnd u s) with
          | some x => rfl
          | none =>
            rw [List.findSome?_eq_none_iff] at hq
            have := hq i (List.mem_range.2 hi)
            rw [Prob.tryAt, if_neg (by rw [hu]; simp [ha]), ht] at this
            simp only [Option.map_eq_none_iff] at this
            rw [this] at h1; cases h1
      · cases h
    · cases h
theorem Prob.vrun_mono {P Q : Prob σ} (h1 : P.n = Q.n) (h2 : P.ah = Q.ah) (h3 : P.done = Q.done) (h4 : ∀ s i t, P.step s i = some t → Q.step s i = some t) : ∀ (r : List Nat) (u : BitVec 64) (s : σ), P.vrun r u s = true → Q.vrun r u s = true
  | [], u, s, h => by rw [Prob.vrun, ← h3]; exact h
  | i :: r, u, s, h => by
    rw [Prob.vrun] at h
    split at h
    · rename_i hc
      rw [h1, h2] at hc
      split at h
      · rename_i t ht
        rw [Prob.vrun, if_pos hc, h4 _ _ _ ht]
        exact Prob.vrun_mono h1 h2 h3 h4 r _ _ h
      · cases h
    · cases h
theorem mayF_mode {cap : Int} {s t : Queue} {c : CallD} {p q p' q' mode : Int} (h : mayF cap s c 0 p q = some t) : mayF cap s c mode p' q' = some t := by
  unfold mayF at h ⊢
  split at h
  · rename_i h1; rw [if_pos h1]; exact h
  · rename_i h1
    rw [if_neg h1]
    split at h
    · rename_i h2; rw [if_pos h2]; exact h
    · rw [show letF cap s.length c.kind c.code c.ret 0 p q = false by simp [letF]] at h
      cases h
theorem stepM_mode {cap : Int} {l : List CallD} {s t : Queue} {i : Nat} {mode : Int} (h : stepM cap l 0 s i = some t) : stepM cap l mode s i = some t := by
  unfold stepM at h ⊢
  split at h
  · exact mayF_mode h
  · cases h
theorem search_vrun {l : List CallD} {stp : Queue → Nat → Option Queue} {r : List Nat} (h : searchF l stp = some r) : l.length ≤ 62 ∧ rightL l = true ∧ (prob l stp).vrun r 0#64 [] = true := by
  unfold searchF at h
  split at h
  · rename_i hc
    refine ⟨hc.1, hc.2, Prob.fnd_sound _ ?_ _ _ _ _ rfl h⟩
    show l.length ≤ 64
    omega
  · cases h
theorem vrun_search {l : List CallD} {stp : Queue → Nat → Option Queue} {r : List Nat} (h1 : l.length ≤ 62) (h2 : rightL l = true) (h : (prob l stp).vrun r 0#64 [] = true) : (searchF l stp).isSome = true := by
  unfold searchF
  rw [if_pos ⟨h1, h2⟩]
  exact Prob.fnd_complete _ (show l.length ≤ 64 by omega) r _ _ h
end Go.Proofs.Ytopjhhcncjleaaa
/- DROP Valid, worked out. -/
namespace Go.Proofs.Ytopjhhcncjleaaa
open Go Go.LK
set_option linter.unusedSimpArgs false
set_option linter.unusedVariables false
theorem aheadTo_bit {l : List CallD} {c : CallD} {i k : Nat} (hk : k < 64) : ∀ n, n ≤ 64 → ((aheadTo l c i n).getLsbD k = true ↔ k < n ∧ k ≠ i ∧ ∃ o, l[k]? = some o ∧ aheadF o c = true) := by
  intro n
  induction n with
  | zero => intro _; simp [aheadTo]
  | succ n ih =>
    intro hn
    have ih := ih (by omega)
    have split1 : ∀ p : Prop, (k < n + 1 ∧ p) ↔ (k < n ∧ p) ∨ (k = n ∧ p) := by
      intro p
      constructor
      · rintro ⟨h1, h2⟩
        by_cases e : k = n
        · exact .inr ⟨e, h2⟩
        · exact .inl ⟨by omega, h2⟩
      · rintro (⟨h1, h2⟩ | ⟨h1, h2⟩)
        · exact ⟨by omega, h2⟩
        · exact ⟨by omega, h2⟩
    rw [split1, ← ih, aheadTo]
    cases hq : l[n]? with
    | none =>
      simp only
      constructor
      · exact .inl
      · rintro (h | ⟨rfl, _, o, h2, _⟩)
        · exact h
        · rw [hq] at h2; cases h2
    | some d =>
      simp only
      by_cases hc : n ≠ i ∧ aheadF d c = true
      · rw [if_pos hc, get_with hk, Bool.or_eq_true, decide_eq_true_eq]
        constructor
        · rintro (h | rfl)
          · exact .inl h
          · exact .inr ⟨rfl, hc.1, d, hq, hc.2⟩
        · rintro (h | ⟨rfl, _⟩)
          · exact .inl h
          · exact .inr rfl
      · rw [if_neg hc]
        constructor
        · exact .inl
        · rintro (h | ⟨rfl, h1, o, h2, h3⟩)
          · exact h
          · rw [hq] at h2; cases h2
            exact absurd ⟨h1, h3⟩ hc
theorem ahB_bit {l : List CallD} {i k : Nat} {c : CallD} (hl : l.length ≤ 64) (hi : l[i]? = some c) (hk : k < 64) : (ahB l i).getLsbD k = true ↔ k ≠ i ∧ ∃ o, l[k]? = some o ∧ aheadF o c = true := by
  unfold ahB
  rw [hi]
  simp only
  rw [aheadTo_bit hk _ hl]
  constructor
  · exact fun h => h.2
  · rintro ⟨h1, o, h2, h3⟩
    exact ⟨(List.getElem?_eq_some_iff.1 h2).1, h1, o, h2, h3⟩
theorem doneTo_bit {l : List CallD} {k : Nat} (hk : k < 64) : ∀ n, n ≤ 64 → ((doneTo l n).getLsbD k = true ↔ k < n ∧ ∃ o, l[k]? = some o ∧ o.dn = true) := by
  intro n
  induction n with
  | zero => intro _; simp [doneTo]
  | succ n ih =>
    intro hn
    have ih := ih (by omega)
    have split1 : ∀ p : Prop, (k < n + 1 ∧ p) ↔ (k < n ∧ p) ∨ (k = n ∧ p) := by
      intro p
      constructor
      · rintro ⟨h1, h2⟩
        by_cases e : k = n
        · exact .inr ⟨e, h2⟩
        · exact .inl ⟨by omega, h2⟩
      · rintro (⟨h1, h2⟩ | ⟨h1, h2⟩)
        · exact ⟨by omega, h2⟩
        · exact ⟨by omega, h2⟩
    rw [split1, ← ih, doneTo]
    cases hq : l[n]? with
    | none =>
      simp only
      constructor
      · exact .inl
      · rintro (h | ⟨rfl, o, h2, _⟩)
        · exact h
        · rw [hq] at h2; cases h2
    | some d =>
      simp only
      by_cases hc : d.dn = true
      · rw [if_pos hc, get_with hk, Bool.or_eq_true, decide_eq_true_eq]
        constructor
        · rintro (h | rfl)
          · exact .inl h
          · exact .inr ⟨rfl, d, hq, hc⟩
        · rintro (h | ⟨rfl, _⟩)
          · exact .inl h
          · exact .inr rfl
      · rw [if_neg hc]
        constructor
        · exact .inl
        · rintro (h | ⟨rfl, o, h2, h3⟩)
          · exact h
          · rw [hq] at h2; cases h2
            exact absurd h3 hc
theorem done_bit {l : List CallD} {k : Nat} (hl : l.length ≤ 64) (hk : k < 64) : (doneTo l l.length).getLsbD k = true ↔ ∃ o, l[k]? = some o ∧ o.dn = true := by
  rw [doneTo_bit hk _ hl]
  constructor
  · exact fun h => h.2
  · rintro ⟨o, h2, h3⟩
    exact ⟨(List.getElem?_eq_some_iff.1 h2).1, o, h2, h3⟩
theorem ah_sub {l : List CallD} {i : Nat} {c : CallD} {u : BitVec 64} (hl : l.length ≤ 64) (hi : l[i]? = some c) : ahB l i &&& ~~~u = 0#64 ↔ ∀ k o, l[k]? = some o → k ≠ i → u.getLsbD k = false → aheadF o c = false := by
  rw [sub_iff]
  constructor
  · intro h k o h1 h2 h3
    have hk : k < 64 := by have := (List.getElem?_eq_some_iff.1 h1).1; omega
    cases hq : aheadF o c
    · rfl
    · have := h k hk ((ahB_bit hl hi hk).2 ⟨h2, o, h1, hq⟩)
      rw [h3] at this; cases this
  · intro h j hj h1
    obtain ⟨h2, o, h3, h4⟩ := (ahB_bit hl hi hj).1 h1
    cases hq : u.getLsbD j
    · rw [h j o h3 h2 hq] at h4; cases h4
    · rfl
theorem done_sub {l : List CallD} {u : BitVec 64} (hl : l.length ≤ 64) : doneTo l l.length &&& ~~~u = 0#64 ↔ ∀ k o, l[k]? = some o → u.getLsbD k = false → o.dn = false := by
  rw [sub_iff]
  constructor
  · intro h k o h1 h3
    have hk : k < 64 := by have := (List.getElem?_eq_some_iff.1 h1).1; omega
    cases hq : o.dn
    · rfl
    · have := h k hk ((done_bit hl hk).2 ⟨o, h1, hq⟩)
      rw [h3] at this; cases this
  · intro h j hj h1
    obtain ⟨o, h3, h4⟩ := (done_bit hl hj).1 h1
    cases hq : u.getLsbD j
    · rw [h j o h3 hq] at h4; cases h4
    · rfl
/-- Which are left. -/
def leftC (n : Nat) (u : BitVec 64) : List Value := (List.range n).map fun k => Value.bool (!u.getLsbD k)
theorem leftC_len (n : Nat) (u : BitVec 64) : (leftC n u).length = n := by simp [leftC]
theorem leftC_at {n k : Nat} {u : BitVec 64} (h : k < n) : (leftC n u)[k]? = some (.bool (!u.getLsbD k)) := by simp [leftC, h]
theorem leftC_set {n i : Nat} {u : BitVec 64} (hn : n ≤ 64) (hi : i < n) : (leftC n u).set i (.bool false) = leftC n (withB u i) := by
  refine List.ext_getElem? fun k => ?_
  rw [List.getElem?_set]
  by_cases hk : k < n
  · rw [leftC_at hk, leftC_at hk, get_with (by omega)]
    by_cases e : i = k
    · subst e; simp [leftC_len, hi]
    · simp [e]
  · have e : ¬ i = k := by omega
    rw [if_neg e, List.getElem?_eq_none (by rw [leftC_len]; omega), List.getElem?_eq_none (by rw [leftC_len]; omega)]
theorem leftC_all (n : Nat) : List.replicate n (Value.bool true) = leftC n 0#64 := by
  refine List.ext_getElem? fun k => ?_
  by_cases hk : k < n
  · rw [leftC_at hk]; simp [hk]
  · rw [List.getElem?_eq_none (by simp; omega), List.getElem?_eq_none (by rw [leftC_len]; omega)]
end Go.Proofs.Ytopjhhcncjleaaa
/- DROP A log of calls. -/
namespace Go.Proofs.Ytopjhhcncjleaaa
open Go Go.LK
set_option linter.unusedSimpArgs false
set_option linter.unusedVariables false
/-! maps of numbers -/
def mfind {α : Type} (k : Int) : List (Int × α) → Option (Nat × α)
  | [] => none
  | (x, v) :: r => if k = x then some (0, v) else (mfind k r).map fun p => (p.1 + 1, p.2)
abbrev ents {α : Type} (f : α → Value) (l : List (Int × α)) : List (Value × Value) := l.map fun q => (i64 q.1, f q.2)
theorem lfind_ents {α : Type} (f : α → Value) (k : Int) : ∀ l : List (Int × α), lfind false (i64 k) (ents f l) = some ((mfind k l).map fun p => (p.1, f p.2))
  | [] => rfl
  | (x, v) :: r => by
    simp only [ents, List.map_cons, lfind, sameKey_int, mfind]
    by_cases h : k = x
    · subst h; simp
    · have h1 : (k == x) = false := by simpa using h
      have := lfind_ents f k r
      simp only [ents] at this
      simp [h1, h, this]
      cases mfind k r <;> rfl
structure HV where
  l : List CallD
  op : List (Int × Int)
  now : Int
def isOne (a : Option Addr) (H : LHeap) (l : List CallD) : Prop := (a = none ∧ l = []) ∨ ∃ q, a = some ⟨q, 0, none⟩ ∧ H[q]? = some (.row false 8 (l.flatMap CallD.cells))
structure LogAt (n : Nat) (H : LHeap) (b m : Nat) (a : Option Addr) (v : HV) : Prop where
  row : H[b]? = some (.row false 0 [.slice a v.l.length v.l.length, .map (some m), i64 v.now])
  mp : H[m]? = some (.map (ents i64 v.op))
  ls : isOne a H v.l
  nb : n ≤ b
  nm : n ≤ m
  na : Fresh n a
  ne : b ≠ m
  ob : Off b a
  om : Off m a
def Keeps (b m : Nat) (a a' : Option Addr) (H H' : LHeap) : Prop := H.length ≤ H'.length ∧ ∀ j, j < H.length → j ≠ b → j ≠ m → Off j a → H'[j]? = H[j]? ∧ Off j a'
theorem LogAt.lb {n b m : Nat} {H : LHeap} {a : Option Addr} {v : HV} (h : LogAt n H b m a v) : b < H.length ∧ m < H.length :=
  ⟨(List.getElem?_eq_some_iff.1 h.row).1, (List.getElem?_eq_some_iff.1 h.mp).1⟩
theorem LogAt.app {n b m : Nat} {H : LHeap} {a : Option Addr} {v : HV} (h : LogAt n H b m a v) (t : LHeap) : LogAt n (H ++ t) b m a v := by
  refine ⟨get_old h.row t, get_old h.mp t, ?_, h.nb, h.nm, h.na, h.ne, h.ob, h.om⟩
  rcases h.ls with h | ⟨q, h1, h2⟩
  · exact .inl h
  · exact .inr ⟨q, h1, get_old h2 t⟩
theorem LogAt.sl {n b m : Nat} {H : LHeap} {a : Option Addr} {v : HV} (h : LogAt n H b m a v) : Sl 8 H a (v.l.flatMap CallD.cells) := by
  rcases h.ls with ⟨h1, h2⟩ | ⟨q, h1, h2⟩
  · rw [h1, h2]; exact Sl.nil _ _
  · rw [h1]; exact Sl.row h2
theorem lnone_no {lim : Nat} {H : LHeap} {b n m : Nat} {a : Option Addr} {v : HV} (h : LogAt n H b m a v) : callE T 61 lim [ptr b] H fun r H' => r = .bool false ∧ H' = H := by
  refine callE_pop rfl (by simp) rfl ?_
  have g1 := lget_at h.row 1
  simp only [List.getElem?_cons_succ, List.getElem?_cons_zero] at g1
  simp -dsimp only [go_sem, Nat.reduceEqDiff, Nat.reduceAdd, Nat.reduceSub, Nat.reduceMul, Nat.reduceLeDiff, Nat.reduceLT, Nat.reduceBEq, Int.reduceLT, Int.reduceLE, Int.reduceGT, Int.reduceGE, Int.reduceEq, Int.reduceNe, Int.reduceBEq, Int.reduceBNe, Int.reduceAdd, Int.reduceSub, Int.reduceMul, Int.reduceToNat, Int.reduceNeg, ↓reduceIte, ↓reduceDIte, g1]
def HV.open (v : HV) (t : Int) : Option Int := (mfind t v.op).map (·.2)
theorem open_ev {lim : Nat} {H : LHeap} {b n m : Nat} {a : Option Addr} {v : HV} {t : Int} (h : LogAt n H b m a v) : callE T 60 lim [ptr b, i64 t] H fun r H' => r = .tuple #[i64 ((v.open t).getD 0), .bool (v.open t).isSome] ∧ H' = H := by
  refine callE_pop rfl (by simp) rfl ?_
  have g1 := lget_at h.row 1
  simp only [List.getElem?_cons_succ, List.getElem?_cons_zero] at g1
  simp -dsimp only [go_sem, Nat.reduceEqDiff, Nat.reduceAdd, Nat.reduceSub, Nat.reduceMul, Nat.reduceLeDiff, Nat.reduceLT, Nat.reduceBEq, Int.reduceLT, Int.reduceLE, Int.reduceGT, Int.reduceGE, Int.reduceEq, Int.reduceNe, Int.reduceBEq, Int.reduceBNe, Int.reduceAdd, Int.reduceSub, Int.reduceMul, Int.reduceToNat, Int.reduceNeg, ↓reduceIte, ↓reduceDIte]
  refine CT_val (lnone_no h) ?_
  have g2 := lfind_ents i64 t v.op
  have g3 := h.mp
  simp -dsimp only [go_sem, Nat.reduceEqDiff, Nat.reduceAdd, Nat.reduceSub, Nat.reduceMul, Nat.reduceLeDiff, Nat.reduceLT, Nat.reduceBEq, Int.reduceLT, Int.reduceLE, Int.reduceGT, Int.reduceGE, Int.reduceEq, Int.reduceNe, Int.reduceBEq, Int.reduceBNe, Int.reduceAdd, Int.reduceSub, Int.reduceMul, Int.reduceToNat, Int.reduceNeg, ↓reduceIte, ↓reduceDIte, g1, g2, g3]
  unfold HV.open
  cases mfind t v.op <;> exact ⟨rfl, rfl⟩
theorem step_ev {lim : Nat} {H : LHeap} {b n m : Nat} {a : Option Addr} {v : HV} (h : LogAt n H b m a v) (hw : -9223372036854775808 ≤ v.now ∧ v.now < 9223372036854775807) :
    callE T 62 lim [ptr b] H fun r H' => H' = H.set b (.row false 0 [.slice a v.l.length v.l.length, .map (some m), i64 (v.now + 1)]) := by
  refine callE_pop rfl (by simp) rfl ?_
  have g1 := lget_at h.row 2
  simp only [List.getElem?_cons_succ, List.getElem?_cons_zero] at g1
  have hlb := h.lb.1
  have hw1 : IntKind.i64.wrap (v.now + 1) = v.now + 1 := by rw [wrap_i64] <;> omega
  have g2 := h.row
  simp -dsimp only [go_sem, Nat.reduceEqDiff, Nat.reduceAdd, Nat.reduceSub, Nat.reduceMul, Nat.reduceLeDiff, Nat.reduceLT, Nat.reduceBEq, Int.reduceLT, Int.reduceLE, Int.reduceGT, Int.reduceGE, Int.reduceEq, Int.reduceNe, Int.reduceBEq, Int.reduceBNe, Int.reduceAdd, Int.reduceSub, Int.reduceMul, Int.reduceToNat, Int.reduceNeg, ↓reduceIte, ↓reduceDIte]
  refine CT_val (lnone_no h) ?_
  simp -dsimp only [go_sem, Nat.reduceEqDiff, Nat.reduceAdd, Nat.reduceSub, Nat.reduceMul, Nat.reduceLeDiff, Nat.reduceLT, Nat.reduceBEq, Int.reduceLT, Int.reduceLE, Int.reduceGT, Int.reduceGE, Int.reduceEq, Int.reduceNe, Int.reduceBEq, Int.reduceBNe, Int.reduceAdd, Int.reduceSub, Int.reduceMul, Int.reduceToNat, Int.reduceNeg, ↓reduceIte, ↓reduceDIte, g1, hw1, g2]
  rw [List.take_of_length_le (by simp)]
theorem isOne.set {a : Option Addr} {H : LHeap} {l : List CallD} {b : Nat} (h : isOne a H l) (ho : Off b a) (x : LObj) : isOne a (H.set b x) l := by
  rcases h with h | ⟨q, h1, h2⟩
  · exact .inl h
  · exact .inr ⟨q, h1, by rw [get_set_ne (fun e => ho _ h1 e.symm)]; exact h2⟩
theorem LogAt.step {n b m : Nat} {H : LHeap} {a : Option Addr} {v : HV} (h : LogAt n H b m a v) (k : Int) : LogAt n (H.set b (.row false 0 [.slice a v.l.length v.l.length, .map (some m), i64 k])) b m a { v with now := k } := by
  refine ⟨get_set_eq h.lb.1 _, ?_, h.ls.set h.ob _, h.nb, h.nm, h.na, h.ne, h.ob, h.om⟩
  rw [get_set_ne h.ne]; exact h.mp
theorem Keeps.step {b m : Nat} {H : LHeap} {a : Option Addr} (x : LObj) : Keeps b m a a H (H.set b x) :=
  ⟨by simp, fun j hj h1 h2 h3 => ⟨get_set_ne (fun e => h1 e.symm) _, h3⟩⟩
theorem cells_one (l : List CallD) : (l.flatMap CallD.cells).all Value.oneCell' = true := by
  simp [CallD.cells, Value.oneCell']
  intro x _
  exact ⟨rfl, rfl⟩
theorem calls_ev {lim : Nat} {H : LHeap} {b n m : Nat} {a : Option Addr} {v : HV} (hl : lim ≤ H.length) (h : LogAt n H b m a v) (hn : v.l.length < 1000000) :
    callE T 35 lim [ptr b] H fun r H' => ∃ a' t, r = .slice a' v.l.length v.l.length ∧ H' = H ++ t ∧ Sl 8 (H ++ t) a' (v.l.flatMap CallD.cells) := by
  refine callE_stay rfl (by simp) rfl ?_
  have g1 := lget_at h.row 0
  simp only [List.getElem?_cons_zero] at g1
  simp -dsimp only [go_sem, Nat.reduceEqDiff, Nat.reduceAdd, Nat.reduceSub, Nat.reduceMul, Nat.reduceLeDiff, Nat.reduceLT, Nat.reduceBEq, Int.reduceLT, Int.reduceLE, Int.reduceGT, Int.reduceGE, Int.reduceEq, Int.reduceNe, Int.reduceBEq, Int.reduceBNe, Int.reduceAdd, Int.reduceSub, Int.reduceMul, Int.reduceToNat, Int.reduceNeg, ↓reduceIte, ↓reduceDIte]
  refine CT_val (lnone_no h) ?_
  simp -dsimp only [go_sem, Nat.reduceEqDiff, Nat.reduceAdd, Nat.reduceSub, Nat.reduceMul, Nat.reduceLeDiff, Nat.reduceLT, Nat.reduceBEq, Int.reduceLT, Int.reduceLE, Int.reduceGT, Int.reduceGE, Int.reduceEq, Int.reduceNe, Int.reduceBEq, Int.reduceBNe, Int.reduceAdd, Int.reduceSub, Int.reduceMul, Int.reduceToNat, Int.reduceNeg, ↓reduceIte, ↓reduceDIte, g1]
  refine callE_stay rfl (by simp) rfl ?_
  rcases h.ls with ⟨h1, h2⟩ | ⟨q, h1, h2⟩
  · subst h1
    rw [h2] at g1 ⊢
    simp -dsimp only [go_sem, Nat.reduceEqDiff, Nat.reduceAdd, Nat.reduceSub, Nat.reduceMul, Nat.reduceLeDiff, Nat.reduceLT, Nat.reduceBEq, Int.reduceLT, Int.reduceLE, Int.reduceGT, Int.reduceGE, Int.reduceEq, Int.reduceNe, Int.reduceBEq, Int.reduceBNe, Int.reduceAdd, Int.reduceSub, Int.reduceMul, Int.reduceToNat, Int.reduceNeg, ↓reduceIte, ↓reduceDIte]
    exact ⟨_, _, rfl, (List.append_nil _).symm, Sl.nil _ _⟩
  · subst h1
    have hq := (List.getElem?_eq_some_iff.1 h2).1
    have hsrc := fun t => ((h.sl).app t).src (m := 8) (n := v.l.length) (cap := v.l.length) (by omega) (by rw [flat_len CallD.len])
    have h6 : v.l.length * 64 ≤ 140737488355328 := by omega
    have h7 : v.l.length ≤ 140737488355328 := by omega
    simp -dsimp only [go_sem, Nat.reduceEqDiff, Nat.reduceAdd, Nat.reduceSub, Nat.reduceMul, Nat.reduceLeDiff, Nat.reduceLT, Nat.reduceBEq, Int.reduceLT, Int.reduceLE, Int.reduceGT, Int.reduceGE, Int.reduceEq, Int.reduceNe, Int.reduceBEq, Int.reduceBNe, Int.reduceAdd, Int.reduceSub, Int.reduceMul, Int.reduceToNat, Int.reduceNeg, ↓reduceIte, ↓reduceDIte, hsrc, cells_one, h6, h7, hl]
    exact ⟨_, _, rfl, rfl, Sl.row (get_app H _ 1)⟩
/-- What Begin does. -/
def HV.begin (v : HV) (t kind : Int) (arg : BitVec 64) : HV × Int × Int :=
  if t < 0 ∨ 64 ≤ t then (v, 0, 2)
  else if (v.open t).isSome = true then (v, 0, 16)
  else if 1024 ≤ v.l.length then (v, 0, 15)
  else ({ l := v.l ++ [{ th := t, kind := kind, arg := arg, fr := v.now, to := 0, dn := false, code := 0, ret := 0#64 }], op := v.op ++ [(t, (v.l.length : Int))], now := v.now + 1 }, v.l.length, 0)
theorem LogAt.grown {n b m : Nat} {H K : LHeap} {a : Option Addr} {v : HV} (h : LogAt n H b m a v) (hK : K.length = H.length) (hn : n ≤ H.length) (x : LObj) (c : CallD) (op : List (Int × Int)) (k : Nat) (hk : k = v.l.length + 1) :
    LogAt n ((K.set b (.row false 0 [.slice (some ⟨H.length + 1, 0, none⟩) k k, .map (some m), i64 v.now])).set m (.map (ents i64 op)) ++ [x, .row false 8 ((v.l ++ [c]).flatMap CallD.cells)]) b m (some ⟨H.length + 1, 0, none⟩) { l := v.l ++ [c], op := op, now := v.now } := by
  subst hk
  have hlb := h.lb
  have e : (v.l ++ [c]).length = v.l.length + 1 := by simp
  have hX : ((K.set b (.row false 0 [.slice (some ⟨H.length + 1, 0, none⟩) (v.l.length + 1) (v.l.length + 1), .map (some m), i64 v.now])).set m (.map (ents i64 op))).length = H.length := by simp [hK]
  refine ⟨?_, ?_, .inr ⟨_, rfl, ?_⟩, h.nb, h.nm, Fresh.mk (by omega), h.ne, ?_, ?_⟩
  · rw [get_left (by omega), get_set_ne h.ne.symm, get_set_eq (by omega), e]
  · rw [get_left (by omega), get_set_eq (by simp; omega)]
  · rw [get_app_n hX]; rfl
  · intro x hx; cases hx; dsimp only; omega
  · intro x hx; cases hx; dsimp only; omega
theorem Keeps.grown {b m : Nat} {H K t : LHeap} {a : Option Addr} {x y : LObj} (hK : K.length = H.length) (hj : ∀ j, j < H.length → Off j a → K[j]? = H[j]?) (k : Nat) :
    Keeps b m a (some ⟨H.length + k, 0, none⟩) H ((K.set b x).set m y ++ t) := by
  refine ⟨by simp [hK], fun j h1 h2 h3 h4 => ⟨?_, ?_⟩⟩
  · rw [get_left (by simp; omega), get_set_ne (fun e => h3 e.symm), get_set_ne (fun e => h2 e.symm), hj j h1 h4]
  · intro x hx; cases hx; dsimp only; omega
theorem Keeps.then {b m : Nat} {a a' : Option Addr} {H H' : LHeap} (h : Keeps b m a a' H H') (x : LObj) : Keeps b m a a' H (H'.set b x) :=
  ⟨by have := h.1; simpa using this, fun j h1 h2 h3 h4 => ⟨by rw [get_set_ne (fun e => h2 e.symm)]; exact (h.2 j h1 h2 h3 h4).1, (h.2 j h1 h2 h3 h4).2⟩⟩
set_option maxHeartbeats 1000000 in
theorem begin_ev {lim : Nat} {H : LHeap} {b n m : Nat} {a : Option Addr} {v : HV} {t kind : Int} {arg : BitVec 64} (hl : lim ≤ n) (hnH : n ≤ H.length) (h : LogAt n H b m a v) (hn : v.l.length ≤ 1024) (hw : 0 ≤ v.now ∧ v.now < 1000000000) :
    callE T 33 lim [ptr b, i64 t, i64 kind, w64 arg] H fun r H' => ∃ a', r = .tuple #[i64 (v.begin t kind arg).2.1, i64 (v.begin t kind arg).2.2] ∧ LogAt n H' b m a' (v.begin t kind arg).1 ∧ Keeps b m a a' H H' := by
  refine callE_stay rfl (by simp) rfl ?_
  simp -dsimp only [go_sem, Nat.reduceEqDiff, Nat.reduceAdd, Nat.reduceSub, Nat.reduceMul, Nat.reduceLeDiff, Nat.reduceLT, Nat.reduceBEq, Int.reduceLT, Int.reduceLE, Int.reduceGT, Int.reduceGE, Int.reduceEq, Int.reduceNe, Int.reduceBEq, Int.reduceBNe, Int.reduceAdd, Int.reduceSub, Int.reduceMul, Int.reduceToNat, Int.reduceNeg, ↓reduceIte, ↓reduceDIte]
  refine CT_val (open_ev h) ?_
  simp -dsimp only [go_sem, Nat.reduceEqDiff, Nat.reduceAdd, Nat.reduceSub, Nat.reduceMul, Nat.reduceLeDiff, Nat.reduceLT, Nat.reduceBEq, Int.reduceLT, Int.reduceLE, Int.reduceGT, Int.reduceGE, Int.reduceEq, Int.reduceNe, Int.reduceBEq, Int.reduceBNe, Int.reduceAdd, Int.reduceSub, Int.reduceMul, Int.reduceToNat, Int.reduceNeg, ↓reduceIte, ↓reduceDIte]
  refine CT_val (lnone_no h) ?_
  simp -dsimp only [go_sem, Nat.reduceEqDiff, Nat.reduceAdd, Nat.reduceSub, Nat.reduceMul, Nat.reduceLeDiff, Nat.reduceLT, Nat.reduceBEq, Int.reduceLT, Int.reduceLE, Int.reduceGT, Int.reduceGE, Int.reduceEq, Int.reduceNe, Int.reduceBEq, Int.reduceBNe, Int.reduceAdd, Int.reduceSub, Int.reduceMul, Int.reduceToNat, Int.reduceNeg, ↓reduceIte, ↓reduceDIte]
  have same : Keeps b m a a H H := ⟨Nat.le_refl _, fun j _ _ _ h3 => ⟨rfl, h3⟩⟩
  by_cases h1 : t < 0
  · have e : v.begin t kind arg = (v, 0, 2) := by rw [HV.begin, if_pos (.inl h1)]
    simp -dsimp only [go_sem, Nat.reduceEqDiff, Nat.reduceAdd, Nat.reduceSub, Nat.reduceMul, Nat.reduceLeDiff, Nat.reduceLT, Nat.reduceBEq, Int.reduceLT, Int.reduceLE, Int.reduceGT, Int.reduceGE, Int.reduceEq, Int.reduceNe, Int.reduceBEq, Int.reduceBNe, Int.reduceAdd, Int.reduceSub, Int.reduceMul, Int.reduceToNat, Int.reduceNeg, ↓reduceIte, ↓reduceDIte, h1]
    rw [e]
    exact ⟨a, rfl, h, same⟩
  by_cases h2 : 64 ≤ t
  · have e : v.begin t kind arg = (v, 0, 2) := by rw [HV.begin, if_pos (.inr h2)]
    simp -dsimp only [go_sem, Nat.reduceEqDiff, Nat.reduceAdd, Nat.reduceSub, Nat.reduceMul, Nat.reduceLeDiff, Nat.reduceLT, Nat.reduceBEq, Int.reduceLT, Int.reduceLE, Int.reduceGT, Int.reduceGE, Int.reduceEq, Int.reduceNe, Int.reduceBEq, Int.reduceBNe, Int.reduceAdd, Int.reduceSub, Int.reduceMul, Int.reduceToNat, Int.reduceNeg, ↓reduceIte, ↓reduceDIte, h1, h2]
    rw [e]
    exact ⟨a, rfl, h, same⟩
  cases hb : (v.open t).isSome
  rotate_left
  · have e : v.begin t kind arg = (v, 0, 16) := by rw [HV.begin, if_neg (by omega), if_pos hb]
    simp -dsimp only [go_sem, Nat.reduceEqDiff, Nat.reduceAdd, Nat.reduceSub, Nat.reduceMul, Nat.reduceLeDiff, Nat.reduceLT, Nat.reduceBEq, Int.reduceLT, Int.reduceLE, Int.reduceGT, Int.reduceGE, Int.reduceEq, Int.reduceNe, Int.reduceBEq, Int.reduceBNe, Int.reduceAdd, Int.reduceSub, Int.reduceMul, Int.reduceToNat, Int.reduceNeg, ↓reduceIte, ↓reduceDIte, h1, h2, hb]
    rw [e]
    exact ⟨a, rfl, h, same⟩
  have g0 := lget_at h.row 0
  simp only [List.getElem?_cons_zero] at g0
  by_cases h3 : 1024 ≤ v.l.length
  · have e : v.begin t kind arg = (v, 0, 15) := by rw [HV.begin, if_neg (by omega), if_neg (by rw [hb]; simp), if_pos h3]
    have k3 : 1024 ≤ (v.l.length : Int) := by omega
    simp -dsimp only [go_sem, Nat.reduceEqDiff, Nat.reduceAdd, Nat.reduceSub, Nat.reduceMul, Nat.reduceLeDiff, Nat.reduceLT, Nat.reduceBEq, Int.reduceLT, Int.reduceLE, Int.reduceGT, Int.reduceGE, Int.reduceEq, Int.reduceNe, Int.reduceBEq, Int.reduceBNe, Int.reduceAdd, Int.reduceSub, Int.reduceMul, Int.reduceToNat, Int.reduceNeg, ↓reduceIte, ↓reduceDIte, h1, h2, hb, g0, k3]
    rw [e]
    exact ⟨a, rfl, h, same⟩
  have k3 : ¬ 1024 ≤ (v.l.length : Int) := by omega
  have e : v.begin t kind arg = (({ l := v.l ++ [{ th := t, kind := kind, arg := arg, fr := v.now, to := 0, dn := false, code := 0, ret := 0#64 }], op := v.op ++ [(t, (v.l.length : Int))], now := v.now + 1 } : HV), (v.l.length : Int), (0 : Int)) := by
    rw [HV.begin, if_neg (by omega), if_neg (by rw [hb]; simp), if_neg h3]
  have g2 := lget_at h.row 2
  have g1 := lget_at h.row 1
  simp only [List.getElem?_cons_zero, List.getElem?_cons_succ] at g1 g2
  have hlb := h.lb
  have hb1 := hlb.1
  have hm1 := hlb.2
  have limb : lim ≤ b := Nat.le_trans hl h.nb
  have limm : lim ≤ m := Nat.le_trans hl h.nm
  have hrow := h.row
  have hmp := h.mp
  have hmf : mfind t v.op = none := by
    unfold HV.open at hb
    cases hq : mfind t v.op with
    | none => rfl
    | some p => rw [hq] at hb; cases hb
  have hlf := lfind_ents i64 t v.op
  rw [hmf] at hlf
  simp only [Option.map_none] at hlf
  have hne := h.ne
  have hne' := h.ne.symm
  rcases h.ls with ⟨q1, q2⟩ | ⟨q, q1, q2⟩
  · subst q1
    rw [q2] at g0 e k3 hrow
    have hm2 : m < (H.set b (.row false 0 [.slice (some ⟨H.length + 1, 0, none⟩) 1 1, .map (some m), i64 v.now])).length := by simp; exact hm1
    simp only [List.length_nil] at g0 hrow k3 e
    simp -dsimp only [go_sem, Nat.reduceEqDiff, Nat.reduceAdd, Nat.reduceSub, Nat.reduceMul, Nat.reduceLeDiff, Nat.reduceLT, Nat.reduceBEq, Int.reduceLT, Int.reduceLE, Int.reduceGT, Int.reduceGE, Int.reduceEq, Int.reduceNe, Int.reduceBEq, Int.reduceBNe, Int.reduceAdd, Int.reduceSub, Int.reduceMul, Int.reduceToNat, Int.reduceNeg, ↓reduceIte, ↓reduceDIte, h1, h2, hb, g0, g1, g2, k3, take_app_n, get_app_n, get_app_n0, set_app_n, set_app_n0, lget_app_n, lget_app_n0, lcells_app_n, lcells_app_n0, List.length_set, List.take_of_length_le, List.set_set, get_left, set_left, lget_left, lcells_left, get_set_eq, get_set_ne, lget_set_eq, lget_set_ne, lcells_set_ne, hb1, hm1, hrow, hmp, limb, limm, hlf, hne, hne']
    have key := h.grown (K := H) rfl hnH (.row false 8 [i64 t, i64 kind, w64 arg, i64 v.now, i64 0, .bool false, i64 0, w64 0#64]) { th := t, kind := kind, arg := arg, fr := v.now, to := 0, dn := false, code := 0, ret := 0#64 } (v.op ++ [(t, 0)]) 1 (by rw [q2]; rfl)
    have key2 := (Keeps.grown (b := b) (m := m) (K := H) (H := H) (a := none) (t := [.row false 8 [i64 t, i64 kind, w64 arg, i64 v.now, i64 0, .bool false, i64 0, w64 0#64], .row false 8 [i64 t, i64 kind, w64 arg, i64 v.now, i64 0, .bool false, i64 0, w64 0#64]]) (x := .row false 0 [.slice (some ⟨H.length + 1, 0, none⟩) 1 1, .map (some m), i64 v.now]) (y := .map (ents i64 (v.op ++ [(t, 0)]))) rfl (fun j _ _ => rfl) 1)
    rw [q2] at key
    simp only [ents, List.map_append, List.map_cons, List.map_nil, List.nil_append, List.flatMap_cons, List.flatMap_nil, List.append_nil, CallD.cells] at key key2
    refine CT_heap (step_ev key (by dsimp only; omega)) fun _ => ?_
    simp -dsimp only [go_sem, Nat.reduceEqDiff, Nat.reduceAdd, Nat.reduceSub, Nat.reduceMul, Nat.reduceLeDiff, Nat.reduceLT, Nat.reduceBEq, Int.reduceLT, Int.reduceLE, Int.reduceGT, Int.reduceGE, Int.reduceEq, Int.reduceNe, Int.reduceBEq, Int.reduceBNe, Int.reduceAdd, Int.reduceSub, Int.reduceMul, Int.reduceToNat, Int.reduceNeg, ↓reduceIte, ↓reduceDIte]
    rw [e]
    refine ⟨some ⟨H.length + 1, 0, none⟩, rfl, ?_, ?_⟩
    · have := key.step (v.now + 1)
      simpa [ents] using this
    · have := key2.then (.row false 0 [.slice (some ⟨H.length + 1, 0, none⟩) 1 1, .map (some m), i64 (v.now + 1)])
      simpa [ents] using this
  · subst q1
    have hq1 := (List.getElem?_eq_some_iff.1 q2).1
    have hq2 : lim ≤ q := Nat.le_trans hl (h.na _ rfl)
    have hno : ¬ (v.l.length + 1 ≤ v.l.length ∧ 0 < v.l.length) := by omega
    have k4 : (v.l.length + 1) * 64 ≤ 140737488355328 := by omega
    have k5 : v.l.length ≤ 140737488355327 := by omega
    have k6 : v.l.length * 8 = (v.l.flatMap CallD.cells).length := (flat_len CallD.len v.l).symm
    have k7 : (v.l.flatMap CallD.cells).take (v.l.length * 8) = v.l.flatMap CallD.cells := List.take_of_length_le (by omega)
    have o1 : q ≠ b := h.ob _ rfl
    have o2 : q ≠ m := h.om _ rfl
    simp -dsimp only [go_sem, Nat.reduceEqDiff, Nat.reduceAdd, Nat.reduceSub, Nat.reduceMul, Nat.reduceLeDiff, Nat.reduceLT, Nat.reduceBEq, Int.reduceLT, Int.reduceLE, Int.reduceGT, Int.reduceGE, Int.reduceEq, Int.reduceNe, Int.reduceBEq, Int.reduceBNe, Int.reduceAdd, Int.reduceSub, Int.reduceMul, Int.reduceToNat, Int.reduceNeg, ↓reduceIte, ↓reduceDIte, h1, h2, hb, g0, g1, g2, k3, take_app_n, get_app_n, get_app_n0, set_app_n, set_app_n0, lget_app_n, lget_app_n0, lcells_app_n, lcells_app_n0, List.length_set, List.take_of_length_le, List.set_set, get_left, set_left, lget_left, lcells_left, get_set_eq, get_set_ne, lget_set_eq, lget_set_ne, lcells_set_ne, hb1, hm1, hrow, hmp, limb, limm, hlf, hne, hne', hq1, hq2, hno, k4, k5, k6, k7, q2, o1, o2]
    have key := h.grown (K := H.set q .dead) (by simp) hnH (.row false 8 [i64 t, i64 kind, w64 arg, i64 v.now, i64 0, .bool false, i64 0, w64 0#64]) { th := t, kind := kind, arg := arg, fr := v.now, to := 0, dn := false, code := 0, ret := 0#64 } (v.op ++ [(t, (v.l.length : Int))]) (v.l.length + 1) rfl
    have key2 := (Keeps.grown (b := b) (m := m) (K := H.set q .dead) (H := H) (a := some ⟨q, 0, none⟩) (t := [.row false 8 [i64 t, i64 kind, w64 arg, i64 v.now, i64 0, .bool false, i64 0, w64 0#64], .row false 8 (v.l.flatMap CallD.cells ++ [i64 t, i64 kind, w64 arg, i64 v.now, i64 0, .bool false, i64 0, w64 0#64])]) (x := .row false 0 [.slice (some ⟨H.length + 1, 0, none⟩) (v.l.length + 1) (v.l.length + 1), .map (some m), i64 v.now]) (y := .map (ents i64 (v.op ++ [(t, (v.l.length : Int))]))) (by simp) (fun j _ ho => get_set_ne (ho _ rfl) _) 1)
    have ec : (v.l ++ [({ th := t, kind := kind, arg := arg, fr := v.now, to := 0, dn := false, code := 0, ret := 0#64 } : CallD)]).flatMap CallD.cells = v.l.flatMap CallD.cells ++ [i64 t, i64 kind, w64 arg, i64 v.now, i64 0, .bool false, i64 0, w64 0#64] := by simp [CallD.cells]
    have em : ents i64 (v.op ++ [(t, (v.l.length : Int))]) = ents i64 v.op ++ [(i64 t, i64 (v.l.length : Int))] := by simp [ents]
    have key3 := key.step (v.now + 1)
    have key4 := key2.then (.row false 0 [.slice (some ⟨H.length + 1, 0, none⟩) (v.l.length + 1) (v.l.length + 1), .map (some m), i64 (v.now + 1)])
    rw [ec, em] at key key3
    rw [em] at key4
    refine CT_heap (step_ev key (by dsimp only; omega)) fun _ => ?_
    simp -dsimp only [go_sem, Nat.reduceEqDiff, Nat.reduceAdd, Nat.reduceSub, Nat.reduceMul, Nat.reduceLeDiff, Nat.reduceLT, Nat.reduceBEq, Int.reduceLT, Int.reduceLE, Int.reduceGT, Int.reduceGE, Int.reduceEq, Int.reduceNe, Int.reduceBEq, Int.reduceBNe, Int.reduceAdd, Int.reduceSub, Int.reduceMul, Int.reduceToNat, Int.reduceNeg, ↓reduceIte, ↓reduceDIte]
    rw [e]
    refine ⟨some ⟨H.length + 1, 0, none⟩, rfl, ?_, ?_⟩
    · simpa using key3
    · simpa using key4
theorem erase_map {α β : Type} (f : α → β) : ∀ (l : List α) (i : Nat), (l.map f).eraseIdx i = (l.eraseIdx i).map f
  | [], i => rfl
  | x :: l, 0 => rfl
  | x :: l, i + 1 => by simp [erase_map f l i]
def dropOp (op : List (Int × Int)) (t : Int) : List (Int × Int) := match mfind t op with | some p => op.eraseIdx p.1 | none => op
/-- What End does. -/
def HV.fin (v : HV) (id code : Int) (ret : BitVec 64) : HV × Int :=
  if id < 0 then (v, 13)
  else match v.l[id.toNat]? with
    | none => (v, 13)
    | some c => if c.dn = true then (v, 16) else ({ l := v.l.set id.toNat { c with dn := true, to := v.now, code := code, ret := ret }, op := dropOp v.op c.th, now := v.now + 1 }, 0)
theorem lflat_set (l : List CallD) (i : Nat) (c : CallD) (to code : Int) (ret : BitVec 64) (h : l[i]? = some c) :
    ((((l.flatMap CallD.cells).set (i * 8 + 5) (.bool true)).set (i * 8 + 4) (i64 to)).set (i * 8 + 6) (i64 code)).set (i * 8 + 7) (w64 ret) = (l.set i { c with dn := true, to := to, code := code, ret := ret }).flatMap CallD.cells := by
  induction l generalizing i with
  | nil => simp at h
  | cons x l ih =>
    cases i with
    | zero =>
      simp at h; subst h
      simp [CallD.cells]
    | succ i =>
      have h8 := CallD.len x
      rw [List.flatMap_cons]
      rw [List.set_append_right _ _ (by omega), List.set_append_right _ _ (by omega), List.set_append_right _ _ (by omega), List.set_append_right _ _ (by omega)]
      rw [h8, show (i + 1) * 8 + 5 - 8 = i * 8 + 5 by omega, show (i + 1) * 8 + 4 - 8 = i * 8 + 4 by omega, show (i + 1) * 8 + 6 - 8 = i * 8 + 6 by omega, show (i + 1) * 8 + 7 - 8 = i * 8 + 7 by omega]
      rw [ih i (by simpa using h)]
      simp
set_option maxHeartbeats 1000000 in
theorem fin_ev {lim : Nat} {H : LHeap} {b n m : Nat} {a : Option Addr} {v : HV} {id code : Int} {ret : BitVec 64} (hl : lim ≤ n) (h : LogAt n H b m a v) (hn : v.l.length ≤ 1000000) (hw : 0 ≤ v.now ∧ v.now < 1000000000) :
    callE T 34 lim [ptr b, i64 id, i64 code, w64 ret] H fun r H' => r = i64 (v.fin id code ret).2 ∧ LogAt n H' b m a (v.fin id code ret).1 ∧ Keeps b m a a H H' := by
  refine callE_stay rfl (by simp) rfl ?_
  simp -dsimp only [go_sem, Nat.reduceEqDiff, Nat.reduceAdd, Nat.reduceSub, Nat.reduceMul, Nat.reduceLeDiff, Nat.reduceLT, Nat.reduceBEq, Int.reduceLT, Int.reduceLE, Int.reduceGT, Int.reduceGE, Int.reduceEq, Int.reduceNe, Int.reduceBEq, Int.reduceBNe, Int.reduceAdd, Int.reduceSub, Int.reduceMul, Int.reduceToNat, Int.reduceNeg, ↓reduceIte, ↓reduceDIte]
  refine CT_val (lnone_no h) ?_
  have same : Keeps b m a a H H := ⟨Nat.le_refl _, fun j _ _ _ h3 => ⟨rfl, h3⟩⟩
  by_cases h1 : id < 0
  · have e : v.fin id code ret = (v, 13) := by rw [HV.fin, if_pos h1]
    simp -dsimp only [go_sem, Nat.reduceEqDiff, Nat.reduceAdd, Nat.reduceSub, Nat.reduceMul, Nat.reduceLeDiff, Nat.reduceLT, Nat.reduceBEq, Int.reduceLT, Int.reduceLE, Int.reduceGT, Int.reduceGE, Int.reduceEq, Int.reduceNe, Int.reduceBEq, Int.reduceBNe, Int.reduceAdd, Int.reduceSub, Int.reduceMul, Int.reduceToNat, Int.reduceNeg, ↓reduceIte, ↓reduceDIte, h1]
    rw [e]
    exact ⟨rfl, h, same⟩
  obtain ⟨i, rfl⟩ := Int.eq_ofNat_of_zero_le (Int.not_lt.1 h1)
  have g0 := lget_at h.row 0
  have g1 := lget_at h.row 1
  have g2 := lget_at h.row 2
  simp only [List.getElem?_cons_zero, List.getElem?_cons_succ] at g0 g1 g2
  cases hc : v.l[i]? with
  | none =>
    have e : v.fin i code ret = (v, 13) := by simp [HV.fin, hc]
    have k1 : (v.l.length : Int) ≤ (i : Int) := by have := List.getElem?_eq_none_iff.1 hc; omega
    simp -dsimp only [go_sem, Nat.reduceEqDiff, Nat.reduceAdd, Nat.reduceSub, Nat.reduceMul, Nat.reduceLeDiff, Nat.reduceLT, Nat.reduceBEq, Int.reduceLT, Int.reduceLE, Int.reduceGT, Int.reduceGE, Int.reduceEq, Int.reduceNe, Int.reduceBEq, Int.reduceBNe, Int.reduceAdd, Int.reduceSub, Int.reduceMul, Int.reduceToNat, Int.reduceNeg, ↓reduceIte, ↓reduceDIte, h1, g0, k1]
    rw [e]
    exact ⟨rfl, h, same⟩
  | some c =>
    have hi := (List.getElem?_eq_some_iff.1 hc).1
    have k1 : ¬ (v.l.length : Int) ≤ (i : Int) := by omega
    have k2 : (i : Int) < (v.l.length : Int) := by omega
    have k3 : 0 ≤ (i : Int) := by omega
    rcases h.ls with ⟨q1, q2⟩ | ⟨q, q1, q2⟩
    · rw [q2] at hc; simp at hc
    subst q1
    obtain ⟨_, _, q3, _, _, hg⟩ := h.sl.rowsAt (f := CallD.cells) CallD.len (by omega) (by omega)
    cases q3
    have r5 := hg [] i c 5 hc (by omega)
    have r0 := hg [] i c 0 hc (by omega)
    simp only [List.append_nil, CallD.cells, List.getElem?_cons_zero, List.getElem?_cons_succ, Nat.zero_add, Nat.add_zero] at r5 r0
    cases hd : c.dn
    rotate_left
    · have e : v.fin i code ret = (v, 16) := by simp [HV.fin, hc, hd]
      rw [hd] at r5
      simp -dsimp only [go_sem, Nat.reduceEqDiff, Nat.reduceAdd, Nat.reduceSub, Nat.reduceMul, Nat.reduceLeDiff, Nat.reduceLT, Nat.reduceBEq, Int.reduceLT, Int.reduceLE, Int.reduceGT, Int.reduceGE, Int.reduceEq, Int.reduceNe, Int.reduceBEq, Int.reduceBNe, Int.reduceAdd, Int.reduceSub, Int.reduceMul, Int.reduceToNat, Int.reduceNeg, ↓reduceIte, ↓reduceDIte, h1, g0, k1, k2, k3, r5]
      rw [e]
      exact ⟨rfl, h, same⟩
    rw [hd] at r5
    have e : v.fin i code ret = ({ l := v.l.set i { c with dn := true, to := v.now, code := code, ret := ret }, op := dropOp v.op c.th, now := v.now + 1 }, 0) := by simp [HV.fin, hc, hd]
    have hb1 := h.lb.1
    have hm1 := h.lb.2
    have hrow := h.row
    have hmp := h.mp
    have limm : lim ≤ m := Nat.le_trans hl h.nm
    have hne := h.ne
    have hne' := h.ne.symm
    have hq1 := (List.getElem?_eq_some_iff.1 q2).1
    have o1 : q ≠ b := h.ob _ rfl
    have o2 : q ≠ m := h.om _ rfl
    have hfl := flat_len CallD.len v.l
    have f5 : i * 8 + 5 < (v.l.flatMap CallD.cells).length := by omega
    have f4 : i * 8 + 4 < (v.l.flatMap CallD.cells).length := by omega
    have f6 : i * 8 + 6 < (v.l.flatMap CallD.cells).length := by omega
    have f7 : i * 8 + 7 < (v.l.flatMap CallD.cells).length := by omega
    have fs := lflat_set v.l i c v.now code ret hc
    have gth : ((v.l.set i { c with dn := true, to := v.now, code := code, ret := ret }).flatMap CallD.cells)[i * 8]? = some (i64 c.th) := by
      have := flat_at (f := CallD.cells) CallD.len (v.l.set i { c with dn := true, to := v.now, code := code, ret := ret }) i { c with dn := true, to := v.now, code := code, ret := ret } (by simp [hi])
      have := congrArg (fun x : List Value => x[0]?) this
      simpa [CallD.cells] using this
    have f5' : i * 8 + 5 + 1 ≤ (v.l.flatMap CallD.cells).length := by omega
    have f4' : i * 8 + 4 + 1 ≤ (v.l.flatMap CallD.cells).length := by omega
    have f6' : i * 8 + 6 + 1 ≤ (v.l.flatMap CallD.cells).length := by omega
    have f7' : i * 8 + 7 + 1 ≤ (v.l.flatMap CallD.cells).length := by omega
    have hlf := lfind_ents i64 c.th v.op
    have lenset : (v.l.set i { c with dn := true, to := v.now, code := code, ret := ret }).length = v.l.length := by simp
    have fin : ∀ X : LHeap, (X = (H.set q (.row false 8 ((v.l.set i { c with dn := true, to := v.now, code := code, ret := ret }).flatMap CallD.cells))).set m (.map (ents i64 (dropOp v.op c.th)))) →
        LogAt n X b m (some ⟨q, 0, none⟩) { l := v.l.set i { c with dn := true, to := v.now, code := code, ret := ret }, op := dropOp v.op c.th, now := v.now } ∧ Keeps b m (some ⟨q, 0, none⟩) (some ⟨q, 0, none⟩) H X := by
      rintro X rfl
      refine ⟨⟨?_, ?_, .inr ⟨q, rfl, ?_⟩, h.nb, h.nm, h.na, h.ne, h.ob, h.om⟩, by simp, fun j j1 j2 j3 j4 => ⟨?_, j4⟩⟩
      · rw [get_set_ne hne', get_set_ne o1, hrow, lenset]
      · rw [get_set_eq (by simpa using hm1)]
      · rw [get_set_ne o2.symm, get_set_eq hq1]
      · rw [get_set_ne (fun e => j3 e.symm), get_set_ne (j4 _ rfl)]
    cases hmf : mfind c.th v.op with
    | none =>
      rw [hmf] at hlf
      simp only [Option.map_none] at hlf
      have hdo : dropOp v.op c.th = v.op := by simp [dropOp, hmf]
      have hsame : (H.set q (.row false 8 ((v.l.set i { c with dn := true, to := v.now, code := code, ret := ret }).flatMap CallD.cells))).set m (.map (ents i64 v.op)) = H.set q (.row false 8 ((v.l.set i { c with dn := true, to := v.now, code := code, ret := ret }).flatMap CallD.cells)) :=
        set_same (by rw [get_set_ne o2]; exact hmp)
      rw [hdo] at fin
      rw [hsame] at fin
      obtain ⟨z1, z2⟩ := fin _ rfl
      simp -dsimp only [go_sem, Nat.reduceEqDiff, Nat.reduceAdd, Nat.reduceSub, Nat.reduceMul, Nat.reduceLeDiff, Nat.reduceLT, Nat.reduceBEq, Int.reduceLT, Int.reduceLE, Int.reduceGT, Int.reduceGE, Int.reduceEq, Int.reduceNe, Int.reduceBEq, Int.reduceBNe, Int.reduceAdd, Int.reduceSub, Int.reduceMul, Int.reduceToNat, Int.reduceNeg, ↓reduceIte, ↓reduceDIte, h1, g0, g1, g2, k1, k2, k3, r5, take_app_n, get_app_n, get_app_n0, set_app_n, set_app_n0, lget_app_n, lget_app_n0, lcells_app_n, lcells_app_n0, List.length_set, List.take_of_length_le, List.set_set, get_left, set_left, lget_left, lcells_left, get_set_eq, get_set_ne, lget_set_eq, lget_set_ne, lcells_set_ne, hb1, hm1, hrow, hmp, limm, hne, hne', hq1, q2, o1, o2, f5, f4, f6, f7, f5', f4', f6', f7', fs, gth, hlf]
      refine CT_heap (step_ev z1 (by dsimp only; omega)) fun _ => ?_
      simp -dsimp only [go_sem, Nat.reduceEqDiff, Nat.reduceAdd, Nat.reduceSub, Nat.reduceMul, Nat.reduceLeDiff, Nat.reduceLT, Nat.reduceBEq, Int.reduceLT, Int.reduceLE, Int.reduceGT, Int.reduceGE, Int.reduceEq, Int.reduceNe, Int.reduceBEq, Int.reduceBNe, Int.reduceAdd, Int.reduceSub, Int.reduceMul, Int.reduceToNat, Int.reduceNeg, ↓reduceIte, ↓reduceDIte]
      rw [e, hdo]
      exact ⟨rfl, z1.step _, z2.then _⟩
    | some p =>
      rw [hmf] at hlf
      simp only [Option.map_some] at hlf
      have hdo : dropOp v.op c.th = v.op.eraseIdx p.1 := by simp [dropOp, hmf]
      have hme : (ents i64 v.op).eraseIdx p.1 = ents i64 (v.op.eraseIdx p.1) := by simp [ents, erase_map]
      rw [hdo] at fin
      obtain ⟨z1, z2⟩ := fin _ rfl
      simp -dsimp only [go_sem, Nat.reduceEqDiff, Nat.reduceAdd, Nat.reduceSub, Nat.reduceMul, Nat.reduceLeDiff, Nat.reduceLT, Nat.reduceBEq, Int.reduceLT, Int.reduceLE, Int.reduceGT, Int.reduceGE, Int.reduceEq, Int.reduceNe, Int.reduceBEq, Int.reduceBNe, Int.reduceAdd, Int.reduceSub, Int.reduceMul, Int.reduceToNat, Int.reduceNeg, ↓reduceIte, ↓reduceDIte, h1, g0, g1, g2, k1, k2, k3, r5, take_app_n, get_app_n, get_app_n0, set_app_n, set_app_n0, lget_app_n, lget_app_n0, lcells_app_n, lcells_app_n0, List.length_set, List.take_of_length_le, List.set_set, get_left, set_left, lget_left, lcells_left, get_set_eq, get_set_ne, lget_set_eq, lget_set_ne, lcells_set_ne, hb1, hm1, hrow, hmp, limm, hne, hne', hq1, q2, o1, o2, f5, f4, f6, f7, f5', f4', f6', f7', fs, gth, hlf, hme]
      refine CT_heap (step_ev z1 (by dsimp only; omega)) fun _ => ?_
      simp -dsimp only [go_sem, Nat.reduceEqDiff, Nat.reduceAdd, Nat.reduceSub, Nat.reduceMul, Nat.reduceLeDiff, Nat.reduceLT, Nat.reduceBEq, Int.reduceLT, Int.reduceLE, Int.reduceGT, Int.reduceGE, Int.reduceEq, Int.reduceNe, Int.reduceBEq, Int.reduceBNe, Int.reduceAdd, Int.reduceSub, Int.reduceMul, Int.reduceToNat, Int.reduceNeg, ↓reduceIte, ↓reduceDIte]
      rw [e, hdo]
      exact ⟨rfl, z1.step _, z2.then _⟩
/-! a log that nobody made -/
end Go.Proofs.Ytopjhhcncjleaaa
/- DROP A log of calls: what holds of it, whatever steps it took. -/
namespace Go.Proofs.Ytopjhhcncjleaaa
open Go Go.LK
set_option linter.unusedSimpArgs false
set_option linter.unusedVariables false
theorem mfind_none {α : Type} {k : Int} : ∀ {l : List (Int × α)}, mfind k l = none ↔ ∀ q ∈ l, q.1 ≠ k
  | [] => by simp [mfind]
  | (x, v) :: r => by
    have := mfind_none (k := k) (l := r)
    simp only [mfind]
    split
    · rename_i h; subst h
      simp
    · rename_i h
      simp only [Option.map_eq_none_iff, this, List.mem_cons, forall_eq_or_imp]
      exact ⟨fun g => ⟨fun e => h e.symm, g⟩, fun g => g.2⟩
def openF {α : Type} (l : List (Int × α)) (t : Int) : Option α := (mfind t l).map (·.2)
theorem openF_nil {α : Type} (t : Int) : openF ([] : List (Int × α)) t = none := rfl
theorem openF_cons {α : Type} (x : Int) (v : α) (r : List (Int × α)) (t : Int) : openF ((x, v) :: r) t = if t = x then some v else openF r t := by
  unfold openF
  simp only [mfind]
  split
  · rfl
  · cases mfind t r <;> rfl
theorem openF_none {α : Type} {k : Int} {l : List (Int × α)} : openF l k = none ↔ ∀ q ∈ l, q.1 ≠ k := by
  rw [openF, Option.map_eq_none_iff, mfind_none]
theorem openF_snoc {α : Type} {t : Int} {x : α} (t' : Int) : ∀ {l : List (Int × α)}, openF l t = none → openF (l ++ [(t, x)]) t' = if t' = t then some x else openF l t'
  | [], h => by rw [List.nil_append, openF_cons]
  | (y, v) :: r, h => by
    rw [openF_cons] at h
    split at h
    · cases h
    · rename_i hy
      rw [List.cons_append, openF_cons, openF_cons, openF_snoc t' h]
      split
      · rename_i h1
        split
        · rename_i h2; omega
        · rfl
      · rfl
theorem dropOp_cons (x v : Int) (r : List (Int × Int)) (t : Int) : dropOp ((x, v) :: r) t = if t = x then r else (x, v) :: dropOp r t := by
  unfold dropOp
  simp only [mfind]
  split
  · rename_i h; split at h
    · rename_i hx; cases h; simp [hx]
    · rename_i hx
      rw [if_neg hx]
      obtain ⟨p, hp, rfl⟩ := Option.map_eq_some_iff.1 h
      rw [hp]; rfl
  · rename_i h; split at h
    · cases h
    · rename_i hx
      rw [if_neg hx, Option.map_eq_none_iff.1 h]
theorem drop_mem {t : Int} : ∀ {l : List (Int × Int)} {q : Int × Int}, q ∈ dropOp l t → q ∈ l
  | [], q, h => by simp [dropOp, mfind] at h
  | (y, v) :: r, q, h => by
    rw [dropOp_cons] at h
    split at h
    · exact List.mem_cons_of_mem _ h
    · rcases List.mem_cons.1 h with h | h
      · rw [h]; exact List.mem_cons_self ..
      · exact List.mem_cons_of_mem _ (drop_mem h)
/-- Each key but once. -/
def Keys (l : List (Int × Int)) : Prop := (l.map (·.1)).Nodup
theorem keys_drop {t : Int} : ∀ {l : List (Int × Int)}, Keys l → Keys (dropOp l t)
  | [], h => by simpa [dropOp, mfind] using h
  | (y, v) :: r, h => by
    rw [dropOp_cons]
    simp only [Keys, List.map_cons, List.nodup_cons] at h ⊢
    split
    · exact h.2
    · simp only [List.map_cons, List.nodup_cons]
      refine ⟨fun g => h.1 ?_, keys_drop h.2⟩
      obtain ⟨q, q1, q2⟩ := List.mem_map.1 g
      exact List.mem_map.2 ⟨q, drop_mem q1, q2⟩
theorem openF_drop {t : Int} (t' : Int) : ∀ {l : List (Int × Int)}, Keys l → openF (dropOp l t) t' = if t' = t then none else openF l t'
  | [], h => by simp [dropOp, mfind, openF]
  | (y, v) :: r, h => by
    have h' := h
    simp only [Keys, List.map_cons, List.nodup_cons] at h'
    rw [dropOp_cons, openF_cons]
    split
    · rename_i e; subst e
      split
      · rename_i e; subst e
        rw [openF_none]
        intro q hq e
        exact h'.1 (List.mem_map.2 ⟨q, hq, e⟩)
      · rfl
    · rename_i e
      rw [openF_cons, openF_drop t' h'.2]
      split
      · rename_i e2
        split
        · rename_i e3; omega
        · rfl
      · rfl
theorem keys_snoc {l : List (Int × Int)} {t x : Int} (h : Keys l) (g : openF l t = none) : Keys (l ++ [(t, x)]) := by
  simp only [Keys, List.map_append, List.map_cons, List.map_nil]
  rw [List.nodup_append]
  refine ⟨h, by simp, ?_⟩
  intro a ha b hb e
  simp only [List.mem_singleton] at hb
  obtain ⟨q, q1, q2⟩ := List.mem_map.1 ha
  exact openF_none.1 g q q1 (by rw [q2, e, hb])
structure CallD.Fine (c : CallD) (now : Int) : Prop where
  t0 : 0 ≤ c.th
  t1 : c.th < 64
  f0 : 0 ≤ c.fr
  f1 : c.fr < now
  d : c.dn = true → c.fr < c.to ∧ c.to < now
  u : c.dn = false → c.to = 0 ∧ c.code = 0 ∧ c.ret = 0#64
/-- What holds of a log. -/
structure HInv (v : HV) : Prop where
  n0 : 0 ≤ v.now
  n1 : (v.l.length : Int) ≤ v.now
  fine : ∀ (i : Nat) (c : CallD), v.l[i]? = some c → c.Fine v.now
  rise : ∀ (k i : Nat) (o c : CallD), k < i → v.l[k]? = some o → v.l[i]? = some c → o.fr < c.fr
  away : ∀ (k i : Nat) (o c : CallD), k ≠ i → v.l[k]? = some o → v.l[i]? = some c → o.dn = true → o.to ≠ c.fr ∧ (c.dn = true → o.to ≠ c.to)
  thr : ∀ (k i : Nat) (o c : CallD), k < i → v.l[k]? = some o → v.l[i]? = some c → o.th = c.th → o.dn = true ∧ o.to < c.fr
  keys : Keys v.op
  op : ∀ t id, openF v.op t = some id ↔ ∃ (i : Nat) (c : CallD), id = (i : Int) ∧ v.l[i]? = some c ∧ c.th = t ∧ c.dn = false
theorem HInv.zero : HInv { l := [], op := [], now := 0 } := by
  refine ⟨by simp, by simp, by simp, by simp, by simp, by simp, by simp [Keys], ?_⟩
  intro t id
  simp [openF_nil]
theorem get_snoc {l : List CallD} {c x : CallD} {i : Nat} (h : (l ++ [c])[i]? = some x) : l[i]? = some x ∨ (i = l.length ∧ x = c) := by
  rcases Nat.lt_or_ge i l.length with hi | hi
  · rw [List.getElem?_append_left hi] at h; exact .inl h
  · rw [List.getElem?_append_right hi] at h
    have : i - l.length = 0 := by
      have := (List.getElem?_eq_some_iff.1 h).1
      simp at this; omega
    rw [this] at h
    simp at h
    exact .inr ⟨by omega, h.symm⟩
theorem CallD.Fine.up {c : CallD} {n : Int} (h : c.Fine n) : c.Fine (n + 1) :=
  ⟨h.t0, h.t1, h.f0, by have := h.f1; omega, fun q => ⟨(h.d q).1, by have := (h.d q).2; omega⟩, h.u⟩
theorem HInv.step {v : HV} (h : HInv v) : HInv { v with now := v.now + 1 } :=
  ⟨by have := h.n0; dsimp only; omega, by have := h.n1; dsimp only; omega, fun i c q => (h.fine i c q).up, h.rise, h.away, h.thr, h.keys, h.op⟩
theorem HInv.begin {v : HV} (h : HInv v) (t kind : Int) (arg : BitVec 64) : HInv (v.begin t kind arg).1 := by
  unfold HV.begin
  split
  · exact h
  · rename_i ht
    split
    · exact h
    · rename_i ho
      have ho : openF v.op t = none := by
        change ¬ ((openF v.op t).isSome = true) at ho
        cases hq : openF v.op t with
        | none => rfl
        | some x => rw [hq] at ho; exact absurd rfl ho
      split
      · exact h
      · have hn := h.n0
        have ht0 : 0 ≤ t := by omega
        have ht1 : t < 64 := by omega
        refine ⟨by dsimp only; omega, ?_, ?_, ?_, ?_, ?_, keys_snoc h.keys ho, ?_⟩
        · have := h.n1; simp only [List.length_append, List.length_cons, List.length_nil]; omega
        · intro i c hc
          rcases get_snoc hc with hc | ⟨_, rfl⟩
          · exact (h.fine i c hc).up
          · exact ⟨ht0, ht1, hn, by dsimp only; omega, (fun q => by cases q), fun _ => ⟨rfl, rfl, rfl⟩⟩
        · intro k i o c hk ho hc
          rcases get_snoc hc with hc | ⟨hi, rfl⟩
          · rcases get_snoc ho with ho | ⟨hk2, rfl⟩
            · exact h.rise k i o c hk ho hc
            · have := (List.getElem?_eq_some_iff.1 hc).1; omega
          · rcases get_snoc ho with ho | ⟨hk2, rfl⟩
            · exact (h.fine k o ho).f1
            · omega
        · intro k i o c hk ho hc hd
          rcases get_snoc ho with ho | ⟨hk2, rfl⟩
          · rcases get_snoc hc with hc | ⟨hi, rfl⟩
            · exact h.away k i o c hk ho hc hd
            · have := ((h.fine k o ho).d hd).2
              exact ⟨by dsimp only; omega, fun q => by cases q⟩
          · cases hd
        · intro k i o c hk ho' hc hth
          rcases get_snoc hc with hc | ⟨hi, rfl⟩
          · rcases get_snoc ho' with ho' | ⟨hk2, rfl⟩
            · exact h.thr k i o c hk ho' hc hth
            · have := (List.getElem?_eq_some_iff.1 hc).1; omega
          · rcases get_snoc ho' with ho' | ⟨hk2, rfl⟩
            · cases hd : o.dn with
              | true => exact ⟨rfl, ((h.fine k o ho').d hd).2⟩
              | false =>
                have := (h.op t k).2 ⟨k, o, rfl, ho', hth, hd⟩
                rw [ho] at this; cases this
            · omega
        · intro t' id
          rw [openF_snoc t' ho]
          split
          · rename_i e; subst e
            constructor
            · rintro h1; cases h1
              exact ⟨v.l.length, { th := t', kind := kind, arg := arg, fr := v.now, to := 0, dn := false, code := 0, ret := 0#64 }, rfl, by simp, rfl, rfl⟩
            · rintro ⟨i, c, rfl, hc, h1, h2⟩
              rcases get_snoc hc with hc | ⟨hi, rfl⟩
              · have := (h.op t' i).2 ⟨i, c, rfl, hc, h1, h2⟩
                rw [ho] at this; cases this
              · rw [hi]
          · rename_i e
            rw [h.op]
            constructor
            · rintro ⟨i, c, h0, hc, h1, h2⟩
              exact ⟨i, c, h0, by rw [List.getElem?_append_left (List.getElem?_eq_some_iff.1 hc).1]; exact hc, h1, h2⟩
            · rintro ⟨i, c, h0, hc, h1, h2⟩
              rcases get_snoc hc with hc | ⟨hi, rfl⟩
              · exact ⟨i, c, h0, hc, h1, h2⟩
              · exact absurd h1.symm e
theorem get_set {l : List CallD} {c x : CallD} {i k : Nat} (h : (l.set k c)[i]? = some x) : (i ≠ k ∧ l[i]? = some x) ∨ (i = k ∧ x = c) := by
  by_cases e : k = i
  · subst e
    have hl := (List.getElem?_eq_some_iff.1 h).1
    rw [List.getElem?_set_self (by simpa using hl)] at h
    cases h; exact .inr ⟨rfl, rfl⟩
  · rw [List.getElem?_set_ne e] at h; exact .inl ⟨fun q => e q.symm, h⟩
theorem HInv.fin {v : HV} (h : HInv v) (id code : Int) (ret : BitVec 64) : HInv (v.fin id code ret).1 := by
  unfold HV.fin
  split
  · exact h
  · cases hc : v.l[id.toNat]? with
    | none => exact h
    | some c =>
      simp only
      split
      · exact h
      · rename_i hd
        have hd : c.dn = false := by simpa using hd
        generalize id.toNat = j at hc
        have hj := (List.getElem?_eq_some_iff.1 hc).1
        have hn := h.n0
        have hf := h.fine j c hc
        have hff := hf.f1
        refine ⟨by dsimp only; omega, ?_, ?_, ?_, ?_, ?_, keys_drop h.keys, ?_⟩
        · have := h.n1; simp only [List.length_set]; omega
        · intro i x hx
          rcases get_set hx with ⟨_, hx⟩ | ⟨_, rfl⟩
          · exact (h.fine i x hx).up
          · exact ⟨hf.t0, hf.t1, hf.f0, by dsimp only; omega, fun q => by dsimp only; omega, fun q => by cases q⟩
        · intro k i o x hk ho hx
          rcases get_set hx with ⟨_, hx'⟩ | ⟨rfl, rfl⟩ <;> rcases get_set ho with ⟨_, ho'⟩ | ⟨rfl, rfl⟩
          · exact h.rise k i o x hk ho' hx'
          · exact h.rise k i c x hk hc hx'
          · exact h.rise k i o c hk ho' hc
          · omega
        · intro k i o x hk ho hx hod
          rcases get_set hx with ⟨_, hx'⟩ | ⟨rfl, rfl⟩ <;> rcases get_set ho with ⟨_, ho'⟩ | ⟨rfl, rfl⟩
          · exact h.away k i o x hk ho' hx' hod
          · have hfx := h.fine i x hx'
            have := hfx.f1
            exact ⟨by dsimp only; omega, fun q => by have := (hfx.d q).2; dsimp only; omega⟩
          · have hfo := h.fine k o ho'
            have := (hfo.d hod).2
            exact ⟨(h.away k i o c hk ho' hc hod).1, fun _ => by dsimp only; omega⟩
          · exact absurd rfl hk
        · intro k i o x hk ho hx hth
          rcases get_set hx with ⟨_, hx'⟩ | ⟨rfl, rfl⟩ <;> rcases get_set ho with ⟨_, ho'⟩ | ⟨rfl, rfl⟩
          · exact h.thr k i o x hk ho' hx' hth
          · have := (h.thr k i c x hk hc hx' hth).1
            rw [hd] at this; cases this
          · exact h.thr k i o c hk ho' hc hth
          · omega
        · intro t' id'
          rw [openF_drop t' h.keys]
          split
          · rename_i e; subst e
            constructor
            · intro q; cases q
            · rintro ⟨i, x, rfl, hx, h1, h2⟩
              exfalso
              rcases get_set hx with ⟨hij, hx⟩ | ⟨rfl, rfl⟩
              · rcases Nat.lt_or_gt_of_ne hij with g | g
                · have := (h.thr i j x c g hx hc h1).1
                  rw [h2] at this; cases this
                · have := (h.thr j i c x g hc hx h1.symm).1
                  rw [hd] at this; cases this
              · cases h2
          · rename_i e
            rw [h.op]
            constructor
            · rintro ⟨i, x, h0, hx, h1, h2⟩
              have : j ≠ i := by rintro rfl; rw [hc] at hx; cases hx; exact e h1.symm
              exact ⟨i, x, h0, by rw [List.getElem?_set_ne this]; exact hx, h1, h2⟩
            · rintro ⟨i, x, h0, hx, h1, h2⟩
              rcases get_set hx with ⟨hij, hx⟩ | ⟨rfl, rfl⟩
              · exact ⟨i, x, h0, hx, h1, h2⟩
              · cases h2
theorem HInv.right {v : HV} (h : HInv v) (hn : v.l.length ≤ 1024) : rightL v.l = true := by
  rw [rightL, Bool.and_eq_true, List.all_eq_true]
  refine ⟨by simpa using hn, fun i hi => ?_⟩
  have hi := List.mem_range.1 hi
  have hc : v.l[i]? = some (v.l[i]'hi) := List.getElem?_eq_getElem hi
  generalize v.l[i]'hi = c at hc
  have hf := h.fine i c hc
  have e1 : rightF c = true := by
    have := hf.t0; have := hf.t1; have := hf.f0
    rw [rightF, if_neg (by omega)]
    split
    · rename_i hd
      have := (hf.d hd).1
      simp; omega
    · rename_i hd
      have := hf.u (by simpa using hd)
      simp [this]
  have e2 : (v.l.take i).any (twiceF c) = false := by
    rw [List.any_eq_false]
    intro o ho
    obtain ⟨k, hk, rfl⟩ := List.getElem_of_mem ho
    have hki : k < i := by simp at hk; omega
    have hko : v.l[k]? = some ((v.l.take i)[k]'hk) := by
      rw [List.getElem_take]; exact List.getElem?_eq_getElem (by omega)
    generalize (v.l.take i)[k]'hk = o at hko
    simp only [twiceF, Bool.and_eq_true, decide_eq_true_eq, not_and]
    intro hth
    have := h.thr k i o c hki hko hc hth
    simp [meetsF, aheadF, this]
  simp [okAt, hc, e1, e2]
end Go.Proofs.Ytopjhhcncjleaaa
