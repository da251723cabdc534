/- The statement SpecModes. -/
import Derived.Test.YtofkfbkpndjidaaS4
namespace Go.Proofs.Ytofkfbkpndjidaa
open Go Go.LK
set_option linter.unusedSimpArgs false
set_option linter.unusedVariables false
theorem and16 (c : Int) : ∃ d : Int, IntKind.i64.wrap ((BitVec.ofInt IntKind.i64.bits c &&& BitVec.ofInt IntKind.i64.bits 65535).toNat : Int) = d ∧ 0 ≤ d ∧ d ≤ 65535 := by
  have h : (BitVec.ofInt IntKind.i64.bits c &&& BitVec.ofInt IntKind.i64.bits 65535).toNat ≤ 65535 := by
    rw [BitVec.toNat_and]
    exact Nat.le_trans Nat.and_le_right (by decide)
  exact ⟨_, wrap_i64 (by omega) (by omega), by omega, by omega⟩
/-- What may be strictly may be by each mode, with the same queue. -/
theorem may_strict {cap : Int} {l m : List (BitVec 64)} {c : CallD} {p q : Int} (mode : Int) (h : mayF cap l c 0 p q = some m) : mayF cap l c mode p q = some m := by
  have h0 : letF cap l.length c.kind c.code c.ret 0 p q = false := by simp [letF]
  simp only [mayF, h0] at h ⊢
  split at h
  · rename_i hd; rw [if_pos hd]; exact h
  · rename_i hd
    rw [if_neg hd]
    split at h
    · rename_i hq; rw [if_pos hq]; exact h
    · simp at h
/-- More that meet allow no less. -/
theorem may_more {cap : Int} {l m : List (BitVec 64)} {c : CallD} {mode p q : Int} (hp : 0 ≤ p) (hq : 0 ≤ q) (h : mayF cap l c mode p q = some m) : ∃ m', mayF cap l c mode (p + 1) (q + 1) = some m' := by
  have up : ∀ x : Int, 0 ≤ x → upF x = x := fun x hx => by unfold upF; rw [if_neg (by omega)]
  have hl : letF cap l.length c.kind c.code c.ret mode p q = true → letF cap l.length c.kind c.code c.ret mode (p + 1) (q + 1) = true := by
    unfold letF
    rw [up p hp, up q hq, up (p + 1) (by omega), up (q + 1) (by omega)]
    split
    · split
      · simp only [Bool.or_eq_true, decide_eq_true_eq]; omega
      · split
        · simp only [decide_eq_true_eq]; omega
        · split
          · simp only [decide_eq_true_eq]; omega
          · exact id
    · exact id
  simp only [mayF] at h ⊢
  split at h
  · rename_i hd; rw [if_pos hd]; exact ⟨m, h⟩
  · rename_i hd
    rw [if_neg hd]
    split at h
    · rename_i hq; rw [if_pos hq]; exact ⟨_, rfl⟩
    · rename_i hq2
      rw [if_neg hq2]
      split at h
      · rename_i hlt
        rw [if_pos (hl hlt)]; exact ⟨_, rfl⟩
      · cases h
theorem modes_ev {lim : Nat} {cap : Int} {a : Option Addr} {l : List (BitVec 64)} {c : CallD} {a0 a1 : Int} {H : LHeap} (hs : Sl 1 H a (l.map w64)) (h1 : cap ≤ 9223372036854775807) (hp : a0 ≤ 9223372036854775807) :
    callE T 6 lim [fifo cap a l.length, c.v, .agg #[i64 a0, i64 a1]] H fun v H' => v = .bool true := by
  refine callE_pop rfl (by simp) rfl ?_
  by_cases hn : l.length ≤ 200
  · have k1 : ¬ (200 < (l.length : Int)) := by omega
    simp -dsimp only [go_sem, Nat.reduceEqDiff, Nat.reduceAdd, Nat.reduceSub, Nat.reduceMul, Nat.reduceLeDiff, Nat.reduceLT, Nat.reduceBEq, Int.reduceLT, Int.reduceLE, Int.reduceGT, Int.reduceGE, Int.reduceEq, Int.reduceNe, Int.reduceBEq, Int.reduceBNe, Int.reduceAdd, Int.reduceSub, Int.reduceMul, Int.reduceToNat, Int.reduceNeg, ↓reduceIte, ↓reduceDIte, k1]
    refine CT_of (may_ev (c := c) (l := l) (by simp) (hs.app _) h1 (by omega) hp) ?_
    rintro v1 _ ⟨t1, rfl, g1⟩
    obtain ⟨ax, rfl, g1b⟩ := g1.out
    have hml := mayT_len cap l c 0 a0 a1
    generalize hx : mayF cap l c 0 a0 a1 = x at g1b hml
    generalize hmt : mayT cap x = mt at g1b hml
    obtain ⟨xc, xl, xok⟩ := mt
    simp only at hml g1b
    simp -dsimp only [go_sem, Nat.reduceEqDiff, Nat.reduceAdd, Nat.reduceSub, Nat.reduceMul, Nat.reduceLeDiff, Nat.reduceLT, Nat.reduceBEq, Int.reduceLT, Int.reduceLE, Int.reduceGT, Int.reduceGE, Int.reduceEq, Int.reduceNe, Int.reduceBEq, Int.reduceBNe, Int.reduceAdd, Int.reduceSub, Int.reduceMul, Int.reduceToNat, Int.reduceNeg, ↓reduceIte, ↓reduceDIte]
    obtain ⟨d0, hd0, hd1, hd2⟩ := and16 a0
    obtain ⟨e0, he0, he1, he2⟩ := and16 a1
    have hw0 : IntKind.i64.wrap (d0 + 1) = d0 + 1 := wrap_i64 (by omega) (by omega)
    have hw1 : IntKind.i64.wrap (e0 + 1) = e0 + 1 := wrap_i64 (by omega) (by omega)
    refine LT_of (fun s : Nat × LHeap => [(3, .pointer (some ⟨H.length, 0, none⟩)), (4, .pointer (some ⟨H.length + 1, 0, none⟩)), (5, .pointer (some ⟨H.length + 2, 0, none⟩)), (7, .pointer (some ⟨H.length + (t1.length + 3), 0, none⟩)), (8, .bool xok), (9, i64 s.1)])
      (fun s => H ++ (.row false 0 [i64 cap, .slice a l.length l.length] :: .row false 0 [i64 c.th, i64 c.kind, w64 c.arg, i64 c.fr, i64 c.to, .bool c.dn, i64 c.code, w64 c.ret] :: .row false 0 [i64 a0, i64 a1] :: (t1 ++ .row false 0 [i64 xc, .slice ax xl.length xl.length] :: s.2)))
      (fun s => s.1 ≤ 3) (fun s => 3 - s.1) (0, []) rfl rfl (by simp) ?_
    rintro ⟨i, t⟩ hi
    simp only at hi ⊢
    by_cases hlt : i < 3
    · have h2 : (i : Int) < 3 := by omega
      have hw : IntKind.i64.wrap ((i : Int) + 1) = ((i + 1 : Nat) : Int) := by rw [wrap_i64] <;> omega
      simp -dsimp only [go_sem, Nat.reduceEqDiff, Nat.reduceAdd, Nat.reduceSub, Nat.reduceMul, Nat.reduceLeDiff, Nat.reduceLT, Nat.reduceBEq, Int.reduceLT, Int.reduceLE, Int.reduceGT, Int.reduceGE, Int.reduceEq, Int.reduceNe, Int.reduceBEq, Int.reduceBNe, Int.reduceAdd, Int.reduceSub, Int.reduceMul, Int.reduceToNat, Int.reduceNeg, ↓reduceIte, ↓reduceDIte, h2]
      refine CT_of (may_ev (c := c) (l := l) (by simp) (hs.app _) h1 (by omega) hp) ?_
      rintro v2 _ ⟨t2, rfl, g2⟩
      obtain ⟨ay, rfl, g2b⟩ := g2.out
      have hml2 := mayT_len cap l c i a0 a1
      rcases x with _ | m
      · simp only [mayT, Prod.mk.injEq] at hmt
        obtain ⟨rfl, rfl, rfl⟩ := hmt
        simp -dsimp only [go_sem, Nat.reduceEqDiff, Nat.reduceAdd, Nat.reduceSub, Nat.reduceMul, Nat.reduceLeDiff, Nat.reduceLT, Nat.reduceBEq, Int.reduceLT, Int.reduceLE, Int.reduceGT, Int.reduceGE, Int.reduceEq, Int.reduceNe, Int.reduceBEq, Int.reduceBNe, Int.reduceAdd, Int.reduceSub, Int.reduceMul, Int.reduceToNat, Int.reduceNeg, ↓reduceIte, ↓reduceDIte]
        simp -dsimp only [go_sem, Nat.reduceEqDiff, Nat.reduceAdd, Nat.reduceSub, Nat.reduceMul, Nat.reduceLeDiff, Nat.reduceLT, Nat.reduceBEq, Int.reduceLT, Int.reduceLE, Int.reduceGT, Int.reduceGE, Int.reduceEq, Int.reduceNe, Int.reduceBEq, Int.reduceBNe, Int.reduceAdd, Int.reduceSub, Int.reduceMul, Int.reduceToNat, Int.reduceNeg, ↓reduceIte, ↓reduceDIte, hd0, he0, hw0, hw1]
        refine CT_of (may_ev (c := c) (l := l) (by simp) (hs.into (by omega) (by simp [unbox_app, unbox_cons, unboxO_box])) h1 (by omega) (by omega)) ?_
        rintro v5 _ ⟨t5, rfl, g5⟩
        obtain ⟨a5, rfl, g5b⟩ := g5.out
        simp -dsimp only [go_sem, Nat.reduceEqDiff, Nat.reduceAdd, Nat.reduceSub, Nat.reduceMul, Nat.reduceLeDiff, Nat.reduceLT, Nat.reduceBEq, Int.reduceLT, Int.reduceLE, Int.reduceGT, Int.reduceGE, Int.reduceEq, Int.reduceNe, Int.reduceBEq, Int.reduceBNe, Int.reduceAdd, Int.reduceSub, Int.reduceMul, Int.reduceToNat, Int.reduceNeg, ↓reduceIte, ↓reduceDIte, hd0, he0, hw0, hw1]
        refine CT_of (may_ev (c := c) (l := l) (by simp) (hs.into (by omega) (by simp [unbox_app, unbox_cons, unboxO_box])) h1 (by omega) (by omega)) ?_
        rintro v6 _ ⟨t6, rfl, g6⟩
        obtain ⟨a6, rfl, g6b⟩ := g6.out
        rcases hfew : mayF cap l c i d0 e0 with _ | m1
        · simp -dsimp only [go_sem, Nat.reduceEqDiff, Nat.reduceAdd, Nat.reduceSub, Nat.reduceMul, Nat.reduceLeDiff, Nat.reduceLT, Nat.reduceBEq, Int.reduceLT, Int.reduceLE, Int.reduceGT, Int.reduceGE, Int.reduceEq, Int.reduceNe, Int.reduceBEq, Int.reduceBNe, Int.reduceAdd, Int.reduceSub, Int.reduceMul, Int.reduceToNat, Int.reduceNeg, ↓reduceIte, ↓reduceDIte, hfew, mayT, hw]
          exact ⟨(i + 1, _), rfl, rfl, by dsimp only; omega, by dsimp only; omega⟩
        · obtain ⟨m2, hmany⟩ := may_more hd1 he1 hfew
          simp -dsimp only [go_sem, Nat.reduceEqDiff, Nat.reduceAdd, Nat.reduceSub, Nat.reduceMul, Nat.reduceLeDiff, Nat.reduceLT, Nat.reduceBEq, Int.reduceLT, Int.reduceLE, Int.reduceGT, Int.reduceGE, Int.reduceEq, Int.reduceNe, Int.reduceBEq, Int.reduceBNe, Int.reduceAdd, Int.reduceSub, Int.reduceMul, Int.reduceToNat, Int.reduceNeg, ↓reduceIte, ↓reduceDIte, hfew, hmany, mayT, hw]
          exact ⟨(i + 1, _), rfl, rfl, by dsimp only; omega, by dsimp only; omega⟩
      · have hst := may_strict (mode := i) hx
        simp only [mayT, Prod.mk.injEq] at hmt
        obtain ⟨rfl, rfl, rfl⟩ := hmt
        simp only [hst, mayT] at g2b
        simp -dsimp only [go_sem, Nat.reduceEqDiff, Nat.reduceAdd, Nat.reduceSub, Nat.reduceMul, Nat.reduceLeDiff, Nat.reduceLT, Nat.reduceBEq, Int.reduceLT, Int.reduceLE, Int.reduceGT, Int.reduceGE, Int.reduceEq, Int.reduceNe, Int.reduceBEq, Int.reduceBNe, Int.reduceAdd, Int.reduceSub, Int.reduceMul, Int.reduceToNat, Int.reduceNeg, ↓reduceIte, ↓reduceDIte, hst, mayT]
        refine CT_of (same_ev (l := m) (m := m) (g2b.into (by omega) (by simp [unbox_app, unbox_cons, unboxO_box])) (g1b.into (by omega) (by simp [unbox_app, unbox_cons, unboxO_box])) (by omega) (by omega)) ?_
        rintro _ _ ⟨rfl, rfl⟩
        simp -dsimp only [go_sem, Nat.reduceEqDiff, Nat.reduceAdd, Nat.reduceSub, Nat.reduceMul, Nat.reduceLeDiff, Nat.reduceLT, Nat.reduceBEq, Int.reduceLT, Int.reduceLE, Int.reduceGT, Int.reduceGE, Int.reduceEq, Int.reduceNe, Int.reduceBEq, Int.reduceBNe, Int.reduceAdd, Int.reduceSub, Int.reduceMul, Int.reduceToNat, Int.reduceNeg, ↓reduceIte, ↓reduceDIte]
        simp -dsimp only [go_sem, Nat.reduceEqDiff, Nat.reduceAdd, Nat.reduceSub, Nat.reduceMul, Nat.reduceLeDiff, Nat.reduceLT, Nat.reduceBEq, Int.reduceLT, Int.reduceLE, Int.reduceGT, Int.reduceGE, Int.reduceEq, Int.reduceNe, Int.reduceBEq, Int.reduceBNe, Int.reduceAdd, Int.reduceSub, Int.reduceMul, Int.reduceToNat, Int.reduceNeg, ↓reduceIte, ↓reduceDIte, hd0, he0, hw0, hw1]
        refine CT_of (may_ev (c := c) (l := l) (by simp) (hs.into (by omega) (by simp [unbox_app, unbox_cons, unboxO_box])) h1 (by omega) (by omega)) ?_
        rintro v5 _ ⟨t5, rfl, g5⟩
        obtain ⟨a5, rfl, g5b⟩ := g5.out
        simp -dsimp only [go_sem, Nat.reduceEqDiff, Nat.reduceAdd, Nat.reduceSub, Nat.reduceMul, Nat.reduceLeDiff, Nat.reduceLT, Nat.reduceBEq, Int.reduceLT, Int.reduceLE, Int.reduceGT, Int.reduceGE, Int.reduceEq, Int.reduceNe, Int.reduceBEq, Int.reduceBNe, Int.reduceAdd, Int.reduceSub, Int.reduceMul, Int.reduceToNat, Int.reduceNeg, ↓reduceIte, ↓reduceDIte, hd0, he0, hw0, hw1]
        refine CT_of (may_ev (c := c) (l := l) (by simp) (hs.into (by omega) (by simp [unbox_app, unbox_cons, unboxO_box])) h1 (by omega) (by omega)) ?_
        rintro v6 _ ⟨t6, rfl, g6⟩
        obtain ⟨a6, rfl, g6b⟩ := g6.out
        rcases hfew : mayF cap l c i d0 e0 with _ | m1
        · simp -dsimp only [go_sem, Nat.reduceEqDiff, Nat.reduceAdd, Nat.reduceSub, Nat.reduceMul, Nat.reduceLeDiff, Nat.reduceLT, Nat.reduceBEq, Int.reduceLT, Int.reduceLE, Int.reduceGT, Int.reduceGE, Int.reduceEq, Int.reduceNe, Int.reduceBEq, Int.reduceBNe, Int.reduceAdd, Int.reduceSub, Int.reduceMul, Int.reduceToNat, Int.reduceNeg, ↓reduceIte, ↓reduceDIte, hfew, mayT, hw]
          exact ⟨(i + 1, _), rfl, rfl, by dsimp only; omega, by dsimp only; omega⟩
        · obtain ⟨m2, hmany⟩ := may_more hd1 he1 hfew
          simp -dsimp only [go_sem, Nat.reduceEqDiff, Nat.reduceAdd, Nat.reduceSub, Nat.reduceMul, Nat.reduceLeDiff, Nat.reduceLT, Nat.reduceBEq, Int.reduceLT, Int.reduceLE, Int.reduceGT, Int.reduceGE, Int.reduceEq, Int.reduceNe, Int.reduceBEq, Int.reduceBNe, Int.reduceAdd, Int.reduceSub, Int.reduceMul, Int.reduceToNat, Int.reduceNeg, ↓reduceIte, ↓reduceDIte, hfew, hmany, mayT, hw]
          exact ⟨(i + 1, _), rfl, rfl, by dsimp only; omega, by dsimp only; omega⟩
    · have h2 : ¬ (i : Int) < 3 := by omega
      simp -dsimp only [go_sem, Nat.reduceEqDiff, Nat.reduceAdd, Nat.reduceSub, Nat.reduceMul, Nat.reduceLeDiff, Nat.reduceLT, Nat.reduceBEq, Int.reduceLT, Int.reduceLE, Int.reduceGT, Int.reduceGE, Int.reduceEq, Int.reduceNe, Int.reduceBEq, Int.reduceBNe, Int.reduceAdd, Int.reduceSub, Int.reduceMul, Int.reduceToNat, Int.reduceNeg, ↓reduceIte, ↓reduceDIte, h2]
      refine CT_of (one_ev _ _) ?_
      rintro _ _ ⟨rfl, rfl⟩
      simp -dsimp only [go_sem, Nat.reduceEqDiff, Nat.reduceAdd, Nat.reduceSub, Nat.reduceMul, Nat.reduceLeDiff, Nat.reduceLT, Nat.reduceBEq, Int.reduceLT, Int.reduceLE, Int.reduceGT, Int.reduceGE, Int.reduceEq, Int.reduceNe, Int.reduceBEq, Int.reduceBNe, Int.reduceAdd, Int.reduceSub, Int.reduceMul, Int.reduceToNat, Int.reduceNeg, ↓reduceIte, ↓reduceDIte]
  · have k1 : 200 < (l.length : Int) := by omega
    simp -dsimp only [go_sem, Nat.reduceEqDiff, Nat.reduceAdd, Nat.reduceSub, Nat.reduceMul, Nat.reduceLeDiff, Nat.reduceLT, Nat.reduceBEq, Int.reduceLT, Int.reduceLE, Int.reduceGT, Int.reduceGE, Int.reduceEq, Int.reduceNe, Int.reduceBEq, Int.reduceBNe, Int.reduceAdd, Int.reduceSub, Int.reduceMul, Int.reduceToNat, Int.reduceNeg, ↓reduceIte, ↓reduceDIte, k1]
end Go.Proofs.Ytofkfbkpndjidaa
