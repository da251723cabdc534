/- The statement LinSearch. -/
import Derived.Test.YtfobpjjpaehhpaaL6
namespace Go.Proofs.Ytfobpjjpaehhpaa
open Go Go.LK
set_option linter.unusedSimpArgs false
set_option linter.unusedVariables false
theorem OrdAt.sl {lim cap : Nat} {H : LHeap} {a : Option Addr} {o : List Nat} (h : OrdAt lim H a cap o) : Sl 1 H a (o.map fun i : Nat => i64 (i : Int)) := by
  rcases h with ⟨rfl, rfl, rfl⟩ | ⟨b, cc, rfl, h1, h2, h3, h4, h5⟩
  · exact Sl.nil _ _
  · refine .inr ⟨b, 0, false, 1, cc, rfl, h2, by simp; omega, ?_, .inr rfl⟩
    rw [List.drop_zero, List.length_map, h5]
theorem mayF_strict (cap : Int) (s : Queue) (c : CallD) (p q p' q' : Int) : mayF cap s c 0 p q = mayF cap s c 0 p' q' := by
  simp [mayF, letF]
theorem stepS_eq (cap : Int) (l : List CallD) : stepS cap l = stepM cap l 0 := by
  funext s i
  unfold stepS stepM
  split
  · exact mayF_strict _ _ _ _ _ _ _
  · rfl
/-- What a search came to, in short. -/
theorem sch_cases {H : LHeap} {lim : Nat} {o : Option (List Nat)} {v : Value} (h : SchRes H lim o v) : ∃ a' oc, v = .tuple #[.slice a' (o.getD []).length oc, .bool o.isSome] ∧ OrdAt lim H a' oc (o.getD []) := by
  cases o with
  | none =>
    simp only [SchRes] at h
    exact ⟨none, 0, h, .inl ⟨rfl, rfl, rfl⟩⟩
  | some r =>
    simp only [SchRes] at h
    exact h
theorem Prob.dfs_len {σ : Type} (P : Prob σ) : ∀ (k : Nat) (u : BitVec 64) (s : σ) (r : List Nat), P.dfs k u s = some r → r.length ≤ k
  | 0, u, s, r, h => by
    rw [Prob.dfs] at h
    split at h
    · cases h; simp
    · cases h
  | k + 1, u, s, r, h => by
    rw [Prob.dfs] at h
    split at h
    · cases h; simp
    · obtain ⟨i, _, h2, _⟩ := findSome_some h
      unfold Prob.tryAt at h2
      split at h2
      · cases h2
      · split at h2
        · cases h2
        · obtain ⟨r', h3, rfl⟩ := Option.map_eq_some_iff.1 h2
          have := P.dfs_len k _ _ _ h3
          simp; omega
theorem leftN_le (n : Nat) (u : BitVec 64) : leftN n u ≤ n := by
  unfold leftN
  exact Nat.le_trans (List.countP_le_length) (by simp)
theorem search_len {l : List CallD} {stp : Queue → Nat → Option Queue} : ((searchF l stp).getD []).length ≤ 62 := by
  unfold searchF
  split
  · rename_i h
    cases hq : (prob l stp).fnd 0#64 [] with
    | none => simp
    | some r =>
      have := (prob l stp).dfs_len _ _ _ _ hq
      have h2 := leftN_le (prob l stp).n 0#64
      have h3 : (prob l stp).n = l.length := rfl
      simp; omega
  · simp
/-- The two orders, compared. -/
theorem one_at {lim : Nat} {H : LHeap} : callE T 12 lim [] H fun v H' => v = .bool true ∧ H' = H := one_ev lim H
set_option maxHeartbeats 2000000 in
theorem linsearch_ev {lim n : Nat} {cap : Int} {a : Option Addr} {l : List CallD} {H : LHeap} (hll : l.length ≤ 9223372036854775807) (hs : Sl 8 H a (l.flatMap CallD.cells)) (hc : cap ≤ 9223372036854775807) :
    callE T 6 lim [.slice a l.length n, i64 cap] H fun v H' => v = .bool true := by
  refine callE_pop rfl (by simp) rfl ?_
  simp -dsimp only [go_sem, Nat.reduceEqDiff, Nat.reduceAdd, Nat.reduceSub, Nat.reduceMul, Nat.reduceLeDiff, Nat.reduceLT, Nat.reduceBEq, Int.reduceLT, Int.reduceLE, Int.reduceGT, Int.reduceGE, Int.reduceEq, Int.reduceNe, Int.reduceBEq, Int.reduceBNe, Int.reduceAdd, Int.reduceSub, Int.reduceMul, Int.reduceToNat, Int.reduceNeg, ↓reduceIte, ↓reduceDIte]
  refine CT_of (few_ev (most := 6) (by omega) hll (by simp) (hs.app _)) ?_
  rintro _ _ ⟨a1, l1, t1, rfl, rfl, h1, h2, h3⟩
  simp -dsimp only [go_sem, Nat.reduceEqDiff, Nat.reduceAdd, Nat.reduceSub, Nat.reduceMul, Nat.reduceLeDiff, Nat.reduceLT, Nat.reduceBEq, Int.reduceLT, Int.reduceLE, Int.reduceGT, Int.reduceGE, Int.reduceEq, Int.reduceNe, Int.reduceBEq, Int.reduceBNe, Int.reduceAdd, Int.reduceSub, Int.reduceMul, Int.reduceToNat, Int.reduceNeg, ↓reduceIte, ↓reduceDIte]
  have hE : Has ((H.length, .row false 0 [.slice a1 l1.length l1.length]) :: slE (H ++ LObj.row false 0 [.slice a1 l1.length l1.length] :: t1) a1) (H ++ LObj.row false 0 [.slice a1 l1.length l1.length] :: t1) := by
    intro x hx
    rcases List.mem_cons.1 hx with rfl | hx
    · simp
    exact slE_has _ _ x hx
  have h1' : Sl 8 (H ++ LObj.row false 0 [.slice a1 l1.length l1.length] :: t1) a1 (l1.flatMap CallD.cells) := h1.into (by omega) (by simp [unbox_app, unbox_cons, unboxO_box])
  refine CT_of (search_ev (kc := []) (stp := stepS cap l1) (cap := cap) (by simp) h1' (Nat.le_refl _) hE fun h62 => ⟨?_, ?_, ?_⟩) ?_
  · intro H' lim' hE' hl' b s i hi hb hsn
    refine step1_ev hl' rfl h62 (hE' (H.length, .row false 0 [.slice a1 l1.length l1.length]) (by simp)) ?_ hi hb hsn hc
    exact slE_at h1' fun x hx => hE' x (by simp [hx])
  · intro H' lim' hE' b s hb hsn
    exact key1_ev hb (by omega)
  · intro s i t h
    unfold stepS at h
    split at h
    · exact mayF_len h
    · cases h
  · rintro _ _ ⟨t2, rfl, hm⟩
    obtain ⟨a2, oc2, rfl, ho2⟩ := sch_cases hm
    rw [stepS_eq] at ho2 ⊢
    simp -dsimp only [go_sem, Nat.reduceEqDiff, Nat.reduceAdd, Nat.reduceSub, Nat.reduceMul, Nat.reduceLeDiff, Nat.reduceLT, Nat.reduceBEq, Int.reduceLT, Int.reduceLE, Int.reduceGT, Int.reduceGE, Int.reduceEq, Int.reduceNe, Int.reduceBEq, Int.reduceBNe, Int.reduceAdd, Int.reduceSub, Int.reduceMul, Int.reduceToNat, Int.reduceNeg, ↓reduceIte, ↓reduceDIte]
    refine CT_of (fifo_ev (mode := 0) (by simp) (by simpa using h1'.app t2) (Nat.le_refl _) hc) ?_
    rintro _ _ ⟨t3, rfl, hm3⟩
    obtain ⟨a3, oc3, rfl, ho3⟩ := sch_cases hm3
    have hrl := search_len (l := l1) (stp := stepM cap l1 0)
    generalize (searchF l1 (stepM cap l1 0)) = o at ho2 ho3 hrl ⊢
    have e1 : (o.isSome != o.isSome) = false := by simp
    have e2 : (((o.getD []).length : Int) != ((o.getD []).length : Int)) = false := by simp
    simp -dsimp only [go_sem, Nat.reduceEqDiff, Nat.reduceAdd, Nat.reduceSub, Nat.reduceMul, Nat.reduceLeDiff, Nat.reduceLT, Nat.reduceBEq, Int.reduceLT, Int.reduceLE, Int.reduceGT, Int.reduceGE, Int.reduceEq, Int.reduceNe, Int.reduceBEq, Int.reduceBNe, Int.reduceAdd, Int.reduceSub, Int.reduceMul, Int.reduceToNat, Int.reduceNeg, ↓reduceIte, ↓reduceDIte, e1, e2]
    generalize o.getD [] = r at ho2 ho3 hrl ⊢
    have s2 := ho2.sl.app t3
    have s3 := ho3.sl
    refine LT_of (fun i : Nat => [(7, .slice a2 r.length oc2), (9, .slice a3 r.length oc3), (11, i64 i)]) (fun _ => H ++ LObj.row false 0 [Value.slice a1 l1.length l1.length] :: (t1 ++ (t2 ++ t3))) (fun i => i ≤ r.length) (fun i => r.length - i) 0 (by simp) rfl (by simp) ?_
    intro i hi
    by_cases hlt : i < r.length
    · have k1 : (i : Int) < r.length := by omega
      have k3 : 0 ≤ (i : Int) := by omega
      have hr := List.getElem?_eq_getElem hlt
      generalize r[i]'hlt = x at hr
      have hw : IntKind.i64.wrap ((i : Int) + 1) = ((i + 1 : Nat) : Int) := by rw [wrap_i64] <;> omega
      obtain ⟨b2, o2, rfl, _, g2⟩ := s2.all (by simp; omega)
      obtain ⟨b3, o3, rfl, _, g3⟩ := s3.all (by simp; omega)
      have q2 := g2 [] i (i64 x) (by simp [hr])
      have q3 := g3 [] i (i64 x) (by simp [hr])
      simp only [List.append_nil, List.append_assoc, List.cons_append] at q2 q3
      have e3 : ((x : Int) != (x : Int)) = false := by simp
      simp -dsimp only [go_sem, Nat.reduceEqDiff, Nat.reduceAdd, Nat.reduceSub, Nat.reduceMul, Nat.reduceLeDiff, Nat.reduceLT, Nat.reduceBEq, Int.reduceLT, Int.reduceLE, Int.reduceGT, Int.reduceGE, Int.reduceEq, Int.reduceNe, Int.reduceBEq, Int.reduceBNe, Int.reduceAdd, Int.reduceSub, Int.reduceMul, Int.reduceToNat, Int.reduceNeg, ↓reduceIte, ↓reduceDIte, k1, k3, q2, q3, e3, hw]
      exact ⟨i + 1, rfl, by omega, by omega⟩
    · have k1 : ¬ (i : Int) < r.length := by omega
      simp -dsimp only [go_sem, Nat.reduceEqDiff, Nat.reduceAdd, Nat.reduceSub, Nat.reduceMul, Nat.reduceLeDiff, Nat.reduceLT, Nat.reduceBEq, Int.reduceLT, Int.reduceLE, Int.reduceGT, Int.reduceGE, Int.reduceEq, Int.reduceNe, Int.reduceBEq, Int.reduceBNe, Int.reduceAdd, Int.reduceSub, Int.reduceMul, Int.reduceToNat, Int.reduceNeg, ↓reduceIte, ↓reduceDIte, k1]
      refine CT_val one_at ?_
      simp -dsimp only [go_sem, Nat.reduceEqDiff, Nat.reduceAdd, Nat.reduceSub, Nat.reduceMul, Nat.reduceLeDiff, Nat.reduceLT, Nat.reduceBEq, Int.reduceLT, Int.reduceLE, Int.reduceGT, Int.reduceGE, Int.reduceEq, Int.reduceNe, Int.reduceBEq, Int.reduceBNe, Int.reduceAdd, Int.reduceSub, Int.reduceMul, Int.reduceToNat, Int.reduceNeg, ↓reduceIte, ↓reduceDIte]
end Go.Proofs.Ytfobpjjpaehhpaa
