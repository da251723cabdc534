/- The statement HpMeets: the walk. -/
import Derived.Test.YtcogpinognopcaaG6
namespace Go.Proofs.Ytcogpinognopcaa
open Go Go.LK
set_option linter.unusedSimpArgs false
set_option linter.unusedVariables false
set_option maxHeartbeats 1000000 in
theorem phE_ev {H : LHeap} {lo qs : Nat} {aop as_ : Option Addr} {P : List Nat} {K : LHeap} {xo xs : HOp} {m : MV} {w : List (BitVec 64)} {k : Nat} {e : Env} {Q : LExit → Env → LHeap → Prop} (h : HM H lo qs aop P K xo xs as_ m w k)
    (e7 : LK.look e 7 = ptr H.length) (e8 : LK.look e 8 = ptr (H.length + 3)) (e10 : LK.look e 10 = ptr (H.length + 5)) (e15 : LK.look e 15 = ptr qs)
    (hQ : ∀ e' H', LK.look e' 6 = .bool true → Q .ret e' H') :
    XW (callE T) H.length phE e K Q := by
  unfold phE
  simp -dsimp only [go_sem, Nat.reduceEqDiff, Nat.reduceAdd, Nat.reduceSub, Nat.reduceMul, Nat.reduceLeDiff, Nat.reduceLT, Nat.reduceBEq, Int.reduceLT, Int.reduceLE, Int.reduceGT, Int.reduceGE, Int.reduceEq, Int.reduceNe, Int.reduceBEq, Int.reduceBNe, Int.reduceAdd, Int.reduceSub, Int.reduceMul, Int.reduceToNat, Int.reduceNeg, ↓reduceIte, ↓reduceDIte]
  refine LT_of (fun s : Nat × LHeap × HOp × MV × List (BitVec 64) => [(7, ptr H.length), (8, ptr (H.length + 3)), (10, ptr (H.length + 5)), (15, ptr qs), (18, i64 s.1)]) (fun s => s.2.1) (fun s => HM H lo qs aop P s.2.1 s.2.2.1 xs as_ s.2.2.2.1 s.2.2.2.2 k ∧ s.1 + rank s.2.2.1 s.2.2.2.2 ≤ 4) (fun s => 40 - s.1) (0, K, xo, m, w) (by simp [restrict, LK.look, e7, e8, e10, e15]) rfl ⟨h, by simpa using rank_le xo w⟩ ?_
  clear h
  rintro ⟨i, K, xo, m, w⟩ ⟨h, hi⟩
  simp only at h hi ⊢
  have c1 : (i : Int) < 40 := by omega
  have w1 : IntKind.i64.wrap ((i : Int) + 1) = ((i + 1 : Nat) : Int) := by rw [wrap_i64] <;> omega
  simp -dsimp only [go_sem, Nat.reduceEqDiff, Nat.reduceAdd, Nat.reduceSub, Nat.reduceMul, Nat.reduceLeDiff, Nat.reduceLT, Nat.reduceBEq, Int.reduceLT, Int.reduceLE, Int.reduceGT, Int.reduceGE, Int.reduceEq, Int.reduceNe, Int.reduceBEq, Int.reduceBNe, Int.reduceAdd, Int.reduceSub, Int.reduceMul, Int.reduceToNat, Int.reduceNeg, ↓reduceIte, ↓reduceDIte, c1]
  refine CT_val (hdone_ev h.o) ?_
  cases hd : xo.done
  · simp -dsimp only [go_sem, Nat.reduceEqDiff, Nat.reduceAdd, Nat.reduceSub, Nat.reduceMul, Nat.reduceLeDiff, Nat.reduceLT, Nat.reduceBEq, Int.reduceLT, Int.reduceLE, Int.reduceGT, Int.reduceGE, Int.reduceEq, Int.reduceNe, Int.reduceBEq, Int.reduceBNe, Int.reduceAdd, Int.reduceSub, Int.reduceMul, Int.reduceToNat, Int.reduceNeg, ↓reduceIte, ↓reduceDIte, hd]
    have hpo := h.po
    refine CT_of (hstep_ev (n := 0) h.ahdO (by rw [hpo.g]; rfl) (by rcases hpo.at_ with q | q | q <;> rw [q] <;> decide) (by rw [hpo.met]; rfl) (by decide)) ?_
    rintro _ K' ⟨rfl, a', s⟩
    obtain ⟨w', h', hr⟩ := h.stepO hd s
    simp -dsimp only [go_sem, Nat.reduceEqDiff, Nat.reduceAdd, Nat.reduceSub, Nat.reduceMul, Nat.reduceLeDiff, Nat.reduceLT, Nat.reduceBEq, Int.reduceLT, Int.reduceLE, Int.reduceGT, Int.reduceGE, Int.reduceEq, Int.reduceNe, Int.reduceBEq, Int.reduceBNe, Int.reduceAdd, Int.reduceSub, Int.reduceMul, Int.reduceToNat, Int.reduceNeg, ↓reduceIte, ↓reduceDIte, w1]
    refine ⟨(i + 1, K', (xo.step m).1, (xo.step m).2, w'), rfl, rfl, ⟨h', ?_⟩, by simp only; omega⟩
    show i + 1 + rank (xo.step m).1 w' ≤ 4
    omega
  · simp -dsimp only [go_sem, Nat.reduceEqDiff, Nat.reduceAdd, Nat.reduceSub, Nat.reduceMul, Nat.reduceLeDiff, Nat.reduceLT, Nat.reduceBEq, Int.reduceLT, Int.reduceLE, Int.reduceGT, Int.reduceGE, Int.reduceEq, Int.reduceNe, Int.reduceBEq, Int.reduceBNe, Int.reduceAdd, Int.reduceSub, Int.reduceMul, Int.reduceToNat, Int.reduceNeg, ↓reduceIte, ↓reduceDIte, hd]
    refine LT_of (fun s : Nat × LHeap × HOp × Option Addr × MV × Nat => [(7, ptr H.length), (8, ptr (H.length + 3)), (10, ptr (H.length + 5)), (15, ptr qs), (19, i64 s.1)]) (fun s => s.2.1) (fun s => HM H lo qs aop P s.2.1 xo s.2.2.1 s.2.2.2.1 s.2.2.2.2.1 w s.2.2.2.2.2 ∧ s.1 ≤ s.2.2.2.2.2) (fun s => 8 - s.1) (0, K, xs, as_, m, k) rfl rfl ⟨h, by simp⟩ ?_
    clear h hi
    rintro ⟨i, K, xs, as_, m, k⟩ ⟨h, hik⟩
    simp only at h hik ⊢
    have hk8 := h.ss.le
    have c1 : (i : Int) < 20 := by omega
    have w1 : IntKind.i64.wrap ((i : Int) + 1) = ((i + 1 : Nat) : Int) := by rw [wrap_i64] <;> omega
    simp -dsimp only [go_sem, Nat.reduceEqDiff, Nat.reduceAdd, Nat.reduceSub, Nat.reduceMul, Nat.reduceLeDiff, Nat.reduceLT, Nat.reduceBEq, Int.reduceLT, Int.reduceLE, Int.reduceGT, Int.reduceGE, Int.reduceEq, Int.reduceNe, Int.reduceBEq, Int.reduceBNe, Int.reduceAdd, Int.reduceSub, Int.reduceMul, Int.reduceToNat, Int.reduceNeg, ↓reduceIte, ↓reduceDIte, c1]
    refine CT_val (hdone_ev h.sc) ?_
    have hsd := h.ss.done
    have hlen := h.ss.len
    by_cases hk : k = 8
    · have hsd : xs.done = true := by rw [hsd]; simp [hk]
      simp -dsimp only [go_sem, Nat.reduceEqDiff, Nat.reduceAdd, Nat.reduceSub, Nat.reduceMul, Nat.reduceLeDiff, Nat.reduceLT, Nat.reduceBEq, Int.reduceLT, Int.reduceLE, Int.reduceGT, Int.reduceGE, Int.reduceEq, Int.reduceNe, Int.reduceBEq, Int.reduceBNe, Int.reduceAdd, Int.reduceSub, Int.reduceMul, Int.reduceToNat, Int.reduceNeg, ↓reduceIte, ↓reduceDIte, hsd]
      refine CT_val (hres_ev h.o) ?_
      rw [if_pos hd]
      simp -dsimp only [go_sem, Nat.reduceEqDiff, Nat.reduceAdd, Nat.reduceSub, Nat.reduceMul, Nat.reduceLeDiff, Nat.reduceLT, Nat.reduceBEq, Int.reduceLT, Int.reduceLE, Int.reduceGT, Int.reduceGE, Int.reduceEq, Int.reduceNe, Int.reduceBEq, Int.reduceBNe, Int.reduceAdd, Int.reduceSub, Int.reduceMul, Int.reduceToNat, Int.reduceNeg, ↓reduceIte, ↓reduceDIte]
      refine CT_val (hres_ev h.sc) ?_
      rw [if_pos hsd]
      simp -dsimp only [go_sem, Nat.reduceEqDiff, Nat.reduceAdd, Nat.reduceSub, Nat.reduceMul, Nat.reduceLeDiff, Nat.reduceLT, Nat.reduceBEq, Int.reduceLT, Int.reduceLE, Int.reduceGT, Int.reduceGE, Int.reduceEq, Int.reduceNe, Int.reduceBEq, Int.reduceBNe, Int.reduceAdd, Int.reduceSub, Int.reduceMul, Int.reduceToNat, Int.reduceNeg, ↓reduceIte, ↓reduceDIte]
      refine CT_of (hmet_ev (k := xs.met.length) (by have := h.len; have := h.qs0; have := h.qs1; omega) h.sc h.so rfl (by omega)) ?_
      rintro _ _ ⟨am, tm, rfl, rfl, om⟩
      have hco := h.po.code
      have hcs := h.ss.code
      have hp := h.ss.p hk
      have hq5 := h.po.fin hd
      have l5 := (List.getElem?_eq_some_iff.1 h.o).1
      have lq := (List.getElem?_eq_some_iff.1 h.sc).1
      have lg := (List.getElem?_eq_some_iff.1 h.gr).1
      have hg : lcells K H.length 0 3 = some [i64 4, i64 4, i64 2] := lcells_of h.gr rfl
      simp -dsimp only [go_sem, Nat.reduceEqDiff, Nat.reduceAdd, Nat.reduceSub, Nat.reduceMul, Nat.reduceLeDiff, Nat.reduceLT, Nat.reduceBEq, Int.reduceLT, Int.reduceLE, Int.reduceGT, Int.reduceGE, Int.reduceEq, Int.reduceNe, Int.reduceBEq, Int.reduceBNe, Int.reduceAdd, Int.reduceSub, Int.reduceMul, Int.reduceToNat, Int.reduceNeg, ↓reduceIte, ↓reduceDIte, hco, hcs]
      refine CT_val (hdone_ev (get_old h.o _)) ?_
      simp -dsimp only [go_sem, Nat.reduceEqDiff, Nat.reduceAdd, Nat.reduceSub, Nat.reduceMul, Nat.reduceLeDiff, Nat.reduceLT, Nat.reduceBEq, Int.reduceLT, Int.reduceLE, Int.reduceGT, Int.reduceGE, Int.reduceEq, Int.reduceNe, Int.reduceBEq, Int.reduceBNe, Int.reduceAdd, Int.reduceSub, Int.reduceMul, Int.reduceToNat, Int.reduceNeg, ↓reduceIte, ↓reduceDIte, hd]
      refine CT_val (hdone_ev (get_old h.sc _)) ?_
      simp -dsimp only [go_sem, Nat.reduceEqDiff, Nat.reduceAdd, Nat.reduceSub, Nat.reduceMul, Nat.reduceLeDiff, Nat.reduceLT, Nat.reduceBEq, Int.reduceLT, Int.reduceLE, Int.reduceGT, Int.reduceGE, Int.reduceEq, Int.reduceNe, Int.reduceBEq, Int.reduceBNe, Int.reduceAdd, Int.reduceSub, Int.reduceMul, Int.reduceToNat, Int.reduceNeg, ↓reduceIte, ↓reduceDIte, hsd, BitVec.ofInt_natCast, hp, lcells_left lg, hg]
      refine CT_val (slot_ev (g := g4) (t := 0) (s := 1)) ?_
      simp -dsimp only [go_sem, Nat.reduceEqDiff, Nat.reduceAdd, Nat.reduceSub, Nat.reduceMul, Nat.reduceLeDiff, Nat.reduceLT, Nat.reduceBEq, Int.reduceLT, Int.reduceLE, Int.reduceGT, Int.reduceGE, Int.reduceEq, Int.reduceNe, Int.reduceBEq, Int.reduceBNe, Int.reduceAdd, Int.reduceSub, Int.reduceMul, Int.reduceToNat, Int.reduceNeg, ↓reduceIte, ↓reduceDIte]
      refine CT_val (load_ev (h.mem.app _)) ?_
      have h5 : g4.slot 0 1 = 5 := by decide
      have hl5 : m.load 5 = xo.p := by rw [load_cl h.cl (by omega) (by rw [h.wl]; omega)]; exact hq5
      rw [h5, hl5, memPut_app h.mem]
      have mem2 : MemAt (memPut K (H.length + 3) (H.length + 1) (H.length + 2) (m.use 0 5 id)) (H.length + 3) (H.length + 1) (H.length + 2) (m.use 0 5 id) := h.mem.put (MV.use_len _ _ _ _).1 (by rw [(MV.use_len _ _ _ _).2]; exact h.mem.len)
      have cl2 := h.cl.use_id (a := 5) (by omega) (by rw [h.wl]; omega) 0
      have mem3 := mem2.app tm
      have hq0 := h.qs0; have hq1 := h.qs1; have hl := h.len
      have om2 : Sl 1 (memPut K (H.length + 3) (H.length + 1) (H.length + 2) (m.use 0 5 id) ++ tm) am (xs.met.map w64) := by
        rcases om with ⟨e1, e2⟩ | ⟨b, e1, e2, e3⟩
        · exact .inl ⟨e1, e2⟩
        · rw [e1]
          refine Sl.row (ro := false) ?_
          rw [← memPut_app h.mem, memPut_get _ (by omega) (by omega) (by omega)]
          exact e3
      have hfound : (xo.p == 0#64 || xs.met.any (· == xo.p)) = true := by
        rcases h.ss.has (by omega) with z | z
        · rw [hq5] at z; simp [z]
        · rw [hq5] at z
          rw [Bool.or_eq_true]; right
          rw [List.any_eq_true]
          exact ⟨_, z, by simp⟩
      generalize memPut K (H.length + 3) (H.length + 1) (H.length + 2) (m.use 0 5 id) ++ tm = K2 at mem3 om2 ⊢
      simp -dsimp only [go_sem, Nat.reduceEqDiff, Nat.reduceAdd, Nat.reduceSub, Nat.reduceMul, Nat.reduceLeDiff, Nat.reduceLT, Nat.reduceBEq, Int.reduceLT, Int.reduceLE, Int.reduceGT, Int.reduceGE, Int.reduceEq, Int.reduceNe, Int.reduceBEq, Int.reduceBNe, Int.reduceAdd, Int.reduceSub, Int.reduceMul, Int.reduceToNat, Int.reduceNeg, ↓reduceIte, ↓reduceDIte]
      refine LT_of (fun s : Nat => [(8, ptr (H.length + 3)), (21, w64 xo.p), (24, .slice am xs.met.length xs.met.length), (25, .bool (xo.p == 0#64 || (xs.met.take s).any (· == xo.p))), (26, i64 s)]) (fun _ => K2) (fun s => s ≤ xs.met.length) (fun s => xs.met.length - s) 0 (by simp [restrict, LK.look]) rfl (by omega) ?_
      intro s hs
      by_cases hlt : s < xs.met.length
      · have c2 : (s : Int) < xs.met.length := by omega
        have c0 : 0 ≤ (s : Int) := by omega
        have w2 : IntKind.i64.wrap ((s : Int) + 1) = ((s + 1 : Nat) : Int) := by rw [wrap_i64] <;> omega
        obtain ⟨bm, omm, rfl, _, hgm⟩ := om2.all (by simp; omega)
        have gm := hgm [] s (w64 (xs.met[s])) (by simp [hlt])
        simp only [List.append_nil] at gm
        have htk : (xs.met.take (s + 1)).any (· == xo.p) = ((xs.met.take s).any (· == xo.p) || (xs.met[s] == xo.p)) := by
          rw [List.take_add_one, List.getElem?_eq_getElem hlt, List.any_append]; simp only [Option.toList, List.any_cons, List.any_nil, Bool.or_false]
        cases hb : (xo.p == 0#64 || (xs.met.take s).any (· == xo.p))
        · simp -dsimp only [go_sem, Nat.reduceEqDiff, Nat.reduceAdd, Nat.reduceSub, Nat.reduceMul, Nat.reduceLeDiff, Nat.reduceLT, Nat.reduceBEq, Int.reduceLT, Int.reduceLE, Int.reduceGT, Int.reduceGE, Int.reduceEq, Int.reduceNe, Int.reduceBEq, Int.reduceBNe, Int.reduceAdd, Int.reduceSub, Int.reduceMul, Int.reduceToNat, Int.reduceNeg, ↓reduceIte, ↓reduceDIte, c2, c0, w2, gm]
          refine ⟨s + 1, ?_, by omega, by omega⟩
          rw [htk, ← Bool.or_assoc, hb, Bool.false_or]
        · simp -dsimp only [go_sem, Nat.reduceEqDiff, Nat.reduceAdd, Nat.reduceSub, Nat.reduceMul, Nat.reduceLeDiff, Nat.reduceLT, Nat.reduceBEq, Int.reduceLT, Int.reduceLE, Int.reduceGT, Int.reduceGE, Int.reduceEq, Int.reduceNe, Int.reduceBEq, Int.reduceBNe, Int.reduceAdd, Int.reduceSub, Int.reduceMul, Int.reduceToNat, Int.reduceNeg, ↓reduceIte, ↓reduceDIte, c2, c0, w2, gm]
          refine ⟨s + 1, ?_, by omega, by omega⟩
          rw [htk, ← Bool.or_assoc, hb, Bool.true_or]
      · have c2 : ¬ (s : Int) < xs.met.length := by omega
        obtain rfl : s = xs.met.length := by omega
        rw [List.take_length, hfound]
        simp -dsimp only [go_sem, Nat.reduceEqDiff, Nat.reduceAdd, Nat.reduceSub, Nat.reduceMul, Nat.reduceLeDiff, Nat.reduceLT, Nat.reduceBEq, Int.reduceLT, Int.reduceLE, Int.reduceGT, Int.reduceGE, Int.reduceEq, Int.reduceNe, Int.reduceBEq, Int.reduceBNe, Int.reduceAdd, Int.reduceSub, Int.reduceMul, Int.reduceToNat, Int.reduceNeg, ↓reduceIte, ↓reduceDIte, c2]
        refine CT_val (trap_c mem3 cl2) ?_
        simp -dsimp only [go_sem, Nat.reduceEqDiff, Nat.reduceAdd, Nat.reduceSub, Nat.reduceMul, Nat.reduceLeDiff, Nat.reduceLT, Nat.reduceBEq, Int.reduceLT, Int.reduceLE, Int.reduceGT, Int.reduceGE, Int.reduceEq, Int.reduceNe, Int.reduceBEq, Int.reduceBNe, Int.reduceAdd, Int.reduceSub, Int.reduceMul, Int.reduceToNat, Int.reduceNeg, ↓reduceIte, ↓reduceDIte]
        refine CT_val (one_ev _ _) ?_
        simp -dsimp only [go_sem, Nat.reduceEqDiff, Nat.reduceAdd, Nat.reduceSub, Nat.reduceMul, Nat.reduceLeDiff, Nat.reduceLT, Nat.reduceBEq, Int.reduceLT, Int.reduceLE, Int.reduceGT, Int.reduceGE, Int.reduceEq, Int.reduceNe, Int.reduceBEq, Int.reduceBNe, Int.reduceAdd, Int.reduceSub, Int.reduceMul, Int.reduceToNat, Int.reduceNeg, ↓reduceIte, ↓reduceDIte]
        exact hQ _ _ rfl
    · have hsd : xs.done = false := by rw [hsd]; simp [hk]
      simp -dsimp only [go_sem, Nat.reduceEqDiff, Nat.reduceAdd, Nat.reduceSub, Nat.reduceMul, Nat.reduceLeDiff, Nat.reduceLT, Nat.reduceBEq, Int.reduceLT, Int.reduceLE, Int.reduceGT, Int.reduceGE, Int.reduceEq, Int.reduceNe, Int.reduceBEq, Int.reduceBNe, Int.reduceAdd, Int.reduceSub, Int.reduceMul, Int.reduceToNat, Int.reduceNeg, ↓reduceIte, ↓reduceDIte, hsd]
      refine CT_of (hstep_ev h.ahdS (by rw [h.ss.g]; rfl) (by rw [h.ss.at_]; omega) rfl (by omega)) ?_
      rintro _ K' ⟨rfl, a', s⟩
      have h' := h.stepS hd (by omega) s
      simp -dsimp only [go_sem, Nat.reduceEqDiff, Nat.reduceAdd, Nat.reduceSub, Nat.reduceMul, Nat.reduceLeDiff, Nat.reduceLT, Nat.reduceBEq, Int.reduceLT, Int.reduceLE, Int.reduceGT, Int.reduceGE, Int.reduceEq, Int.reduceNe, Int.reduceBEq, Int.reduceBNe, Int.reduceAdd, Int.reduceSub, Int.reduceMul, Int.reduceToNat, Int.reduceNeg, ↓reduceIte, ↓reduceDIte, w1]
      exact ⟨(i + 1, K', _, a', _, k + 1), rfl, rfl, ⟨h', by simp only; omega⟩, by simp only; omega⟩
end Go.Proofs.Ytcogpinognopcaa
