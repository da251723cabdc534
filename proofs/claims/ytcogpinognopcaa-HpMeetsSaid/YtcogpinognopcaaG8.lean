/- The statement HpMeets: the walk. -/
import Derived.Test.YtcogpinognopcaaG7
namespace Go.Proofs.Ytcogpinognopcaa
open Go Go.LK
set_option linter.unusedSimpArgs false
set_option linter.unusedVariables false
theorem lbin_shr_iw2 (a : Int) (y : BitVec 64) : ∃ z, lbin .shr (i64 a) (w64 y) = some (i64 z) := ⟨_, lbin_shr_iw _ _ _⟩
theorem HM.store {H : LHeap} {lo qs : Nat} {aop as_ : Option Addr} {P : List Nat} {K : LHeap} {xo xs : HOp} {m m' : MV} {w w' : List (BitVec 64)} {k : Nat} (h : HM H lo qs aop P K xo xs as_ m w k) (c : Clean m' w') (hw : w'.length = 12) (h5 : w'.getD 5 0 = w.getD 5 0) :
    HM H lo qs aop P (memPut K (H.length + 3) (H.length + 1) (H.length + 2) m') xo xs as_ m' w' k := by
  have q0 := h.qs0; have q1 := h.qs1
  have g : ∀ j, j ≠ H.length + 3 → j ≠ H.length + 1 → j ≠ H.length + 2 → (memPut K (H.length + 3) (H.length + 1) (H.length + 2) m')[j]? = K[j]? := fun j a b c => memPut_get _ (Ne.symm a) (Ne.symm b) (Ne.symm c)
  have own : ∀ (lo' : Nat) (a : Option Addr) (c : List Value), H.length + 4 ≤ lo' → Own 1 K lo' a c → Own 1 (memPut K (H.length + 3) (H.length + 1) (H.length + 2) m') lo' a c := by
    intro lo' a c hlo ho
    rcases ho with ⟨e1, e2⟩ | ⟨b, e1, e2, e3⟩
    · exact .inl ⟨e1, e2⟩
    · exact .inr ⟨b, e1, e2, by rw [g b (by omega) (by omega) (by omega)]; exact e3⟩
  refine ⟨by rw [g _ (by omega) (by omega) (by omega)]; exact h.gr, h.mem.put (by rw [c.ws, h.cl.ws, hw, h.wl]) (by rw [c.len, h.cl.ws, hw, h.wl]), c, hw, by rw [g _ (by omega) (by omega) (by omega)]; exact h.o, by rw [g _ (by omega) (by omega) (by omega)]; exact h.sc, own _ _ _ (by omega) h.so, ?_, own _ _ _ (by omega) h.sl, h.sl2, fun j hj => by rw [g _ (by omega) (by omega) (by omega)]; exact h.base j hj, h.qs0, h.qs1, by rw [memPut_len]; exact h.len, h.po.wrd h5, h.ss.wrd h5, h.kd⟩
  intro j q gq
  obtain ⟨u1, u2, x, u3, u4⟩ := h.ops j q gq
  exact ⟨u1, u2, x, by rw [g _ (by omega) (by omega) (by omega)]; exact u3, u4⟩
set_option maxHeartbeats 2000000 in
theorem phM_ev {H : LHeap} {lo qs : Nat} {aop as_ a2 : Option Addr} {P : List Nat} {K : LHeap} {xo xs : HOp} {m : MV} {w : List (BitVec 64)} {e : Env} {Q : LExit → Env → LHeap → Prop} {l : List Int} (hs : Sl 1 H a2 (l.map i64)) (h : HM H lo qs aop P K xo xs as_ m w 0)
    (e1 : LK.look e 1 = .slice a2 l.length l.length) (e7 : LK.look e 7 = ptr H.length) (e8 : LK.look e 8 = ptr (H.length + 3)) (e10 : LK.look e 10 = ptr (H.length + 5)) (e11 : LK.look e 11 = .slice aop P.length P.length) (e15 : LK.look e 15 = ptr qs)
    (hP : P.length ≤ 1000)
    (hQ : ∀ e' H', LK.look e' 6 = .bool true → Q .ret e' H') :
    XW (callE T) H.length phM e K Q := by
  unfold phM
  simp -dsimp only [go_sem, Nat.reduceEqDiff, Nat.reduceAdd, Nat.reduceSub, Nat.reduceMul, Nat.reduceLeDiff, Nat.reduceLT, Nat.reduceBEq, Int.reduceLT, Int.reduceLE, Int.reduceGT, Int.reduceGE, Int.reduceEq, Int.reduceNe, Int.reduceBEq, Int.reduceBNe, Int.reduceAdd, Int.reduceSub, Int.reduceMul, Int.reduceToNat, Int.reduceNeg, ↓reduceIte, ↓reduceDIte]
  refine LT_of (fun s : Nat × LHeap × HOp × HOp × Option Addr × MV × List (BitVec 64) × Nat => [(1, .slice a2 l.length l.length), (7, ptr H.length), (8, ptr (H.length + 3)), (10, ptr (H.length + 5)), (11, .slice aop P.length P.length), (15, ptr qs), (16, i64 s.1)]) (fun s => s.2.1) (fun s => s.1 ≤ 200 ∧ HM H lo qs aop P s.2.1 s.2.2.1 s.2.2.2.1 s.2.2.2.2.1 s.2.2.2.2.2.1 s.2.2.2.2.2.2.1 s.2.2.2.2.2.2.2) (fun s => 200 - s.1) (0, K, xo, xs, as_, m, w, 0) (by simp [restrict, LK.look, e1, e7, e8, e10, e11, e15]) rfl ⟨by simp, h⟩ ?_
  clear h
  rintro ⟨i, K, xo, xs, as_, m, w, k⟩ ⟨hi, h⟩
  simp only at h hi ⊢
  by_cases c1 : i < l.length
  · have c1' : (i : Int) < l.length := by omega
    by_cases c2 : i < 200
    · have c2' : (i : Int) < 200 := by omega
      have i0 : 0 ≤ (i : Int) := by omega
      have w1 : IntKind.i64.wrap ((i : Int) + 1) = ((i + 1 : Nat) : Int) := by rw [wrap_i64] <;> omega
      have hs2 : Sl 1 K a2 (l.map i64) := by
        rcases hs with z | ⟨b, o, ro, es, cc, h1, h2, h3⟩
        · exact .inl z
        · exact .inr ⟨b, o, ro, es, cc, h1, by rw [h.base b (List.getElem?_eq_some_iff.1 h2).1]; exact h2, h3⟩
      obtain ⟨bk, ok', ea2, _, hgk⟩ := hs2.all (by simp; omega)
      have gk := hgk [] i (i64 (l[i])) (by simp [c1])
      simp only [List.append_nil] at gk
      rw [ea2]
      obtain ⟨d, hd, d0, d3⟩ := andK (l[i]) 3 (by decide)
      have d3 : d ≤ 3 := d3
      have done : ∀ K' xo' xs' as' m' w' k', HM H lo qs aop P K' xo' xs' as' m' w' k' → ∃ s : Nat × LHeap × HOp × HOp × Option Addr × MV × List (BitVec 64) × Nat, s.2.1 = K' ∧ s.1 = i + 1 ∧ HM H lo qs aop P s.2.1 s.2.2.1 s.2.2.2.1 s.2.2.2.2.1 s.2.2.2.2.2.1 s.2.2.2.2.2.2.1 s.2.2.2.2.2.2.2 :=
        fun K' xo' xs' as' m' w' k' h' => ⟨(i + 1, K', xo', xs', as', m', w', k'), rfl, rfl, h'⟩
      by_cases q0 : d = 0
      · subst q0
        simp -dsimp only [go_sem, Nat.reduceEqDiff, Nat.reduceAdd, Nat.reduceSub, Nat.reduceMul, Nat.reduceLeDiff, Nat.reduceLT, Nat.reduceBEq, Int.reduceLT, Int.reduceLE, Int.reduceGT, Int.reduceGE, Int.reduceEq, Int.reduceNe, Int.reduceBEq, Int.reduceBNe, Int.reduceAdd, Int.reduceSub, Int.reduceMul, Int.reduceToNat, Int.reduceNeg, ↓reduceIte, ↓reduceDIte, c1', c2', i0, gk, hd]
        refine CT_val (hdone_ev h.o) ?_
        cases hdn : xo.done
        · simp -dsimp only [go_sem, Nat.reduceEqDiff, Nat.reduceAdd, Nat.reduceSub, Nat.reduceMul, Nat.reduceLeDiff, Nat.reduceLT, Nat.reduceBEq, Int.reduceLT, Int.reduceLE, Int.reduceGT, Int.reduceGE, Int.reduceEq, Int.reduceNe, Int.reduceBEq, Int.reduceBNe, Int.reduceAdd, Int.reduceSub, Int.reduceMul, Int.reduceToNat, Int.reduceNeg, ↓reduceIte, ↓reduceDIte, hdn]
          have hpo := h.po
          refine CT_of (hstep_ev (n := 0) h.ahdO (by rw [hpo.g]; rfl) (by rcases hpo.at_ with q | q | q <;> rw [q] <;> decide) (by rw [hpo.met]; rfl) (by decide)) ?_
          rintro _ K' ⟨rfl, a', s⟩
          obtain ⟨w', h', hr⟩ := h.stepO hdn s
          simp -dsimp only [go_sem, Nat.reduceEqDiff, Nat.reduceAdd, Nat.reduceSub, Nat.reduceMul, Nat.reduceLeDiff, Nat.reduceLT, Nat.reduceBEq, Int.reduceLT, Int.reduceLE, Int.reduceGT, Int.reduceGE, Int.reduceEq, Int.reduceNe, Int.reduceBEq, Int.reduceBNe, Int.reduceAdd, Int.reduceSub, Int.reduceMul, Int.reduceToNat, Int.reduceNeg, ↓reduceIte, ↓reduceDIte, w1]
          exact ⟨(i + 1, K', _, _, _, _, w', k), rfl, rfl, ⟨by simp only; omega, h'⟩, by simp only; omega⟩
        · simp -dsimp only [go_sem, Nat.reduceEqDiff, Nat.reduceAdd, Nat.reduceSub, Nat.reduceMul, Nat.reduceLeDiff, Nat.reduceLT, Nat.reduceBEq, Int.reduceLT, Int.reduceLE, Int.reduceGT, Int.reduceGE, Int.reduceEq, Int.reduceNe, Int.reduceBEq, Int.reduceBNe, Int.reduceAdd, Int.reduceSub, Int.reduceMul, Int.reduceToNat, Int.reduceNeg, ↓reduceIte, ↓reduceDIte, hdn]
          have hlen := h.ss.len
          have hk8 := h.ss.le
          refine CT_of (hstep_ev h.ahdS (by rw [h.ss.g]; rfl) (by rw [h.ss.at_]; omega) rfl (by omega)) ?_
          rintro _ K' ⟨rfl, a', s⟩
          by_cases hk : k = 8
          · have es : xs.step m = (xs, m) := by
              have : xs.done = true := by rw [h.ss.done]; simp [hk]
              simp [HOp.step, this]
            rw [es] at s
            have q0 := h.qs0; have q1 := h.qs1
            obtain ⟨r1, r2, r3, r4⟩ := h.rest h.ahdS s (by omega) (h.offP h.sc)
            obtain rfl := s.same rfl
            have h' : HM H lo qs aop P K' xo xs a' m w k := ⟨r1, s.mem, h.cl, h.wl, by rw [h.ahdS.keep s (by omega) (by omega) (by omega) (by omega) (by omega)]; exact h.o, s.row, s.own, fun j q g => by
              obtain ⟨u1, u2, x, u3, u4⟩ := h.ops j q g
              exact ⟨u1, u2, x, by rw [h.ahdS.keep s (by omega) (by omega) (by omega) (by omega) (by omega)]; exact u3, u4⟩, r3, h.sl2, r2, h.qs0, h.qs1, r4, h.po, h.ss, h.kd⟩
            simp -dsimp only [go_sem, Nat.reduceEqDiff, Nat.reduceAdd, Nat.reduceSub, Nat.reduceMul, Nat.reduceLeDiff, Nat.reduceLT, Nat.reduceBEq, Int.reduceLT, Int.reduceLE, Int.reduceGT, Int.reduceGE, Int.reduceEq, Int.reduceNe, Int.reduceBEq, Int.reduceBNe, Int.reduceAdd, Int.reduceSub, Int.reduceMul, Int.reduceToNat, Int.reduceNeg, ↓reduceIte, ↓reduceDIte, w1]
            exact ⟨(i + 1, K', _, _, _, _, w, k), rfl, rfl, ⟨by simp only; omega, h'⟩, by simp only; omega⟩
          · have h' := h.stepS hdn (by omega) s
            simp -dsimp only [go_sem, Nat.reduceEqDiff, Nat.reduceAdd, Nat.reduceSub, Nat.reduceMul, Nat.reduceLeDiff, Nat.reduceLT, Nat.reduceBEq, Int.reduceLT, Int.reduceLE, Int.reduceGT, Int.reduceGE, Int.reduceEq, Int.reduceNe, Int.reduceBEq, Int.reduceBNe, Int.reduceAdd, Int.reduceSub, Int.reduceMul, Int.reduceToNat, Int.reduceNeg, ↓reduceIte, ↓reduceDIte, w1]
            exact ⟨(i + 1, K', _, _, a', _, w, k + 1), rfl, rfl, ⟨by simp only; omega, h'⟩, by simp only; omega⟩
      · have n0 : (d == 0) = false := by simpa using q0
        obtain ⟨y, hy, y0, y3⟩ := andK ((l[i]).fdiv (2 ^ min (2#64).toNat 64)) 3 (by decide)
        by_cases q1 : d = 1
        · subst q1
          obtain ⟨z, hz, z0, z7⟩ := andK ((l[i]).fdiv (2 ^ min (4#64).toNat 64)) 7 (by decide)
          by_cases hy0 : y = 0
          · subst hy0
            simp -dsimp only [go_sem, Nat.reduceEqDiff, Nat.reduceAdd, Nat.reduceSub, Nat.reduceMul, Nat.reduceLeDiff, Nat.reduceLT, Nat.reduceBEq, Int.reduceLT, Int.reduceLE, Int.reduceGT, Int.reduceGE, Int.reduceEq, Int.reduceNe, Int.reduceBEq, Int.reduceBNe, Int.reduceAdd, Int.reduceSub, Int.reduceMul, Int.reduceToNat, Int.reduceNeg, ↓reduceIte, ↓reduceDIte, c1', c2', i0, gk, hd, lbin_shr_iw, hy, hz]
            refine CT_of (store_c h.mem h.cl (by omega) (by rw [h.wl]; omega)) ?_
            rintro _ _ ⟨m', cl', rfl⟩
            have h' := h.store cl' (by rw [List.length_set]; exact h.wl) (set_getD (by decide))
            simp -dsimp only [go_sem, Nat.reduceEqDiff, Nat.reduceAdd, Nat.reduceSub, Nat.reduceMul, Nat.reduceLeDiff, Nat.reduceLT, Nat.reduceBEq, Int.reduceLT, Int.reduceLE, Int.reduceGT, Int.reduceGE, Int.reduceEq, Int.reduceNe, Int.reduceBEq, Int.reduceBNe, Int.reduceAdd, Int.reduceSub, Int.reduceMul, Int.reduceToNat, Int.reduceNeg, ↓reduceIte, ↓reduceDIte, w1]
            exact ⟨(i + 1, _, _, _, _, m', _, k), rfl, rfl, ⟨by simp only; omega, h'⟩, by simp only; omega⟩
          · have hy1 : (y == 0) = false := by simpa using hy0
            simp -dsimp only [go_sem, Nat.reduceEqDiff, Nat.reduceAdd, Nat.reduceSub, Nat.reduceMul, Nat.reduceLeDiff, Nat.reduceLT, Nat.reduceBEq, Int.reduceLT, Int.reduceLE, Int.reduceGT, Int.reduceGE, Int.reduceEq, Int.reduceNe, Int.reduceBEq, Int.reduceBNe, Int.reduceAdd, Int.reduceSub, Int.reduceMul, Int.reduceToNat, Int.reduceNeg, ↓reduceIte, ↓reduceDIte, c1', c2', i0, gk, hd, lbin_shr_iw, hy, hz, hy1, w1]
            exact ⟨(i + 1, K, xo, xs, as_, m, w, k), rfl, rfl, ⟨by simp only; omega, h⟩, by simp only; omega⟩
        · have n1 : (d == 1) = false := by simpa using q1
          by_cases hp0 : 0 < P.length
          · have hp0' : (0 : Int) < P.length := by omega
            have hpn : ¬ (P.length : Int) = 0 := by omega
            obtain ⟨z, hz, z0, z7⟩ := andK ((l[i]).fdiv (2 ^ min (2#64).toNat 64)) 63 (by decide)
            obtain ⟨jj, hjj⟩ : ∃ jj : Nat, z.tmod P.length = jj := ⟨(z.tmod P.length).toNat, by rw [Int.toNat_of_nonneg (Int.tmod_nonneg _ z0)]⟩
            have jl : jj < P.length := by
              have := Int.tmod_lt_of_pos z hp0'
              omega
            have jl' : (jj : Int) < P.length := by omega
            have j0 : 0 ≤ (jj : Int) := by omega
            obtain ⟨u1, u2, x, u3, u4⟩ := h.ops jj (P[jj]) (List.getElem?_eq_getElem jl)
            obtain ⟨bo, eo, _, _, go⟩ := h.sl.has (by simp; omega)
            have gj := lget_at go jj
            rw [List.getElem?_map, List.getElem?_eq_getElem jl] at gj
            simp only [Option.map_some] at gj
            rw [eo]
            simp -dsimp only [go_sem, Nat.reduceEqDiff, Nat.reduceAdd, Nat.reduceSub, Nat.reduceMul, Nat.reduceLeDiff, Nat.reduceLT, Nat.reduceBEq, Int.reduceLT, Int.reduceLE, Int.reduceGT, Int.reduceGE, Int.reduceEq, Int.reduceNe, Int.reduceBEq, Int.reduceBNe, Int.reduceAdd, Int.reduceSub, Int.reduceMul, Int.reduceToNat, Int.reduceNeg, ↓reduceIte, ↓reduceDIte, c1', c2', i0, gk, hd, lbin_shr_iw, hy, hz, n0, n1, hp0', hpn, hjj, jl', j0, gj]
            refine CT_of (hstep_ev (n := 0) (h.ahdP u1 u2 u3 u4) (by rw [u4.g]; rfl) (by have := u4.a0; have := u4.a1; omega) (by rw [u4.met]; rfl) (by decide)) ?_
            rintro _ K' ⟨rfl, a', s⟩
            obtain ⟨w', h'⟩ := h.stepP u1 u2 u3 u4 s
            rw [eo] at h'
            simp -dsimp only [go_sem, Nat.reduceEqDiff, Nat.reduceAdd, Nat.reduceSub, Nat.reduceMul, Nat.reduceLeDiff, Nat.reduceLT, Nat.reduceBEq, Int.reduceLT, Int.reduceLE, Int.reduceGT, Int.reduceGE, Int.reduceEq, Int.reduceNe, Int.reduceBEq, Int.reduceBNe, Int.reduceAdd, Int.reduceSub, Int.reduceMul, Int.reduceToNat, Int.reduceNeg, ↓reduceIte, ↓reduceDIte, w1]
            exact ⟨(i + 1, K', _, _, _, _, w', k), rfl, rfl, ⟨by simp only; omega, h'⟩, by simp only; omega⟩
          · have hp0' : ¬ (0 : Int) < P.length := by omega
            simp -dsimp only [go_sem, Nat.reduceEqDiff, Nat.reduceAdd, Nat.reduceSub, Nat.reduceMul, Nat.reduceLeDiff, Nat.reduceLT, Nat.reduceBEq, Int.reduceLT, Int.reduceLE, Int.reduceGT, Int.reduceGE, Int.reduceEq, Int.reduceNe, Int.reduceBEq, Int.reduceBNe, Int.reduceAdd, Int.reduceSub, Int.reduceMul, Int.reduceToNat, Int.reduceNeg, ↓reduceIte, ↓reduceDIte, c1', c2', i0, gk, hd, lbin_shr_iw, hy, n0, n1, hp0', w1]
            exact ⟨(i + 1, K, xo, xs, as_, m, w, k), rfl, rfl, ⟨by simp only; omega, h⟩, by simp only; omega⟩
    · have c2' : ¬ (i : Int) < 200 := by omega
      simp -dsimp only [go_sem, Nat.reduceEqDiff, Nat.reduceAdd, Nat.reduceSub, Nat.reduceMul, Nat.reduceLeDiff, Nat.reduceLT, Nat.reduceBEq, Int.reduceLT, Int.reduceLE, Int.reduceGT, Int.reduceGE, Int.reduceEq, Int.reduceNe, Int.reduceBEq, Int.reduceBNe, Int.reduceAdd, Int.reduceSub, Int.reduceMul, Int.reduceToNat, Int.reduceNeg, ↓reduceIte, ↓reduceDIte, c1', c2']
      exact phE_ev h (by simp -dsimp only [go_sem, Nat.reduceEqDiff, Nat.reduceAdd, Nat.reduceSub, Nat.reduceMul, Nat.reduceLeDiff, Nat.reduceLT, Nat.reduceBEq, Int.reduceLT, Int.reduceLE, Int.reduceGT, Int.reduceGE, Int.reduceEq, Int.reduceNe, Int.reduceBEq, Int.reduceBNe, Int.reduceAdd, Int.reduceSub, Int.reduceMul, Int.reduceToNat, Int.reduceNeg, ↓reduceIte, ↓reduceDIte]) (by simp -dsimp only [go_sem, Nat.reduceEqDiff, Nat.reduceAdd, Nat.reduceSub, Nat.reduceMul, Nat.reduceLeDiff, Nat.reduceLT, Nat.reduceBEq, Int.reduceLT, Int.reduceLE, Int.reduceGT, Int.reduceGE, Int.reduceEq, Int.reduceNe, Int.reduceBEq, Int.reduceBNe, Int.reduceAdd, Int.reduceSub, Int.reduceMul, Int.reduceToNat, Int.reduceNeg, ↓reduceIte, ↓reduceDIte]) (by simp -dsimp only [go_sem, Nat.reduceEqDiff, Nat.reduceAdd, Nat.reduceSub, Nat.reduceMul, Nat.reduceLeDiff, Nat.reduceLT, Nat.reduceBEq, Int.reduceLT, Int.reduceLE, Int.reduceGT, Int.reduceGE, Int.reduceEq, Int.reduceNe, Int.reduceBEq, Int.reduceBNe, Int.reduceAdd, Int.reduceSub, Int.reduceMul, Int.reduceToNat, Int.reduceNeg, ↓reduceIte, ↓reduceDIte]) (by simp -dsimp only [go_sem, Nat.reduceEqDiff, Nat.reduceAdd, Nat.reduceSub, Nat.reduceMul, Nat.reduceLeDiff, Nat.reduceLT, Nat.reduceBEq, Int.reduceLT, Int.reduceLE, Int.reduceGT, Int.reduceGE, Int.reduceEq, Int.reduceNe, Int.reduceBEq, Int.reduceBNe, Int.reduceAdd, Int.reduceSub, Int.reduceMul, Int.reduceToNat, Int.reduceNeg, ↓reduceIte, ↓reduceDIte]) hQ
  · have c1' : ¬ (i : Int) < l.length := by omega
    simp -dsimp only [go_sem, Nat.reduceEqDiff, Nat.reduceAdd, Nat.reduceSub, Nat.reduceMul, Nat.reduceLeDiff, Nat.reduceLT, Nat.reduceBEq, Int.reduceLT, Int.reduceLE, Int.reduceGT, Int.reduceGE, Int.reduceEq, Int.reduceNe, Int.reduceBEq, Int.reduceBNe, Int.reduceAdd, Int.reduceSub, Int.reduceMul, Int.reduceToNat, Int.reduceNeg, ↓reduceIte, ↓reduceDIte, c1']
    exact phE_ev h (by simp -dsimp only [go_sem, Nat.reduceEqDiff, Nat.reduceAdd, Nat.reduceSub, Nat.reduceMul, Nat.reduceLeDiff, Nat.reduceLT, Nat.reduceBEq, Int.reduceLT, Int.reduceLE, Int.reduceGT, Int.reduceGE, Int.reduceEq, Int.reduceNe, Int.reduceBEq, Int.reduceBNe, Int.reduceAdd, Int.reduceSub, Int.reduceMul, Int.reduceToNat, Int.reduceNeg, ↓reduceIte, ↓reduceDIte]) (by simp -dsimp only [go_sem, Nat.reduceEqDiff, Nat.reduceAdd, Nat.reduceSub, Nat.reduceMul, Nat.reduceLeDiff, Nat.reduceLT, Nat.reduceBEq, Int.reduceLT, Int.reduceLE, Int.reduceGT, Int.reduceGE, Int.reduceEq, Int.reduceNe, Int.reduceBEq, Int.reduceBNe, Int.reduceAdd, Int.reduceSub, Int.reduceMul, Int.reduceToNat, Int.reduceNeg, ↓reduceIte, ↓reduceDIte]) (by simp -dsimp only [go_sem, Nat.reduceEqDiff, Nat.reduceAdd, Nat.reduceSub, Nat.reduceMul, Nat.reduceLeDiff, Nat.reduceLT, Nat.reduceBEq, Int.reduceLT, Int.reduceLE, Int.reduceGT, Int.reduceGE, Int.reduceEq, Int.reduceNe, Int.reduceBEq, Int.reduceBNe, Int.reduceAdd, Int.reduceSub, Int.reduceMul, Int.reduceToNat, Int.reduceNeg, ↓reduceIte, ↓reduceDIte]) (by simp -dsimp only [go_sem, Nat.reduceEqDiff, Nat.reduceAdd, Nat.reduceSub, Nat.reduceMul, Nat.reduceLeDiff, Nat.reduceLT, Nat.reduceBEq, Int.reduceLT, Int.reduceLE, Int.reduceGT, Int.reduceGE, Int.reduceEq, Int.reduceNe, Int.reduceBEq, Int.reduceBNe, Int.reduceAdd, Int.reduceSub, Int.reduceMul, Int.reduceToNat, Int.reduceNeg, ↓reduceIte, ↓reduceDIte]) hQ
end Go.Proofs.Ytcogpinognopcaa
