/- DROP Orders of a ring that may be closed: the heap. -/
import Derived.Test.YtopjhhcncjleaaaKC
namespace Go.Proofs.Ytopjhhcncjleaaa
open Go Go.LK
set_option linter.unusedSimpArgs false
set_option linter.unusedVariables false
theorem lognew_ev {lim : Nat} {H : LHeap} : callE T 32 lim [] H fun v H' => v = ptr (H.length + 1) ∧ H' = H ++ [.map [], .row false 0 [.slice none 0 0, .map (some H.length), i64 0]] := by
  refine callE_stay rfl (by simp) rfl ?_
  simp -dsimp only [go_sem, Nat.reduceEqDiff, Nat.reduceAdd, Nat.reduceSub, Nat.reduceMul, Nat.reduceLeDiff, Nat.reduceLT, Nat.reduceBEq, Int.reduceLT, Int.reduceLE, Int.reduceGT, Int.reduceGE, Int.reduceEq, Int.reduceNe, Int.reduceBEq, Int.reduceBNe, Int.reduceAdd, Int.reduceSub, Int.reduceMul, Int.reduceToNat, Int.reduceNeg, ↓reduceIte, ↓reduceDIte]
theorem LogAt.set_off {n b m j : Nat} {H : LHeap} {a : Option Addr} {v : HV} (h : LogAt n H b m a v) (h1 : j ≠ b) (h2 : j ≠ m) (h3 : Off j a) (x : LObj) : LogAt n (H.set j x) b m a v :=
  ⟨by rw [get_set_ne h1]; exact h.row, by rw [get_set_ne h2]; exact h.mp, h.ls.set h3 _, h.nb, h.nm, h.na, h.ne, h.ob, h.om⟩
theorem LogAt.under {n b m : Nat} {H : LHeap} {a : Option Addr} {v : HV} (h : LogAt n H b m a v) {q : Nat} (hq : H.length ≤ q) : Off q a := by
  rcases h.ls with ⟨rfl, _⟩ | ⟨p, rfl, g⟩
  · intro x hx; cases hx
  · intro x hx; cases hx
    have := (List.getElem?_eq_some_iff.1 g).1
    dsimp only; omega
def cpv (o : Option (Nat × COp)) : Value := match o with | none => .pointer none | some (q, _) => ptr q
/-- What stands in the heap. -/
structure OW (H K : LHeap) (s : Nat) (m : MV) (v : HV) (a : Option Addr) (L : List (Option (Nat × COp))) (I : List Int) : Prop where
  len : H.length + 8 ≤ K.length
  keep : ∀ j, j < H.length → K[j]? = H[j]?
  rr : K[H.length]? = some (rro ⟨0, s⟩)
  mem : MemAt K (H.length + 3) (H.length + 1) (H.length + 2) m
  log : LogAt H.length K (H.length + 5) (H.length + 4) a v
  arr : K[H.length + 6]? = some (.row false 0 (L.map cpv))
  idr : K[H.length + 7]? = some (.row false 0 (I.map i64))
  ops : OpsAt crw (H.length + 8) K L
  fa : Fresh (H.length + 8) a
  off : ∀ (j q : Nat) (x : COp), L[j]? = some (some (q, x)) → Off q a
section
variable {H K : LHeap} {s : Nat} {m : MV} {v : HV} {a : Option Addr} {L : List (Option (Nat × COp))} {I : List Int}
theorem OW.app (h : OW H K s m v a L I) (t : LHeap) : OW H (K ++ t) s m v a L I := by
  have hl := h.len
  exact ⟨by rw [List.length_append]; omega, fun j hj => by rw [List.getElem?_append_left (by omega)]; exact h.keep j hj, get_old h.rr t, h.mem.app t, h.log.app t, get_old h.arr t, get_old h.idr t, h.ops.app t, h.fa, h.off⟩
theorem OW.arg (h : OW H K s m v a L I) : ∃ t, K = H ++ t := by
  have hl := h.len
  refine ⟨K.drop H.length, List.ext_getElem? fun j => ?_⟩
  by_cases hj : j < H.length
  · rw [List.getElem?_append_left hj]; exact h.keep j hj
  · rw [List.getElem?_append_right (by omega), List.getElem?_drop]
    congr 1; omega
theorem OW.logs (h : OW H K s m v a L I) {K' : LHeap} {a' : Option Addr} {v' : HV} (g : LogAt H.length K' (H.length + 5) (H.length + 4) a' v') (k : Keeps (H.length + 5) (H.length + 4) a a' K K') : OW H K' s m v' a' L I := by
  have hl := h.len
  have old : ∀ j, j < H.length + 8 → j ≠ H.length + 5 → j ≠ H.length + 4 → K'[j]? = K[j]? := fun j h1 h2 h3 => (k.2 j (by omega) h2 h3 (h.fa.off h1)).1
  have hm := h.mem
  have ofs : ∀ (j q : Nat) (x : COp), L[j]? = some (some (q, x)) → K'[q]? = K[q]? ∧ Off q a' := by
    intro j q x hj
    have := (h.ops.at_ j q x hj).1
    exact k.2 q (h.ops.lt hj) (by omega) (by omega) (h.off j q x hj)
  refine ⟨Nat.le_trans hl k.1, fun j hj => by rw [old j (by omega) (by omega) (by omega)]; exact h.keep j hj, by rw [old _ (by omega) (by omega) (by omega)]; exact h.rr, ?_, g, by rw [old _ (by omega) (by omega) (by omega)]; exact h.arr, by rw [old _ (by omega) (by omega) (by omega)]; exact h.idr, ?_, ?_, fun j q x hj => (ofs j q x hj).2⟩
  · exact ⟨by rw [old _ (by omega) (by omega) (by omega)]; exact hm.row, by rw [old _ (by omega) (by omega) (by omega)]; exact hm.ws, by rw [old _ (by omega) (by omega) (by omega)]; exact hm.bs, hm.len, hm.pos, hm.le, hm.n1, hm.n2, hm.n3⟩
  · exact ⟨fun j q x hj => ⟨(h.ops.at_ j q x hj).1, by rw [(ofs j q x hj).1]; exact (h.ops.at_ j q x hj).2⟩, h.ops.ne⟩
  · intro x hx
    refine Nat.le_of_not_lt fun hlt => ?_
    by_cases e5 : x.block = H.length + 5
    · exact g.ob x hx e5
    · by_cases e4 : x.block = H.length + 4
      · exact g.om x hx e4
      · exact (k.2 x.block (by omega) e5 e4 (h.fa.off hlt)).2 x hx rfl
theorem OW.mset (h : OW H K s m v a L I) {m' : MV} (hw : m'.w.length = m.w.length) (hb : m'.bar.length = m.w.length) : OW H (memPut K (H.length + 3) (H.length + 1) (H.length + 2) m') s m' v a L I := by
  have hl := h.len
  have old : ∀ j, j ≠ H.length + 3 → j ≠ H.length + 1 → j ≠ H.length + 2 → (memPut K (H.length + 3) (H.length + 1) (H.length + 2) m')[j]? = K[j]? := fun j h1 h2 h3 => memPut_get _ h1.symm h2.symm h3.symm
  refine ⟨by rw [memPut_len]; exact hl, fun j hj => by rw [old j (by omega) (by omega) (by omega)]; exact h.keep j hj, by rw [old _ (by omega) (by omega) (by omega)]; exact h.rr, h.mem.put hw hb, ?_, by rw [old _ (by omega) (by omega) (by omega)]; exact h.arr, by rw [old _ (by omega) (by omega) (by omega)]; exact h.idr, h.ops.mem (by omega) (by omega) (by omega) m', h.fa, h.off⟩
  exact ((h.log.set_off (by omega) (by omega) (h.fa.off (by omega)) _).set_off (by omega) (by omega) (h.fa.off (by omega)) _).set_off (by omega) (by omega) (h.fa.off (by omega)) _
theorem OW.opset (h : OW H K s m v a L I) {j q : Nat} {x x' : COp} (hj : L[j]? = some (some (q, x))) : OW H (K.set q (crw x')) s m v a (L.set j (some (q, x'))) I := by
  have hl := h.len
  have hq := (h.ops.at_ j q x hj).1
  have hjl := (List.getElem?_eq_some_iff.1 hj).1
  have old : ∀ k, k < H.length + 8 → (K.set q (crw x'))[k]? = K[k]? := fun k hk => get_set_ne (by omega) _
  have hm := h.mem
  refine ⟨by rw [List.length_set]; exact hl, fun k hk => by rw [old k (by omega)]; exact h.keep k hk, by rw [old _ (by omega)]; exact h.rr, hm.set_off (by omega) (by omega) (by omega) _, h.log.set_off (by omega) (by omega) (h.off j q x hj) _, ?_, by rw [old _ (by omega)]; exact h.idr, h.ops.put hj x', h.fa, fun k p y hk => ?_⟩
  · rw [old _ (by omega), h.arr]
    congr 2
    apply List.ext_getElem?
    intro k
    rw [List.getElem?_map, List.getElem?_map]
    by_cases e : j = k
    · subst e; rw [List.getElem?_set_self hjl, hj]; rfl
    · rw [List.getElem?_set_ne e]
  · by_cases e : j = k
    · subst e; rw [List.getElem?_set_self hjl] at hk; cases hk; exact h.off j _ _ hj
    · rw [List.getElem?_set_ne e] at hk; exact h.off k p y hk
theorem OW.clear (h : OW H K s m v a L I) (j : Nat) : OW H (K.set (H.length + 6) (.row false 0 ((L.set j none).map cpv))) s m v a (L.set j none) I := by
  have hl := h.len
  have old : ∀ k x, k ≠ H.length + 6 → (K.set (H.length + 6) x)[k]? = K[k]? := fun k x hk => get_set_ne (fun e => hk e.symm) _
  have hm := h.mem
  refine ⟨by rw [List.length_set]; exact hl, fun k hk => by rw [old k _ (by omega)]; exact h.keep k hk, by rw [old _ _ (by omega)]; exact h.rr, hm.set_off (by omega) (by omega) (by omega) _, h.log.set_off (by omega) (by omega) (h.fa.off (by omega)) _, get_set_eq (by omega) _, by rw [old _ _ (by omega)]; exact h.idr, (h.ops.clear j).off (by omega) _, h.fa, fun k p y hk => ?_⟩
  by_cases e : j = k
  · subst e
    rw [List.getElem?_set] at hk
    simp at hk
  · rw [List.getElem?_set_ne e] at hk; exact h.off k p y hk
theorem OW.opnew (h : OW H K s m v a L I) {t : LHeap} {j q : Nat} {x : COp} (hq : K.length ≤ q) (hx : (K ++ t)[q]? = some (crw x)) : OW H ((K ++ t).set (H.length + 6) (.row false 0 ((L.set j (some (q, x))).map cpv))) s m v a (L.set j (some (q, x))) I := by
  have hl := h.len
  have h' := h.app t
  have hl' := h'.len
  have old : ∀ k x, k ≠ H.length + 6 → ((K ++ t).set (H.length + 6) x)[k]? = (K ++ t)[k]? := fun k x hk => get_set_ne (fun e => hk e.symm) _
  have hm := h'.mem
  refine ⟨by rw [List.length_set]; exact hl', fun k hk => by rw [old k _ (by omega)]; exact h'.keep k hk, by rw [old _ _ (by omega)]; exact h'.rr, hm.set_off (by omega) (by omega) (by omega) _, h'.log.set_off (by omega) (by omega) (h.fa.off (by omega)) _, get_set_eq (by omega) _, by rw [old _ _ (by omega)]; exact h'.idr, (h.ops.new hq (by omega) hx).off (by omega) _, h.fa, fun k p y hk => ?_⟩
  by_cases e : j = k
  · subst e
    rw [List.getElem?_set] at hk
    simp only [if_true] at hk
    split at hk
    · cases hk; exact h.log.under hq
    · cases hk
  · rw [List.getElem?_set_ne e] at hk; exact h.off k p y hk
theorem OW.idset (h : OW H K s m v a L I) (I' : List Int) : OW H (K.set (H.length + 7) (.row false 0 (I'.map i64))) s m v a L I' := by
  have hl := h.len
  have old : ∀ k x, k ≠ H.length + 7 → (K.set (H.length + 7) x)[k]? = K[k]? := fun k x hk => get_set_ne (fun e => hk e.symm) _
  have hm := h.mem
  exact ⟨by rw [List.length_set]; exact hl, fun k hk => by rw [old k _ (by omega)]; exact h.keep k hk, by rw [old _ _ (by omega)]; exact h.rr, hm.set_off (by omega) (by omega) (by omega) _, h.log.set_off (by omega) (by omega) (h.fa.off (by omega)) _, by rw [old _ _ (by omega)]; exact h.arr, get_set_eq (by omega) _, h.ops.off (by omega) _, h.fa, h.off⟩
end
end Go.Proofs.Ytopjhhcncjleaaa
/- DROP The statement CrqOrders: a step. -/
namespace Go.Proofs.Ytopjhhcncjleaaa
open Go Go.LK
set_option linter.unusedSimpArgs false
set_option linter.unusedVariables false
theorem restrict_look {ks : List Tmp} {e e' : Env} (h : restrict ks e' = restrict ks e) {k : Nat} (hk : k ∈ ks) : LK.look e' k = LK.look e k := by
  have h1 := look_restrict e' k ks
  have h2 := look_restrict e k ks
  rw [if_pos hk] at h1 h2
  rw [← h1, ← h2, h]
theorem PC.len {s i : Nat} {m : MV} {v : HV} {L : List (Option (Nat × COp))} {I : List Int} (h : PC s i m v L I) : m.w.length = 4 + 2 * s ∧ m.bar.length = 4 + 2 * s := by
  obtain ⟨w, g, Lp, ids, h1, h2, h3, _⟩ := h
  have := h2.len
  rw [h1.len, h1.ws]
  omega
theorem right_pow {s : Nat} (h : s = 1 ∨ s = 2 ∨ s = 4 ∨ s = 8) : (RV.mk 0 s).right = true := by
  rcases h with rfl | rfl | rfl | rfl <;> decide
set_option maxRecDepth 100000 in
def coD : LCode :=
  (.seq (.steps [
    .act (some 182) (.op (.pure (.move (.tmp 20)))) none,
    .act (some 183) (.call (.func 38) [(.tmp 182)]) none,
    .act (some 184) (.call (.func 37) [(.tmp 183), (.const (.int .i64 0)), (.const (.int .i64 0))]) none,
    .act (some 181) (.op (.pure (.move (.tmp 184)))) none,
    .act (some 185) (.op (.pure (.extract (.tmp 181) 0))) none,
    .act (some 186) (.op (.pure (.extract (.tmp 181) 1))) none,
    .act (some 23) (.op (.pure (.move (.tmp 185)))) none,
    .act (some 24) (.op (.pure (.move (.tmp 186)))) none])
  (.seq (.steps [
    .act (some 187) (.op (.pure (.move (.tmp 24)))) none,
    .act (some 188) (.op (.pure (.move (.tmp 187)))) none,
    .act (some 189) (.op (.pure (.move (.tmp 8)))) (some (188, true)),
    .act (some 190) (.call (.func 26) [(.tmp 189)]) (some (188, true)),
    .act (some 191) (.op (.pure (.bin .eql (.tmp 190) (.const (.int .i64 (-1)))))) (some (188, true)),
    .act (some 192) (.op (.pure (.pick (.tmp 188) (.tmp 191) (.const (.bool false))))) none,
    .act (some 193) (.op (.pure (.move (.tmp 192)))) none,
    .act (some 194) (.call (.func 21) []) (some (193, true)),
    .act (some 195) (.op (.pure (.pick (.tmp 193) (.tmp 194) (.const (.bool false))))) none,
    .act (some 6) (.op (.pure (.move (.tmp 195)))) none])
  .ret))
def coB : LCode :=
  (.seq (.steps [
       .act (some 106) (.op (.pure (.move (.tmp 15)))) none,
       .act (some 107) (.op (.pure (.idxArr 4 1 (.tmp 11) (.tmp 106)))) none,
       .act (some 108) (.op (.read (.load1 (.tmp 107)))) none,
       .act (some 109) (.op (.pure (.move (.tmp 8)))) none,
       .act (some 110) (.call (.func 15) [(.tmp 108), (.tmp 109)]) none])
     (.cond (.tmp 110)
      (.seq (.steps [
        .act (some 112) (.op (.pure (.move (.tmp 15)))) none,
        .act (some 113) (.op (.pure (.idxArr 4 1 (.tmp 11) (.tmp 112)))) none,
        .act (some 114) (.op (.read (.load1 (.tmp 113)))) none,
        .act (some 115) (.call (.func 18) [(.tmp 114)]) none,
        .act (some 111) (.op (.pure (.move (.tmp 115)))) none,
        .act (some 116) (.op (.pure (.extract (.tmp 111) 0))) none,
        .act (some 117) (.op (.pure (.extract (.tmp 111) 1))) none,
        .act (some 18) (.op (.pure (.move (.tmp 116)))) none,
        .act (some 19) (.op (.pure (.move (.tmp 117)))) none])
      (.seq (.steps [
        .act (some 118) (.op (.pure (.move (.tmp 10)))) none,
        .act (some 119) (.op (.pure (.move (.tmp 15)))) none,
        .act (some 120) (.op (.pure (.idxArr 4 1 (.tmp 12) (.tmp 119)))) none,
        .act (some 121) (.op (.read (.load1 (.tmp 120)))) none,
        .act (some 122) (.op (.pure (.move (.tmp 18)))) none,
        .act (some 123) (.op (.pure (.move (.tmp 19)))) none,
        .act (some 124) (.call (.func 34) [(.tmp 118), (.tmp 121), (.tmp 122), (.tmp 123)]) none])
      (.steps [
        .act (some 125) (.op (.pure (.move (.tmp 15)))) none,
        .act (some 126) (.op (.pure (.idxArr 4 1 (.tmp 11) (.tmp 125)))) none,
        .act none (.op (.eff (.store 1 (.tmp 126) (.const (.pointer none))))) none])))
      .skip))
def coA : LCode :=
  (.seq (.seq (.steps [
       .act (some 60) (.op (.pure (.move (.tmp 15)))) none,
       .act (some 61) (.op (.pure (.idxArr 4 1 (.tmp 11) (.tmp 60)))) none,
       .act (some 62) (.op (.read (.load1 (.tmp 61)))) none,
       .act (some 63) (.op (.pure (.eqNil .p false (.tmp 62) (.const (.pointer none))))) none])
     (.cond (.tmp 63)
      (.seq (.seq (.steps [
        .act (some 64) (.op (.pure (.move (.tmp 13)))) none,
        .act (some 65) (.op (.pure (.move (.tmp 1)))) none,
        .act (some 66) (.op (.pure (.len false (.tmp 65)))) none,
        .act (some 67) (.op (.pure (.bin .geq (.tmp 64) (.tmp 66)))) none,
        .act (some 68) (.op (.pure (.move (.tmp 67)))) none,
        .act (some 69) (.op (.pure (.move (.tmp 13)))) (some (68, false)),
        .act (some 70) (.op (.pure (.bin .geq (.tmp 69) (.const (.int .i64 8))))) (some (68, false)),
        .act (some 71) (.op (.pure (.pick (.tmp 68) (.const (.bool true)) (.tmp 70)))) none])
      (.cond (.tmp 71)
       (.exit 1)
       .skip))
      (.seq (.steps [
        .act (some 72) (.op (.pure (.move (.tmp 1)))) none,
        .act (some 73) (.op (.pure (.move (.tmp 13)))) none,
        .act (some 74) (.op (.pure (.idxSl 3 (.tmp 72) (.tmp 73)))) none,
        .act (some 75) (.op (.pure (.fieldAddr 1 (.tmp 74)))) none,
        .act (some 76) (.op (.read (.load1 (.tmp 75)))) none,
        .act (some 77) (.op (.pure (.bin .and (.tmp 76) (.const (.int .i64 1))))) none,
        .act (some 78) (.op (.pure (.move (.tmp 1)))) none,
        .act (some 79) (.op (.pure (.move (.tmp 13)))) none,
        .act (some 80) (.op (.pure (.idxSl 3 (.tmp 78) (.tmp 79)))) none,
        .act (some 81) (.op (.pure (.fieldAddr 2 (.tmp 80)))) none,
        .act (some 82) (.op (.read (.load1 (.tmp 81)))) none,
        .act (some 83) (.op (.pure (.bin .and (.tmp 82) (.const (w64 65535#64))))) none,
        .act (some 16) (.op (.pure (.move (.tmp 77)))) none,
        .act (some 17) (.op (.pure (.move (.tmp 83)))) none])
      (.seq (.steps [
        .act (some 84) (.op (.pure (.move (.tmp 15)))) none,
        .act (some 85) (.op (.read (.loadN 2 (.tmp 7)))) none,
        .act (some 86) (.op (.pure (.move (.tmp 16)))) none,
        .act (some 87) (.op (.pure (.move (.tmp 17)))) none,
        .act (some 88) (.op (.pure (.move (.tmp 16)))) none,
        .act (some 89) (.op (.pure (.bin .sub (.const (.int .i64 1)) (.tmp 88)))) none,
        .act (some 90) (.op (.pure (.conv .u64 (.tmp 89)))) none,
        .act (some 91) (.op (.pure (.bin .mul (.tmp 87) (.tmp 90)))) none,
        .act (some 92) (.call (.func 13) [(.tmp 85), (.tmp 86), (.tmp 91)]) none,
        .act (some 93) (.op (.pure (.idxArr 4 1 (.tmp 11) (.tmp 84)))) none,
        .act none (.op (.eff (.store 1 (.tmp 93) (.tmp 92)))) none])
      (.seq (.steps [
        .act (some 95) (.op (.pure (.move (.tmp 15)))) none,
        .act (some 96) (.op (.pure (.move (.tmp 10)))) none,
        .act (some 97) (.op (.pure (.move (.tmp 15)))) none,
        .act (some 98) (.op (.pure (.move (.tmp 16)))) none,
        .act (some 99) (.op (.pure (.move (.tmp 17)))) none,
        .act (some 100) (.call (.func 33) [(.tmp 96), (.tmp 97), (.tmp 98), (.tmp 99)]) none,
        .act (some 94) (.op (.pure (.move (.tmp 100)))) none,
        .act (some 101) (.op (.pure (.extract (.tmp 94) 0))) none,
        .act (some 102) (.op (.pure (.extract (.tmp 94) 1))) none,
        .act (some 103) (.op (.pure (.idxArr 4 1 (.tmp 12) (.tmp 95)))) none,
        .act none (.op (.eff (.store 1 (.tmp 103) (.tmp 101)))) none])
      (.steps [
        .act (some 104) (.op (.pure (.move (.tmp 13)))) none,
        .act (some 105) (.op (.pure (.bin .add (.tmp 104) (.const (.int .i64 1))))) none,
        .act (some 13) (.op (.pure (.move (.tmp 105)))) none])))))
      .skip))
     coB)
def coC : LCode :=
  (.seq (.steps [
    .act (some 127) (.op (.pure (.move (.tmp 10)))) none,
    .act (some 128) (.call (.func 35) [(.tmp 127)]) none,
    .act (some 20) (.op (.pure (.move (.tmp 128)))) none])
  (.seq (.seq (.steps [
    .act (some 21) (.op (.pure (.move (.const (.int .i64 0))))) none])
  (.block 2 (.loop [8, 20, 21] (.seq (.seq (.steps [
      .act (some 129) (.op (.pure (.move (.tmp 21)))) none,
      .act (some 130) (.op (.pure (.move (.tmp 20)))) none,
      .act (some 131) (.op (.pure (.len false (.tmp 130)))) none,
      .act (some 132) (.op (.pure (.bin .lss (.tmp 129) (.tmp 131)))) none])
    (.cond (.tmp 132)
     .skip
     (.exit 2)))
    (.seq (.block 3 (.seq (.steps [
       .act (some 22) (.op (.pure (.move (.const (.int .i64 0))))) none])
     (.block 4 (.loop [8, 20, 21, 22] (.seq (.seq (.steps [
         .act (some 135) (.op (.pure (.move (.tmp 22)))) none,
         .act (some 136) (.op (.pure (.move (.tmp 20)))) none,
         .act (some 137) (.op (.pure (.len false (.tmp 136)))) none,
         .act (some 138) (.op (.pure (.bin .lss (.tmp 135) (.tmp 137)))) none])
       (.cond (.tmp 138)
        .skip
        (.exit 4)))
       (.seq (.block 5 (.seq (.steps [
          .act (some 141) (.op (.pure (.move (.tmp 20)))) none,
          .act (some 142) (.op (.pure (.move (.tmp 21)))) none,
          .act (some 143) (.op (.pure (.idxSl 8 (.tmp 141) (.tmp 142)))) none,
          .act (some 144) (.op (.pure (.fieldAddr 6 (.tmp 143)))) none,
          .act (some 145) (.op (.read (.load1 (.tmp 144)))) none,
          .act (some 146) (.op (.pure (.bin .eql (.tmp 145) (.const (.int .i64 16))))) none,
          .act (some 147) (.op (.pure (.move (.tmp 146)))) none,
          .act (some 148) (.op (.pure (.move (.tmp 20)))) (some (147, true)),
          .act (some 149) (.op (.pure (.move (.tmp 21)))) (some (147, true)),
          .act (some 150) (.op (.pure (.idxSl 8 (.tmp 148) (.tmp 149)))) (some (147, true)),
          .act (some 151) (.op (.read (.loadN 8 (.tmp 150)))) (some (147, true)),
          .act (some 152) (.op (.pure (.move (.tmp 20)))) (some (147, true)),
          .act (some 153) (.op (.pure (.move (.tmp 22)))) (some (147, true)),
          .act (some 154) (.op (.pure (.idxSl 8 (.tmp 152) (.tmp 153)))) (some (147, true)),
          .act (some 155) (.op (.read (.loadN 8 (.tmp 154)))) (some (147, true)),
          .act (some 156) (.call (.func 36) [(.tmp 151), (.tmp 155)]) (some (147, true)),
          .act (some 157) (.op (.pure (.pick (.tmp 147) (.tmp 156) (.const (.bool false))))) none,
          .act (some 158) (.op (.pure (.move (.tmp 157)))) none,
          .act (some 159) (.op (.pure (.move (.tmp 20)))) (some (158, true)),
          .act (some 160) (.op (.pure (.move (.tmp 22)))) (some (158, true)),
          .act (some 161) (.op (.pure (.idxSl 8 (.tmp 159) (.tmp 160)))) (some (158, true)),
          .act (some 162) (.op (.pure (.fieldAddr 1 (.tmp 161)))) (some (158, true)),
          .act (some 163) (.op (.read (.load1 (.tmp 162)))) (some (158, true)),
          .act (some 164) (.op (.pure (.bin .eql (.tmp 163) (.const (.int .i64 0))))) (some (158, true)),
          .act (some 165) (.op (.pure (.pick (.tmp 158) (.tmp 164) (.const (.bool false))))) none,
          .act (some 166) (.op (.pure (.move (.tmp 165)))) none,
          .act (some 167) (.op (.pure (.move (.tmp 20)))) (some (166, true)),
          .act (some 168) (.op (.pure (.move (.tmp 22)))) (some (166, true)),
          .act (some 169) (.op (.pure (.idxSl 8 (.tmp 167) (.tmp 168)))) (some (166, true)),
          .act (some 170) (.op (.pure (.fieldAddr 5 (.tmp 169)))) (some (166, true)),
          .act (some 171) (.op (.read (.load1 (.tmp 170)))) (some (166, true)),
          .act (some 172) (.op (.pure (.pick (.tmp 166) (.tmp 171) (.const (.bool false))))) none,
          .act (some 173) (.op (.pure (.move (.tmp 172)))) none,
          .act (some 174) (.op (.pure (.move (.tmp 20)))) (some (173, true)),
          .act (some 175) (.op (.pure (.move (.tmp 22)))) (some (173, true)),
          .act (some 176) (.op (.pure (.idxSl 8 (.tmp 174) (.tmp 175)))) (some (173, true)),
          .act (some 177) (.op (.pure (.fieldAddr 6 (.tmp 176)))) (some (173, true)),
          .act (some 178) (.op (.read (.load1 (.tmp 177)))) (some (173, true)),
          .act (some 179) (.op (.pure (.bin .neq (.tmp 178) (.const (.int .i64 16))))) (some (173, true)),
          .act (some 180) (.op (.pure (.pick (.tmp 173) (.tmp 179) (.const (.bool false))))) none])
        (.cond (.tmp 180)
         (.seq (.steps [
           .act (some 6) (.op (.pure (.move (.const (.bool false))))) none])
         .ret)
         .skip)))
       (.steps [
         .act (some 139) (.op (.pure (.move (.tmp 22)))) none,
         .act (some 140) (.op (.pure (.bin .add (.tmp 139) (.const (.int .i64 1))))) none,
         .act (some 22) (.op (.pure (.move (.tmp 140)))) none])))))))
    (.steps [
      .act (some 133) (.op (.pure (.move (.tmp 21)))) none,
      .act (some 134) (.op (.pure (.bin .add (.tmp 133) (.const (.int .i64 1))))) none,
      .act (some 21) (.op (.pure (.move (.tmp 134)))) none]))))))
  coD))
def CO : LCode :=
  (.seq (.steps [
    .act (some 6) (.op (.pure (.move (.const (.bool false))))) none])
  (.seq (.steps [
    .act (some 25) (.op (.pure (.move (.tmp 0)))) none,
    .act (some 26) (.call (.func 8) [(.tmp 25)]) none,
    .act (some 27) (.op (.pure (.build [(.int .i64 0), (.int .i64 0)] [(0, 1, (.const (.int .i64 0))), (1, 1, (.tmp 26))]))) none,
    .act (some 7) (.op (.new (.alloc [(.int .i64 0), (.int .i64 0)]))) none,
    .act none (.op (.eff (.store 2 (.tmp 7) (.tmp 27)))) none])
  (.seq (.steps [
    .act (some 29) (.op (.pure (.fieldAddr 1 (.tmp 7)))) none,
    .act (some 30) (.op (.read (.load1 (.tmp 29)))) none,
    .act (some 31) (.op (.pure (.bin .mul (.const (.int .i64 2)) (.tmp 30)))) none,
    .act (some 32) (.op (.pure (.bin .add (.const (.int .i64 4)) (.tmp 31)))) none,
    .act (some 33) (.call (.func 9) [(.tmp 32)]) none,
    .act (some 28) (.op (.pure (.move (.tmp 33)))) none,
    .act (some 34) (.op (.pure (.extract (.tmp 28) 0))) none,
    .act (some 35) (.op (.pure (.extract (.tmp 28) 1))) none,
    .act (some 8) (.op (.pure (.move (.tmp 34)))) none,
    .act (some 9) (.op (.pure (.move (.tmp 35)))) none])
  (.seq (.seq (.steps [
    .act (some 36) (.op (.pure (.move (.tmp 9)))) none,
    .act (some 37) (.op (.pure (.bin .neq (.tmp 36) (.const (.int .i64 0))))) none,
    .act (some 38) (.op (.pure (.move (.tmp 37)))) none,
    .act (some 39) (.op (.read (.loadN 2 (.tmp 7)))) (some (38, false)),
    .act (some 40) (.op (.pure (.move (.tmp 8)))) (some (38, false)),
    .act (some 41) (.call (.func 11) [(.tmp 39), (.tmp 40)]) (some (38, false)),
    .act (some 42) (.op (.pure (.bin .neq (.tmp 41) (.const (.int .i64 0))))) (some (38, false)),
    .act (some 43) (.op (.pure (.pick (.tmp 38) (.const (.bool true)) (.tmp 42)))) none])
  (.cond (.tmp 43)
   (.seq (.steps [
     .act (some 6) (.op (.pure (.move (.const (.bool false))))) none])
   .ret)
   .skip))
  (.seq (.steps [
    .act (some 44) (.call (.func 32) []) none,
    .act (some 10) (.op (.pure (.move (.tmp 44)))) none])
  (.seq (.steps [
    .act (some 11) (.op (.new (.alloc [(.pointer none), (.pointer none), (.pointer none), (.pointer none)]))) none])
  (.seq (.steps [
    .act (some 12) (.op (.new (.alloc [(.int .i64 0), (.int .i64 0), (.int .i64 0), (.int .i64 0)]))) none])
  (.seq (.steps [
    .act (some 13) (.op (.pure (.move (.const (.int .i64 0))))) none])
  (.seq (.seq (.steps [
    .act (some 14) (.op (.pure (.move (.const (.int .i64 0))))) none])
  (.block 0 (.loop [1, 2, 7, 8, 10, 11, 12, 13, 14] (.seq (.seq (.steps [
      .act (some 45) (.op (.pure (.move (.tmp 14)))) none,
      .act (some 46) (.op (.pure (.move (.tmp 2)))) none,
      .act (some 47) (.op (.pure (.len false (.tmp 46)))) none,
      .act (some 48) (.op (.pure (.bin .lss (.tmp 45) (.tmp 47)))) none,
      .act (some 49) (.op (.pure (.move (.tmp 48)))) none,
      .act (some 50) (.op (.pure (.move (.tmp 14)))) (some (49, true)),
      .act (some 51) (.op (.pure (.bin .lss (.tmp 50) (.const (.int .i64 250))))) (some (49, true)),
      .act (some 52) (.op (.pure (.pick (.tmp 49) (.tmp 51) (.const (.bool false))))) none])
    (.cond (.tmp 52)
     .skip
     (.exit 0)))
    (.seq (.block 1 (.seq (.steps [
       .act (some 55) (.op (.pure (.move (.tmp 2)))) none,
       .act (some 56) (.op (.pure (.move (.tmp 14)))) none,
       .act (some 57) (.op (.pure (.idxSl 1 (.tmp 55) (.tmp 56)))) none,
       .act (some 58) (.op (.read (.load1 (.tmp 57)))) none,
       .act (some 59) (.op (.pure (.bin .and (.tmp 58) (.const (.int .i64 3))))) none,
       .act (some 15) (.op (.pure (.move (.tmp 59)))) none])
     coA))
    (.steps [
      .act (some 53) (.op (.pure (.move (.tmp 14)))) none,
      .act (some 54) (.op (.pure (.bin .add (.tmp 53) (.const (.int .i64 1))))) none,
      .act (some 14) (.op (.pure (.move (.tmp 54)))) none]))))))
  coC)))))))))

abbrev keepV : List Tmp := [1, 2, 7, 8, 10, 11, 12, 13, 14]
section
variable {H K : LHeap} {s i j q : Nat} {m : MV} {v : HV} {a : Option Addr} {L : List (Option (Nat × COp))} {I : List Int} {x : COp} {e : Env} {Q : LExit → Env → LHeap → Prop}
set_option maxHeartbeats 1000000 in
theorem coB_ev (h : OW H K s m v a L I) (p : PC s i m v L I) (hs : s = 1 ∨ s = 2 ∨ s = 4 ∨ s = 8) (hi : i < 1000) (hn : v.l.length ≤ 1000) (hw : v.now ≤ 10000) (hj : L[j]? = some (some (q, x)))
    (e8 : LK.look e 8 = ptr (H.length + 3)) (e10 : LK.look e 10 = ptr (H.length + 5)) (e11 : LK.look e 11 = ptr (H.length + 6)) (e12 : LK.look e 12 = ptr (H.length + 7)) (e15 : LK.look e 15 = i64 j)
    (hQ : ∀ e' K' m' v' a' L' I', restrict keepV e' = restrict keepV e → OW H K' s m' v' a' L' I' → PC s (i + 1) m' v' L' I' → v'.l.length = v.l.length → v'.now ≤ v.now + 1 → Q .normal e' K') :
    XW (callE T) H.length coB e K Q := by
  have hr := right_pow hs
  obtain ⟨hx, ht0, ht1⟩ := p.right hj
  have hKl := h.len
  have hll := p.ll
  have hli := p.li
  have hml := p.len
  have j4 : j < 4 := by rw [← hll]; exact (List.getElem?_eq_some_iff.1 hj).1
  have j0 : 0 ≤ (j : Int) := by omega
  have j4' : (j : Int) < 4 := by omega
  have j5 : j + 1 ≤ 4 := by omega
  have hLj : (L.map cpv)[j]? = some (ptr q) := by rw [List.getElem?_map, hj]; rfl
  have hq := (h.ops.at_ j q x hj)
  unfold coB
  simp -dsimp only [go_sem, Nat.reduceEqDiff, Nat.reduceAdd, Nat.reduceSub, Nat.reduceMul, Nat.reduceLeDiff, Nat.reduceLT, Nat.reduceBEq, Int.reduceLT, Int.reduceLE, Int.reduceGT, Int.reduceGE, Int.reduceEq, Int.reduceNe, Int.reduceBEq, Int.reduceBNe, Int.reduceAdd, Int.reduceSub, Int.reduceMul, Int.reduceToNat, Int.reduceNeg, ↓reduceIte, ↓reduceDIte, e8, e11, e15, j0, j4', lget_at h.arr, hLj]
  refine CT_of (cstep_ev hq.2 h.mem (by omega) (by omega) (by omega) (by rw [hx]; exact hr) (by omega)) ?_
  rintro _ _ ⟨rfl, rfl⟩
  rcases p.step (by omega) hr hi hj with ⟨c5, p1⟩ | ⟨c5, id, hid, p1, hl1, hn1⟩
  · have hml1 := p1.len
    have ow1 := (h.opset hj (x' := (x.step m).1)).mset (m' := (x.step m).2) (by omega) (by omega)
    have c5' : ((x.step m).1.at_ == 9) = false := by simpa using c5
    simp -dsimp only [go_sem, Nat.reduceEqDiff, Nat.reduceAdd, Nat.reduceSub, Nat.reduceMul, Nat.reduceLeDiff, Nat.reduceLT, Nat.reduceBEq, Int.reduceLT, Int.reduceLE, Int.reduceGT, Int.reduceGE, Int.reduceEq, Int.reduceNe, Int.reduceBEq, Int.reduceBNe, Int.reduceAdd, Int.reduceSub, Int.reduceMul, Int.reduceToNat, Int.reduceNeg, ↓reduceIte, ↓reduceDIte, c5']
    exact hQ _ _ _ _ _ _ _ rfl ow1 p1 rfl (by omega)
  · have hml1 := p1.len
    have ow1 := (h.opset hj (x' := (x.step m).1)).mset (m' := (x.step m).2) (by omega) (by omega)
    have c5' : ((x.step m).1.at_ == 9) = true := by simpa using c5
    generalize memPut (K.set q (crw (x.step m).1)) (H.length + 3) (H.length + 1) (H.length + 2) (x.step m).2 = K1 at ow1 ⊢
    generalize (x.step m).1 = x1 at *
    generalize (x.step m).2 = m1 at *
    have hj1 : (L.set j (some (q, x1)))[j]? = some (some (q, x1)) := List.getElem?_set_self (by omega)
    have hLj1 : ((L.set j (some (q, x1))).map cpv)[j]? = some (ptr q) := by rw [List.getElem?_map, hj1]; rfl
    simp -dsimp only [go_sem, Nat.reduceEqDiff, Nat.reduceAdd, Nat.reduceSub, Nat.reduceMul, Nat.reduceLeDiff, Nat.reduceLT, Nat.reduceBEq, Int.reduceLT, Int.reduceLE, Int.reduceGT, Int.reduceGE, Int.reduceEq, Int.reduceNe, Int.reduceBEq, Int.reduceBNe, Int.reduceAdd, Int.reduceSub, Int.reduceMul, Int.reduceToNat, Int.reduceNeg, ↓reduceIte, ↓reduceDIte, c5', e11, e15, j0, j4', lget_at ow1.arr, hLj1]
    refine CT_val (cres_ev (ow1.ops.at_ j q x1 hj1).2) ?_
    rw [if_pos c5]
    have hIj : (I.map i64)[j]? = some (i64 id) := by rw [List.getElem?_map, hid]; rfl
    have hn0 := p.hi.n0
    simp -dsimp only [go_sem, Nat.reduceEqDiff, Nat.reduceAdd, Nat.reduceSub, Nat.reduceMul, Nat.reduceLeDiff, Nat.reduceLT, Nat.reduceBEq, Int.reduceLT, Int.reduceLE, Int.reduceGT, Int.reduceGE, Int.reduceEq, Int.reduceNe, Int.reduceBEq, Int.reduceBNe, Int.reduceAdd, Int.reduceSub, Int.reduceMul, Int.reduceToNat, Int.reduceNeg, ↓reduceIte, ↓reduceDIte, e10, e12, e15, j0, j4', lget_at ow1.idr, hIj]
    refine CT_of (fin_ev (Nat.le_refl _) ow1.log (by omega) (by omega)) ?_
    rintro _ K2 ⟨rfl, g1, g2⟩
    have ow2 := ow1.logs g1 g2
    have hK2 := ow2.len
    have hb1 : H.length + 6 < K2.length := by omega
    have eN : ((L.set j (some (q, x1))).map cpv).set j (Value.pointer none) = (L.set j none).map cpv := by
      rw [show Value.pointer none = cpv none from rfl, ← List.map_set, List.set_set]
    have lim6 : H.length ≤ H.length + 6 := by omega
    have harr := ow2.arr
    have hLl : ((L.set j (some (q, x1))).map cpv).length = 4 := by simp [hll]
    simp -dsimp only [go_sem, Nat.reduceEqDiff, Nat.reduceAdd, Nat.reduceSub, Nat.reduceMul, Nat.reduceLeDiff, Nat.reduceLT, Nat.reduceBEq, Int.reduceLT, Int.reduceLE, Int.reduceGT, Int.reduceGE, Int.reduceEq, Int.reduceNe, Int.reduceBEq, Int.reduceBNe, Int.reduceAdd, Int.reduceSub, Int.reduceMul, Int.reduceToNat, Int.reduceNeg, ↓reduceIte, ↓reduceDIte, e11, e15, j0, j4', j5, take_app_n, get_app_n, get_app_n0, set_app_n, set_app_n0, lget_app_n, lget_app_n0, lcells_app_n, lcells_app_n0, List.length_set, List.take_of_length_le, List.set_set, get_left, set_left, lget_left, lcells_left, get_set_eq, get_set_ne, lget_set_eq, lget_set_ne, lcells_set_ne, harr, hb1, lim6, hLl, eN]
    have ow3 := ow2.clear j
    rw [List.set_set] at ow3
    exact hQ _ _ _ _ _ _ _ rfl ow3 p1 hl1 (by omega)
end
end Go.Proofs.Ytopjhhcncjleaaa
