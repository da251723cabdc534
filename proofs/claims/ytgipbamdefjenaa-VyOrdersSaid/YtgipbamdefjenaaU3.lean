/- Orders of a ring: the heap. -/
import Derived.Test.YtgipbamdefjenaaU1
namespace Go.Proofs.Ytgipbamdefjenaa
open Go Go.LK
set_option linter.unusedSimpArgs false
set_option linter.unusedVariables false
theorem lognew_ev {lim : Nat} {H : LHeap} : callE T 28 lim [] H fun v H' => v = ptr (H.length + 1) ∧ H' = H ++ [.map [], .row false 0 [.slice none 0 0, .map (some H.length), i64 0]] := by
  refine callE_stay rfl (by simp) rfl ?_
  simp -dsimp only [go_sem, Nat.reduceEqDiff, Nat.reduceAdd, Nat.reduceSub, Nat.reduceMul, Nat.reduceLeDiff, Nat.reduceLT, Nat.reduceBEq, Int.reduceLT, Int.reduceLE, Int.reduceGT, Int.reduceGE, Int.reduceEq, Int.reduceNe, Int.reduceBEq, Int.reduceBNe, Int.reduceAdd, Int.reduceSub, Int.reduceMul, Int.reduceToNat, Int.reduceNeg, ↓reduceIte, ↓reduceDIte]
theorem LogAt.set_off {n b m j : Nat} {H : LHeap} {a : Option Addr} {v : HV} (h : LogAt n H b m a v) (h1 : j ≠ b) (h2 : j ≠ m) (h3 : Off j a) (x : LObj) : LogAt n (H.set j x) b m a v :=
  ⟨by rw [get_set_ne h1]; exact h.row, by rw [get_set_ne h2]; exact h.mp, h.ls.set h3 _, h.nb, h.nm, h.na, h.ne, h.ob, h.om⟩
theorem LogAt.under {n b m : Nat} {H : LHeap} {a : Option Addr} {v : HV} (h : LogAt n H b m a v) {q : Nat} (hq : H.length ≤ q) : Off q a := by
  rcases h.ls with ⟨rfl, _⟩ | ⟨p, rfl, g⟩
  · intro x hx; cases hx
  · intro x hx; cases hx
    have := (List.getElem?_eq_some_iff.1 g).1
    dsimp only; omega
def vpv (o : Option (Nat × VOp)) : Value := match o with | none => .pointer none | some (q, _) => ptr q
/-- What stands in the heap. -/
structure OW (H K : LHeap) (s : Nat) (m : MV) (v : HV) (a : Option Addr) (L : List (Option (Nat × VOp))) (I : List Int) : Prop where
  len : H.length + 8 ≤ K.length
  keep : ∀ j, j < H.length → K[j]? = H[j]?
  rr : K[H.length]? = some (rro ⟨0, s⟩)
  mem : MemAt K (H.length + 3) (H.length + 1) (H.length + 2) m
  log : LogAt H.length K (H.length + 5) (H.length + 4) a v
  arr : K[H.length + 6]? = some (.row false 0 (L.map vpv))
  idr : K[H.length + 7]? = some (.row false 0 (I.map i64))
  ops : OpsAt vrw (H.length + 8) K L
  fa : Fresh (H.length + 8) a
  off : ∀ (j q : Nat) (x : VOp), L[j]? = some (some (q, x)) → Off q a
section
variable {H K : LHeap} {s : Nat} {m : MV} {v : HV} {a : Option Addr} {L : List (Option (Nat × VOp))} {I : List Int}
theorem OW.app (h : OW H K s m v a L I) (t : LHeap) : OW H (K ++ t) s m v a L I := by
  have hl := h.len
  exact ⟨by rw [List.length_append]; omega, fun j hj => by rw [List.getElem?_append_left (by omega)]; exact h.keep j hj, get_old h.rr t, h.mem.app t, h.log.app t, get_old h.arr t, get_old h.idr t, h.ops.app t, h.fa, h.off⟩
theorem OW.arg (h : OW H K s m v a L I) : ∃ t, K = H ++ t := by
  have hl := h.len
  refine ⟨K.drop H.length, List.ext_getElem? fun j => ?_⟩
  by_cases hj : j < H.length
  · rw [List.getElem?_append_left hj]; exact h.keep j hj
  · rw [List.getElem?_append_right (by omega), List.getElem?_drop]
    congr 1; omega
theorem OW.logs (h : OW H K s m v a L I) {K' : LHeap} {a' : Option Addr} {v' : HV} (g : LogAt H.length K' (H.length + 5) (H.length + 4) a' v') (k : Keeps (H.length + 5) (H.length + 4) a a' K K') : OW H K' s m v' a' L I := by
  have hl := h.len
  have old : ∀ j, j < H.length + 8 → j ≠ H.length + 5 → j ≠ H.length + 4 → K'[j]? = K[j]? := fun j h1 h2 h3 => (k.2 j (by omega) h2 h3 (h.fa.off h1)).1
  have hm := h.mem
  have ofs : ∀ (j q : Nat) (x : VOp), L[j]? = some (some (q, x)) → K'[q]? = K[q]? ∧ Off q a' := by
    intro j q x hj
    have := (h.ops.at_ j q x hj).1
    exact k.2 q (h.ops.lt hj) (by omega) (by omega) (h.off j q x hj)
  refine ⟨Nat.le_trans hl k.1, fun j hj => by rw [old j (by omega) (by omega) (by omega)]; exact h.keep j hj, by rw [old _ (by omega) (by omega) (by omega)]; exact h.rr, ?_, g, by rw [old _ (by omega) (by omega) (by omega)]; exact h.arr, by rw [old _ (by omega) (by omega) (by omega)]; exact h.idr, ?_, ?_, fun j q x hj => (ofs j q x hj).2⟩
  · exact ⟨by rw [old _ (by omega) (by omega) (by omega)]; exact hm.row, by rw [old _ (by omega) (by omega) (by omega)]; exact hm.ws, by rw [old _ (by omega) (by omega) (by omega)]; exact hm.bs, hm.len, hm.pos, hm.le, hm.n1, hm.n2, hm.n3⟩
  · exact ⟨fun j q x hj => ⟨(h.ops.at_ j q x hj).1, by rw [(ofs j q x hj).1]; exact (h.ops.at_ j q x hj).2⟩, h.ops.ne⟩
  · intro x hx
    refine Nat.le_of_not_lt fun hlt => ?_
    by_cases e5 : x.block = H.length + 5
    · exact g.ob x hx e5
    · by_cases e4 : x.block = H.length + 4
      · exact g.om x hx e4
      · exact (k.2 x.block (by omega) e5 e4 (h.fa.off hlt)).2 x hx rfl
theorem OW.mset (h : OW H K s m v a L I) {m' : MV} (hw : m'.w.length = m.w.length) (hb : m'.bar.length = m.w.length) : OW H (memPut K (H.length + 3) (H.length + 1) (H.length + 2) m') s m' v a L I := by
  have hl := h.len
  have old : ∀ j, j ≠ H.length + 3 → j ≠ H.length + 1 → j ≠ H.length + 2 → (memPut K (H.length + 3) (H.length + 1) (H.length + 2) m')[j]? = K[j]? := fun j h1 h2 h3 => memPut_get _ h1.symm h2.symm h3.symm
  refine ⟨by rw [memPut_len]; exact hl, fun j hj => by rw [old j (by omega) (by omega) (by omega)]; exact h.keep j hj, by rw [old _ (by omega) (by omega) (by omega)]; exact h.rr, h.mem.put hw hb, ?_, by rw [old _ (by omega) (by omega) (by omega)]; exact h.arr, by rw [old _ (by omega) (by omega) (by omega)]; exact h.idr, h.ops.mem (by omega) (by omega) (by omega) m', h.fa, h.off⟩
  exact ((h.log.set_off (by omega) (by omega) (h.fa.off (by omega)) _).set_off (by omega) (by omega) (h.fa.off (by omega)) _).set_off (by omega) (by omega) (h.fa.off (by omega)) _
theorem OW.opset (h : OW H K s m v a L I) {j q : Nat} {x x' : VOp} (hj : L[j]? = some (some (q, x))) : OW H (K.set q (vrw x')) s m v a (L.set j (some (q, x'))) I := by
  have hl := h.len
  have hq := (h.ops.at_ j q x hj).1
  have hjl := (List.getElem?_eq_some_iff.1 hj).1
  have old : ∀ k, k < H.length + 8 → (K.set q (vrw x'))[k]? = K[k]? := fun k hk => get_set_ne (by omega) _
  have hm := h.mem
  refine ⟨by rw [List.length_set]; exact hl, fun k hk => by rw [old k (by omega)]; exact h.keep k hk, by rw [old _ (by omega)]; exact h.rr, hm.set_off (by omega) (by omega) (by omega) _, h.log.set_off (by omega) (by omega) (h.off j q x hj) _, ?_, by rw [old _ (by omega)]; exact h.idr, h.ops.put hj x', h.fa, fun k p y hk => ?_⟩
  · rw [old _ (by omega), h.arr]
    congr 2
    apply List.ext_getElem?
    intro k
    rw [List.getElem?_map, List.getElem?_map]
    by_cases e : j = k
    · subst e; rw [List.getElem?_set_self hjl, hj]; rfl
    · rw [List.getElem?_set_ne e]
  · by_cases e : j = k
    · subst e; rw [List.getElem?_set_self hjl] at hk; cases hk; exact h.off j _ _ hj
    · rw [List.getElem?_set_ne e] at hk; exact h.off k p y hk
theorem OW.clear (h : OW H K s m v a L I) (j : Nat) : OW H (K.set (H.length + 6) (.row false 0 ((L.set j none).map vpv))) s m v a (L.set j none) I := by
  have hl := h.len
  have old : ∀ k x, k ≠ H.length + 6 → (K.set (H.length + 6) x)[k]? = K[k]? := fun k x hk => get_set_ne (fun e => hk e.symm) _
  have hm := h.mem
  refine ⟨by rw [List.length_set]; exact hl, fun k hk => by rw [old k _ (by omega)]; exact h.keep k hk, by rw [old _ _ (by omega)]; exact h.rr, hm.set_off (by omega) (by omega) (by omega) _, h.log.set_off (by omega) (by omega) (h.fa.off (by omega)) _, get_set_eq (by omega) _, by rw [old _ _ (by omega)]; exact h.idr, (h.ops.clear j).off (by omega) _, h.fa, fun k p y hk => ?_⟩
  by_cases e : j = k
  · subst e
    rw [List.getElem?_set] at hk
    simp at hk
  · rw [List.getElem?_set_ne e] at hk; exact h.off k p y hk
theorem OW.opnew (h : OW H K s m v a L I) {t : LHeap} {j q : Nat} {x : VOp} (hq : K.length ≤ q) (hx : (K ++ t)[q]? = some (vrw x)) : OW H ((K ++ t).set (H.length + 6) (.row false 0 ((L.set j (some (q, x))).map vpv))) s m v a (L.set j (some (q, x))) I := by
  have hl := h.len
  have h' := h.app t
  have hl' := h'.len
  have old : ∀ k x, k ≠ H.length + 6 → ((K ++ t).set (H.length + 6) x)[k]? = (K ++ t)[k]? := fun k x hk => get_set_ne (fun e => hk e.symm) _
  have hm := h'.mem
  refine ⟨by rw [List.length_set]; exact hl', fun k hk => by rw [old k _ (by omega)]; exact h'.keep k hk, by rw [old _ _ (by omega)]; exact h'.rr, hm.set_off (by omega) (by omega) (by omega) _, h'.log.set_off (by omega) (by omega) (h.fa.off (by omega)) _, get_set_eq (by omega) _, by rw [old _ _ (by omega)]; exact h'.idr, (h.ops.new hq (by omega) hx).off (by omega) _, h.fa, fun k p y hk => ?_⟩
  by_cases e : j = k
  · subst e
    rw [List.getElem?_set] at hk
    simp only [if_true] at hk
    split at hk
    · cases hk; exact h.log.under hq
    · cases hk
  · rw [List.getElem?_set_ne e] at hk; exact h.off k p y hk
theorem OW.idset (h : OW H K s m v a L I) (I' : List Int) : OW H (K.set (H.length + 7) (.row false 0 (I'.map i64))) s m v a L I' := by
  have hl := h.len
  have old : ∀ k x, k ≠ H.length + 7 → (K.set (H.length + 7) x)[k]? = K[k]? := fun k x hk => get_set_ne (fun e => hk e.symm) _
  have hm := h.mem
  exact ⟨by rw [List.length_set]; exact hl, fun k hk => by rw [old k _ (by omega)]; exact h.keep k hk, by rw [old _ _ (by omega)]; exact h.rr, hm.set_off (by omega) (by omega) (by omega) _, h.log.set_off (by omega) (by omega) (h.fa.off (by omega)) _, by rw [old _ _ (by omega)]; exact h.arr, get_set_eq (by omega) _, h.ops.off (by omega) _, h.fa, h.off⟩
end
end Go.Proofs.Ytgipbamdefjenaa
/- The statement VyOrders: a step. -/
namespace Go.Proofs.Ytgipbamdefjenaa
open Go Go.LK
set_option linter.unusedSimpArgs false
set_option linter.unusedVariables false
theorem restrict_look {ks : List Tmp} {e e' : Env} (h : restrict ks e' = restrict ks e) {k : Nat} (hk : k ∈ ks) : LK.look e' k = LK.look e k := by
  have h1 := look_restrict e' k ks
  have h2 := look_restrict e k ks
  rw [if_pos hk] at h1 h2
  rw [← h1, ← h2, h]
set_option maxRecDepth 100000 in
def voC : LCode :=
  (.seq (.steps [
    .act (some 118) (.op (.pure (.move (.tmp 10)))) none,
    .act (some 120) (.op (.pure (.fieldAddr 1 (.tmp 7)))) none,
    .act (some 121) (.op (.read (.load1 (.tmp 120)))) none,
    .act (some 119) (.call (.func 32) [(.tmp 118)]) none,
    .again 121 (.load1 (.tmp 120)) none,
    .act (some 122) (.call (.func 31) [(.tmp 119), (.tmp 121), (.const (.int .i64 2))]) none,
    .act (some 117) (.op (.pure (.move (.tmp 122)))) none,
    .act (some 123) (.op (.pure (.extract (.tmp 117) 0))) none,
    .act (some 124) (.op (.pure (.extract (.tmp 117) 1))) none,
    .act (some 18) (.op (.pure (.move (.tmp 123)))) none,
    .act (some 19) (.op (.pure (.move (.tmp 124)))) none])
  (.seq (.steps [
    .act (some 125) (.op (.pure (.move (.tmp 19)))) none,
    .act (some 126) (.op (.pure (.move (.tmp 125)))) none,
    .act (some 127) (.op (.pure (.move (.tmp 8)))) (some (126, true)),
    .act (some 128) (.call (.func 17) [(.tmp 127)]) (some (126, true)),
    .act (some 129) (.op (.pure (.bin .eql (.tmp 128) (.const (.int .i64 (-1)))))) (some (126, true)),
    .act (some 130) (.op (.pure (.pick (.tmp 126) (.tmp 129) (.const (.bool false))))) none,
    .act (some 131) (.op (.pure (.move (.tmp 130)))) none,
    .act (some 132) (.call (.func 18) []) (some (131, true)),
    .act (some 133) (.op (.pure (.pick (.tmp 131) (.tmp 132) (.const (.bool false))))) none,
    .act (some 6) (.op (.pure (.move (.tmp 133)))) none])
  .ret))
def voB : LCode :=
  (.seq (.steps [
       .act (some 96) (.op (.pure (.move (.tmp 15)))) none,
       .act (some 97) (.op (.pure (.idxArr 4 1 (.tmp 11) (.tmp 96)))) none,
       .act (some 98) (.op (.read (.load1 (.tmp 97)))) none,
       .act (some 99) (.op (.pure (.move (.tmp 8)))) none,
       .act (some 100) (.call (.func 13) [(.tmp 98), (.tmp 99)]) none])
     (.cond (.tmp 100)
      (.seq (.steps [
        .act (some 102) (.op (.pure (.move (.tmp 15)))) none,
        .act (some 103) (.op (.pure (.idxArr 4 1 (.tmp 11) (.tmp 102)))) none,
        .act (some 104) (.op (.read (.load1 (.tmp 103)))) none,
        .act (some 105) (.call (.func 15) [(.tmp 104)]) none,
        .act (some 101) (.op (.pure (.move (.tmp 105)))) none,
        .act (some 106) (.op (.pure (.extract (.tmp 101) 0))) none,
        .act (some 107) (.op (.pure (.extract (.tmp 101) 1))) none,
        .act (some 16) (.op (.pure (.move (.tmp 106)))) none,
        .act (some 17) (.op (.pure (.move (.tmp 107)))) none])
      (.seq (.steps [
        .act (some 108) (.op (.pure (.move (.tmp 10)))) none,
        .act (some 109) (.op (.pure (.move (.tmp 15)))) none,
        .act (some 110) (.op (.pure (.idxArr 4 1 (.tmp 12) (.tmp 109)))) none,
        .act (some 111) (.op (.read (.load1 (.tmp 110)))) none,
        .act (some 112) (.op (.pure (.move (.tmp 16)))) none,
        .act (some 113) (.op (.pure (.move (.tmp 17)))) none,
        .act (some 114) (.call (.func 30) [(.tmp 108), (.tmp 111), (.tmp 112), (.tmp 113)]) none])
      (.steps [
        .act (some 115) (.op (.pure (.move (.tmp 15)))) none,
        .act (some 116) (.op (.pure (.idxArr 4 1 (.tmp 11) (.tmp 115)))) none,
        .act none (.op (.eff (.store 1 (.tmp 116) (.const (.pointer none))))) none])))
      .skip))
def voA : LCode :=
  (.seq (.seq (.steps [
       .act (some 55) (.op (.pure (.move (.tmp 15)))) none,
       .act (some 56) (.op (.pure (.idxArr 4 1 (.tmp 11) (.tmp 55)))) none,
       .act (some 57) (.op (.read (.load1 (.tmp 56)))) none,
       .act (some 58) (.op (.pure (.eqNil .p false (.tmp 57) (.const (.pointer none))))) none])
     (.cond (.tmp 58)
      (.seq (.seq (.steps [
        .act (some 59) (.op (.pure (.move (.tmp 13)))) none,
        .act (some 60) (.op (.pure (.move (.tmp 1)))) none,
        .act (some 61) (.op (.pure (.len false (.tmp 60)))) none,
        .act (some 62) (.op (.pure (.bin .geq (.tmp 59) (.tmp 61)))) none,
        .act (some 63) (.op (.pure (.move (.tmp 62)))) none,
        .act (some 64) (.op (.pure (.move (.tmp 13)))) (some (63, false)),
        .act (some 65) (.op (.pure (.bin .geq (.tmp 64) (.const (.int .i64 8))))) (some (63, false)),
        .act (some 66) (.op (.pure (.pick (.tmp 63) (.const (.bool true)) (.tmp 65)))) none])
      (.cond (.tmp 66)
       (.exit 1)
       .skip))
      (.seq (.steps [
        .act (some 67) (.op (.pure (.move (.tmp 15)))) none,
        .act (some 68) (.op (.read (.loadN 2 (.tmp 7)))) none,
        .act (some 69) (.op (.pure (.move (.tmp 1)))) none,
        .act (some 70) (.op (.pure (.move (.tmp 13)))) none,
        .act (some 71) (.op (.pure (.idxSl 3 (.tmp 69) (.tmp 70)))) none,
        .act (some 72) (.op (.read (.loadN 3 (.tmp 71)))) none,
        .act (some 73) (.call (.func 24) [(.tmp 68), (.tmp 72)]) none,
        .act (some 74) (.op (.pure (.idxArr 4 1 (.tmp 11) (.tmp 67)))) none,
        .act none (.op (.eff (.store 1 (.tmp 74) (.tmp 73)))) none])
      (.seq (.steps [
        .act (some 76) (.op (.pure (.move (.tmp 15)))) none,
        .act (some 77) (.op (.pure (.move (.tmp 10)))) none,
        .act (some 78) (.op (.pure (.move (.tmp 15)))) none,
        .act (some 79) (.op (.pure (.move (.tmp 1)))) none,
        .act (some 80) (.op (.pure (.move (.tmp 13)))) none,
        .act (some 81) (.op (.pure (.idxSl 3 (.tmp 79) (.tmp 80)))) none,
        .act (some 82) (.op (.pure (.fieldAddr 1 (.tmp 81)))) none,
        .act (some 83) (.op (.read (.load1 (.tmp 82)))) none,
        .act (some 84) (.op (.pure (.bin .and (.tmp 83) (.const (.int .i64 1))))) none,
        .act (some 85) (.op (.pure (.move (.tmp 1)))) none,
        .act (some 86) (.op (.pure (.move (.tmp 13)))) none,
        .act (some 87) (.op (.pure (.idxSl 3 (.tmp 85) (.tmp 86)))) none,
        .act (some 88) (.op (.pure (.fieldAddr 2 (.tmp 87)))) none,
        .act (some 89) (.op (.read (.load1 (.tmp 88)))) none,
        .act (some 90) (.call (.func 29) [(.tmp 77), (.tmp 78), (.tmp 84), (.tmp 89)]) none,
        .act (some 75) (.op (.pure (.move (.tmp 90)))) none,
        .act (some 91) (.op (.pure (.extract (.tmp 75) 0))) none,
        .act (some 92) (.op (.pure (.extract (.tmp 75) 1))) none,
        .act (some 93) (.op (.pure (.idxArr 4 1 (.tmp 12) (.tmp 76)))) none,
        .act none (.op (.eff (.store 1 (.tmp 93) (.tmp 91)))) none])
      (.steps [
        .act (some 94) (.op (.pure (.move (.tmp 13)))) none,
        .act (some 95) (.op (.pure (.bin .add (.tmp 94) (.const (.int .i64 1))))) none,
        .act (some 13) (.op (.pure (.move (.tmp 95)))) none]))))
      .skip))
     voB)
def VO : LCode :=
  (.seq (.steps [
    .act (some 6) (.op (.pure (.move (.const (.bool false))))) none])
  (.seq (.steps [
    .act (some 20) (.op (.pure (.move (.tmp 0)))) none,
    .act (some 21) (.call (.func 22) [(.tmp 20)]) none,
    .act (some 22) (.op (.pure (.build [(.int .i64 0), (.int .i64 0)] [(0, 1, (.const (.int .i64 0))), (1, 1, (.tmp 21))]))) none,
    .act (some 7) (.op (.new (.alloc [(.int .i64 0), (.int .i64 0)]))) none,
    .act none (.op (.eff (.store 2 (.tmp 7) (.tmp 22)))) none])
  (.seq (.steps [
    .act (some 24) (.op (.pure (.fieldAddr 1 (.tmp 7)))) none,
    .act (some 25) (.op (.read (.load1 (.tmp 24)))) none,
    .act (some 26) (.op (.pure (.bin .mul (.const (.int .i64 2)) (.tmp 25)))) none,
    .act (some 27) (.op (.pure (.bin .add (.const (.int .i64 2)) (.tmp 26)))) none,
    .act (some 28) (.call (.func 8) [(.tmp 27)]) none,
    .act (some 23) (.op (.pure (.move (.tmp 28)))) none,
    .act (some 29) (.op (.pure (.extract (.tmp 23) 0))) none,
    .act (some 30) (.op (.pure (.extract (.tmp 23) 1))) none,
    .act (some 8) (.op (.pure (.move (.tmp 29)))) none,
    .act (some 9) (.op (.pure (.move (.tmp 30)))) none])
  (.seq (.seq (.steps [
    .act (some 31) (.op (.pure (.move (.tmp 9)))) none,
    .act (some 32) (.op (.pure (.bin .neq (.tmp 31) (.const (.int .i64 0))))) none,
    .act (some 33) (.op (.pure (.move (.tmp 32)))) none,
    .act (some 34) (.op (.read (.loadN 2 (.tmp 7)))) (some (33, false)),
    .act (some 35) (.op (.pure (.move (.tmp 8)))) (some (33, false)),
    .act (some 36) (.call (.func 10) [(.tmp 34), (.tmp 35)]) (some (33, false)),
    .act (some 37) (.op (.pure (.bin .neq (.tmp 36) (.const (.int .i64 0))))) (some (33, false)),
    .act (some 38) (.op (.pure (.pick (.tmp 33) (.const (.bool true)) (.tmp 37)))) none])
  (.cond (.tmp 38)
   (.seq (.steps [
     .act (some 6) (.op (.pure (.move (.const (.bool false))))) none])
   .ret)
   .skip))
  (.seq (.steps [
    .act (some 39) (.call (.func 28) []) none,
    .act (some 10) (.op (.pure (.move (.tmp 39)))) none])
  (.seq (.steps [
    .act (some 11) (.op (.new (.alloc [(.pointer none), (.pointer none), (.pointer none), (.pointer none)]))) none])
  (.seq (.steps [
    .act (some 12) (.op (.new (.alloc [(.int .i64 0), (.int .i64 0), (.int .i64 0), (.int .i64 0)]))) none])
  (.seq (.steps [
    .act (some 13) (.op (.pure (.move (.const (.int .i64 0))))) none])
  (.seq (.seq (.steps [
    .act (some 14) (.op (.pure (.move (.const (.int .i64 0))))) none])
  (.block 0 (.loop [1, 2, 7, 8, 10, 11, 12, 13, 14] (.seq (.seq (.steps [
      .act (some 40) (.op (.pure (.move (.tmp 14)))) none,
      .act (some 41) (.op (.pure (.move (.tmp 2)))) none,
      .act (some 42) (.op (.pure (.len false (.tmp 41)))) none,
      .act (some 43) (.op (.pure (.bin .lss (.tmp 40) (.tmp 42)))) none,
      .act (some 44) (.op (.pure (.move (.tmp 43)))) none,
      .act (some 45) (.op (.pure (.move (.tmp 14)))) (some (44, true)),
      .act (some 46) (.op (.pure (.bin .lss (.tmp 45) (.const (.int .i64 160))))) (some (44, true)),
      .act (some 47) (.op (.pure (.pick (.tmp 44) (.tmp 46) (.const (.bool false))))) none])
    (.cond (.tmp 47)
     .skip
     (.exit 0)))
    (.seq (.block 1 (.seq (.steps [
       .act (some 50) (.op (.pure (.move (.tmp 2)))) none,
       .act (some 51) (.op (.pure (.move (.tmp 14)))) none,
       .act (some 52) (.op (.pure (.idxSl 1 (.tmp 50) (.tmp 51)))) none,
       .act (some 53) (.op (.read (.load1 (.tmp 52)))) none,
       .act (some 54) (.call (.func 12) [(.tmp 53)]) none,
       .act (some 15) (.op (.pure (.move (.tmp 54)))) none])
     voA))
    (.steps [
      .act (some 48) (.op (.pure (.move (.tmp 14)))) none,
      .act (some 49) (.op (.pure (.bin .add (.tmp 48) (.const (.int .i64 1))))) none,
      .act (some 14) (.op (.pure (.move (.tmp 49)))) none]))))))
  voC)))))))))

abbrev keepV : List Tmp := [1, 2, 7, 8, 10, 11, 12, 13, 14]
section
variable {H K : LHeap} {s i j q : Nat} {m : MV} {v : HV} {a : Option Addr} {L : List (Option (Nat × VOp))} {I : List Int} {x : VOp} {e : Env} {Q : LExit → Env → LHeap → Prop}
set_option maxHeartbeats 1000000 in
theorem voB_ev (h : OW H K s m v a L I) (p : PJ s i m v L I) (hs : s = 2 ∨ s = 4 ∨ s = 8) (hi : i < 1000) (hn : v.l.length ≤ 1000) (hw : v.now ≤ 10000) (hj : L[j]? = some (some (q, x)))
    (e8 : LK.look e 8 = ptr (H.length + 3)) (e10 : LK.look e 10 = ptr (H.length + 5)) (e11 : LK.look e 11 = ptr (H.length + 6)) (e12 : LK.look e 12 = ptr (H.length + 7)) (e15 : LK.look e 15 = i64 j)
    (hQ : ∀ e' K' m' v' a' L' I', restrict keepV e' = restrict keepV e → OW H K' s m' v' a' L' I' → PJ s (i + 1) m' v' L' I' → v'.l.length = v.l.length → v'.now ≤ v.now + 1 → Q .normal e' K') :
    XW (callE T) H.length voB e K Q := by
  have hr := right_two hs
  have hx := p.right hj
  have hKl := h.len
  have hll := p.ll
  have hli := p.li
  have j4 : j < 4 := by rw [← hll]; exact (List.getElem?_eq_some_iff.1 hj).1
  have j0 : 0 ≤ (j : Int) := by omega
  have j4' : (j : Int) < 4 := by omega
  have j5 : j + 1 ≤ 4 := by omega
  have hLj : (L.map vpv)[j]? = some (ptr q) := by rw [List.getElem?_map, hj]; rfl
  have hq := (h.ops.at_ j q x hj)
  unfold voB
  simp -dsimp only [go_sem, Nat.reduceEqDiff, Nat.reduceAdd, Nat.reduceSub, Nat.reduceMul, Nat.reduceLeDiff, Nat.reduceLT, Nat.reduceBEq, Int.reduceLT, Int.reduceLE, Int.reduceGT, Int.reduceGE, Int.reduceEq, Int.reduceNe, Int.reduceBEq, Int.reduceBNe, Int.reduceAdd, Int.reduceSub, Int.reduceMul, Int.reduceToNat, Int.reduceNeg, ↓reduceIte, ↓reduceDIte, e8, e11, e15, j0, j4', lget_at h.arr, hLj]
  refine CT_of (vstep_ev hq.2 h.mem (by omega) (by omega) (by omega) (by rw [hx]; exact hr)) ?_
  rintro _ _ ⟨rfl, rfl⟩
  have hsl := step_len x m
  have ow1 := (h.opset hj (x' := (x.step m).1)).mset (m' := (x.step m).2) hsl.1 (by rw [hsl.2]; exact h.mem.len)
  rcases p.step (by omega) hi hj with ⟨c5, p1⟩ | ⟨c5, id, hid, p1, hl1, hn1⟩
  · have c5' : ((x.step m).1.at_ == 5) = false := by simpa using c5
    simp -dsimp only [go_sem, Nat.reduceEqDiff, Nat.reduceAdd, Nat.reduceSub, Nat.reduceMul, Nat.reduceLeDiff, Nat.reduceLT, Nat.reduceBEq, Int.reduceLT, Int.reduceLE, Int.reduceGT, Int.reduceGE, Int.reduceEq, Int.reduceNe, Int.reduceBEq, Int.reduceBNe, Int.reduceAdd, Int.reduceSub, Int.reduceMul, Int.reduceToNat, Int.reduceNeg, ↓reduceIte, ↓reduceDIte, c5']
    exact hQ _ _ _ _ _ _ _ rfl ow1 p1 rfl (by omega)
  · have c5' : ((x.step m).1.at_ == 5) = true := by simpa using c5
    generalize memPut (K.set q (vrw (x.step m).1)) (H.length + 3) (H.length + 1) (H.length + 2) (x.step m).2 = K1 at ow1 ⊢
    generalize (x.step m).1 = x1 at *
    generalize (x.step m).2 = m1 at *
    have hj1 : (L.set j (some (q, x1)))[j]? = some (some (q, x1)) := List.getElem?_set_self (by omega)
    have hLj1 : ((L.set j (some (q, x1))).map vpv)[j]? = some (ptr q) := by rw [List.getElem?_map, hj1]; rfl
    simp -dsimp only [go_sem, Nat.reduceEqDiff, Nat.reduceAdd, Nat.reduceSub, Nat.reduceMul, Nat.reduceLeDiff, Nat.reduceLT, Nat.reduceBEq, Int.reduceLT, Int.reduceLE, Int.reduceGT, Int.reduceGE, Int.reduceEq, Int.reduceNe, Int.reduceBEq, Int.reduceBNe, Int.reduceAdd, Int.reduceSub, Int.reduceMul, Int.reduceToNat, Int.reduceNeg, ↓reduceIte, ↓reduceDIte, c5', e11, e15, j0, j4', lget_at ow1.arr, hLj1]
    refine CT_val (vres_ev (ow1.ops.at_ j q x1 hj1).2) ?_
    rw [if_pos c5]
    have hIj : (I.map i64)[j]? = some (i64 id) := by rw [List.getElem?_map, hid]; rfl
    have hn0 := p.hi.n0
    simp -dsimp only [go_sem, Nat.reduceEqDiff, Nat.reduceAdd, Nat.reduceSub, Nat.reduceMul, Nat.reduceLeDiff, Nat.reduceLT, Nat.reduceBEq, Int.reduceLT, Int.reduceLE, Int.reduceGT, Int.reduceGE, Int.reduceEq, Int.reduceNe, Int.reduceBEq, Int.reduceBNe, Int.reduceAdd, Int.reduceSub, Int.reduceMul, Int.reduceToNat, Int.reduceNeg, ↓reduceIte, ↓reduceDIte, e10, e12, e15, j0, j4', lget_at ow1.idr, hIj]
    refine CT_of (fin_ev (Nat.le_refl _) ow1.log (by omega) (by omega)) ?_
    rintro _ K2 ⟨rfl, g1, g2⟩
    have ow2 := ow1.logs g1 g2
    have hK2 := ow2.len
    have hb1 : H.length + 6 < K2.length := by omega
    have eN : ((L.set j (some (q, x1))).map vpv).set j (Value.pointer none) = (L.set j none).map vpv := by
      rw [show Value.pointer none = vpv none from rfl, ← List.map_set, List.set_set]
    have lim6 : H.length ≤ H.length + 6 := by omega
    have harr := ow2.arr
    have hLl : ((L.set j (some (q, x1))).map vpv).length = 4 := by simp [hll]
    simp -dsimp only [go_sem, Nat.reduceEqDiff, Nat.reduceAdd, Nat.reduceSub, Nat.reduceMul, Nat.reduceLeDiff, Nat.reduceLT, Nat.reduceBEq, Int.reduceLT, Int.reduceLE, Int.reduceGT, Int.reduceGE, Int.reduceEq, Int.reduceNe, Int.reduceBEq, Int.reduceBNe, Int.reduceAdd, Int.reduceSub, Int.reduceMul, Int.reduceToNat, Int.reduceNeg, ↓reduceIte, ↓reduceDIte, e11, e15, j0, j4', j5, take_app_n, get_app_n, get_app_n0, set_app_n, set_app_n0, lget_app_n, lget_app_n0, lcells_app_n, lcells_app_n0, List.length_set, List.take_of_length_le, List.set_set, get_left, set_left, lget_left, lcells_left, get_set_eq, get_set_ne, lget_set_eq, lget_set_ne, lcells_set_ne, harr, hb1, lim6, hLl, eN]
    have ow3 := ow2.clear j
    rw [List.set_set] at ow3
    exact hQ _ _ _ _ _ _ _ rfl ow3 p1 hl1 (by omega)
end
end Go.Proofs.Ytgipbamdefjenaa
