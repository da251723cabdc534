/- The statement CrqDrains: the walk. -/
import Derived.Test.YtopjhhcncjleaaaA1
namespace Go.Proofs.Ytopjhhcncjleaaa
open Go Go.LK
set_option linter.unusedSimpArgs false
set_option linter.unusedVariables false
theorem mask_lt (x k : BitVec 64) : (x &&& k).toNat ≤ k.toNat := by
  rw [BitVec.toNat_and]
  exact Nat.and_le_right
theorem small_of {x : BitVec 64} (h : x.toNat < 4611686018427387904) : x >>> 62 = 0#64 ∧ x + 1#64 ≠ 0#64 := by
  constructor
  · rw [v62, BitVec.lt_def]; exact h
  · intro q
    have := congrArg BitVec.toNat q
    rw [BitVec.toNat_add] at this
    have e : (1#64).toNat = 1 := rfl
    have e0 : (0#64).toNat = 0 := rfl
    rw [e, e0] at this
    omega
theorem rightz {s : Nat} (hs : s = 1 ∨ s = 2 ∨ s = 4 ∨ s = 8) : (RV.mk 0 s).right = true := by
  rcases hs with rfl | rfl | rfl | rfl <;> decide
abbrev m24 (x : BitVec 64) : BitVec 64 := x &&& 16777215#64
set_option maxRecDepth 100000 in
def cdE : LCode :=
  (.seq (.steps [
    .act (some 128) (.op (.pure (.move (.tmp 8)))) none,
    .act (some 129) (.op (.read (.loadN 2 (.tmp 7)))) none,
    .act (some 130) (.call (.func 25) [(.tmp 129)]) none,
    .act (some 131) (.call (.func 22) [(.tmp 128), (.tmp 130), (.const (.int .i64 90))]) none,
    .act (some 127) (.op (.pure (.move (.tmp 131)))) none,
    .act (some 132) (.op (.pure (.extract (.tmp 127) 0))) none,
    .act (some 133) (.op (.pure (.extract (.tmp 127) 1))) none,
    .act (some 134) (.op (.pure (.extract (.tmp 127) 2))) none,
    .act (some 22) (.op (.pure (.move (.tmp 132)))) none,
    .act (some 23) (.op (.pure (.move (.tmp 133)))) none,
    .act (some 24) (.op (.pure (.move (.tmp 134)))) none])
  (.seq (.steps [
    .act (some 135) (.op (.pure (.move (.tmp 24)))) none,
    .act (some 136) (.op (.pure (.move (.tmp 135)))) none,
    .act (some 137) (.op (.pure (.move (.tmp 22)))) (some (136, true)),
    .act (some 138) (.op (.pure (.bin .eql (.tmp 137) (.const (.int .i64 13))))) (some (136, true)),
    .act (some 139) (.op (.pure (.pick (.tmp 136) (.tmp 138) (.const (.bool false))))) none,
    .act (some 140) (.op (.pure (.move (.tmp 139)))) none,
    .act (some 141) (.op (.pure (.move (.tmp 23)))) (some (140, true)),
    .act (some 142) (.op (.pure (.bin .eql (.tmp 141) (.const (w64 0#64))))) (some (140, true)),
    .act (some 143) (.op (.pure (.pick (.tmp 140) (.tmp 142) (.const (.bool false))))) none,
    .act (some 144) (.op (.pure (.move (.tmp 143)))) none,
    .act (some 145) (.op (.read (.loadN 2 (.tmp 7)))) (some (144, true)),
    .act (some 146) (.op (.pure (.move (.tmp 8)))) (some (144, true)),
    .act (some 147) (.call (.func 19) [(.tmp 145), (.tmp 146)]) (some (144, true)),
    .act (some 148) (.op (.pure (.bin .eql (.tmp 147) (.const (.int .i64 0))))) (some (144, true)),
    .act (some 149) (.op (.pure (.pick (.tmp 144) (.tmp 148) (.const (.bool false))))) none,
    .act (some 150) (.op (.pure (.move (.tmp 149)))) none,
    .act (some 151) (.op (.read (.loadN 2 (.tmp 7)))) (some (150, true)),
    .act (some 152) (.op (.pure (.move (.tmp 8)))) (some (150, true)),
    .act (some 153) (.call (.func 20) [(.tmp 151), (.tmp 152)]) (some (150, true)),
    .act (some 154) (.op (.pure (.pick (.tmp 150) (.tmp 153) (.const (.bool false))))) none,
    .act (some 155) (.op (.pure (.move (.tmp 154)))) none,
    .act (some 156) (.op (.pure (.move (.tmp 8)))) (some (155, true)),
    .act (some 157) (.call (.func 26) [(.tmp 156)]) (some (155, true)),
    .act (some 158) (.op (.pure (.bin .eql (.tmp 157) (.const (.int .i64 (-1)))))) (some (155, true)),
    .act (some 159) (.op (.pure (.pick (.tmp 155) (.tmp 158) (.const (.bool false))))) none,
    .act (some 160) (.op (.pure (.move (.tmp 159)))) none,
    .act (some 161) (.call (.func 21) []) (some (160, true)),
    .act (some 162) (.op (.pure (.pick (.tmp 160) (.tmp 161) (.const (.bool false))))) none,
    .act (some 6) (.op (.pure (.move (.tmp 162)))) none])
  .ret))
def cdK : LCode :=
  (.seq (.seq (.steps [
    .act (some 18) (.op (.pure (.move (.const (.int .i64 0))))) none])
  (.block 4 (.loop [1, 7, 8, 10, 18] (.seq (.seq (.steps [
      .act (some 99) (.op (.pure (.move (.tmp 18)))) none,
      .act (some 100) (.op (.pure (.move (.tmp 10)))) none,
      .act (some 101) (.op (.pure (.bin .lss (.tmp 99) (.tmp 100)))) none])
    (.cond (.tmp 101)
     .skip
     (.exit 4)))
    (.seq (.block 5 (.seq (.steps [
       .act (some 105) (.op (.pure (.move (.tmp 8)))) none,
       .act (some 106) (.op (.read (.loadN 2 (.tmp 7)))) none,
       .act (some 107) (.call (.func 25) [(.tmp 106)]) none,
       .act (some 108) (.call (.func 22) [(.tmp 105), (.tmp 107), (.const (.int .i64 60))]) none,
       .act (some 104) (.op (.pure (.move (.tmp 108)))) none,
       .act (some 109) (.op (.pure (.extract (.tmp 104) 0))) none,
       .act (some 110) (.op (.pure (.extract (.tmp 104) 1))) none,
       .act (some 111) (.op (.pure (.extract (.tmp 104) 2))) none,
       .act (some 19) (.op (.pure (.move (.tmp 109)))) none,
       .act (some 20) (.op (.pure (.move (.tmp 110)))) none,
       .act (some 21) (.op (.pure (.move (.tmp 111)))) none])
     (.seq (.steps [
       .act (some 112) (.op (.pure (.move (.tmp 21)))) none,
       .act (some 113) (.op (.pure (.not (.tmp 112)))) none,
       .act (some 114) (.op (.pure (.move (.tmp 113)))) none,
       .act (some 115) (.op (.pure (.move (.tmp 19)))) (some (114, false)),
       .act (some 116) (.op (.pure (.bin .neq (.tmp 115) (.const (.int .i64 0))))) (some (114, false)),
       .act (some 117) (.op (.pure (.pick (.tmp 114) (.const (.bool true)) (.tmp 116)))) none,
       .act (some 118) (.op (.pure (.move (.tmp 117)))) none,
       .act (some 119) (.op (.pure (.move (.tmp 20)))) (some (118, false)),
       .act (some 120) (.op (.pure (.move (.tmp 1)))) (some (118, false)),
       .act (some 121) (.op (.pure (.move (.tmp 18)))) (some (118, false)),
       .act (some 122) (.op (.pure (.idxSl 1 (.tmp 120) (.tmp 121)))) (some (118, false)),
       .act (some 123) (.op (.read (.load1 (.tmp 122)))) (some (118, false)),
       .act (some 124) (.op (.pure (.bin .and (.tmp 123) (.const (w64 16777215#64))))) (some (118, false)),
       .act (some 125) (.op (.pure (.bin .neq (.tmp 119) (.tmp 124)))) (some (118, false)),
       .act (some 126) (.op (.pure (.pick (.tmp 118) (.const (.bool true)) (.tmp 125)))) none])
     (.cond (.tmp 126)
      (.seq (.steps [
        .act (some 6) (.op (.pure (.move (.const (.bool false))))) none])
      .ret)
      .skip))))
    (.steps [
      .act (some 102) (.op (.pure (.move (.tmp 18)))) none,
      .act (some 103) (.op (.pure (.bin .add (.tmp 102) (.const (.int .i64 1))))) none,
      .act (some 18) (.op (.pure (.move (.tmp 103)))) none]))))))
  cdE)
def cdS : LCode :=
  (.seq (.seq (.steps [
    .act (some 14) (.op (.pure (.move (.const (.int .i64 0))))) none])
  (.block 2 (.loop [1, 2, 7, 8, 10, 14] (.seq (.seq (.steps [
      .act (some 79) (.op (.pure (.move (.tmp 14)))) none,
      .act (some 80) (.op (.pure (.move (.tmp 2)))) none,
      .act (some 81) (.op (.pure (.bin .and (.tmp 80) (.const (.int .i64 3))))) none,
      .act (some 82) (.op (.pure (.bin .lss (.tmp 79) (.tmp 81)))) none])
    (.cond (.tmp 82)
     .skip
     (.exit 2)))
    (.seq (.block 3 (.seq (.steps [
       .act (some 86) (.op (.pure (.move (.tmp 8)))) none,
       .act (some 87) (.op (.read (.loadN 2 (.tmp 7)))) none,
       .act (some 88) (.call (.func 23) [(.tmp 87), (.const (w64 1#64))]) none,
       .act (some 89) (.call (.func 22) [(.tmp 86), (.tmp 88), (.const (.int .i64 3))]) none,
       .act (some 85) (.op (.pure (.move (.tmp 89)))) none,
       .act (some 90) (.op (.pure (.extract (.tmp 85) 0))) none,
       .act (some 91) (.op (.pure (.extract (.tmp 85) 1))) none,
       .act (some 92) (.op (.pure (.extract (.tmp 85) 2))) none,
       .act (some 15) (.op (.pure (.move (.tmp 90)))) none,
       .act (some 16) (.op (.pure (.move (.tmp 91)))) none,
       .act (some 17) (.op (.pure (.move (.tmp 92)))) none])
     (.seq (.steps [
       .act (some 93) (.op (.pure (.move (.tmp 17)))) none,
       .act (some 94) (.op (.pure (.not (.tmp 93)))) none,
       .act (some 95) (.op (.pure (.move (.tmp 94)))) none,
       .act (some 96) (.op (.pure (.move (.tmp 15)))) (some (95, false)),
       .act (some 97) (.op (.pure (.bin .neq (.tmp 96) (.const (.int .i64 16))))) (some (95, false)),
       .act (some 98) (.op (.pure (.pick (.tmp 95) (.const (.bool true)) (.tmp 97)))) none])
     (.cond (.tmp 98)
      (.seq (.steps [
        .act (some 6) (.op (.pure (.move (.const (.bool false))))) none])
      .ret)
      .skip))))
    (.steps [
      .act (some 83) (.op (.pure (.move (.tmp 14)))) none,
      .act (some 84) (.op (.pure (.bin .add (.tmp 83) (.const (.int .i64 1))))) none,
      .act (some 14) (.op (.pure (.move (.tmp 84)))) none]))))))
  cdK)
def cdC : LCode :=
  (.seq (.steps [
    .act (some 75) (.op (.pure (.move (.tmp 8)))) none,
    .act (some 76) (.op (.read (.loadN 2 (.tmp 7)))) none,
    .act (some 77) (.call (.func 24) [(.tmp 76)]) none,
    .act (some 78) (.call (.func 22) [(.tmp 75), (.tmp 77), (.const (.int .i64 2))]) none])
  cdS)
def CD : LCode :=
  (.seq (.steps [
    .act (some 6) (.op (.pure (.move (.const (.bool false))))) none])
  (.seq (.steps [
    .act (some 25) (.op (.pure (.move (.tmp 0)))) none,
    .act (some 26) (.call (.func 8) [(.tmp 25)]) none,
    .act (some 27) (.op (.pure (.build [(.int .i64 0), (.int .i64 0)] [(0, 1, (.const (.int .i64 0))), (1, 1, (.tmp 26))]))) none,
    .act (some 7) (.op (.new (.alloc [(.int .i64 0), (.int .i64 0)]))) none,
    .act none (.op (.eff (.store 2 (.tmp 7) (.tmp 27)))) none])
  (.seq (.steps [
    .act (some 29) (.op (.pure (.fieldAddr 1 (.tmp 7)))) none,
    .act (some 30) (.op (.read (.load1 (.tmp 29)))) none,
    .act (some 31) (.op (.pure (.bin .mul (.const (.int .i64 2)) (.tmp 30)))) none,
    .act (some 32) (.op (.pure (.bin .add (.const (.int .i64 4)) (.tmp 31)))) none,
    .act (some 33) (.call (.func 9) [(.tmp 32)]) none,
    .act (some 28) (.op (.pure (.move (.tmp 33)))) none,
    .act (some 34) (.op (.pure (.extract (.tmp 28) 0))) none,
    .act (some 35) (.op (.pure (.extract (.tmp 28) 1))) none,
    .act (some 8) (.op (.pure (.move (.tmp 34)))) none,
    .act (some 9) (.op (.pure (.move (.tmp 35)))) none])
  (.seq (.seq (.steps [
    .act (some 36) (.op (.pure (.move (.tmp 9)))) none,
    .act (some 37) (.op (.pure (.bin .neq (.tmp 36) (.const (.int .i64 0))))) none,
    .act (some 38) (.op (.pure (.move (.tmp 37)))) none,
    .act (some 39) (.op (.read (.loadN 2 (.tmp 7)))) (some (38, false)),
    .act (some 40) (.op (.pure (.move (.tmp 8)))) (some (38, false)),
    .act (some 41) (.call (.func 11) [(.tmp 39), (.tmp 40)]) (some (38, false)),
    .act (some 42) (.op (.pure (.bin .neq (.tmp 41) (.const (.int .i64 0))))) (some (38, false)),
    .act (some 43) (.op (.pure (.pick (.tmp 38) (.const (.bool true)) (.tmp 42)))) none])
  (.cond (.tmp 43)
   (.seq (.steps [
     .act (some 6) (.op (.pure (.move (.const (.bool false))))) none])
   .ret)
   .skip))
  (.seq (.steps [
    .act (some 10) (.op (.pure (.move (.const (.int .i64 0))))) none])
  (.seq (.block 0 (.loop [1, 2, 7, 8, 10] (.seq (.seq (.steps [
      .act (some 44) (.op (.pure (.move (.tmp 10)))) none,
      .act (some 45) (.op (.pure (.move (.tmp 1)))) none,
      .act (some 46) (.op (.pure (.len false (.tmp 45)))) none,
      .act (some 47) (.op (.pure (.bin .lss (.tmp 44) (.tmp 46)))) none,
      .act (some 48) (.op (.pure (.move (.tmp 47)))) none,
      .act (some 49) (.op (.pure (.move (.tmp 10)))) (some (48, true)),
      .act (some 50) (.op (.pure (.fieldAddr 1 (.tmp 7)))) (some (48, true)),
      .act (some 51) (.op (.read (.load1 (.tmp 50)))) (some (48, true)),
      .act (some 52) (.op (.pure (.bin .lss (.tmp 49) (.tmp 51)))) (some (48, true)),
      .act (some 53) (.op (.pure (.pick (.tmp 48) (.tmp 52) (.const (.bool false))))) none])
    (.cond (.tmp 53)
     .skip
     (.exit 0)))
    (.block 1 (.seq (.seq (.steps [
       .act (some 55) (.op (.pure (.move (.tmp 8)))) none,
       .act (some 56) (.op (.read (.loadN 2 (.tmp 7)))) none,
       .act (some 57) (.op (.pure (.move (.tmp 1)))) none,
       .act (some 58) (.op (.pure (.move (.tmp 10)))) none,
       .act (some 59) (.op (.pure (.idxSl 1 (.tmp 57) (.tmp 58)))) none,
       .act (some 60) (.op (.read (.load1 (.tmp 59)))) none,
       .act (some 61) (.op (.pure (.bin .and (.tmp 60) (.const (w64 16777215#64))))) none,
       .act (some 62) (.call (.func 23) [(.tmp 56), (.tmp 61)]) none,
       .act (some 63) (.call (.func 22) [(.tmp 55), (.tmp 62), (.const (.int .i64 9))]) none,
       .act (some 54) (.op (.pure (.move (.tmp 63)))) none,
       .act (some 64) (.op (.pure (.extract (.tmp 54) 0))) none,
       .act (some 65) (.op (.pure (.extract (.tmp 54) 1))) none,
       .act (some 66) (.op (.pure (.extract (.tmp 54) 2))) none,
       .act (some 11) (.op (.pure (.move (.tmp 64)))) none,
       .act (some 12) (.op (.pure (.move (.tmp 65)))) none,
       .act (some 13) (.op (.pure (.move (.tmp 66)))) none])
     (.seq (.steps [
       .act (some 67) (.op (.pure (.move (.tmp 13)))) none,
       .act (some 68) (.op (.pure (.not (.tmp 67)))) none,
       .act (some 69) (.op (.pure (.move (.tmp 68)))) none,
       .act (some 70) (.op (.pure (.move (.tmp 11)))) (some (69, false)),
       .act (some 71) (.op (.pure (.bin .neq (.tmp 70) (.const (.int .i64 0))))) (some (69, false)),
       .act (some 72) (.op (.pure (.pick (.tmp 69) (.const (.bool true)) (.tmp 71)))) none])
     (.cond (.tmp 72)
      (.seq (.steps [
        .act (some 6) (.op (.pure (.move (.const (.bool false))))) none])
      .ret)
      .skip)))
     (.steps [
       .act (some 73) (.op (.pure (.move (.tmp 10)))) none,
       .act (some 74) (.op (.pure (.bin .add (.tmp 73) (.const (.int .i64 1))))) none,
       .act (some 10) (.op (.pure (.move (.tmp 74)))) none]))))))
  cdC))))))

section
variable {H : LHeap} {s n : Nat} {m : MV} {w : List (BitVec 64)} {t : LHeap} {e : Env} {Q : LExit → Env → LHeap → Prop} {a : Option Addr} {l L : List (BitVec 64)} {more : Int}
theorem AG_rr2 : lcells (AG H s m t) H.length 0 2 = some [i64 0, i64 s] := lcells_of (AG_rr t) rfl
theorem AG_rr1 : lget (AG H s m t) H.length 1 = some (i64 s) := by rw [lget_at (AG_rr t)]; rfl
set_option maxHeartbeats 1000000 in
theorem cdE_ev {T' : Nat} (hs : s = 1 ∨ s = 2 ∨ s = 4 ∨ s = 8) (c : Clean m w) (g : CSeq s n T' [] true w) (hn : n ≤ 8) (hT : T' ≤ n + 3)
    (e7 : LK.look e 7 = ptr H.length) (e8 : LK.look e 8 = ptr (H.length + 3))
    (hQ : ∀ e' H', LK.look e' 6 = .bool true → Q .ret e' H') : XW (callE T) H.length cdE e (AG H s m t) Q := by
  unfold cdE
  have hr := rightz hs
  have hrr : ∀ m t, lcells (AG H s m t) H.length 0 2 = some [i64 0, i64 s] := fun m t => AG_rr2
  have gT := g.hT
  simp only [List.length_nil, Nat.add_zero] at gT
  obtain ⟨k, y, w', h', k1, k2, k3, k4, k5, k6, k7, g'⟩ := take_none (s := s) (T' - n) (v := 0#64) (p := 0#64) (d := 0#64) (st := 0#64) (tl := 0#64) (hd := 0#64) (rt := 0#64) (tr := 0) (c := 0) g (Nat.le_refl _) (by omega) (by omega)
  simp -dsimp only [go_sem, Nat.reduceEqDiff, Nat.reduceAdd, Nat.reduceSub, Nat.reduceMul, Nat.reduceLeDiff, Nat.reduceLT, Nat.reduceBEq, Int.reduceLT, Int.reduceLE, Int.reduceGT, Int.reduceGE, Int.reduceEq, Int.reduceNe, Int.reduceBEq, Int.reduceBNe, Int.reduceAdd, Int.reduceSub, Int.reduceMul, Int.reduceToNat, Int.reduceNeg, ↓reduceIte, ↓reduceDIte, e7, e8, hrr]
  refine CT_of (ctake_ev (r := ⟨0, s⟩) (by rw [AG_len]; omega)) ?_
  rintro _ _ ⟨u, u2, rfl, rfl⟩
  rw [if_pos hr, AG_app, AG_len]
  simp -dsimp only [go_sem, Nat.reduceEqDiff, Nat.reduceAdd, Nat.reduceSub, Nat.reduceMul, Nat.reduceLeDiff, Nat.reduceLT, Nat.reduceBEq, Int.reduceLT, Int.reduceLE, Int.reduceGT, Int.reduceGE, Int.reduceEq, Int.reduceNe, Int.reduceBEq, Int.reduceBNe, Int.reduceAdd, Int.reduceSub, Int.reduceMul, Int.reduceToNat, Int.reduceNeg, ↓reduceIte, ↓reduceDIte, e7, e8]
  refine CT_of (orun_ev (x := c0 ⟨0, s⟩ 1 0#64) (most := 90) c rfl hr g.len rfl k2 k3 (by omega) (by omega)) ?_
  rintro _ _ ⟨m', rfl, c', rfl⟩
  have ok' := c'.ok
  have mem := fun t => AG_mem (H := H) (s := s) ok' t
  have hlen := g'.len
  simp -dsimp only [go_sem, Nat.reduceEqDiff, Nat.reduceAdd, Nat.reduceSub, Nat.reduceMul, Nat.reduceLeDiff, Nat.reduceLT, Nat.reduceBEq, Int.reduceLT, Int.reduceLE, Int.reduceGT, Int.reduceGE, Int.reduceEq, Int.reduceNe, Int.reduceBEq, Int.reduceBNe, Int.reduceAdd, Int.reduceSub, Int.reduceMul, Int.reduceToNat, Int.reduceNeg, ↓reduceIte, ↓reduceDIte, e7, e8, k4, k5, hrr]
  refine CT_val (kept_ev (r := ⟨0, s⟩) (a := 0) (s := s) (mem _) c' hr rfl rfl (by omega)) ?_
  rw [g'.kp]
  simp -dsimp only [go_sem, Nat.reduceEqDiff, Nat.reduceAdd, Nat.reduceSub, Nat.reduceMul, Nat.reduceLeDiff, Nat.reduceLT, Nat.reduceBEq, Int.reduceLT, Int.reduceLE, Int.reduceGT, Int.reduceGE, Int.reduceEq, Int.reduceNe, Int.reduceBEq, Int.reduceBNe, Int.reduceAdd, Int.reduceSub, Int.reduceMul, Int.reduceToNat, Int.reduceNeg, ↓reduceIte, ↓reduceDIte, e7, e8, hrr]
  refine CT_val (closed_ev (r := ⟨0, s⟩) (a := 0) (mem _) c' hr rfl (by omega)) ?_
  rw [show 0 + 1 = 1 from rfl, g'.w1, tw_clo (by have := g'.few; omega)]
  simp -dsimp only [go_sem, Nat.reduceEqDiff, Nat.reduceAdd, Nat.reduceSub, Nat.reduceMul, Nat.reduceLeDiff, Nat.reduceLT, Nat.reduceBEq, Int.reduceLT, Int.reduceLE, Int.reduceGT, Int.reduceGE, Int.reduceEq, Int.reduceNe, Int.reduceBEq, Int.reduceBNe, Int.reduceAdd, Int.reduceSub, Int.reduceMul, Int.reduceToNat, Int.reduceNeg, ↓reduceIte, ↓reduceDIte, e8]
  refine CT_val (trap_c (mem _) c') ?_
  simp -dsimp only [go_sem, Nat.reduceEqDiff, Nat.reduceAdd, Nat.reduceSub, Nat.reduceMul, Nat.reduceLeDiff, Nat.reduceLT, Nat.reduceBEq, Int.reduceLT, Int.reduceLE, Int.reduceGT, Int.reduceGE, Int.reduceEq, Int.reduceNe, Int.reduceBEq, Int.reduceBNe, Int.reduceAdd, Int.reduceSub, Int.reduceMul, Int.reduceToNat, Int.reduceNeg, ↓reduceIte, ↓reduceDIte]
  refine CT_val (one_ev _ _) ?_
  simp -dsimp only [go_sem, Nat.reduceEqDiff, Nat.reduceAdd, Nat.reduceSub, Nat.reduceMul, Nat.reduceLeDiff, Nat.reduceLT, Nat.reduceBEq, Int.reduceLT, Int.reduceLE, Int.reduceGT, Int.reduceGE, Int.reduceEq, Int.reduceNe, Int.reduceBEq, Int.reduceBNe, Int.reduceAdd, Int.reduceSub, Int.reduceMul, Int.reduceToNat, Int.reduceNeg, ↓reduceIte, ↓reduceDIte]
  exact hQ _ _ rfl
structure DS where
  n : Nat
  m : MV
  w : List (BitVec 64)
  t : LHeap
set_option maxHeartbeats 1000000 in
theorem cdK_ev {T' : Nat} (hs : s = 1 ∨ s = 2 ∨ s = 4 ∨ s = 8) (c : Clean m w) (g : CSeq s 0 T' L true w) (hL : L.length = n) (hn : n ≤ 8) (hT : T' ≤ n + 3) (hl : Sl 1 H a (l.map w64)) (hLl : ∀ i, i < n → ∃ x, l[i]? = some x ∧ L[i]? = some (m24 x))
    (e1 : LK.look e 1 = .slice a l.length l.length) (e7 : LK.look e 7 = ptr H.length) (e8 : LK.look e 8 = ptr (H.length + 3)) (e10 : LK.look e 10 = i64 n)
    (hQ : ∀ e' H', LK.look e' 6 = .bool true → Q .ret e' H') : XW (callE T) H.length cdK e (AG H s m t) Q := by
  unfold cdK
  have hr := rightz hs
  have hrr : ∀ m t, lcells (AG H s m t) H.length 0 2 = some [i64 0, i64 s] := fun m t => AG_rr2
  simp -dsimp only [go_sem, Nat.reduceEqDiff, Nat.reduceAdd, Nat.reduceSub, Nat.reduceMul, Nat.reduceLeDiff, Nat.reduceLT, Nat.reduceBEq, Int.reduceLT, Int.reduceLE, Int.reduceGT, Int.reduceGE, Int.reduceEq, Int.reduceNe, Int.reduceBEq, Int.reduceBNe, Int.reduceAdd, Int.reduceSub, Int.reduceMul, Int.reduceToNat, Int.reduceNeg, ↓reduceIte, ↓reduceDIte]
  refine LT_of (fun q : DS => [(1, .slice a l.length l.length), (7, ptr H.length), (8, ptr (H.length + 3)), (10, i64 n), (18, i64 q.n)]) (fun q => AG H s q.m q.t) (fun q => q.n ≤ n ∧ Clean q.m q.w ∧ CSeq s q.n T' (L.drop q.n) true q.w) (fun q => n - q.n)
    ⟨0, m, w, t⟩ (by simp [restrict, LK.look, e1, e7, e8, e10]) rfl ⟨by simp, c, g⟩ ?_
  clear c g
  rintro ⟨k, m, w, t⟩ ⟨hk, c, g⟩
  simp only at hk c g ⊢
  by_cases c1 : k < n
  · have c1' : (k : Int) < n := by omega
    have k0 : 0 ≤ (k : Int) := by omega
    have w3 : IntKind.i64.wrap ((k : Int) + 1) = ((k + 1 : Nat) : Int) := by rw [wrap_i64] <;> omega
    obtain ⟨x, hx1, hx2⟩ := hLl k c1
    have hkl : k < l.length := (List.getElem?_eq_some_iff.1 hx1).1
    have hkl' : (k : Int) < l.length := by omega
    obtain ⟨ba, oa, rfl, _, gl⟩ := hl.all (by simp; omega)
    have gl := fun t => gl t k (w64 x) (by simp [hx1])
    have gk := fun m t => gl (rro ⟨0, s⟩ :: wrow m :: brow m :: mrow (H.length + 1) (H.length + 2) m :: t)
    have hd : L.drop k = m24 x :: L.drop (k + 1) := by
      rw [List.drop_eq_getElem_cons (by omega)]
      congr 1
      have := (List.getElem?_eq_some_iff.1 hx2).2
      exact this
    rw [hd] at g
    obtain ⟨y, w', r1, r2, r3, r4, g'⟩ := take_ok (v := 0#64) g
    simp -dsimp only [go_sem, Nat.reduceEqDiff, Nat.reduceAdd, Nat.reduceSub, Nat.reduceMul, Nat.reduceLeDiff, Nat.reduceLT, Nat.reduceBEq, Int.reduceLT, Int.reduceLE, Int.reduceGT, Int.reduceGE, Int.reduceEq, Int.reduceNe, Int.reduceBEq, Int.reduceBNe, Int.reduceAdd, Int.reduceSub, Int.reduceMul, Int.reduceToNat, Int.reduceNeg, ↓reduceIte, ↓reduceDIte, c1', hrr]
    refine CT_of (ctake_ev (r := ⟨0, s⟩) (by rw [AG_len]; omega)) ?_
    rintro _ _ ⟨u, u2, rfl, rfl⟩
    rw [if_pos hr, AG_app, AG_len]
    simp -dsimp only [go_sem, Nat.reduceEqDiff, Nat.reduceAdd, Nat.reduceSub, Nat.reduceMul, Nat.reduceLeDiff, Nat.reduceLT, Nat.reduceBEq, Int.reduceLT, Int.reduceLE, Int.reduceGT, Int.reduceGE, Int.reduceEq, Int.reduceNe, Int.reduceBEq, Int.reduceBNe, Int.reduceAdd, Int.reduceSub, Int.reduceMul, Int.reduceToNat, Int.reduceNeg, ↓reduceIte, ↓reduceDIte]
    refine CT_of (orun_ev (most := 60) c rfl hr g.len rfl r1 r2 (by omega) (by omega)) ?_
    rintro _ _ ⟨m', rfl, c', rfl⟩
    simp -dsimp only [go_sem, Nat.reduceEqDiff, Nat.reduceAdd, Nat.reduceSub, Nat.reduceMul, Nat.reduceLeDiff, Nat.reduceLT, Nat.reduceBEq, Int.reduceLT, Int.reduceLE, Int.reduceGT, Int.reduceGE, Int.reduceEq, Int.reduceNe, Int.reduceBEq, Int.reduceBNe, Int.reduceAdd, Int.reduceSub, Int.reduceMul, Int.reduceToNat, Int.reduceNeg, ↓reduceIte, ↓reduceDIte, r3, r4, gk, k0, hkl', w3]
    exact ⟨⟨k + 1, m', w', t ++ [u, u2, crw y]⟩, rfl, rfl, ⟨by simp only; omega, c', g'⟩, by simp only; omega⟩
  · have c1' : ¬ (k : Int) < n := by omega
    obtain rfl : k = n := by omega
    rw [List.drop_eq_nil_of_le (by omega)] at g
    simp -dsimp only [go_sem, Nat.reduceEqDiff, Nat.reduceAdd, Nat.reduceSub, Nat.reduceMul, Nat.reduceLeDiff, Nat.reduceLT, Nat.reduceBEq, Int.reduceLT, Int.reduceLE, Int.reduceGT, Int.reduceGE, Int.reduceEq, Int.reduceNe, Int.reduceBEq, Int.reduceBNe, Int.reduceAdd, Int.reduceSub, Int.reduceMul, Int.reduceToNat, Int.reduceNeg, ↓reduceIte, ↓reduceDIte, c1']
    exact cdE_ev hs c g hn hT rfl rfl hQ
set_option maxHeartbeats 1000000 in
theorem cdS_ev (hs : s = 1 ∨ s = 2 ∨ s = 4 ∨ s = 8) (c : Clean m w) (g : CSeq s 0 n L true w) (hL : L.length = n) (hn : n ≤ 8) (hl : Sl 1 H a (l.map w64)) (hLl : ∀ i, i < n → ∃ x, l[i]? = some x ∧ L[i]? = some (m24 x))
    (e1 : LK.look e 1 = .slice a l.length l.length) (e2 : LK.look e 2 = i64 more) (e7 : LK.look e 7 = ptr H.length) (e8 : LK.look e 8 = ptr (H.length + 3)) (e10 : LK.look e 10 = i64 n)
    (hQ : ∀ e' H', LK.look e' 6 = .bool true → Q .ret e' H') : XW (callE T) H.length cdS e (AG H s m t) Q := by
  unfold cdS
  have hr := rightz hs
  have hrr : ∀ m t, lcells (AG H s m t) H.length 0 2 = some [i64 0, i64 s] := fun m t => AG_rr2
  obtain ⟨d, hd, d0, d3⟩ := andK more 3 (by decide)
  have d3 : d ≤ 3 := d3
  simp -dsimp only [go_sem, Nat.reduceEqDiff, Nat.reduceAdd, Nat.reduceSub, Nat.reduceMul, Nat.reduceLeDiff, Nat.reduceLT, Nat.reduceBEq, Int.reduceLT, Int.reduceLE, Int.reduceGT, Int.reduceGE, Int.reduceEq, Int.reduceNe, Int.reduceBEq, Int.reduceBNe, Int.reduceAdd, Int.reduceSub, Int.reduceMul, Int.reduceToNat, Int.reduceNeg, ↓reduceIte, ↓reduceDIte]
  refine LT_of (fun q : DS => [(1, .slice a l.length l.length), (2, i64 more), (7, ptr H.length), (8, ptr (H.length + 3)), (10, i64 n), (14, i64 q.n)]) (fun q => AG H s q.m q.t) (fun q => (q.n : Int) ≤ d ∧ Clean q.m q.w ∧ CSeq s 0 (n + q.n) L true q.w) (fun q => 3 - q.n)
    ⟨0, m, w, t⟩ (by simp [restrict, LK.look, e1, e2, e7, e8, e10]) rfl ⟨by simpa using d0, c, g⟩ ?_
  clear c g
  rintro ⟨k, m, w, t⟩ ⟨hk, c, g⟩
  simp only at hk c g ⊢
  by_cases c1 : (k : Int) < d
  · have w3 : IntKind.i64.wrap ((k : Int) + 1) = ((k + 1 : Nat) : Int) := by rw [wrap_i64] <;> omega
    obtain ⟨y, w', r1, r2, r3, r4, g'⟩ := put_shut (v := 1#64) g (by omega)
    simp -dsimp only [go_sem, Nat.reduceEqDiff, Nat.reduceAdd, Nat.reduceSub, Nat.reduceMul, Nat.reduceLeDiff, Nat.reduceLT, Nat.reduceBEq, Int.reduceLT, Int.reduceLE, Int.reduceGT, Int.reduceGE, Int.reduceEq, Int.reduceNe, Int.reduceBEq, Int.reduceBNe, Int.reduceAdd, Int.reduceSub, Int.reduceMul, Int.reduceToNat, Int.reduceNeg, ↓reduceIte, ↓reduceDIte, c1, hd, hrr]
    refine CT_of (cput_ev (r := ⟨0, s⟩) (by rw [AG_len]; omega)) ?_
    rintro _ _ ⟨u, u2, rfl, rfl⟩
    rw [if_pos ⟨hr, rfl⟩, AG_app, AG_len]
    simp -dsimp only [go_sem, Nat.reduceEqDiff, Nat.reduceAdd, Nat.reduceSub, Nat.reduceMul, Nat.reduceLeDiff, Nat.reduceLT, Nat.reduceBEq, Int.reduceLT, Int.reduceLE, Int.reduceGT, Int.reduceGE, Int.reduceEq, Int.reduceNe, Int.reduceBEq, Int.reduceBNe, Int.reduceAdd, Int.reduceSub, Int.reduceMul, Int.reduceToNat, Int.reduceNeg, ↓reduceIte, ↓reduceDIte]
    refine CT_of (orun_ev (most := 3) c rfl hr g.len rfl r1 r2 (by omega) (by omega)) ?_
    rintro _ _ ⟨m', rfl, c', rfl⟩
    simp -dsimp only [go_sem, Nat.reduceEqDiff, Nat.reduceAdd, Nat.reduceSub, Nat.reduceMul, Nat.reduceLeDiff, Nat.reduceLT, Nat.reduceBEq, Int.reduceLT, Int.reduceLE, Int.reduceGT, Int.reduceGE, Int.reduceEq, Int.reduceNe, Int.reduceBEq, Int.reduceBNe, Int.reduceAdd, Int.reduceSub, Int.reduceMul, Int.reduceToNat, Int.reduceNeg, ↓reduceIte, ↓reduceDIte, r3, w3]
    exact ⟨⟨k + 1, m', w', t ++ [u, u2, crw y]⟩, rfl, rfl, ⟨by simp only; omega, c', g'⟩, by simp only; omega⟩
  · simp -dsimp only [go_sem, Nat.reduceEqDiff, Nat.reduceAdd, Nat.reduceSub, Nat.reduceMul, Nat.reduceLeDiff, Nat.reduceLT, Nat.reduceBEq, Int.reduceLT, Int.reduceLE, Int.reduceGT, Int.reduceGE, Int.reduceEq, Int.reduceNe, Int.reduceBEq, Int.reduceBNe, Int.reduceAdd, Int.reduceSub, Int.reduceMul, Int.reduceToNat, Int.reduceNeg, ↓reduceIte, ↓reduceDIte, c1, hd]
    exact cdK_ev hs c g hL hn (by omega) hl hLl rfl rfl rfl rfl hQ
theorem cdC_ev (hs : s = 1 ∨ s = 2 ∨ s = 4 ∨ s = 8) (c : Clean m w) (g : CSeq s 0 n L false w) (hL : L.length = n) (hn : n ≤ 8) (hl : Sl 1 H a (l.map w64)) (hLl : ∀ i, i < n → ∃ x, l[i]? = some x ∧ L[i]? = some (m24 x))
    (e1 : LK.look e 1 = .slice a l.length l.length) (e2 : LK.look e 2 = i64 more) (e7 : LK.look e 7 = ptr H.length) (e8 : LK.look e 8 = ptr (H.length + 3)) (e10 : LK.look e 10 = i64 n)
    (hQ : ∀ e' H', LK.look e' 6 = .bool true → Q .ret e' H') : XW (callE T) H.length cdC e (AG H s m t) Q := by
  unfold cdC
  have hr := rightz hs
  have hrr : ∀ m t, lcells (AG H s m t) H.length 0 2 = some [i64 0, i64 s] := fun m t => AG_rr2
  simp -dsimp only [go_sem, Nat.reduceEqDiff, Nat.reduceAdd, Nat.reduceSub, Nat.reduceMul, Nat.reduceLeDiff, Nat.reduceLT, Nat.reduceBEq, Int.reduceLT, Int.reduceLE, Int.reduceGT, Int.reduceGE, Int.reduceEq, Int.reduceNe, Int.reduceBEq, Int.reduceBNe, Int.reduceAdd, Int.reduceSub, Int.reduceMul, Int.reduceToNat, Int.reduceNeg, ↓reduceIte, ↓reduceDIte, e7, e8, hrr]
  refine CT_of (cclose_ev (r := ⟨0, s⟩) (by rw [AG_len]; omega)) ?_
  rintro _ _ ⟨u, u2, rfl, rfl⟩
  rw [if_pos hr, AG_app, AG_len]
  obtain ⟨y, w', r1, r2, r3, r4, g'⟩ := close_ok (v := 0#64) g
  simp -dsimp only [go_sem, Nat.reduceEqDiff, Nat.reduceAdd, Nat.reduceSub, Nat.reduceMul, Nat.reduceLeDiff, Nat.reduceLT, Nat.reduceBEq, Int.reduceLT, Int.reduceLE, Int.reduceGT, Int.reduceGE, Int.reduceEq, Int.reduceNe, Int.reduceBEq, Int.reduceBNe, Int.reduceAdd, Int.reduceSub, Int.reduceMul, Int.reduceToNat, Int.reduceNeg, ↓reduceIte, ↓reduceDIte]
  refine CT_of (orun_ev (most := 2) c rfl hr g.len rfl r1 r2 (by omega) (by omega)) ?_
  rintro _ _ ⟨m', rfl, c', rfl⟩
  simp -dsimp only [go_sem, Nat.reduceEqDiff, Nat.reduceAdd, Nat.reduceSub, Nat.reduceMul, Nat.reduceLeDiff, Nat.reduceLT, Nat.reduceBEq, Int.reduceLT, Int.reduceLE, Int.reduceGT, Int.reduceGE, Int.reduceEq, Int.reduceNe, Int.reduceBEq, Int.reduceBNe, Int.reduceAdd, Int.reduceSub, Int.reduceMul, Int.reduceToNat, Int.reduceNeg, ↓reduceIte, ↓reduceDIte]
  exact cdS_ev (more := more) hs c' g' hL hn hl hLl (by simp -dsimp only [go_sem, Nat.reduceEqDiff, Nat.reduceAdd, Nat.reduceSub, Nat.reduceMul, Nat.reduceLeDiff, Nat.reduceLT, Nat.reduceBEq, Int.reduceLT, Int.reduceLE, Int.reduceGT, Int.reduceGE, Int.reduceEq, Int.reduceNe, Int.reduceBEq, Int.reduceBNe, Int.reduceAdd, Int.reduceSub, Int.reduceMul, Int.reduceToNat, Int.reduceNeg, ↓reduceIte, ↓reduceDIte, e1]) (by simp -dsimp only [go_sem, Nat.reduceEqDiff, Nat.reduceAdd, Nat.reduceSub, Nat.reduceMul, Nat.reduceLeDiff, Nat.reduceLT, Nat.reduceBEq, Int.reduceLT, Int.reduceLE, Int.reduceGT, Int.reduceGE, Int.reduceEq, Int.reduceNe, Int.reduceBEq, Int.reduceBNe, Int.reduceAdd, Int.reduceSub, Int.reduceMul, Int.reduceToNat, Int.reduceNeg, ↓reduceIte, ↓reduceDIte, e2]) (by simp -dsimp only [go_sem, Nat.reduceEqDiff, Nat.reduceAdd, Nat.reduceSub, Nat.reduceMul, Nat.reduceLeDiff, Nat.reduceLT, Nat.reduceBEq, Int.reduceLT, Int.reduceLE, Int.reduceGT, Int.reduceGE, Int.reduceEq, Int.reduceNe, Int.reduceBEq, Int.reduceBNe, Int.reduceAdd, Int.reduceSub, Int.reduceMul, Int.reduceToNat, Int.reduceNeg, ↓reduceIte, ↓reduceDIte, e7]) (by simp -dsimp only [go_sem, Nat.reduceEqDiff, Nat.reduceAdd, Nat.reduceSub, Nat.reduceMul, Nat.reduceLeDiff, Nat.reduceLT, Nat.reduceBEq, Int.reduceLT, Int.reduceLE, Int.reduceGT, Int.reduceGE, Int.reduceEq, Int.reduceNe, Int.reduceBEq, Int.reduceBNe, Int.reduceAdd, Int.reduceSub, Int.reduceMul, Int.reduceToNat, Int.reduceNeg, ↓reduceIte, ↓reduceDIte, e8]) (by simp -dsimp only [go_sem, Nat.reduceEqDiff, Nat.reduceAdd, Nat.reduceSub, Nat.reduceMul, Nat.reduceLeDiff, Nat.reduceLT, Nat.reduceBEq, Int.reduceLT, Int.reduceLE, Int.reduceGT, Int.reduceGE, Int.reduceEq, Int.reduceNe, Int.reduceBEq, Int.reduceBNe, Int.reduceAdd, Int.reduceSub, Int.reduceMul, Int.reduceToNat, Int.reduceNeg, ↓reduceIte, ↓reduceDIte, e10]) hQ
end
set_option maxHeartbeats 2000000 in
theorem drains_ev {lim : Nat} {H : LHeap} {n more : Int} {a : Option Addr} {l : List (BitVec 64)} (hl : Sl 1 H a (l.map w64)) : callE T 4 lim [i64 n, .slice a l.length l.length, i64 more] H fun v H' => v = .bool true := by
  refine callE_pop (code := CD) rfl (by simp) rfl ?_
  unfold CD
  obtain ⟨s, hs, two⟩ := size_ev H.length H n
  have s1 : 1 ≤ s := by omega
  have s8 : s ≤ 8 := by omega
  have hr := rightz hs
  have w1 : IntKind.i64.wrap (2 * (s : Int)) = 2 * s := by rw [wrap_i64] <;> omega
  have w2 : IntKind.i64.wrap (4 + 2 * (s : Int)) = 4 + 2 * s := by rw [wrap_i64] <;> omega
  simp -dsimp only [go_sem, Nat.reduceEqDiff, Nat.reduceAdd, Nat.reduceSub, Nat.reduceMul, Nat.reduceLeDiff, Nat.reduceLT, Nat.reduceBEq, Int.reduceLT, Int.reduceLE, Int.reduceGT, Int.reduceGE, Int.reduceEq, Int.reduceNe, Int.reduceBEq, Int.reduceBNe, Int.reduceAdd, Int.reduceSub, Int.reduceMul, Int.reduceToNat, Int.reduceNeg, ↓reduceIte, ↓reduceDIte]
  refine CT_val two ?_
  simp -dsimp only [go_sem, Nat.reduceEqDiff, Nat.reduceAdd, Nat.reduceSub, Nat.reduceMul, Nat.reduceLeDiff, Nat.reduceLT, Nat.reduceBEq, Int.reduceLT, Int.reduceLE, Int.reduceGT, Int.reduceGE, Int.reduceEq, Int.reduceNe, Int.reduceBEq, Int.reduceBNe, Int.reduceAdd, Int.reduceSub, Int.reduceMul, Int.reduceToNat, Int.reduceNeg, ↓reduceIte, ↓reduceDIte, w1, w2]
  refine CT_of (new_ev (by simp)) ?_
  rintro _ _ h
  rw [if_neg (by omega)] at h
  obtain ⟨rfl, rfl⟩ := h
  have en : (4 + 2 * (s : Int)).toNat = 4 + 2 * s := by omega
  rw [en]
  have ok := MV.Ok.new (n := 4 + 2 * s) (by omega) (by omega)
  have cl0 := Clean.new (n := 4 + 2 * s) (by omega) (by omega)
  generalize MV.new (4 + 2 * s) = m0 at ok cl0 ⊢
  have mm := fun (m : MV) (ok : m.Ok (4 + 2 * s)) l => mem_at (H := H) (pre := [rro ⟨0, s⟩]) (t := l) ok
  simp only [List.length_cons, List.length_nil, Nat.zero_add, List.cons_append, List.nil_append, Nat.reduceAdd] at mm
  simp -dsimp only [go_sem, Nat.reduceEqDiff, Nat.reduceAdd, Nat.reduceSub, Nat.reduceMul, Nat.reduceLeDiff, Nat.reduceLT, Nat.reduceBEq, Int.reduceLT, Int.reduceLE, Int.reduceGT, Int.reduceGE, Int.reduceEq, Int.reduceNe, Int.reduceBEq, Int.reduceBNe, Int.reduceAdd, Int.reduceSub, Int.reduceMul, Int.reduceToNat, Int.reduceNeg, ↓reduceIte, ↓reduceDIte, Nat.add_assoc]
  refine CT_of (setup_ev (r := ⟨0, s⟩) (a := 0) (s := s) (mm _ ok _) cl0 hr rfl rfl (by omega)) ?_
  rintro _ _ ⟨m1, cl1, rfl, rfl⟩
  simp -dsimp only [go_sem, Nat.reduceEqDiff, Nat.reduceAdd, Nat.reduceSub, Nat.reduceMul, Nat.reduceLeDiff, Nat.reduceLT, Nat.reduceBEq, Int.reduceLT, Int.reduceLE, Int.reduceGT, Int.reduceGE, Int.reduceEq, Int.reduceNe, Int.reduceBEq, Int.reduceBNe, Int.reduceAdd, Int.reduceSub, Int.reduceMul, Int.reduceToNat, Int.reduceNeg, ↓reduceIte, ↓reduceDIte, memPut]
  have oks : ∀ {m : MV} {w : List (BitVec 64)}, Clean m w → w.length = 4 + 2 * s → m.Ok (4 + 2 * s) := fun c hw => by have := c.ok; rwa [hw] at this
  have rr2 : ∀ m t, lcells (AG H s m t) H.length 0 2 = some [i64 0, i64 s] := fun m t => lcells_of (AG_rr t) rfl
  have rr1 : ∀ m t, lget (AG H s m t) H.length 1 = some (i64 s) := fun m t => by rw [lget_at (AG_rr t)]; rfl
  refine LT_of (fun q : DS => [(1, .slice a l.length l.length), (2, i64 more), (7, ptr H.length), (8, ptr (H.length + 3)), (10, i64 q.n)]) (fun q => AG H s q.m q.t) (fun q => q.n ≤ l.length ∧ q.n ≤ s ∧ Clean q.m q.w ∧ CSeq s 0 q.n ((l.map m24).take q.n) false q.w) (fun q => s - q.n)
    ⟨0, m1, clay (4 + 2 * s) 0 s, []⟩ rfl rfl ⟨by simp, by simp, cl1, CSeq.zero s1 (by omega)⟩ ?_
  rintro ⟨k, m, w, t⟩ ⟨hk1, hk2, c, g⟩
  simp only at hk1 hk2 c g ⊢
  by_cases c1 : k < l.length ∧ k < s
  · obtain ⟨c1, c2⟩ := c1
    have c1' : (k : Int) < l.length := by omega
    have c2' : (k : Int) < s := by omega
    have k0 : 0 ≤ (k : Int) := by omega
    have w3 : IntKind.i64.wrap ((k : Int) + 1) = ((k + 1 : Nat) : Int) := by rw [wrap_i64] <;> omega
    obtain ⟨ba, oa, rfl, _, gl⟩ := hl.all (by simp; omega)
    have gl := fun t => gl t k (w64 l[k]) (by simp [c1])
    have gk := fun m t => gl (rro ⟨0, s⟩ :: wrow m :: brow m :: mrow (H.length + 1) (H.length + 2) m :: t)
    have hv := mask_lt l[k] 16777215#64
    have hv24 : (16777215#64).toNat = 16777215 := rfl
    obtain ⟨v1, v2⟩ := small_of (x := m24 l[k]) (by show (l[k] &&& 16777215#64).toNat < _; omega)
    obtain ⟨y, w', e1, e2, e3, e4, g'⟩ := put_ok (v := m24 l[k]) g (by simp; omega) (by omega) v2
    simp -dsimp only [go_sem, Nat.reduceEqDiff, Nat.reduceAdd, Nat.reduceSub, Nat.reduceMul, Nat.reduceLeDiff, Nat.reduceLT, Nat.reduceBEq, Int.reduceLT, Int.reduceLE, Int.reduceGT, Int.reduceGE, Int.reduceEq, Int.reduceNe, Int.reduceBEq, Int.reduceBNe, Int.reduceAdd, Int.reduceSub, Int.reduceMul, Int.reduceToNat, Int.reduceNeg, ↓reduceIte, ↓reduceDIte, c1', rr1, c2', rr2, gk, k0]
    refine CT_of (cput_ev (r := ⟨0, s⟩) (by rw [AG_len]; omega)) ?_
    rintro _ _ ⟨u, u2, rfl, rfl⟩
    rw [if_pos ⟨hr, v1⟩, AG_app, AG_len]
    simp -dsimp only [go_sem, Nat.reduceEqDiff, Nat.reduceAdd, Nat.reduceSub, Nat.reduceMul, Nat.reduceLeDiff, Nat.reduceLT, Nat.reduceBEq, Int.reduceLT, Int.reduceLE, Int.reduceGT, Int.reduceGE, Int.reduceEq, Int.reduceNe, Int.reduceBEq, Int.reduceBNe, Int.reduceAdd, Int.reduceSub, Int.reduceMul, Int.reduceToNat, Int.reduceNeg, ↓reduceIte, ↓reduceDIte]
    refine CT_of (orun_ev (most := 9) c rfl hr g.len rfl e1 e2 (by omega) (by omega)) ?_
    rintro _ _ ⟨m', rfl, c', rfl⟩
    simp -dsimp only [go_sem, Nat.reduceEqDiff, Nat.reduceAdd, Nat.reduceSub, Nat.reduceMul, Nat.reduceLeDiff, Nat.reduceLT, Nat.reduceBEq, Int.reduceLT, Int.reduceLE, Int.reduceGT, Int.reduceGE, Int.reduceEq, Int.reduceNe, Int.reduceBEq, Int.reduceBNe, Int.reduceAdd, Int.reduceSub, Int.reduceMul, Int.reduceToNat, Int.reduceNeg, ↓reduceIte, ↓reduceDIte, e3, w3]
    refine ⟨⟨k + 1, m', w', t ++ [u, u2, crw y]⟩, rfl, rfl, ⟨by simp only; omega, by simp only; omega, c', ?_⟩, by simp only; omega⟩
    rw [List.take_add_one, List.getElem?_map, List.getElem?_eq_getElem c1]
    exact g'
  · have hkn : k = min l.length s := by omega
    have hL : ((l.map m24).take k).length = k := by simp; omega
    have hgetL : ∀ i, i < k → ((l.map m24).take k)[i]? = l[i]?.map m24 := fun i hi => by rw [List.getElem?_take_of_lt hi, List.getElem?_map]
    have fin : ∀ e', LK.look e' 1 = .slice a l.length l.length → LK.look e' 2 = i64 more → LK.look e' 7 = ptr H.length → LK.look e' 8 = ptr (H.length + 3) → LK.look e' 10 = i64 k → XW (callE T) H.length cdC e' (AG H s m t) (endK [LRes.tmp 6] true H.length fun v H' => v = Value.bool true) :=
      fun e' e1 e2 e7 e8 e10 => cdC_ev hs c g hL (by omega) hl (fun i hi => ⟨l[i]'(by omega), List.getElem?_eq_getElem (by omega), by rw [hgetL i hi, List.getElem?_eq_getElem (by omega)]; rfl⟩) e1 e2 e7 e8 e10 (fun e' H' h => by simp -dsimp only [go_sem, Nat.reduceEqDiff, Nat.reduceAdd, Nat.reduceSub, Nat.reduceMul, Nat.reduceLeDiff, Nat.reduceLT, Nat.reduceBEq, Int.reduceLT, Int.reduceLE, Int.reduceGT, Int.reduceGE, Int.reduceEq, Int.reduceNe, Int.reduceBEq, Int.reduceBNe, Int.reduceAdd, Int.reduceSub, Int.reduceMul, Int.reduceToNat, Int.reduceNeg, ↓reduceIte, ↓reduceDIte, h])
    by_cases c1 : k < l.length
    · have c1' : (k : Int) < l.length := by omega
      have c2' : ¬ (k : Int) < s := by omega
      simp -dsimp only [go_sem, Nat.reduceEqDiff, Nat.reduceAdd, Nat.reduceSub, Nat.reduceMul, Nat.reduceLeDiff, Nat.reduceLT, Nat.reduceBEq, Int.reduceLT, Int.reduceLE, Int.reduceGT, Int.reduceGE, Int.reduceEq, Int.reduceNe, Int.reduceBEq, Int.reduceBNe, Int.reduceAdd, Int.reduceSub, Int.reduceMul, Int.reduceToNat, Int.reduceNeg, ↓reduceIte, ↓reduceDIte, c1', rr1, c2', rr2]
      exact fin _ rfl rfl rfl rfl rfl
    · have c1' : ¬ (k : Int) < l.length := by omega
      simp -dsimp only [go_sem, Nat.reduceEqDiff, Nat.reduceAdd, Nat.reduceSub, Nat.reduceMul, Nat.reduceLeDiff, Nat.reduceLT, Nat.reduceBEq, Int.reduceLT, Int.reduceLE, Int.reduceGT, Int.reduceGE, Int.reduceEq, Int.reduceNe, Int.reduceBEq, Int.reduceBNe, Int.reduceAdd, Int.reduceSub, Int.reduceMul, Int.reduceToNat, Int.reduceNeg, ↓reduceIte, ↓reduceDIte, c1', rr2]
      exact fin _ rfl rfl rfl rfl rfl
end Go.Proofs.Ytopjhhcncjleaaa
