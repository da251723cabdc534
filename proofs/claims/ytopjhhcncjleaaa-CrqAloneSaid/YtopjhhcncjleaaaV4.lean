/- The statement CrqNobody. -/
import Derived.Test.YtopjhhcncjleaaaV3
import Derived.Test.YtopjhhcncjleaaaM3
namespace Go.Proofs.Ytopjhhcncjleaaa
open Go Go.LK
set_option linter.unusedSimpArgs false
set_option linter.unusedVariables false
theorem and_pow {s : Int} (h0 : 1 ≤ s) (h1 : s ≤ 1024) : (IntKind.i64.wrap ((BitVec.ofInt IntKind.i64.bits s &&& BitVec.ofInt IntKind.i64.bits (s - 1)).toNat : Int) == 0) = pw s := by
  obtain ⟨k, rfl⟩ := Int.eq_ofNat_of_zero_le (show 0 ≤ s by omega)
  have e1 : ((k : Int) - 1) = ((k - 1 : Nat) : Int) := by omega
  have t1 : (BitVec.ofNat 64 k).toNat = k := by rw [BitVec.toNat_ofNat, Nat.mod_eq_of_lt]; omega
  have t2 : (BitVec.ofNat 64 (k - 1)).toNat = k - 1 := by rw [BitVec.toNat_ofNat, Nat.mod_eq_of_lt]; omega
  have hle : k &&& (k - 1) ≤ k := Nat.and_le_left
  have e2 : (BitVec.ofInt IntKind.i64.bits (k : Int) &&& BitVec.ofInt IntKind.i64.bits ((k : Int) - 1)).toNat = k &&& (k - 1) := by
    rw [e1, BitVec.ofInt_natCast, BitVec.ofInt_natCast, BitVec.toNat_and]
    show (BitVec.ofNat 64 k).toNat &&& (BitVec.ofNat 64 (k - 1)).toNat = _
    rw [t1, t2]
  rw [e2, wrap_i64 (by omega) (by omega), pw, Bool.eq_iff_iff, beq_iff_eq, decide_eq_true_eq, Int.toNat_natCast]
  omega
theorem v62 (v : BitVec 64) : v >>> 62 = 0#64 ↔ v < 4611686018427387904#64 := by
  rw [BitVec.lt_def]
  have e : (4611686018427387904#64).toNat = 4611686018427387904 := rfl
  rw [e]
  constructor
  · intro h
    have := congrArg BitVec.toNat h
    rw [BitVec.toNat_ushiftRight, Nat.shiftRight_eq_div_pow] at this
    simp at this
    omega
  · intro h
    apply BitVec.eq_of_toNat_eq
    rw [BitVec.toNat_ushiftRight, Nat.shiftRight_eq_div_pow]
    simp
    omega
section
variable {lim o b pw_ pb : Nat} {H : LHeap} {r : RV} {m : MV}
theorem setup_nil {v : Value} (h : NoMem H v) : callE T 11 lim [r.v, v] H fun v H' => v = i64 1 ∧ H' = H := by
  refine callE_pop rfl (by simp) rfl ?_
  simp -dsimp only [go_sem, Nat.reduceEqDiff, Nat.reduceAdd, Nat.reduceSub, Nat.reduceMul, Nat.reduceLeDiff, Nat.reduceLT, Nat.reduceBEq, Int.reduceLT, Int.reduceLE, Int.reduceGT, Int.reduceGE, Int.reduceEq, Int.reduceNe, Int.reduceBEq, Int.reduceBNe, Int.reduceAdd, Int.reduceSub, Int.reduceMul, Int.reduceToNat, Int.reduceNeg, ↓reduceIte, ↓reduceDIte]
  refine CT_val (len_no (h.app _)) ?_
  simp -dsimp only [go_sem, Nat.reduceEqDiff, Nat.reduceAdd, Nat.reduceSub, Nat.reduceMul, Nat.reduceLeDiff, Nat.reduceLT, Nat.reduceBEq, Int.reduceLT, Int.reduceLE, Int.reduceGT, Int.reduceGE, Int.reduceEq, Int.reduceNe, Int.reduceBEq, Int.reduceBNe, Int.reduceAdd, Int.reduceSub, Int.reduceMul, Int.reduceToNat, Int.reduceNeg, ↓reduceIte, ↓reduceDIte]
theorem setup_bad (h : MemAt H b pw_ pb m) (hr : r.right = false) : callE T 11 lim [r.v, ptr b] H fun v H' => v = i64 2 ∧ H' = H := by
  refine callE_pop rfl (by simp) rfl ?_
  have hpos : ((m.w.length : Int) == 0) = false := by rw [beq_eq_false_iff_ne]; have := h.pos; omega
  simp -dsimp only [go_sem, Nat.reduceEqDiff, Nat.reduceAdd, Nat.reduceSub, Nat.reduceMul, Nat.reduceLeDiff, Nat.reduceLT, Nat.reduceBEq, Int.reduceLT, Int.reduceLE, Int.reduceGT, Int.reduceGE, Int.reduceEq, Int.reduceNe, Int.reduceBEq, Int.reduceBNe, Int.reduceAdd, Int.reduceSub, Int.reduceMul, Int.reduceToNat, Int.reduceNeg, ↓reduceIte, ↓reduceDIte]
  refine CT_val (len_ev (h.app _)) ?_
  simp -dsimp only [go_sem, Nat.reduceEqDiff, Nat.reduceAdd, Nat.reduceSub, Nat.reduceMul, Nat.reduceLeDiff, Nat.reduceLT, Nat.reduceBEq, Int.reduceLT, Int.reduceLE, Int.reduceGT, Int.reduceGE, Int.reduceEq, Int.reduceNe, Int.reduceBEq, Int.reduceBNe, Int.reduceAdd, Int.reduceSub, Int.reduceMul, Int.reduceToNat, Int.reduceNeg, ↓reduceIte, ↓reduceDIte, hpos]
  refine CT_val right_ev ?_
  simp -dsimp only [go_sem, Nat.reduceEqDiff, Nat.reduceAdd, Nat.reduceSub, Nat.reduceMul, Nat.reduceLeDiff, Nat.reduceLT, Nat.reduceBEq, Int.reduceLT, Int.reduceLE, Int.reduceGT, Int.reduceGE, Int.reduceEq, Int.reduceNe, Int.reduceBEq, Int.reduceBNe, Int.reduceAdd, Int.reduceSub, Int.reduceMul, Int.reduceToNat, Int.reduceNeg, ↓reduceIte, ↓reduceDIte, hr]
theorem closed_bad {v : Value} (hr : r.right = false) : callE T 20 lim [r.v, v] H fun v H' => v = .bool true ∧ H' = H := by
  refine callE_pop rfl (by simp) rfl ?_
  simp -dsimp only [go_sem, Nat.reduceEqDiff, Nat.reduceAdd, Nat.reduceSub, Nat.reduceMul, Nat.reduceLeDiff, Nat.reduceLT, Nat.reduceBEq, Int.reduceLT, Int.reduceLE, Int.reduceGT, Int.reduceGE, Int.reduceEq, Int.reduceNe, Int.reduceBEq, Int.reduceBNe, Int.reduceAdd, Int.reduceSub, Int.reduceMul, Int.reduceToNat, Int.reduceNeg, ↓reduceIte, ↓reduceDIte]
  refine CT_val right_ev ?_
  simp -dsimp only [go_sem, Nat.reduceEqDiff, Nat.reduceAdd, Nat.reduceSub, Nat.reduceMul, Nat.reduceLeDiff, Nat.reduceLT, Nat.reduceBEq, Int.reduceLT, Int.reduceLE, Int.reduceGT, Int.reduceGE, Int.reduceEq, Int.reduceNe, Int.reduceBEq, Int.reduceBNe, Int.reduceAdd, Int.reduceSub, Int.reduceMul, Int.reduceToNat, Int.reduceNeg, ↓reduceIte, ↓reduceDIte, hr]
theorem closed_nil {v : Value} (h : NoMem H v) (hr : r.right = true) : callE T 20 lim [r.v, v] H fun v H' => v = .bool true ∧ H' = H := by
  refine callE_pop rfl (by simp) rfl ?_
  obtain ⟨a0, a1, a2, s0, s1⟩ := RV.right_of hr
  have w1 : IntKind.i64.wrap (r.a + 1) = r.a + 1 := by rw [wrap_i64] <;> omega
  simp -dsimp only [go_sem, Nat.reduceEqDiff, Nat.reduceAdd, Nat.reduceSub, Nat.reduceMul, Nat.reduceLeDiff, Nat.reduceLT, Nat.reduceBEq, Int.reduceLT, Int.reduceLE, Int.reduceGT, Int.reduceGE, Int.reduceEq, Int.reduceNe, Int.reduceBEq, Int.reduceBNe, Int.reduceAdd, Int.reduceSub, Int.reduceMul, Int.reduceToNat, Int.reduceNeg, ↓reduceIte, ↓reduceDIte]
  refine CT_val right_ev ?_
  simp -dsimp only [go_sem, Nat.reduceEqDiff, Nat.reduceAdd, Nat.reduceSub, Nat.reduceMul, Nat.reduceLeDiff, Nat.reduceLT, Nat.reduceBEq, Int.reduceLT, Int.reduceLE, Int.reduceGT, Int.reduceGE, Int.reduceEq, Int.reduceNe, Int.reduceBEq, Int.reduceBNe, Int.reduceAdd, Int.reduceSub, Int.reduceMul, Int.reduceToNat, Int.reduceNeg, ↓reduceIte, ↓reduceDIte, hr, w1]
  refine CT_val (peek_no (h.app _)) ?_
  simp -dsimp only [go_sem, Nat.reduceEqDiff, Nat.reduceAdd, Nat.reduceSub, Nat.reduceMul, Nat.reduceLeDiff, Nat.reduceLT, Nat.reduceBEq, Int.reduceLT, Int.reduceLE, Int.reduceGT, Int.reduceGE, Int.reduceEq, Int.reduceNe, Int.reduceBEq, Int.reduceBNe, Int.reduceAdd, Int.reduceSub, Int.reduceMul, Int.reduceToNat, Int.reduceNeg, ↓reduceIte, ↓reduceDIte]
theorem kept_bad {v : Value} (hr : r.right = false) : callE T 19 lim [r.v, v] H fun v H' => v = i64 0 ∧ H' = H := by
  refine callE_pop rfl (by simp) rfl ?_
  have q0 : Int.tdiv 0 2 = 0 := by decide
  simp -dsimp only [go_sem, Nat.reduceEqDiff, Nat.reduceAdd, Nat.reduceSub, Nat.reduceMul, Nat.reduceLeDiff, Nat.reduceLT, Nat.reduceBEq, Int.reduceLT, Int.reduceLE, Int.reduceGT, Int.reduceGE, Int.reduceEq, Int.reduceNe, Int.reduceBEq, Int.reduceBNe, Int.reduceAdd, Int.reduceSub, Int.reduceMul, Int.reduceToNat, Int.reduceNeg, ↓reduceIte, ↓reduceDIte]
  refine CT_val words_ev ?_
  rw [if_neg (by simp [hr])]
  simp -dsimp only [go_sem, Nat.reduceEqDiff, Nat.reduceAdd, Nat.reduceSub, Nat.reduceMul, Nat.reduceLeDiff, Nat.reduceLT, Nat.reduceBEq, Int.reduceLT, Int.reduceLE, Int.reduceGT, Int.reduceGE, Int.reduceEq, Int.reduceNe, Int.reduceBEq, Int.reduceBNe, Int.reduceAdd, Int.reduceSub, Int.reduceMul, Int.reduceToNat, Int.reduceNeg, ↓reduceIte, ↓reduceDIte, q0]
  refine LT_of (fun _ : Unit => [(1, v), (2, ptr H.length), (5, i64 0), (11, i64 0), (12, i64 0)]) (fun _ => H ++ [.row false 0 [i64 r.a, i64 r.s]]) (fun _ => True) (fun _ => 0) () rfl rfl trivial ?_
  intro _ _
  simp -dsimp only [go_sem, Nat.reduceEqDiff, Nat.reduceAdd, Nat.reduceSub, Nat.reduceMul, Nat.reduceLeDiff, Nat.reduceLT, Nat.reduceBEq, Int.reduceLT, Int.reduceLE, Int.reduceGT, Int.reduceGE, Int.reduceEq, Int.reduceNe, Int.reduceBEq, Int.reduceBNe, Int.reduceAdd, Int.reduceSub, Int.reduceMul, Int.reduceToNat, Int.reduceNeg, ↓reduceIte, ↓reduceDIte]
end
set_option maxRecDepth 100000 in
def nbP : LCode :=
  (.seq (.steps [
    .act (some 103) (.op (.read (.loadN 2 (.tmp 2)))) none,
    .act (some 104) (.op (.pure (.move (.tmp 1)))) none,
    .act (some 106) (.op (.read (.loadN 2 (.tmp 2)))) none,
    .act (some 105) (.call (.func 23) [(.tmp 103), (.tmp 104)]) none,
    .again 106 (.loadN 2 (.tmp 2)) none,
    .act (some 107) (.call (.func 25) [(.tmp 106)]) none,
    .act (some 13) (.op (.pure (.move (.tmp 105)))) none,
    .act (some 14) (.op (.pure (.move (.tmp 107)))) none])
  (.seq (.steps [
    .act (some 108) (.op (.pure (.move (.tmp 12)))) none,
    .act (some 109) (.op (.pure (.move (.tmp 108)))) none,
    .act (some 110) (.op (.pure (.move (.tmp 1)))) (some (109, true)),
    .act (some 111) (.op (.pure (.bin .lss (.tmp 110) (.const (w64 4611686018427387904#64))))) (some (109, true)),
    .act (some 112) (.op (.pure (.pick (.tmp 109) (.tmp 111) (.const (.bool false))))) none,
    .act (some 15) (.op (.pure (.move (.tmp 112)))) none])
  (.seq (.steps [
    .act (some 114) (.op (.pure (.move (.tmp 13)))) none,
    .act (some 115) (.call (.func 18) [(.tmp 114)]) none,
    .act (some 113) (.op (.pure (.move (.tmp 115)))) none,
    .act (some 116) (.op (.pure (.extract (.tmp 113) 0))) none,
    .act (some 117) (.op (.pure (.extract (.tmp 113) 1))) none,
    .act (some 16) (.op (.pure (.move (.tmp 116)))) none,
    .act (some 17) (.op (.pure (.move (.tmp 117)))) none])
  (.seq (.steps [
    .act (some 119) (.op (.pure (.move (.tmp 14)))) none,
    .act (some 120) (.call (.func 18) [(.tmp 119)]) none,
    .act (some 118) (.op (.pure (.move (.tmp 120)))) none,
    .act (some 121) (.op (.pure (.extract (.tmp 118) 0))) none,
    .act (some 122) (.op (.pure (.extract (.tmp 118) 1))) none,
    .act (some 18) (.op (.pure (.move (.tmp 121)))) none,
    .act (some 19) (.op (.pure (.move (.tmp 122)))) none])
  (.seq (.seq (.steps [
    .act (some 123) (.op (.read (.loadN 2 (.tmp 2)))) none,
    .act (some 124) (.call (.func 29) [(.tmp 123)]) none,
    .act (some 125) (.op (.pure (.move (.tmp 12)))) none,
    .act (some 126) (.op (.pure (.eqB true (.tmp 124) (.tmp 125)))) none,
    .act (some 127) (.op (.pure (.move (.tmp 126)))) none,
    .act (some 128) (.op (.pure (.move (.tmp 13)))) (some (127, false)),
    .act (some 129) (.call (.func 27) [(.tmp 128)]) (some (127, false)),
    .act (some 130) (.op (.pure (.move (.tmp 15)))) (some (127, false)),
    .act (some 131) (.op (.pure (.eqB false (.tmp 129) (.tmp 130)))) (some (127, false)),
    .act (some 132) (.op (.pure (.pick (.tmp 127) (.const (.bool true)) (.tmp 131)))) none,
    .act (some 133) (.op (.pure (.move (.tmp 132)))) none,
    .act (some 134) (.op (.pure (.move (.tmp 16)))) (some (133, false)),
    .act (some 135) (.op (.pure (.bin .eql (.tmp 134) (.const (.int .i64 2))))) (some (133, false)),
    .act (some 136) (.op (.pure (.move (.tmp 15)))) (some (133, false)),
    .act (some 137) (.op (.pure (.eqB false (.tmp 135) (.tmp 136)))) (some (133, false)),
    .act (some 138) (.op (.pure (.pick (.tmp 133) (.const (.bool true)) (.tmp 137)))) none,
    .act (some 139) (.op (.pure (.move (.tmp 138)))) none,
    .act (some 140) (.op (.pure (.move (.tmp 14)))) (some (139, false)),
    .act (some 141) (.call (.func 27) [(.tmp 140)]) (some (139, false)),
    .act (some 142) (.op (.pure (.move (.tmp 12)))) (some (139, false)),
    .act (some 143) (.op (.pure (.eqB false (.tmp 141) (.tmp 142)))) (some (139, false)),
    .act (some 144) (.op (.pure (.pick (.tmp 139) (.const (.bool true)) (.tmp 143)))) none,
    .act (some 145) (.op (.pure (.move (.tmp 144)))) none,
    .act (some 146) (.op (.pure (.move (.tmp 18)))) (some (145, false)),
    .act (some 147) (.op (.pure (.bin .eql (.tmp 146) (.const (.int .i64 2))))) (some (145, false)),
    .act (some 148) (.op (.pure (.move (.tmp 12)))) (some (145, false)),
    .act (some 149) (.op (.pure (.eqB false (.tmp 147) (.tmp 148)))) (some (145, false)),
    .act (some 150) (.op (.pure (.pick (.tmp 145) (.const (.bool true)) (.tmp 149)))) none,
    .act (some 151) (.op (.pure (.move (.tmp 150)))) none,
    .act (some 152) (.op (.read (.loadN 2 (.tmp 2)))) (some (151, false)),
    .act (some 153) (.call (.func 30) [(.tmp 152)]) (some (151, false)),
    .act (some 154) (.op (.pure (.bin .geq (.tmp 153) (.const (.int .i64 0))))) (some (151, false)),
    .act (some 155) (.op (.pure (.move (.tmp 12)))) (some (151, false)),
    .act (some 156) (.op (.pure (.eqB true (.tmp 154) (.tmp 155)))) (some (151, false)),
    .act (some 157) (.op (.pure (.pick (.tmp 151) (.const (.bool true)) (.tmp 156)))) none])
  (.cond (.tmp 157)
   (.seq (.steps [
     .act (some 4) (.op (.pure (.move (.const (.bool false))))) none])
   .ret)
   .skip))
  (.seq (.seq (.steps [
    .act (some 158) (.op (.pure (.move (.tmp 12)))) none,
    .act (some 159) (.op (.pure (.not (.tmp 158)))) none])
  (.cond (.tmp 159)
   (.seq (.steps [
     .act (some 160) (.op (.read (.loadN 2 (.tmp 2)))) none,
     .act (some 161) (.op (.pure (.move (.tmp 5)))) none,
     .act (some 162) (.call (.func 11) [(.tmp 160), (.tmp 161)]) none,
     .act (some 163) (.op (.pure (.bin .eql (.tmp 162) (.const (.int .i64 2))))) none,
     .act (some 164) (.op (.pure (.move (.tmp 163)))) none,
     .act (some 165) (.op (.pure (.move (.tmp 14)))) (some (164, true)),
     .act (some 166) (.op (.pure (.move (.tmp 5)))) (some (164, true)),
     .act (some 167) (.call (.func 15) [(.tmp 165), (.tmp 166)]) (some (164, true)),
     .act (some 168) (.op (.pure (.pick (.tmp 164) (.tmp 167) (.const (.bool false))))) none,
     .act (some 169) (.op (.pure (.move (.tmp 168)))) none,
     .act (some 170) (.op (.pure (.move (.tmp 5)))) (some (169, true)),
     .act (some 171) (.call (.func 28) [(.tmp 170)]) (some (169, true)),
     .act (some 172) (.op (.pure (.bin .eql (.tmp 171) (.const (.int .i64 0))))) (some (169, true)),
     .act (some 173) (.op (.pure (.pick (.tmp 169) (.tmp 172) (.const (.bool false))))) none,
     .act (some 174) (.op (.pure (.move (.tmp 173)))) none,
     .act (some 175) (.op (.read (.loadN 2 (.tmp 2)))) (some (174, true)),
     .act (some 176) (.op (.pure (.move (.tmp 5)))) (some (174, true)),
     .act (some 177) (.call (.func 20) [(.tmp 175), (.tmp 176)]) (some (174, true)),
     .act (some 178) (.op (.pure (.pick (.tmp 174) (.tmp 177) (.const (.bool false))))) none,
     .act (some 179) (.op (.pure (.move (.tmp 178)))) none,
     .act (some 180) (.op (.read (.loadN 2 (.tmp 2)))) (some (179, true)),
     .act (some 181) (.op (.pure (.move (.tmp 5)))) (some (179, true)),
     .act (some 182) (.call (.func 19) [(.tmp 180), (.tmp 181)]) (some (179, true)),
     .act (some 183) (.op (.pure (.bin .eql (.tmp 182) (.const (.int .i64 0))))) (some (179, true)),
     .act (some 184) (.op (.pure (.pick (.tmp 179) (.tmp 183) (.const (.bool false))))) none,
     .act (some 185) (.op (.pure (.move (.tmp 184)))) none,
     .act (some 186) (.call (.func 21) []) (some (185, true)),
     .act (some 187) (.op (.pure (.pick (.tmp 185) (.tmp 186) (.const (.bool false))))) none,
     .act (some 4) (.op (.pure (.move (.tmp 187)))) none])
   .ret)
   .skip))
  (.seq (.steps [
    .act (some 188) (.op (.read (.loadN 2 (.tmp 2)))) none,
    .act (some 189) (.call (.func 11) [(.tmp 188), (.const (.pointer none))]) none,
    .act (some 190) (.op (.pure (.bin .eql (.tmp 189) (.const (.int .i64 1))))) none,
    .act (some 191) (.op (.pure (.move (.tmp 190)))) none,
    .act (some 192) (.op (.pure (.move (.tmp 14)))) (some (191, true)),
    .act (some 193) (.call (.func 15) [(.tmp 192), (.const (.pointer none))]) (some (191, true)),
    .act (some 194) (.op (.pure (.not (.tmp 193)))) (some (191, true)),
    .act (some 195) (.op (.pure (.pick (.tmp 191) (.tmp 194) (.const (.bool false))))) none,
    .act (some 196) (.op (.pure (.move (.tmp 195)))) none,
    .act (some 197) (.op (.pure (.move (.tmp 14)))) (some (196, true)),
    .act (some 198) (.call (.func 16) [(.tmp 197)]) (some (196, true)),
    .act (some 199) (.op (.pure (.bin .eql (.tmp 198) (.const (.int .i64 0))))) (some (196, true)),
    .act (some 200) (.op (.pure (.pick (.tmp 196) (.tmp 199) (.const (.bool false))))) none,
    .act (some 201) (.op (.pure (.move (.tmp 200)))) none,
    .act (some 202) (.op (.read (.loadN 2 (.tmp 2)))) (some (201, true)),
    .act (some 203) (.call (.func 20) [(.tmp 202), (.const (.pointer none))]) (some (201, true)),
    .act (some 204) (.op (.pure (.pick (.tmp 201) (.tmp 203) (.const (.bool false))))) none,
    .act (some 205) (.op (.pure (.move (.tmp 204)))) none,
    .act (some 206) (.call (.func 21) []) (some (205, true)),
    .act (some 207) (.op (.pure (.pick (.tmp 205) (.tmp 206) (.const (.bool false))))) none,
    .act (some 4) (.op (.pure (.move (.tmp 207)))) none])
  .ret)))))))
def nbR : LCode :=
  (.seq (.steps [
    .act (some 70) (.op (.pure (.fieldAddr 0 (.tmp 2)))) none,
    .act (some 71) (.op (.read (.load1 (.tmp 70)))) none,
    .act (some 72) (.op (.pure (.bin .geq (.tmp 71) (.const (.int .i64 0))))) none,
    .act (some 73) (.op (.pure (.move (.tmp 72)))) none,
    .act (some 74) (.op (.pure (.fieldAddr 0 (.tmp 2)))) (some (73, true)),
    .act (some 75) (.op (.read (.load1 (.tmp 74)))) (some (73, true)),
    .act (some 76) (.op (.pure (.bin .leq (.tmp 75) (.const (.int .i64 65536))))) (some (73, true)),
    .act (some 77) (.op (.pure (.pick (.tmp 73) (.tmp 76) (.const (.bool false))))) none,
    .act (some 78) (.op (.pure (.move (.tmp 77)))) none,
    .act (some 79) (.op (.pure (.fieldAddr 0 (.tmp 2)))) (some (78, true)),
    .act (some 80) (.op (.read (.load1 (.tmp 79)))) (some (78, true)),
    .act (some 81) (.op (.pure (.bin .rem (.tmp 80) (.const (.int .i64 2))))) (some (78, true)),
    .act (some 82) (.op (.pure (.bin .eql (.tmp 81) (.const (.int .i64 0))))) (some (78, true)),
    .act (some 83) (.op (.pure (.pick (.tmp 78) (.tmp 82) (.const (.bool false))))) none,
    .act (some 84) (.op (.pure (.move (.tmp 83)))) none,
    .act (some 85) (.op (.pure (.fieldAddr 1 (.tmp 2)))) (some (84, true)),
    .act (some 86) (.op (.read (.load1 (.tmp 85)))) (some (84, true)),
    .act (some 87) (.op (.pure (.bin .geq (.tmp 86) (.const (.int .i64 1))))) (some (84, true)),
    .act (some 88) (.op (.pure (.pick (.tmp 84) (.tmp 87) (.const (.bool false))))) none,
    .act (some 89) (.op (.pure (.move (.tmp 88)))) none,
    .act (some 90) (.op (.pure (.fieldAddr 1 (.tmp 2)))) (some (89, true)),
    .act (some 91) (.op (.read (.load1 (.tmp 90)))) (some (89, true)),
    .act (some 92) (.op (.pure (.bin .leq (.tmp 91) (.const (.int .i64 1024))))) (some (89, true)),
    .act (some 93) (.op (.pure (.pick (.tmp 89) (.tmp 92) (.const (.bool false))))) none,
    .act (some 94) (.op (.pure (.move (.tmp 93)))) none,
    .act (some 95) (.op (.pure (.fieldAddr 1 (.tmp 2)))) (some (94, true)),
    .act (some 96) (.op (.read (.load1 (.tmp 95)))) (some (94, true)),
    .act (some 97) (.op (.pure (.fieldAddr 1 (.tmp 2)))) (some (94, true)),
    .act (some 98) (.op (.read (.load1 (.tmp 97)))) (some (94, true)),
    .act (some 99) (.op (.pure (.bin .sub (.tmp 98) (.const (.int .i64 1))))) (some (94, true)),
    .act (some 100) (.op (.pure (.bin .and (.tmp 96) (.tmp 99)))) (some (94, true)),
    .act (some 101) (.op (.pure (.bin .eql (.tmp 100) (.const (.int .i64 0))))) (some (94, true)),
    .act (some 102) (.op (.pure (.pick (.tmp 94) (.tmp 101) (.const (.bool false))))) none,
    .act (some 12) (.op (.pure (.move (.tmp 102)))) none])
  nbP)
def CN : LCode :=
  (.seq (.steps [
    .act (some 2) (.op (.new (.box (.tmp 0)))) none,
    .act (some 4) (.op (.pure (.move (.const (.bool false))))) none])
  (.seq (.steps [
    .act (some 21) (.call (.func 9) [(.const (.int .i64 8))]) none,
    .act (some 20) (.op (.pure (.move (.tmp 21)))) none,
    .act (some 22) (.op (.pure (.extract (.tmp 20) 0))) none,
    .act (some 23) (.op (.pure (.extract (.tmp 20) 1))) none,
    .act (some 5) (.op (.pure (.move (.tmp 22)))) none,
    .act (some 6) (.op (.pure (.move (.tmp 23)))) none])
  (.seq (.seq (.steps [
    .act (some 24) (.op (.pure (.move (.tmp 6)))) none,
    .act (some 25) (.op (.pure (.bin .neq (.tmp 24) (.const (.int .i64 0))))) none])
  (.cond (.tmp 25)
   (.seq (.steps [
     .act (some 4) (.op (.pure (.move (.const (.bool false))))) none])
   .ret)
   .skip))
  (.seq (.steps [
    .act (some 7) (.op (.pure (.move (.const (.pointer none))))) none])
  (.seq (.steps [
    .act (some 27) (.op (.pure (.move (.tmp 7)))) none,
    .act (some 28) (.call (.func 18) [(.tmp 27)]) none,
    .act (some 26) (.op (.pure (.move (.tmp 28)))) none,
    .act (some 29) (.op (.pure (.extract (.tmp 26) 0))) none,
    .act (some 30) (.op (.pure (.extract (.tmp 26) 1))) none,
    .act (some 8) (.op (.pure (.move (.tmp 29)))) none,
    .act (some 9) (.op (.pure (.move (.tmp 30)))) none])
  (.seq (.steps [
    .act (some 32) (.op (.pure (.build [(.bool false), (.int .i64 0), (.int .i64 0), (.int .i64 0), (w64 0#64), (.int .i64 0), (w64 0#64), (w64 0#64), (w64 0#64), (w64 0#64), (w64 0#64), (.int .i64 0), (.int .i64 0), (w64 0#64)] []))) none,
    .act (some 33) (.op (.new (.box (.tmp 32)))) none,
    .act (some 34) (.call (.func 18) [(.tmp 33)]) none,
    .act (some 31) (.op (.pure (.move (.tmp 34)))) none,
    .act (some 35) (.op (.pure (.extract (.tmp 31) 0))) none,
    .act (some 36) (.op (.pure (.extract (.tmp 31) 1))) none,
    .act (some 10) (.op (.pure (.move (.tmp 35)))) none,
    .act (some 11) (.op (.pure (.move (.tmp 36)))) none])
  (.seq (.seq (.steps [
    .act (some 37) (.op (.pure (.move (.tmp 8)))) none,
    .act (some 38) (.op (.pure (.bin .neq (.tmp 37) (.const (.int .i64 1))))) none,
    .act (some 39) (.op (.pure (.move (.tmp 38)))) none,
    .act (some 40) (.op (.pure (.move (.tmp 10)))) (some (39, false)),
    .act (some 41) (.op (.pure (.bin .neq (.tmp 40) (.const (.int .i64 1))))) (some (39, false)),
    .act (some 42) (.op (.pure (.pick (.tmp 39) (.const (.bool true)) (.tmp 41)))) none,
    .act (some 43) (.op (.pure (.move (.tmp 42)))) none,
    .act (some 44) (.op (.pure (.move (.tmp 9)))) (some (43, false)),
    .act (some 45) (.op (.pure (.move (.tmp 11)))) (some (43, false)),
    .act (some 46) (.op (.pure (.bin .add (.tmp 44) (.tmp 45)))) (some (43, false)),
    .act (some 47) (.op (.pure (.bin .neq (.tmp 46) (.const (w64 0#64))))) (some (43, false)),
    .act (some 48) (.op (.pure (.pick (.tmp 43) (.const (.bool true)) (.tmp 47)))) none,
    .act (some 49) (.op (.pure (.move (.tmp 48)))) none,
    .act (some 50) (.op (.pure (.move (.tmp 7)))) (some (49, false)),
    .act (some 51) (.op (.pure (.move (.tmp 5)))) (some (49, false)),
    .act (some 52) (.call (.func 15) [(.tmp 50), (.tmp 51)]) (some (49, false)),
    .act (some 53) (.op (.pure (.not (.tmp 52)))) (some (49, false)),
    .act (some 54) (.op (.pure (.pick (.tmp 49) (.const (.bool true)) (.tmp 53)))) none,
    .act (some 55) (.op (.pure (.move (.tmp 54)))) none,
    .act (some 56) (.op (.pure (.move (.tmp 7)))) (some (55, false)),
    .act (some 57) (.call (.func 27) [(.tmp 56)]) (some (55, false)),
    .act (some 58) (.op (.pure (.not (.tmp 57)))) (some (55, false)),
    .act (some 59) (.op (.pure (.pick (.tmp 55) (.const (.bool true)) (.tmp 58)))) none,
    .act (some 60) (.op (.pure (.move (.tmp 59)))) none,
    .act (some 61) (.op (.pure (.move (.tmp 7)))) (some (60, false)),
    .act (some 62) (.call (.func 16) [(.tmp 61)]) (some (60, false)),
    .act (some 63) (.op (.pure (.bin .neq (.tmp 62) (.const (.int .i64 9))))) (some (60, false)),
    .act (some 64) (.op (.pure (.pick (.tmp 60) (.const (.bool true)) (.tmp 63)))) none,
    .act (some 65) (.op (.pure (.move (.tmp 64)))) none,
    .act (some 66) (.op (.pure (.move (.tmp 5)))) (some (65, false)),
    .act (some 67) (.call (.func 28) [(.tmp 66)]) (some (65, false)),
    .act (some 68) (.op (.pure (.bin .neq (.tmp 67) (.const (.int .i64 0))))) (some (65, false)),
    .act (some 69) (.op (.pure (.pick (.tmp 65) (.const (.bool true)) (.tmp 68)))) none])
  (.cond (.tmp 69)
   (.seq (.steps [
     .act (some 4) (.op (.pure (.move (.const (.bool false))))) none])
   .ret)
   .skip))
  nbR)))))))

abbrev zop : LObj := .row false 0 [.bool false, i64 0, i64 0, i64 0, w64 0#64, i64 0, w64 0#64, w64 0#64, w64 0#64, w64 0#64, w64 0#64, i64 0, i64 0, w64 0#64]
abbrev rro (r : RV) : LObj := .row false 0 [i64 r.a, i64 r.s]
set_option maxHeartbeats 1000000 in
theorem nbP_ev {H : LHeap} {r : RV} {v : BitVec 64} {m : MV} {e : Env} {Q : LExit → Env → LHeap → Prop} (ok : m.Ok 8) (st : m.sum 6 = 0)
    (e1 : LK.look e 1 = w64 v) (e2 : LK.look e 2 = ptr H.length) (e5 : LK.look e 5 = ptr (H.length + 3)) (e12 : LK.look e 12 = .bool r.right)
    (hQ : ∀ e' H', LK.look e' 4 = .bool true → Q .ret e' H') :
    XW (callE T) H.length nbP e (H ++ [rro r, wrow m, brow m, mrow (H.length + 1) (H.length + 2) m, zop]) Q := by
  have b1 : (true == true) = true := rfl
  have b2 : (false == false) = true := rfl
  have b3 : (true == false) = false := rfl
  have b4 : (false == true) = false := rfl
  have mm := fun l => mem_at (H := H) (pre := [rro r]) (t := l) ok
  simp only [List.length_cons, List.length_nil, Nat.zero_add, List.cons_append, List.nil_append, Nat.reduceAdd] at mm
  have c09 : ((0 : Int) == 9) = false := by decide
  unfold nbP
  simp -dsimp only [go_sem, Nat.reduceEqDiff, Nat.reduceAdd, Nat.reduceSub, Nat.reduceMul, Nat.reduceLeDiff, Nat.reduceLT, Nat.reduceBEq, Int.reduceLT, Int.reduceLE, Int.reduceGT, Int.reduceGE, Int.reduceEq, Int.reduceNe, Int.reduceBEq, Int.reduceBNe, Int.reduceAdd, Int.reduceSub, Int.reduceMul, Int.reduceToNat, Int.reduceNeg, ↓reduceIte, ↓reduceDIte, e1, e2]
  refine CT_of (cput_ev (by simp)) ?_
  rintro _ _ ⟨u1, u2, rfl, rfl⟩
  simp -dsimp only [go_sem, Nat.reduceEqDiff, Nat.reduceAdd, Nat.reduceSub, Nat.reduceMul, Nat.reduceLeDiff, Nat.reduceLT, Nat.reduceBEq, Int.reduceLT, Int.reduceLE, Int.reduceGT, Int.reduceGE, Int.reduceEq, Int.reduceNe, Int.reduceBEq, Int.reduceBNe, Int.reduceAdd, Int.reduceSub, Int.reduceMul, Int.reduceToNat, Int.reduceNeg, ↓reduceIte, ↓reduceDIte, e2, Nat.add_assoc]
  refine CT_of (ctake_ev (by simp)) ?_
  rintro _ _ ⟨u3, u4, rfl, rfl⟩
  cases hr : r.right
  · rw [hr] at e12
    have n1 : ((r.a + 2 : Int)) = r.a + 2 := rfl
    simp only [Bool.false_eq_true, if_false, false_and]
    rw [show COp.fin (c0 r 0 v) 2 0#64 = ⟨r, 0, v, 9, 0#64, 0#64, 0#64, 0#64, 0#64, 0, 2, 0#64⟩ from rfl, show COp.fin (c0 r 1 0#64) 2 0#64 = ⟨r, 1, 0#64, 9, 0#64, 0#64, 0#64, 0#64, 0#64, 0, 2, 0#64⟩ from rfl]
    simp -dsimp only [go_sem, Nat.reduceEqDiff, Nat.reduceAdd, Nat.reduceSub, Nat.reduceMul, Nat.reduceLeDiff, Nat.reduceLT, Nat.reduceBEq, Int.reduceLT, Int.reduceLE, Int.reduceGT, Int.reduceGE, Int.reduceEq, Int.reduceNe, Int.reduceBEq, Int.reduceBNe, Int.reduceAdd, Int.reduceSub, Int.reduceMul, Int.reduceToNat, Int.reduceNeg, ↓reduceIte, ↓reduceDIte, e1, e2, e12, Nat.add_assoc]
    refine CT_val (cres_ev (x := ⟨r, 0, v, 9, 0#64, 0#64, 0#64, 0#64, 0#64, 0, 2, 0#64⟩) (get_app H _ 7)) ?_
    rw [if_pos (show (COp.mk r 0 v 9 0#64 0#64 0#64 0#64 0#64 0 2 0#64).at_ = 9 from rfl)]
    simp -dsimp only [go_sem, Nat.reduceEqDiff, Nat.reduceAdd, Nat.reduceSub, Nat.reduceMul, Nat.reduceLeDiff, Nat.reduceLT, Nat.reduceBEq, Int.reduceLT, Int.reduceLE, Int.reduceGT, Int.reduceGE, Int.reduceEq, Int.reduceNe, Int.reduceBEq, Int.reduceBNe, Int.reduceAdd, Int.reduceSub, Int.reduceMul, Int.reduceToNat, Int.reduceNeg, ↓reduceIte, ↓reduceDIte, e2, e12]
    refine CT_val (cres_ev (x := ⟨r, 1, 0#64, 9, 0#64, 0#64, 0#64, 0#64, 0#64, 0, 2, 0#64⟩) (get_app H _ 10)) ?_
    rw [if_pos (show (COp.mk r 1 0#64 9 0#64 0#64 0#64 0#64 0#64 0 2 0#64).at_ = 9 from rfl)]
    simp -dsimp only [go_sem, Nat.reduceEqDiff, Nat.reduceAdd, Nat.reduceSub, Nat.reduceMul, Nat.reduceLeDiff, Nat.reduceLT, Nat.reduceBEq, Int.reduceLT, Int.reduceLE, Int.reduceGT, Int.reduceGE, Int.reduceEq, Int.reduceNe, Int.reduceBEq, Int.reduceBNe, Int.reduceAdd, Int.reduceSub, Int.reduceMul, Int.reduceToNat, Int.reduceNeg, ↓reduceIte, ↓reduceDIte, e2, e12]
    refine CT_val right_ev ?_
    simp -dsimp only [go_sem, Nat.reduceEqDiff, Nat.reduceAdd, Nat.reduceSub, Nat.reduceMul, Nat.reduceLeDiff, Nat.reduceLT, Nat.reduceBEq, Int.reduceLT, Int.reduceLE, Int.reduceGT, Int.reduceGE, Int.reduceEq, Int.reduceNe, Int.reduceBEq, Int.reduceBNe, Int.reduceAdd, Int.reduceSub, Int.reduceMul, Int.reduceToNat, Int.reduceNeg, ↓reduceIte, ↓reduceDIte, e12, hr, b1, b2, b3, b4]
    refine CT_val (cdone_ev (x := ⟨r, 0, v, 9, 0#64, 0#64, 0#64, 0#64, 0#64, 0, 2, 0#64⟩) (get_app H _ 7)) ?_
    simp -dsimp only [go_sem, Nat.reduceEqDiff, Nat.reduceAdd, Nat.reduceSub, Nat.reduceMul, Nat.reduceLeDiff, Nat.reduceLT, Nat.reduceBEq, Int.reduceLT, Int.reduceLE, Int.reduceGT, Int.reduceGE, Int.reduceEq, Int.reduceNe, Int.reduceBEq, Int.reduceBNe, Int.reduceAdd, Int.reduceSub, Int.reduceMul, Int.reduceToNat, Int.reduceNeg, ↓reduceIte, ↓reduceDIte, e12, hr, b1, b2, b3, b4, e2, e5]
    refine CT_val (cdone_ev (x := ⟨r, 1, 0#64, 9, 0#64, 0#64, 0#64, 0#64, 0#64, 0, 2, 0#64⟩) (get_app H _ 10)) ?_
    simp -dsimp only [go_sem, Nat.reduceEqDiff, Nat.reduceAdd, Nat.reduceSub, Nat.reduceMul, Nat.reduceLeDiff, Nat.reduceLT, Nat.reduceBEq, Int.reduceLT, Int.reduceLE, Int.reduceGT, Int.reduceGE, Int.reduceEq, Int.reduceNe, Int.reduceBEq, Int.reduceBNe, Int.reduceAdd, Int.reduceSub, Int.reduceMul, Int.reduceToNat, Int.reduceNeg, ↓reduceIte, ↓reduceDIte, e12, hr, b1, b2, b3, b4, e2, e5]
    refine CT_val next_ev ?_
    rw [if_neg (by simp [hr])]
    simp -dsimp only [go_sem, Nat.reduceEqDiff, Nat.reduceAdd, Nat.reduceSub, Nat.reduceMul, Nat.reduceLeDiff, Nat.reduceLT, Nat.reduceBEq, Int.reduceLT, Int.reduceLE, Int.reduceGT, Int.reduceGE, Int.reduceEq, Int.reduceNe, Int.reduceBEq, Int.reduceBNe, Int.reduceAdd, Int.reduceSub, Int.reduceMul, Int.reduceToNat, Int.reduceNeg, ↓reduceIte, ↓reduceDIte, e12, hr, b1, b2, b3, b4, e2, e5]
    refine CT_val (setup_bad (mm _) hr) ?_
    simp -dsimp only [go_sem, Nat.reduceEqDiff, Nat.reduceAdd, Nat.reduceSub, Nat.reduceMul, Nat.reduceLeDiff, Nat.reduceLT, Nat.reduceBEq, Int.reduceLT, Int.reduceLE, Int.reduceGT, Int.reduceGE, Int.reduceEq, Int.reduceNe, Int.reduceBEq, Int.reduceBNe, Int.reduceAdd, Int.reduceSub, Int.reduceMul, Int.reduceToNat, Int.reduceNeg, ↓reduceIte, ↓reduceDIte, e5]
    refine CT_val (cstep_done (x := ⟨r, 1, 0#64, 9, 0#64, 0#64, 0#64, 0#64, 0#64, 0, 2, 0#64⟩) (get_app H _ 10) rfl) ?_
    simp -dsimp only [go_sem, Nat.reduceEqDiff, Nat.reduceAdd, Nat.reduceSub, Nat.reduceMul, Nat.reduceLeDiff, Nat.reduceLT, Nat.reduceBEq, Int.reduceLT, Int.reduceLE, Int.reduceGT, Int.reduceGE, Int.reduceEq, Int.reduceNe, Int.reduceBEq, Int.reduceBNe, Int.reduceAdd, Int.reduceSub, Int.reduceMul, Int.reduceToNat, Int.reduceNeg, ↓reduceIte, ↓reduceDIte, e5]
    refine CT_val (steps_ev (mm _)) ?_
    simp -dsimp only [go_sem, Nat.reduceEqDiff, Nat.reduceAdd, Nat.reduceSub, Nat.reduceMul, Nat.reduceLeDiff, Nat.reduceLT, Nat.reduceBEq, Int.reduceLT, Int.reduceLE, Int.reduceGT, Int.reduceGE, Int.reduceEq, Int.reduceNe, Int.reduceBEq, Int.reduceBNe, Int.reduceAdd, Int.reduceSub, Int.reduceMul, Int.reduceToNat, Int.reduceNeg, ↓reduceIte, ↓reduceDIte, st, e2, e5]
    refine CT_val (closed_bad hr) ?_
    simp -dsimp only [go_sem, Nat.reduceEqDiff, Nat.reduceAdd, Nat.reduceSub, Nat.reduceMul, Nat.reduceLeDiff, Nat.reduceLT, Nat.reduceBEq, Int.reduceLT, Int.reduceLE, Int.reduceGT, Int.reduceGE, Int.reduceEq, Int.reduceNe, Int.reduceBEq, Int.reduceBNe, Int.reduceAdd, Int.reduceSub, Int.reduceMul, Int.reduceToNat, Int.reduceNeg, ↓reduceIte, ↓reduceDIte, e2, e5]
    refine CT_val (kept_bad hr) ?_
    simp -dsimp only [go_sem, Nat.reduceEqDiff, Nat.reduceAdd, Nat.reduceSub, Nat.reduceMul, Nat.reduceLeDiff, Nat.reduceLT, Nat.reduceBEq, Int.reduceLT, Int.reduceLE, Int.reduceGT, Int.reduceGE, Int.reduceEq, Int.reduceNe, Int.reduceBEq, Int.reduceBNe, Int.reduceAdd, Int.reduceSub, Int.reduceMul, Int.reduceToNat, Int.reduceNeg, ↓reduceIte, ↓reduceDIte]
    refine CT_val (one_ev _ _) ?_
    simp -dsimp only [go_sem, Nat.reduceEqDiff, Nat.reduceAdd, Nat.reduceSub, Nat.reduceMul, Nat.reduceLeDiff, Nat.reduceLT, Nat.reduceBEq, Int.reduceLT, Int.reduceLE, Int.reduceGT, Int.reduceGE, Int.reduceEq, Int.reduceNe, Int.reduceBEq, Int.reduceBNe, Int.reduceAdd, Int.reduceSub, Int.reduceMul, Int.reduceToNat, Int.reduceNeg, ↓reduceIte, ↓reduceDIte]
    exact hQ _ _ rfl
  · rw [hr] at e12
    obtain ⟨a0, a1, a2, s0, s1⟩ := RV.right_of hr
    have hge : 0 ≤ r.a + 2 := by omega
    simp only [if_true, true_and]
    by_cases hv : v < 4611686018427387904#64
    · have hv2 := (v62 v).2 hv
      rw [if_pos hv2]
      simp -dsimp only [go_sem, Nat.reduceEqDiff, Nat.reduceAdd, Nat.reduceSub, Nat.reduceMul, Nat.reduceLeDiff, Nat.reduceLT, Nat.reduceBEq, Int.reduceLT, Int.reduceLE, Int.reduceGT, Int.reduceGE, Int.reduceEq, Int.reduceNe, Int.reduceBEq, Int.reduceBNe, Int.reduceAdd, Int.reduceSub, Int.reduceMul, Int.reduceToNat, Int.reduceNeg, ↓reduceIte, ↓reduceDIte, e1, e2, e12, Nat.add_assoc, hv]
      refine CT_val (cres_ev (x := (c0 r 0 v)) (get_app H _ 7)) ?_
      rw [if_neg (by simp)]
      simp -dsimp only [go_sem, Nat.reduceEqDiff, Nat.reduceAdd, Nat.reduceSub, Nat.reduceMul, Nat.reduceLeDiff, Nat.reduceLT, Nat.reduceBEq, Int.reduceLT, Int.reduceLE, Int.reduceGT, Int.reduceGE, Int.reduceEq, Int.reduceNe, Int.reduceBEq, Int.reduceBNe, Int.reduceAdd, Int.reduceSub, Int.reduceMul, Int.reduceToNat, Int.reduceNeg, ↓reduceIte, ↓reduceDIte, e2, e12]
      refine CT_val (cres_ev (x := c0 r 1 0#64) (get_app H _ 10)) ?_
      rw [if_neg (by simp)]
      simp -dsimp only [go_sem, Nat.reduceEqDiff, Nat.reduceAdd, Nat.reduceSub, Nat.reduceMul, Nat.reduceLeDiff, Nat.reduceLT, Nat.reduceBEq, Int.reduceLT, Int.reduceLE, Int.reduceGT, Int.reduceGE, Int.reduceEq, Int.reduceNe, Int.reduceBEq, Int.reduceBNe, Int.reduceAdd, Int.reduceSub, Int.reduceMul, Int.reduceToNat, Int.reduceNeg, ↓reduceIte, ↓reduceDIte, e2, e12]
      refine CT_val right_ev ?_
      simp -dsimp only [go_sem, Nat.reduceEqDiff, Nat.reduceAdd, Nat.reduceSub, Nat.reduceMul, Nat.reduceLeDiff, Nat.reduceLT, Nat.reduceBEq, Int.reduceLT, Int.reduceLE, Int.reduceGT, Int.reduceGE, Int.reduceEq, Int.reduceNe, Int.reduceBEq, Int.reduceBNe, Int.reduceAdd, Int.reduceSub, Int.reduceMul, Int.reduceToNat, Int.reduceNeg, ↓reduceIte, ↓reduceDIte, e12, hr, b1, b2, b3, b4]
      refine CT_val (cdone_ev (x := (c0 r 0 v)) (get_app H _ 7)) ?_
      simp -dsimp only [go_sem, Nat.reduceEqDiff, Nat.reduceAdd, Nat.reduceSub, Nat.reduceMul, Nat.reduceLeDiff, Nat.reduceLT, Nat.reduceBEq, Int.reduceLT, Int.reduceLE, Int.reduceGT, Int.reduceGE, Int.reduceEq, Int.reduceNe, Int.reduceBEq, Int.reduceBNe, Int.reduceAdd, Int.reduceSub, Int.reduceMul, Int.reduceToNat, Int.reduceNeg, ↓reduceIte, ↓reduceDIte, e12, hr, b1, b2, b3, b4, e2, e5, c09]
      refine CT_val (cdone_ev (x := c0 r 1 0#64) (get_app H _ 10)) ?_
      simp -dsimp only [go_sem, Nat.reduceEqDiff, Nat.reduceAdd, Nat.reduceSub, Nat.reduceMul, Nat.reduceLeDiff, Nat.reduceLT, Nat.reduceBEq, Int.reduceLT, Int.reduceLE, Int.reduceGT, Int.reduceGE, Int.reduceEq, Int.reduceNe, Int.reduceBEq, Int.reduceBNe, Int.reduceAdd, Int.reduceSub, Int.reduceMul, Int.reduceToNat, Int.reduceNeg, ↓reduceIte, ↓reduceDIte, e12, hr, b1, b2, b3, b4, e2, e5, c09]
      refine CT_val next_ev ?_
      rw [if_pos hr]
      simp -dsimp only [go_sem, Nat.reduceEqDiff, Nat.reduceAdd, Nat.reduceSub, Nat.reduceMul, Nat.reduceLeDiff, Nat.reduceLT, Nat.reduceBEq, Int.reduceLT, Int.reduceLE, Int.reduceGT, Int.reduceGE, Int.reduceEq, Int.reduceNe, Int.reduceBEq, Int.reduceBNe, Int.reduceAdd, Int.reduceSub, Int.reduceMul, Int.reduceToNat, Int.reduceNeg, ↓reduceIte, ↓reduceDIte, e12, hr, b1, b2, b3, b4, e2, e5, hge]
      refine CT_val (setup_nil (.inl rfl)) ?_
      simp -dsimp only [go_sem, Nat.reduceEqDiff, Nat.reduceAdd, Nat.reduceSub, Nat.reduceMul, Nat.reduceLeDiff, Nat.reduceLT, Nat.reduceBEq, Int.reduceLT, Int.reduceLE, Int.reduceGT, Int.reduceGE, Int.reduceEq, Int.reduceNe, Int.reduceBEq, Int.reduceBNe, Int.reduceAdd, Int.reduceSub, Int.reduceMul, Int.reduceToNat, Int.reduceNeg, ↓reduceIte, ↓reduceDIte]
      refine CT_val (cstep_nomem (x := c0 r 1 0#64) (get_app H _ 10) (by simp) (.inl rfl)) ?_
      simp -dsimp only [go_sem, Nat.reduceEqDiff, Nat.reduceAdd, Nat.reduceSub, Nat.reduceMul, Nat.reduceLeDiff, Nat.reduceLT, Nat.reduceBEq, Int.reduceLT, Int.reduceLE, Int.reduceGT, Int.reduceGE, Int.reduceEq, Int.reduceNe, Int.reduceBEq, Int.reduceBNe, Int.reduceAdd, Int.reduceSub, Int.reduceMul, Int.reduceToNat, Int.reduceNeg, ↓reduceIte, ↓reduceDIte]
      refine CT_val (cat_ev (x := c0 r 1 0#64) (get_app H _ 10)) ?_
      simp -dsimp only [go_sem, Nat.reduceEqDiff, Nat.reduceAdd, Nat.reduceSub, Nat.reduceMul, Nat.reduceLeDiff, Nat.reduceLT, Nat.reduceBEq, Int.reduceLT, Int.reduceLE, Int.reduceGT, Int.reduceGE, Int.reduceEq, Int.reduceNe, Int.reduceBEq, Int.reduceBNe, Int.reduceAdd, Int.reduceSub, Int.reduceMul, Int.reduceToNat, Int.reduceNeg, ↓reduceIte, ↓reduceDIte, e2]
      refine CT_val (closed_nil (.inl rfl) hr) ?_
      simp -dsimp only [go_sem, Nat.reduceEqDiff, Nat.reduceAdd, Nat.reduceSub, Nat.reduceMul, Nat.reduceLeDiff, Nat.reduceLT, Nat.reduceBEq, Int.reduceLT, Int.reduceLE, Int.reduceGT, Int.reduceGE, Int.reduceEq, Int.reduceNe, Int.reduceBEq, Int.reduceBNe, Int.reduceAdd, Int.reduceSub, Int.reduceMul, Int.reduceToNat, Int.reduceNeg, ↓reduceIte, ↓reduceDIte]
      refine CT_val (one_ev _ _) ?_
      simp -dsimp only [go_sem, Nat.reduceEqDiff, Nat.reduceAdd, Nat.reduceSub, Nat.reduceMul, Nat.reduceLeDiff, Nat.reduceLT, Nat.reduceBEq, Int.reduceLT, Int.reduceLE, Int.reduceGT, Int.reduceGE, Int.reduceEq, Int.reduceNe, Int.reduceBEq, Int.reduceBNe, Int.reduceAdd, Int.reduceSub, Int.reduceMul, Int.reduceToNat, Int.reduceNeg, ↓reduceIte, ↓reduceDIte]
      exact hQ _ _ rfl
    · have hv2 := fun q => hv ((v62 v).1 q)
      rw [if_neg hv2, show COp.fin (c0 r 0 v) 2 0#64 = ⟨r, 0, v, 9, 0#64, 0#64, 0#64, 0#64, 0#64, 0, 2, 0#64⟩ from rfl]
      simp -dsimp only [go_sem, Nat.reduceEqDiff, Nat.reduceAdd, Nat.reduceSub, Nat.reduceMul, Nat.reduceLeDiff, Nat.reduceLT, Nat.reduceBEq, Int.reduceLT, Int.reduceLE, Int.reduceGT, Int.reduceGE, Int.reduceEq, Int.reduceNe, Int.reduceBEq, Int.reduceBNe, Int.reduceAdd, Int.reduceSub, Int.reduceMul, Int.reduceToNat, Int.reduceNeg, ↓reduceIte, ↓reduceDIte, e1, e2, e12, Nat.add_assoc, hv]
      refine CT_val (cres_ev (x := ⟨r,0,v,9,0#64,0#64,0#64,0#64,0#64,0,2,0#64⟩) (get_app H _ 7)) ?_
      rw [if_pos (show (COp.mk r 0 v 9 0#64 0#64 0#64 0#64 0#64 0 2 0#64).at_=9 from rfl)]
      simp -dsimp only [go_sem, Nat.reduceEqDiff, Nat.reduceAdd, Nat.reduceSub, Nat.reduceMul, Nat.reduceLeDiff, Nat.reduceLT, Nat.reduceBEq, Int.reduceLT, Int.reduceLE, Int.reduceGT, Int.reduceGE, Int.reduceEq, Int.reduceNe, Int.reduceBEq, Int.reduceBNe, Int.reduceAdd, Int.reduceSub, Int.reduceMul, Int.reduceToNat, Int.reduceNeg, ↓reduceIte, ↓reduceDIte, e2, e12]
      refine CT_val (cres_ev (x := c0 r 1 0#64) (get_app H _ 10)) ?_
      rw [if_neg (by simp)]
      simp -dsimp only [go_sem, Nat.reduceEqDiff, Nat.reduceAdd, Nat.reduceSub, Nat.reduceMul, Nat.reduceLeDiff, Nat.reduceLT, Nat.reduceBEq, Int.reduceLT, Int.reduceLE, Int.reduceGT, Int.reduceGE, Int.reduceEq, Int.reduceNe, Int.reduceBEq, Int.reduceBNe, Int.reduceAdd, Int.reduceSub, Int.reduceMul, Int.reduceToNat, Int.reduceNeg, ↓reduceIte, ↓reduceDIte, e2, e12]
      refine CT_val right_ev ?_
      simp -dsimp only [go_sem, Nat.reduceEqDiff, Nat.reduceAdd, Nat.reduceSub, Nat.reduceMul, Nat.reduceLeDiff, Nat.reduceLT, Nat.reduceBEq, Int.reduceLT, Int.reduceLE, Int.reduceGT, Int.reduceGE, Int.reduceEq, Int.reduceNe, Int.reduceBEq, Int.reduceBNe, Int.reduceAdd, Int.reduceSub, Int.reduceMul, Int.reduceToNat, Int.reduceNeg, ↓reduceIte, ↓reduceDIte, e12, hr, b1, b2, b3, b4]
      refine CT_val (cdone_ev (x := ⟨r,0,v,9,0#64,0#64,0#64,0#64,0#64,0,2,0#64⟩) (get_app H _ 7)) ?_
      simp -dsimp only [go_sem, Nat.reduceEqDiff, Nat.reduceAdd, Nat.reduceSub, Nat.reduceMul, Nat.reduceLeDiff, Nat.reduceLT, Nat.reduceBEq, Int.reduceLT, Int.reduceLE, Int.reduceGT, Int.reduceGE, Int.reduceEq, Int.reduceNe, Int.reduceBEq, Int.reduceBNe, Int.reduceAdd, Int.reduceSub, Int.reduceMul, Int.reduceToNat, Int.reduceNeg, ↓reduceIte, ↓reduceDIte, e12, hr, b1, b2, b3, b4, e2, e5, c09]
      refine CT_val (cdone_ev (x := c0 r 1 0#64) (get_app H _ 10)) ?_
      simp -dsimp only [go_sem, Nat.reduceEqDiff, Nat.reduceAdd, Nat.reduceSub, Nat.reduceMul, Nat.reduceLeDiff, Nat.reduceLT, Nat.reduceBEq, Int.reduceLT, Int.reduceLE, Int.reduceGT, Int.reduceGE, Int.reduceEq, Int.reduceNe, Int.reduceBEq, Int.reduceBNe, Int.reduceAdd, Int.reduceSub, Int.reduceMul, Int.reduceToNat, Int.reduceNeg, ↓reduceIte, ↓reduceDIte, e12, hr, b1, b2, b3, b4, e2, e5, c09]
      refine CT_val next_ev ?_
      rw [if_pos hr]
      simp -dsimp only [go_sem, Nat.reduceEqDiff, Nat.reduceAdd, Nat.reduceSub, Nat.reduceMul, Nat.reduceLeDiff, Nat.reduceLT, Nat.reduceBEq, Int.reduceLT, Int.reduceLE, Int.reduceGT, Int.reduceGE, Int.reduceEq, Int.reduceNe, Int.reduceBEq, Int.reduceBNe, Int.reduceAdd, Int.reduceSub, Int.reduceMul, Int.reduceToNat, Int.reduceNeg, ↓reduceIte, ↓reduceDIte, e12, hr, b1, b2, b3, b4, e2, e5, hge]
      refine CT_val (setup_nil (.inl rfl)) ?_
      simp -dsimp only [go_sem, Nat.reduceEqDiff, Nat.reduceAdd, Nat.reduceSub, Nat.reduceMul, Nat.reduceLeDiff, Nat.reduceLT, Nat.reduceBEq, Int.reduceLT, Int.reduceLE, Int.reduceGT, Int.reduceGE, Int.reduceEq, Int.reduceNe, Int.reduceBEq, Int.reduceBNe, Int.reduceAdd, Int.reduceSub, Int.reduceMul, Int.reduceToNat, Int.reduceNeg, ↓reduceIte, ↓reduceDIte]
      refine CT_val (cstep_nomem (x := c0 r 1 0#64) (get_app H _ 10) (by simp) (.inl rfl)) ?_
      simp -dsimp only [go_sem, Nat.reduceEqDiff, Nat.reduceAdd, Nat.reduceSub, Nat.reduceMul, Nat.reduceLeDiff, Nat.reduceLT, Nat.reduceBEq, Int.reduceLT, Int.reduceLE, Int.reduceGT, Int.reduceGE, Int.reduceEq, Int.reduceNe, Int.reduceBEq, Int.reduceBNe, Int.reduceAdd, Int.reduceSub, Int.reduceMul, Int.reduceToNat, Int.reduceNeg, ↓reduceIte, ↓reduceDIte]
      refine CT_val (cat_ev (x := c0 r 1 0#64) (get_app H _ 10)) ?_
      simp -dsimp only [go_sem, Nat.reduceEqDiff, Nat.reduceAdd, Nat.reduceSub, Nat.reduceMul, Nat.reduceLeDiff, Nat.reduceLT, Nat.reduceBEq, Int.reduceLT, Int.reduceLE, Int.reduceGT, Int.reduceGE, Int.reduceEq, Int.reduceNe, Int.reduceBEq, Int.reduceBNe, Int.reduceAdd, Int.reduceSub, Int.reduceMul, Int.reduceToNat, Int.reduceNeg, ↓reduceIte, ↓reduceDIte, e2]
      refine CT_val (closed_nil (.inl rfl) hr) ?_
      simp -dsimp only [go_sem, Nat.reduceEqDiff, Nat.reduceAdd, Nat.reduceSub, Nat.reduceMul, Nat.reduceLeDiff, Nat.reduceLT, Nat.reduceBEq, Int.reduceLT, Int.reduceLE, Int.reduceGT, Int.reduceGE, Int.reduceEq, Int.reduceNe, Int.reduceBEq, Int.reduceBNe, Int.reduceAdd, Int.reduceSub, Int.reduceMul, Int.reduceToNat, Int.reduceNeg, ↓reduceIte, ↓reduceDIte]
      refine CT_val (one_ev _ _) ?_
      simp -dsimp only [go_sem, Nat.reduceEqDiff, Nat.reduceAdd, Nat.reduceSub, Nat.reduceMul, Nat.reduceLeDiff, Nat.reduceLT, Nat.reduceBEq, Int.reduceLT, Int.reduceLE, Int.reduceGT, Int.reduceGE, Int.reduceEq, Int.reduceNe, Int.reduceBEq, Int.reduceBNe, Int.reduceAdd, Int.reduceSub, Int.reduceMul, Int.reduceToNat, Int.reduceNeg, ↓reduceIte, ↓reduceDIte]
      exact hQ _ _ rfl
set_option maxHeartbeats 1000000 in
theorem nbR_ev {H : LHeap} {r : RV} {v : BitVec 64} {m : MV} {e : Env} {Q : LExit → Env → LHeap → Prop} (ok : m.Ok 8) (st : m.sum 6 = 0)
    (e1 : LK.look e 1 = w64 v) (e2 : LK.look e 2 = ptr H.length) (e5 : LK.look e 5 = ptr (H.length + 3))
    (hQ : ∀ e' H', LK.look e' 4 = .bool true → Q .ret e' H') :
    XW (callE T) H.length nbR e (H ++ [rro r, wrow m, brow m, mrow (H.length + 1) (H.length + 2) m, zop]) Q := by
  unfold nbR
  by_cases h1 : 0 ≤ r.a
  · by_cases h2 : r.a ≤ 65536
    · by_cases h5 : r.a.tmod 2 = 0
      · have h5' : (r.a.tmod 2 == 0) = true := by simp [h5]
        by_cases h3 : 1 ≤ r.s
        · by_cases h4 : r.s ≤ 1024
          · have hp := and_pow h3 h4
            have w1 : IntKind.i64.wrap (r.s - 1) = r.s - 1 := by rw [wrap_i64] <;> omega
            simp -dsimp only [go_sem, Nat.reduceEqDiff, Nat.reduceAdd, Nat.reduceSub, Nat.reduceMul, Nat.reduceLeDiff, Nat.reduceLT, Nat.reduceBEq, Int.reduceLT, Int.reduceLE, Int.reduceGT, Int.reduceGE, Int.reduceEq, Int.reduceNe, Int.reduceBEq, Int.reduceBNe, Int.reduceAdd, Int.reduceSub, Int.reduceMul, Int.reduceToNat, Int.reduceNeg, ↓reduceIte, ↓reduceDIte, e2, h1, h2, h3, h4, h5', w1, hp]
            exact nbP_ev (v := v) ok st (by simp -dsimp only [go_sem, Nat.reduceEqDiff, Nat.reduceAdd, Nat.reduceSub, Nat.reduceMul, Nat.reduceLeDiff, Nat.reduceLT, Nat.reduceBEq, Int.reduceLT, Int.reduceLE, Int.reduceGT, Int.reduceGE, Int.reduceEq, Int.reduceNe, Int.reduceBEq, Int.reduceBNe, Int.reduceAdd, Int.reduceSub, Int.reduceMul, Int.reduceToNat, Int.reduceNeg, ↓reduceIte, ↓reduceDIte, e1]) (by simp -dsimp only [go_sem, Nat.reduceEqDiff, Nat.reduceAdd, Nat.reduceSub, Nat.reduceMul, Nat.reduceLeDiff, Nat.reduceLT, Nat.reduceBEq, Int.reduceLT, Int.reduceLE, Int.reduceGT, Int.reduceGE, Int.reduceEq, Int.reduceNe, Int.reduceBEq, Int.reduceBNe, Int.reduceAdd, Int.reduceSub, Int.reduceMul, Int.reduceToNat, Int.reduceNeg, ↓reduceIte, ↓reduceDIte, e2]) (by simp -dsimp only [go_sem, Nat.reduceEqDiff, Nat.reduceAdd, Nat.reduceSub, Nat.reduceMul, Nat.reduceLeDiff, Nat.reduceLT, Nat.reduceBEq, Int.reduceLT, Int.reduceLE, Int.reduceGT, Int.reduceGE, Int.reduceEq, Int.reduceNe, Int.reduceBEq, Int.reduceBNe, Int.reduceAdd, Int.reduceSub, Int.reduceMul, Int.reduceToNat, Int.reduceNeg, ↓reduceIte, ↓reduceDIte, e5]) (by simp -dsimp only [go_sem, Nat.reduceEqDiff, Nat.reduceAdd, Nat.reduceSub, Nat.reduceMul, Nat.reduceLeDiff, Nat.reduceLT, Nat.reduceBEq, Int.reduceLT, Int.reduceLE, Int.reduceGT, Int.reduceGE, Int.reduceEq, Int.reduceNe, Int.reduceBEq, Int.reduceBNe, Int.reduceAdd, Int.reduceSub, Int.reduceMul, Int.reduceToNat, Int.reduceNeg, ↓reduceIte, ↓reduceDIte]; simp [RV.right, *]) hQ
          · simp -dsimp only [go_sem, Nat.reduceEqDiff, Nat.reduceAdd, Nat.reduceSub, Nat.reduceMul, Nat.reduceLeDiff, Nat.reduceLT, Nat.reduceBEq, Int.reduceLT, Int.reduceLE, Int.reduceGT, Int.reduceGE, Int.reduceEq, Int.reduceNe, Int.reduceBEq, Int.reduceBNe, Int.reduceAdd, Int.reduceSub, Int.reduceMul, Int.reduceToNat, Int.reduceNeg, ↓reduceIte, ↓reduceDIte, e2, h1, h2, h3, h4, h5']
            exact nbP_ev (v := v) ok st (by simp -dsimp only [go_sem, Nat.reduceEqDiff, Nat.reduceAdd, Nat.reduceSub, Nat.reduceMul, Nat.reduceLeDiff, Nat.reduceLT, Nat.reduceBEq, Int.reduceLT, Int.reduceLE, Int.reduceGT, Int.reduceGE, Int.reduceEq, Int.reduceNe, Int.reduceBEq, Int.reduceBNe, Int.reduceAdd, Int.reduceSub, Int.reduceMul, Int.reduceToNat, Int.reduceNeg, ↓reduceIte, ↓reduceDIte, e1]) (by simp -dsimp only [go_sem, Nat.reduceEqDiff, Nat.reduceAdd, Nat.reduceSub, Nat.reduceMul, Nat.reduceLeDiff, Nat.reduceLT, Nat.reduceBEq, Int.reduceLT, Int.reduceLE, Int.reduceGT, Int.reduceGE, Int.reduceEq, Int.reduceNe, Int.reduceBEq, Int.reduceBNe, Int.reduceAdd, Int.reduceSub, Int.reduceMul, Int.reduceToNat, Int.reduceNeg, ↓reduceIte, ↓reduceDIte, e2]) (by simp -dsimp only [go_sem, Nat.reduceEqDiff, Nat.reduceAdd, Nat.reduceSub, Nat.reduceMul, Nat.reduceLeDiff, Nat.reduceLT, Nat.reduceBEq, Int.reduceLT, Int.reduceLE, Int.reduceGT, Int.reduceGE, Int.reduceEq, Int.reduceNe, Int.reduceBEq, Int.reduceBNe, Int.reduceAdd, Int.reduceSub, Int.reduceMul, Int.reduceToNat, Int.reduceNeg, ↓reduceIte, ↓reduceDIte, e5]) (by simp -dsimp only [go_sem, Nat.reduceEqDiff, Nat.reduceAdd, Nat.reduceSub, Nat.reduceMul, Nat.reduceLeDiff, Nat.reduceLT, Nat.reduceBEq, Int.reduceLT, Int.reduceLE, Int.reduceGT, Int.reduceGE, Int.reduceEq, Int.reduceNe, Int.reduceBEq, Int.reduceBNe, Int.reduceAdd, Int.reduceSub, Int.reduceMul, Int.reduceToNat, Int.reduceNeg, ↓reduceIte, ↓reduceDIte]; simp [RV.right, *]) hQ
        · simp -dsimp only [go_sem, Nat.reduceEqDiff, Nat.reduceAdd, Nat.reduceSub, Nat.reduceMul, Nat.reduceLeDiff, Nat.reduceLT, Nat.reduceBEq, Int.reduceLT, Int.reduceLE, Int.reduceGT, Int.reduceGE, Int.reduceEq, Int.reduceNe, Int.reduceBEq, Int.reduceBNe, Int.reduceAdd, Int.reduceSub, Int.reduceMul, Int.reduceToNat, Int.reduceNeg, ↓reduceIte, ↓reduceDIte, e2, h1, h2, h3, h5']
          exact nbP_ev (v := v) ok st (by simp -dsimp only [go_sem, Nat.reduceEqDiff, Nat.reduceAdd, Nat.reduceSub, Nat.reduceMul, Nat.reduceLeDiff, Nat.reduceLT, Nat.reduceBEq, Int.reduceLT, Int.reduceLE, Int.reduceGT, Int.reduceGE, Int.reduceEq, Int.reduceNe, Int.reduceBEq, Int.reduceBNe, Int.reduceAdd, Int.reduceSub, Int.reduceMul, Int.reduceToNat, Int.reduceNeg, ↓reduceIte, ↓reduceDIte, e1]) (by simp -dsimp only [go_sem, Nat.reduceEqDiff, Nat.reduceAdd, Nat.reduceSub, Nat.reduceMul, Nat.reduceLeDiff, Nat.reduceLT, Nat.reduceBEq, Int.reduceLT, Int.reduceLE, Int.reduceGT, Int.reduceGE, Int.reduceEq, Int.reduceNe, Int.reduceBEq, Int.reduceBNe, Int.reduceAdd, Int.reduceSub, Int.reduceMul, Int.reduceToNat, Int.reduceNeg, ↓reduceIte, ↓reduceDIte, e2]) (by simp -dsimp only [go_sem, Nat.reduceEqDiff, Nat.reduceAdd, Nat.reduceSub, Nat.reduceMul, Nat.reduceLeDiff, Nat.reduceLT, Nat.reduceBEq, Int.reduceLT, Int.reduceLE, Int.reduceGT, Int.reduceGE, Int.reduceEq, Int.reduceNe, Int.reduceBEq, Int.reduceBNe, Int.reduceAdd, Int.reduceSub, Int.reduceMul, Int.reduceToNat, Int.reduceNeg, ↓reduceIte, ↓reduceDIte, e5]) (by simp -dsimp only [go_sem, Nat.reduceEqDiff, Nat.reduceAdd, Nat.reduceSub, Nat.reduceMul, Nat.reduceLeDiff, Nat.reduceLT, Nat.reduceBEq, Int.reduceLT, Int.reduceLE, Int.reduceGT, Int.reduceGE, Int.reduceEq, Int.reduceNe, Int.reduceBEq, Int.reduceBNe, Int.reduceAdd, Int.reduceSub, Int.reduceMul, Int.reduceToNat, Int.reduceNeg, ↓reduceIte, ↓reduceDIte]; simp [RV.right, *]) hQ
      · have h5' : (r.a.tmod 2 == 0) = false := by simp [h5]
        simp -dsimp only [go_sem, Nat.reduceEqDiff, Nat.reduceAdd, Nat.reduceSub, Nat.reduceMul, Nat.reduceLeDiff, Nat.reduceLT, Nat.reduceBEq, Int.reduceLT, Int.reduceLE, Int.reduceGT, Int.reduceGE, Int.reduceEq, Int.reduceNe, Int.reduceBEq, Int.reduceBNe, Int.reduceAdd, Int.reduceSub, Int.reduceMul, Int.reduceToNat, Int.reduceNeg, ↓reduceIte, ↓reduceDIte, e2, h1, h2, h5']
        exact nbP_ev (v := v) ok st (by simp -dsimp only [go_sem, Nat.reduceEqDiff, Nat.reduceAdd, Nat.reduceSub, Nat.reduceMul, Nat.reduceLeDiff, Nat.reduceLT, Nat.reduceBEq, Int.reduceLT, Int.reduceLE, Int.reduceGT, Int.reduceGE, Int.reduceEq, Int.reduceNe, Int.reduceBEq, Int.reduceBNe, Int.reduceAdd, Int.reduceSub, Int.reduceMul, Int.reduceToNat, Int.reduceNeg, ↓reduceIte, ↓reduceDIte, e1]) (by simp -dsimp only [go_sem, Nat.reduceEqDiff, Nat.reduceAdd, Nat.reduceSub, Nat.reduceMul, Nat.reduceLeDiff, Nat.reduceLT, Nat.reduceBEq, Int.reduceLT, Int.reduceLE, Int.reduceGT, Int.reduceGE, Int.reduceEq, Int.reduceNe, Int.reduceBEq, Int.reduceBNe, Int.reduceAdd, Int.reduceSub, Int.reduceMul, Int.reduceToNat, Int.reduceNeg, ↓reduceIte, ↓reduceDIte, e2]) (by simp -dsimp only [go_sem, Nat.reduceEqDiff, Nat.reduceAdd, Nat.reduceSub, Nat.reduceMul, Nat.reduceLeDiff, Nat.reduceLT, Nat.reduceBEq, Int.reduceLT, Int.reduceLE, Int.reduceGT, Int.reduceGE, Int.reduceEq, Int.reduceNe, Int.reduceBEq, Int.reduceBNe, Int.reduceAdd, Int.reduceSub, Int.reduceMul, Int.reduceToNat, Int.reduceNeg, ↓reduceIte, ↓reduceDIte, e5]) (by simp -dsimp only [go_sem, Nat.reduceEqDiff, Nat.reduceAdd, Nat.reduceSub, Nat.reduceMul, Nat.reduceLeDiff, Nat.reduceLT, Nat.reduceBEq, Int.reduceLT, Int.reduceLE, Int.reduceGT, Int.reduceGE, Int.reduceEq, Int.reduceNe, Int.reduceBEq, Int.reduceBNe, Int.reduceAdd, Int.reduceSub, Int.reduceMul, Int.reduceToNat, Int.reduceNeg, ↓reduceIte, ↓reduceDIte]; simp [RV.right, *]) hQ
    · simp -dsimp only [go_sem, Nat.reduceEqDiff, Nat.reduceAdd, Nat.reduceSub, Nat.reduceMul, Nat.reduceLeDiff, Nat.reduceLT, Nat.reduceBEq, Int.reduceLT, Int.reduceLE, Int.reduceGT, Int.reduceGE, Int.reduceEq, Int.reduceNe, Int.reduceBEq, Int.reduceBNe, Int.reduceAdd, Int.reduceSub, Int.reduceMul, Int.reduceToNat, Int.reduceNeg, ↓reduceIte, ↓reduceDIte, e2, h1, h2]
      exact nbP_ev (v := v) ok st (by simp -dsimp only [go_sem, Nat.reduceEqDiff, Nat.reduceAdd, Nat.reduceSub, Nat.reduceMul, Nat.reduceLeDiff, Nat.reduceLT, Nat.reduceBEq, Int.reduceLT, Int.reduceLE, Int.reduceGT, Int.reduceGE, Int.reduceEq, Int.reduceNe, Int.reduceBEq, Int.reduceBNe, Int.reduceAdd, Int.reduceSub, Int.reduceMul, Int.reduceToNat, Int.reduceNeg, ↓reduceIte, ↓reduceDIte, e1]) (by simp -dsimp only [go_sem, Nat.reduceEqDiff, Nat.reduceAdd, Nat.reduceSub, Nat.reduceMul, Nat.reduceLeDiff, Nat.reduceLT, Nat.reduceBEq, Int.reduceLT, Int.reduceLE, Int.reduceGT, Int.reduceGE, Int.reduceEq, Int.reduceNe, Int.reduceBEq, Int.reduceBNe, Int.reduceAdd, Int.reduceSub, Int.reduceMul, Int.reduceToNat, Int.reduceNeg, ↓reduceIte, ↓reduceDIte, e2]) (by simp -dsimp only [go_sem, Nat.reduceEqDiff, Nat.reduceAdd, Nat.reduceSub, Nat.reduceMul, Nat.reduceLeDiff, Nat.reduceLT, Nat.reduceBEq, Int.reduceLT, Int.reduceLE, Int.reduceGT, Int.reduceGE, Int.reduceEq, Int.reduceNe, Int.reduceBEq, Int.reduceBNe, Int.reduceAdd, Int.reduceSub, Int.reduceMul, Int.reduceToNat, Int.reduceNeg, ↓reduceIte, ↓reduceDIte, e5]) (by simp -dsimp only [go_sem, Nat.reduceEqDiff, Nat.reduceAdd, Nat.reduceSub, Nat.reduceMul, Nat.reduceLeDiff, Nat.reduceLT, Nat.reduceBEq, Int.reduceLT, Int.reduceLE, Int.reduceGT, Int.reduceGE, Int.reduceEq, Int.reduceNe, Int.reduceBEq, Int.reduceBNe, Int.reduceAdd, Int.reduceSub, Int.reduceMul, Int.reduceToNat, Int.reduceNeg, ↓reduceIte, ↓reduceDIte]; simp [RV.right, *]) hQ
  · simp -dsimp only [go_sem, Nat.reduceEqDiff, Nat.reduceAdd, Nat.reduceSub, Nat.reduceMul, Nat.reduceLeDiff, Nat.reduceLT, Nat.reduceBEq, Int.reduceLT, Int.reduceLE, Int.reduceGT, Int.reduceGE, Int.reduceEq, Int.reduceNe, Int.reduceBEq, Int.reduceBNe, Int.reduceAdd, Int.reduceSub, Int.reduceMul, Int.reduceToNat, Int.reduceNeg, ↓reduceIte, ↓reduceDIte, e2, h1]
    exact nbP_ev (v := v) ok st (by simp -dsimp only [go_sem, Nat.reduceEqDiff, Nat.reduceAdd, Nat.reduceSub, Nat.reduceMul, Nat.reduceLeDiff, Nat.reduceLT, Nat.reduceBEq, Int.reduceLT, Int.reduceLE, Int.reduceGT, Int.reduceGE, Int.reduceEq, Int.reduceNe, Int.reduceBEq, Int.reduceBNe, Int.reduceAdd, Int.reduceSub, Int.reduceMul, Int.reduceToNat, Int.reduceNeg, ↓reduceIte, ↓reduceDIte, e1]) (by simp -dsimp only [go_sem, Nat.reduceEqDiff, Nat.reduceAdd, Nat.reduceSub, Nat.reduceMul, Nat.reduceLeDiff, Nat.reduceLT, Nat.reduceBEq, Int.reduceLT, Int.reduceLE, Int.reduceGT, Int.reduceGE, Int.reduceEq, Int.reduceNe, Int.reduceBEq, Int.reduceBNe, Int.reduceAdd, Int.reduceSub, Int.reduceMul, Int.reduceToNat, Int.reduceNeg, ↓reduceIte, ↓reduceDIte, e2]) (by simp -dsimp only [go_sem, Nat.reduceEqDiff, Nat.reduceAdd, Nat.reduceSub, Nat.reduceMul, Nat.reduceLeDiff, Nat.reduceLT, Nat.reduceBEq, Int.reduceLT, Int.reduceLE, Int.reduceGT, Int.reduceGE, Int.reduceEq, Int.reduceNe, Int.reduceBEq, Int.reduceBNe, Int.reduceAdd, Int.reduceSub, Int.reduceMul, Int.reduceToNat, Int.reduceNeg, ↓reduceIte, ↓reduceDIte, e5]) (by simp -dsimp only [go_sem, Nat.reduceEqDiff, Nat.reduceAdd, Nat.reduceSub, Nat.reduceMul, Nat.reduceLeDiff, Nat.reduceLT, Nat.reduceBEq, Int.reduceLT, Int.reduceLE, Int.reduceGT, Int.reduceGE, Int.reduceEq, Int.reduceNe, Int.reduceBEq, Int.reduceBNe, Int.reduceAdd, Int.reduceSub, Int.reduceMul, Int.reduceToNat, Int.reduceNeg, ↓reduceIte, ↓reduceDIte]; simp [RV.right, *]) hQ
set_option maxHeartbeats 1000000 in
theorem nobody_ev {lim : Nat} {H : LHeap} {r : RV} {v : BitVec 64} : callE T 5 lim [r.v, w64 v] H fun v H' => v = .bool true := by
  refine callE_pop (code := CN) rfl (by simp) rfl ?_
  unfold CN
  simp -dsimp only [go_sem, Nat.reduceEqDiff, Nat.reduceAdd, Nat.reduceSub, Nat.reduceMul, Nat.reduceLeDiff, Nat.reduceLT, Nat.reduceBEq, Int.reduceLT, Int.reduceLE, Int.reduceGT, Int.reduceGE, Int.reduceEq, Int.reduceNe, Int.reduceBEq, Int.reduceBNe, Int.reduceAdd, Int.reduceSub, Int.reduceMul, Int.reduceToNat, Int.reduceNeg, ↓reduceIte, ↓reduceDIte]
  refine CT_of (new_ev (by simp)) ?_
  rintro _ _ h
  rw [if_neg (by decide)] at h
  obtain ⟨rfl, rfl⟩ := h
  have ok := MV.Ok.new (n := 8) (by decide) (by decide)
  have st : (MV.new 8).sum 6 = 0 := by decide
  simp only [show (8 : Int).toNat = 8 from rfl]
  generalize MV.new 8 = m at ok st ⊢
  have mm := fun l => mem_at (H := H) (pre := [rro r]) (t := l) ok
  simp only [List.length_cons, List.length_nil, Nat.zero_add, List.cons_append, List.nil_append, Nat.reduceAdd] at mm
  simp -dsimp only [go_sem, Nat.reduceEqDiff, Nat.reduceAdd, Nat.reduceSub, Nat.reduceMul, Nat.reduceLeDiff, Nat.reduceLT, Nat.reduceBEq, Int.reduceLT, Int.reduceLE, Int.reduceGT, Int.reduceGE, Int.reduceEq, Int.reduceNe, Int.reduceBEq, Int.reduceBNe, Int.reduceAdd, Int.reduceSub, Int.reduceMul, Int.reduceToNat, Int.reduceNeg, ↓reduceIte, ↓reduceDIte, Nat.add_assoc]
  refine CT_val cres_nil ?_
  simp -dsimp only [go_sem, Nat.reduceEqDiff, Nat.reduceAdd, Nat.reduceSub, Nat.reduceMul, Nat.reduceLeDiff, Nat.reduceLT, Nat.reduceBEq, Int.reduceLT, Int.reduceLE, Int.reduceGT, Int.reduceGE, Int.reduceEq, Int.reduceNe, Int.reduceBEq, Int.reduceBNe, Int.reduceAdd, Int.reduceSub, Int.reduceMul, Int.reduceToNat, Int.reduceNeg, ↓reduceIte, ↓reduceDIte]
  refine CT_val (cres_zero (get_app H _ 4)) ?_
  have z1 : (0#64 + 0#64 : BitVec 64) = 0#64 := by decide
  simp -dsimp only [go_sem, Nat.reduceEqDiff, Nat.reduceAdd, Nat.reduceSub, Nat.reduceMul, Nat.reduceLeDiff, Nat.reduceLT, Nat.reduceBEq, Int.reduceLT, Int.reduceLE, Int.reduceGT, Int.reduceGE, Int.reduceEq, Int.reduceNe, Int.reduceBEq, Int.reduceBNe, Int.reduceAdd, Int.reduceSub, Int.reduceMul, Int.reduceToNat, Int.reduceNeg, ↓reduceIte, ↓reduceDIte, z1]
  refine CT_val cstep_nil ?_
  simp -dsimp only [go_sem, Nat.reduceEqDiff, Nat.reduceAdd, Nat.reduceSub, Nat.reduceMul, Nat.reduceLeDiff, Nat.reduceLT, Nat.reduceBEq, Int.reduceLT, Int.reduceLE, Int.reduceGT, Int.reduceGE, Int.reduceEq, Int.reduceNe, Int.reduceBEq, Int.reduceBNe, Int.reduceAdd, Int.reduceSub, Int.reduceMul, Int.reduceToNat, Int.reduceNeg, ↓reduceIte, ↓reduceDIte]
  refine CT_val cdone_nil ?_
  simp -dsimp only [go_sem, Nat.reduceEqDiff, Nat.reduceAdd, Nat.reduceSub, Nat.reduceMul, Nat.reduceLeDiff, Nat.reduceLT, Nat.reduceBEq, Int.reduceLT, Int.reduceLE, Int.reduceGT, Int.reduceGE, Int.reduceEq, Int.reduceNe, Int.reduceBEq, Int.reduceBNe, Int.reduceAdd, Int.reduceSub, Int.reduceMul, Int.reduceToNat, Int.reduceNeg, ↓reduceIte, ↓reduceDIte]
  refine CT_val cat_nil ?_
  simp -dsimp only [go_sem, Nat.reduceEqDiff, Nat.reduceAdd, Nat.reduceSub, Nat.reduceMul, Nat.reduceLeDiff, Nat.reduceLT, Nat.reduceBEq, Int.reduceLT, Int.reduceLE, Int.reduceGT, Int.reduceGE, Int.reduceEq, Int.reduceNe, Int.reduceBEq, Int.reduceBNe, Int.reduceAdd, Int.reduceSub, Int.reduceMul, Int.reduceToNat, Int.reduceNeg, ↓reduceIte, ↓reduceDIte]
  refine CT_val (steps_ev (mm _)) ?_
  simp -dsimp only [go_sem, Nat.reduceEqDiff, Nat.reduceAdd, Nat.reduceSub, Nat.reduceMul, Nat.reduceLeDiff, Nat.reduceLT, Nat.reduceBEq, Int.reduceLT, Int.reduceLE, Int.reduceGT, Int.reduceGE, Int.reduceEq, Int.reduceNe, Int.reduceBEq, Int.reduceBNe, Int.reduceAdd, Int.reduceSub, Int.reduceMul, Int.reduceToNat, Int.reduceNeg, ↓reduceIte, ↓reduceDIte, st]
  refine nbR_ev (v := v) ok st (by simp -dsimp only [go_sem, Nat.reduceEqDiff, Nat.reduceAdd, Nat.reduceSub, Nat.reduceMul, Nat.reduceLeDiff, Nat.reduceLT, Nat.reduceBEq, Int.reduceLT, Int.reduceLE, Int.reduceGT, Int.reduceGE, Int.reduceEq, Int.reduceNe, Int.reduceBEq, Int.reduceBNe, Int.reduceAdd, Int.reduceSub, Int.reduceMul, Int.reduceToNat, Int.reduceNeg, ↓reduceIte, ↓reduceDIte]) (by simp -dsimp only [go_sem, Nat.reduceEqDiff, Nat.reduceAdd, Nat.reduceSub, Nat.reduceMul, Nat.reduceLeDiff, Nat.reduceLT, Nat.reduceBEq, Int.reduceLT, Int.reduceLE, Int.reduceGT, Int.reduceGE, Int.reduceEq, Int.reduceNe, Int.reduceBEq, Int.reduceBNe, Int.reduceAdd, Int.reduceSub, Int.reduceMul, Int.reduceToNat, Int.reduceNeg, ↓reduceIte, ↓reduceDIte]) (by simp -dsimp only [go_sem, Nat.reduceEqDiff, Nat.reduceAdd, Nat.reduceSub, Nat.reduceMul, Nat.reduceLeDiff, Nat.reduceLT, Nat.reduceBEq, Int.reduceLT, Int.reduceLE, Int.reduceGT, Int.reduceGE, Int.reduceEq, Int.reduceNe, Int.reduceBEq, Int.reduceBNe, Int.reduceAdd, Int.reduceSub, Int.reduceMul, Int.reduceToNat, Int.reduceNeg, ↓reduceIte, ↓reduceDIte]) ?_
  intro e' H' h6
  simp -dsimp only [go_sem, Nat.reduceEqDiff, Nat.reduceAdd, Nat.reduceSub, Nat.reduceMul, Nat.reduceLeDiff, Nat.reduceLT, Nat.reduceBEq, Int.reduceLT, Int.reduceLE, Int.reduceGT, Int.reduceGE, Int.reduceEq, Int.reduceNe, Int.reduceBEq, Int.reduceBNe, Int.reduceAdd, Int.reduceSub, Int.reduceMul, Int.reduceToNat, Int.reduceNeg, ↓reduceIte, ↓reduceDIte, h6]
end Go.Proofs.Ytopjhhcncjleaaa
