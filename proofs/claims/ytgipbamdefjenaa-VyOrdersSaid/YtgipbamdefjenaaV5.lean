/- The statement VyNobody. -/
import Derived.Test.YtgipbamdefjenaaV2
namespace Go.Proofs.Ytgipbamdefjenaa
open Go Go.LK
set_option linter.unusedSimpArgs false
set_option linter.unusedVariables false
theorem and_pow {s : Int} (h0 : 2 ≤ s) (h1 : s ≤ 1024) : (IntKind.i64.wrap ((BitVec.ofInt IntKind.i64.bits s &&& BitVec.ofInt IntKind.i64.bits (s - 1)).toNat : Int) == 0) = pw s := by
  obtain ⟨k, rfl⟩ := Int.eq_ofNat_of_zero_le (show 0 ≤ s by omega)
  have e1 : ((k : Int) - 1) = ((k - 1 : Nat) : Int) := by omega
  have t1 : (BitVec.ofNat 64 k).toNat = k := by rw [BitVec.toNat_ofNat, Nat.mod_eq_of_lt]; omega
  have t2 : (BitVec.ofNat 64 (k - 1)).toNat = k - 1 := by rw [BitVec.toNat_ofNat, Nat.mod_eq_of_lt]; omega
  have hle : k &&& (k - 1) ≤ k := Nat.and_le_left
  have e2 : (BitVec.ofInt IntKind.i64.bits (k : Int) &&& BitVec.ofInt IntKind.i64.bits ((k : Int) - 1)).toNat = k &&& (k - 1) := by
    rw [e1, BitVec.ofInt_natCast, BitVec.ofInt_natCast, BitVec.toNat_and]
    show (BitVec.ofNat 64 k).toNat &&& (BitVec.ofNat 64 (k - 1)).toNat = _
    rw [t1, t2]
  rw [e2, wrap_i64 (by omega) (by omega), pw, Bool.eq_iff_iff, beq_iff_eq, decide_eq_true_eq, Int.toNat_natCast]
  omega
section
variable {lim o b pw_ pb : Nat} {H : LHeap} {r : RV} {m : MV}
theorem setup_nil {v : Value} (h : NoMem H v) : callE T 10 lim [r.v, v] H fun v H' => v = i64 1 ∧ H' = H := by
  refine callE_pop rfl (by simp) rfl ?_
  simp -dsimp only [go_sem, Nat.reduceEqDiff, Nat.reduceAdd, Nat.reduceSub, Nat.reduceMul, Nat.reduceLeDiff, Nat.reduceLT, Nat.reduceBEq, Int.reduceLT, Int.reduceLE, Int.reduceGT, Int.reduceGE, Int.reduceEq, Int.reduceNe, Int.reduceBEq, Int.reduceBNe, Int.reduceAdd, Int.reduceSub, Int.reduceMul, Int.reduceToNat, Int.reduceNeg, ↓reduceIte, ↓reduceDIte]
  refine CT_val (len_no (h.app _)) ?_
  simp -dsimp only [go_sem, Nat.reduceEqDiff, Nat.reduceAdd, Nat.reduceSub, Nat.reduceMul, Nat.reduceLeDiff, Nat.reduceLT, Nat.reduceBEq, Int.reduceLT, Int.reduceLE, Int.reduceGT, Int.reduceGE, Int.reduceEq, Int.reduceNe, Int.reduceBEq, Int.reduceBNe, Int.reduceAdd, Int.reduceSub, Int.reduceMul, Int.reduceToNat, Int.reduceNeg, ↓reduceIte, ↓reduceDIte]
theorem setup_bad (h : MemAt H b pw_ pb m) (hr : r.right = false) : callE T 10 lim [r.v, ptr b] H fun v H' => v = i64 2 ∧ H' = H := by
  refine callE_pop rfl (by simp) rfl ?_
  have hpos : ((m.w.length : Int) == 0) = false := by rw [beq_eq_false_iff_ne]; have := h.pos; omega
  simp -dsimp only [go_sem, Nat.reduceEqDiff, Nat.reduceAdd, Nat.reduceSub, Nat.reduceMul, Nat.reduceLeDiff, Nat.reduceLT, Nat.reduceBEq, Int.reduceLT, Int.reduceLE, Int.reduceGT, Int.reduceGE, Int.reduceEq, Int.reduceNe, Int.reduceBEq, Int.reduceBNe, Int.reduceAdd, Int.reduceSub, Int.reduceMul, Int.reduceToNat, Int.reduceNeg, ↓reduceIte, ↓reduceDIte]
  refine CT_val (len_ev (h.app _)) ?_
  simp -dsimp only [go_sem, Nat.reduceEqDiff, Nat.reduceAdd, Nat.reduceSub, Nat.reduceMul, Nat.reduceLeDiff, Nat.reduceLT, Nat.reduceBEq, Int.reduceLT, Int.reduceLE, Int.reduceGT, Int.reduceGE, Int.reduceEq, Int.reduceNe, Int.reduceBEq, Int.reduceBNe, Int.reduceAdd, Int.reduceSub, Int.reduceMul, Int.reduceToNat, Int.reduceNeg, ↓reduceIte, ↓reduceDIte, hpos]
  refine CT_val right_ev ?_
  simp -dsimp only [go_sem, Nat.reduceEqDiff, Nat.reduceAdd, Nat.reduceSub, Nat.reduceMul, Nat.reduceLeDiff, Nat.reduceLT, Nat.reduceBEq, Int.reduceLT, Int.reduceLE, Int.reduceGT, Int.reduceGE, Int.reduceEq, Int.reduceNe, Int.reduceBEq, Int.reduceBNe, Int.reduceAdd, Int.reduceSub, Int.reduceMul, Int.reduceToNat, Int.reduceNeg, ↓reduceIte, ↓reduceDIte, hr]
end
set_option maxRecDepth 100000 in
def phP : LCode :=
  (.seq (.steps [
    .act (some 93) (.op (.read (.loadN 2 (.tmp 2)))) none,
    .act (some 94) (.op (.pure (.move (.tmp 1)))) none,
    .act (some 95) (.call (.func 11) [(.tmp 93), (.tmp 94)]) none,
    .act (some 13) (.op (.pure (.move (.tmp 95)))) none])
  (.seq (.steps [
    .act (some 97) (.op (.pure (.move (.tmp 13)))) none,
    .act (some 98) (.call (.func 15) [(.tmp 97)]) none,
    .act (some 96) (.op (.pure (.move (.tmp 98)))) none,
    .act (some 99) (.op (.pure (.extract (.tmp 96) 0))) none,
    .act (some 100) (.op (.pure (.extract (.tmp 96) 1))) none,
    .act (some 14) (.op (.pure (.move (.tmp 99)))) none,
    .act (some 15) (.op (.pure (.move (.tmp 100)))) none])
  (.seq (.seq (.steps [
    .act (some 101) (.op (.read (.loadN 2 (.tmp 2)))) none,
    .act (some 102) (.call (.func 21) [(.tmp 101)]) none,
    .act (some 103) (.op (.pure (.move (.tmp 12)))) none,
    .act (some 104) (.op (.pure (.eqB true (.tmp 102) (.tmp 103)))) none,
    .act (some 105) (.op (.pure (.move (.tmp 104)))) none,
    .act (some 106) (.op (.pure (.move (.tmp 13)))) (some (105, false)),
    .act (some 107) (.call (.func 14) [(.tmp 106)]) (some (105, false)),
    .act (some 108) (.op (.pure (.move (.tmp 12)))) (some (105, false)),
    .act (some 109) (.op (.pure (.eqB false (.tmp 107) (.tmp 108)))) (some (105, false)),
    .act (some 110) (.op (.pure (.pick (.tmp 105) (.const (.bool true)) (.tmp 109)))) none,
    .act (some 111) (.op (.pure (.move (.tmp 110)))) none,
    .act (some 112) (.op (.pure (.move (.tmp 14)))) (some (111, false)),
    .act (some 113) (.op (.pure (.bin .eql (.tmp 112) (.const (.int .i64 2))))) (some (111, false)),
    .act (some 114) (.op (.pure (.move (.tmp 12)))) (some (111, false)),
    .act (some 115) (.op (.pure (.eqB false (.tmp 113) (.tmp 114)))) (some (111, false)),
    .act (some 116) (.op (.pure (.pick (.tmp 111) (.const (.bool true)) (.tmp 115)))) none,
    .act (some 117) (.op (.pure (.move (.tmp 116)))) none,
    .act (some 118) (.op (.pure (.move (.tmp 15)))) (some (117, false)),
    .act (some 119) (.op (.pure (.bin .neq (.tmp 118) (.const (w64 0#64))))) (some (117, false)),
    .act (some 120) (.op (.pure (.pick (.tmp 117) (.const (.bool true)) (.tmp 119)))) none])
  (.cond (.tmp 120)
   (.seq (.steps [
     .act (some 4) (.op (.pure (.move (.const (.bool false))))) none])
   .ret)
   .skip))
  (.seq (.seq (.steps [
    .act (some 121) (.op (.pure (.move (.tmp 12)))) none,
    .act (some 122) (.op (.pure (.not (.tmp 121)))) none])
  (.cond (.tmp 122)
   (.seq (.steps [
     .act (some 123) (.op (.read (.loadN 2 (.tmp 2)))) none,
     .act (some 124) (.op (.pure (.move (.tmp 5)))) none,
     .act (some 125) (.call (.func 10) [(.tmp 123), (.tmp 124)]) none,
     .act (some 126) (.op (.pure (.bin .eql (.tmp 125) (.const (.int .i64 2))))) none,
     .act (some 127) (.op (.pure (.move (.tmp 126)))) none,
     .act (some 128) (.op (.read (.loadN 2 (.tmp 2)))) (some (127, true)),
     .act (some 129) (.call (.func 9) [(.tmp 128)]) (some (127, true)),
     .act (some 130) (.op (.pure (.bin .eql (.tmp 129) (.const (.int .i64 0))))) (some (127, true)),
     .act (some 131) (.op (.pure (.pick (.tmp 127) (.tmp 130) (.const (.bool false))))) none,
     .act (some 132) (.op (.pure (.move (.tmp 131)))) none,
     .act (some 133) (.op (.pure (.move (.tmp 13)))) (some (132, true)),
     .act (some 134) (.op (.pure (.move (.tmp 5)))) (some (132, true)),
     .act (some 135) (.call (.func 13) [(.tmp 133), (.tmp 134)]) (some (132, true)),
     .act (some 136) (.op (.pure (.pick (.tmp 132) (.tmp 135) (.const (.bool false))))) none,
     .act (some 137) (.op (.pure (.move (.tmp 136)))) none,
     .act (some 138) (.op (.pure (.move (.tmp 5)))) (some (137, true)),
     .act (some 139) (.call (.func 20) [(.tmp 138)]) (some (137, true)),
     .act (some 140) (.op (.pure (.bin .eql (.tmp 139) (.const (.int .i64 0))))) (some (137, true)),
     .act (some 141) (.op (.pure (.pick (.tmp 137) (.tmp 140) (.const (.bool false))))) none,
     .act (some 142) (.op (.pure (.move (.tmp 141)))) none,
     .act (some 143) (.call (.func 18) []) (some (142, true)),
     .act (some 144) (.op (.pure (.pick (.tmp 142) (.tmp 143) (.const (.bool false))))) none,
     .act (some 4) (.op (.pure (.move (.tmp 144)))) none])
   .ret)
   .skip))
  (.seq (.steps [
    .act (some 145) (.op (.read (.loadN 2 (.tmp 2)))) none,
    .act (some 146) (.call (.func 10) [(.tmp 145), (.const (.pointer none))]) none,
    .act (some 147) (.op (.pure (.bin .eql (.tmp 146) (.const (.int .i64 1))))) none,
    .act (some 148) (.op (.pure (.move (.tmp 147)))) none,
    .act (some 149) (.op (.pure (.move (.tmp 13)))) (some (148, true)),
    .act (some 150) (.call (.func 13) [(.tmp 149), (.const (.pointer none))]) (some (148, true)),
    .act (some 151) (.op (.pure (.not (.tmp 150)))) (some (148, true)),
    .act (some 152) (.op (.pure (.pick (.tmp 148) (.tmp 151) (.const (.bool false))))) none,
    .act (some 153) (.op (.pure (.move (.tmp 152)))) none,
    .act (some 154) (.op (.pure (.move (.tmp 13)))) (some (153, true)),
    .act (some 155) (.call (.func 19) [(.tmp 154)]) (some (153, true)),
    .act (some 156) (.op (.pure (.bin .eql (.tmp 155) (.const (.int .i64 0))))) (some (153, true)),
    .act (some 157) (.op (.pure (.pick (.tmp 153) (.tmp 156) (.const (.bool false))))) none,
    .act (some 158) (.op (.pure (.move (.tmp 157)))) none,
    .act (some 159) (.call (.func 18) []) (some (158, true)),
    .act (some 160) (.op (.pure (.pick (.tmp 158) (.tmp 159) (.const (.bool false))))) none,
    .act (some 4) (.op (.pure (.move (.tmp 160)))) none])
  .ret)))))
def phR : LCode :=
  (.seq (.steps [
    .act (some 66) (.op (.pure (.fieldAddr 0 (.tmp 2)))) none,
    .act (some 67) (.op (.read (.load1 (.tmp 66)))) none,
    .act (some 68) (.op (.pure (.bin .geq (.tmp 67) (.const (.int .i64 0))))) none,
    .act (some 69) (.op (.pure (.move (.tmp 68)))) none,
    .act (some 70) (.op (.pure (.fieldAddr 0 (.tmp 2)))) (some (69, true)),
    .act (some 71) (.op (.read (.load1 (.tmp 70)))) (some (69, true)),
    .act (some 72) (.op (.pure (.bin .leq (.tmp 71) (.const (.int .i64 65536))))) (some (69, true)),
    .act (some 73) (.op (.pure (.pick (.tmp 69) (.tmp 72) (.const (.bool false))))) none,
    .act (some 74) (.op (.pure (.move (.tmp 73)))) none,
    .act (some 75) (.op (.pure (.fieldAddr 1 (.tmp 2)))) (some (74, true)),
    .act (some 76) (.op (.read (.load1 (.tmp 75)))) (some (74, true)),
    .act (some 77) (.op (.pure (.bin .geq (.tmp 76) (.const (.int .i64 2))))) (some (74, true)),
    .act (some 78) (.op (.pure (.pick (.tmp 74) (.tmp 77) (.const (.bool false))))) none,
    .act (some 79) (.op (.pure (.move (.tmp 78)))) none,
    .act (some 80) (.op (.pure (.fieldAddr 1 (.tmp 2)))) (some (79, true)),
    .act (some 81) (.op (.read (.load1 (.tmp 80)))) (some (79, true)),
    .act (some 82) (.op (.pure (.bin .leq (.tmp 81) (.const (.int .i64 1024))))) (some (79, true)),
    .act (some 83) (.op (.pure (.pick (.tmp 79) (.tmp 82) (.const (.bool false))))) none,
    .act (some 84) (.op (.pure (.move (.tmp 83)))) none,
    .act (some 85) (.op (.pure (.fieldAddr 1 (.tmp 2)))) (some (84, true)),
    .act (some 86) (.op (.read (.load1 (.tmp 85)))) (some (84, true)),
    .act (some 87) (.op (.pure (.fieldAddr 1 (.tmp 2)))) (some (84, true)),
    .act (some 88) (.op (.read (.load1 (.tmp 87)))) (some (84, true)),
    .act (some 89) (.op (.pure (.bin .sub (.tmp 88) (.const (.int .i64 1))))) (some (84, true)),
    .act (some 90) (.op (.pure (.bin .and (.tmp 86) (.tmp 89)))) (some (84, true)),
    .act (some 91) (.op (.pure (.bin .eql (.tmp 90) (.const (.int .i64 0))))) (some (84, true)),
    .act (some 92) (.op (.pure (.pick (.tmp 84) (.tmp 91) (.const (.bool false))))) none,
    .act (some 12) (.op (.pure (.move (.tmp 92)))) none])
  phP)
def Ln : LCode :=
  (.seq (.steps [
    .act (some 2) (.op (.new (.box (.tmp 0)))) none,
    .act (some 4) (.op (.pure (.move (.const (.bool false))))) none])
  (.seq (.steps [
    .act (some 17) (.call (.func 8) [(.const (.int .i64 8))]) none,
    .act (some 16) (.op (.pure (.move (.tmp 17)))) none,
    .act (some 18) (.op (.pure (.extract (.tmp 16) 0))) none,
    .act (some 19) (.op (.pure (.extract (.tmp 16) 1))) none,
    .act (some 5) (.op (.pure (.move (.tmp 18)))) none,
    .act (some 6) (.op (.pure (.move (.tmp 19)))) none])
  (.seq (.seq (.steps [
    .act (some 20) (.op (.pure (.move (.tmp 6)))) none,
    .act (some 21) (.op (.pure (.bin .neq (.tmp 20) (.const (.int .i64 0))))) none])
  (.cond (.tmp 21)
   (.seq (.steps [
     .act (some 4) (.op (.pure (.move (.const (.bool false))))) none])
   .ret)
   .skip))
  (.seq (.steps [
    .act (some 7) (.op (.pure (.move (.const (.pointer none))))) none])
  (.seq (.steps [
    .act (some 23) (.op (.pure (.move (.tmp 7)))) none,
    .act (some 24) (.call (.func 15) [(.tmp 23)]) none,
    .act (some 22) (.op (.pure (.move (.tmp 24)))) none,
    .act (some 25) (.op (.pure (.extract (.tmp 22) 0))) none,
    .act (some 26) (.op (.pure (.extract (.tmp 22) 1))) none,
    .act (some 8) (.op (.pure (.move (.tmp 25)))) none,
    .act (some 9) (.op (.pure (.move (.tmp 26)))) none])
  (.seq (.steps [
    .act (some 28) (.op (.pure (.build [(.bool false), (.int .i64 0), (.int .i64 0), (.bool false), (w64 0#64), (.int .i64 0), (w64 0#64), (.int .i64 0)] []))) none,
    .act (some 29) (.op (.new (.box (.tmp 28)))) none,
    .act (some 30) (.call (.func 15) [(.tmp 29)]) none,
    .act (some 27) (.op (.pure (.move (.tmp 30)))) none,
    .act (some 31) (.op (.pure (.extract (.tmp 27) 0))) none,
    .act (some 32) (.op (.pure (.extract (.tmp 27) 1))) none,
    .act (some 10) (.op (.pure (.move (.tmp 31)))) none,
    .act (some 11) (.op (.pure (.move (.tmp 32)))) none])
  (.seq (.seq (.steps [
    .act (some 33) (.op (.pure (.move (.tmp 8)))) none,
    .act (some 34) (.op (.pure (.bin .neq (.tmp 33) (.const (.int .i64 1))))) none,
    .act (some 35) (.op (.pure (.move (.tmp 34)))) none,
    .act (some 36) (.op (.pure (.move (.tmp 10)))) (some (35, false)),
    .act (some 37) (.op (.pure (.bin .neq (.tmp 36) (.const (.int .i64 1))))) (some (35, false)),
    .act (some 38) (.op (.pure (.pick (.tmp 35) (.const (.bool true)) (.tmp 37)))) none,
    .act (some 39) (.op (.pure (.move (.tmp 38)))) none,
    .act (some 40) (.op (.pure (.move (.tmp 9)))) (some (39, false)),
    .act (some 41) (.op (.pure (.move (.tmp 11)))) (some (39, false)),
    .act (some 42) (.op (.pure (.bin .add (.tmp 40) (.tmp 41)))) (some (39, false)),
    .act (some 43) (.op (.pure (.bin .neq (.tmp 42) (.const (w64 0#64))))) (some (39, false)),
    .act (some 44) (.op (.pure (.pick (.tmp 39) (.const (.bool true)) (.tmp 43)))) none,
    .act (some 45) (.op (.pure (.move (.tmp 44)))) none,
    .act (some 46) (.op (.pure (.move (.tmp 7)))) (some (45, false)),
    .act (some 47) (.op (.pure (.move (.tmp 5)))) (some (45, false)),
    .act (some 48) (.call (.func 13) [(.tmp 46), (.tmp 47)]) (some (45, false)),
    .act (some 49) (.op (.pure (.not (.tmp 48)))) (some (45, false)),
    .act (some 50) (.op (.pure (.pick (.tmp 45) (.const (.bool true)) (.tmp 49)))) none,
    .act (some 51) (.op (.pure (.move (.tmp 50)))) none,
    .act (some 52) (.op (.pure (.move (.tmp 7)))) (some (51, false)),
    .act (some 53) (.call (.func 14) [(.tmp 52)]) (some (51, false)),
    .act (some 54) (.op (.pure (.not (.tmp 53)))) (some (51, false)),
    .act (some 55) (.op (.pure (.pick (.tmp 51) (.const (.bool true)) (.tmp 54)))) none,
    .act (some 56) (.op (.pure (.move (.tmp 55)))) none,
    .act (some 57) (.op (.pure (.move (.tmp 7)))) (some (56, false)),
    .act (some 58) (.call (.func 19) [(.tmp 57)]) (some (56, false)),
    .act (some 59) (.op (.pure (.bin .neq (.tmp 58) (.const (.int .i64 5))))) (some (56, false)),
    .act (some 60) (.op (.pure (.pick (.tmp 56) (.const (.bool true)) (.tmp 59)))) none,
    .act (some 61) (.op (.pure (.move (.tmp 60)))) none,
    .act (some 62) (.op (.pure (.move (.tmp 5)))) (some (61, false)),
    .act (some 63) (.call (.func 20) [(.tmp 62)]) (some (61, false)),
    .act (some 64) (.op (.pure (.bin .neq (.tmp 63) (.const (.int .i64 0))))) (some (61, false)),
    .act (some 65) (.op (.pure (.pick (.tmp 61) (.const (.bool true)) (.tmp 64)))) none])
  (.cond (.tmp 65)
   (.seq (.steps [
     .act (some 4) (.op (.pure (.move (.const (.bool false))))) none])
   .ret)
   .skip))
  phR)))))))

abbrev zop : LObj := .row false 0 [.bool false, i64 0, i64 0, .bool false, w64 0#64, i64 0, w64 0#64, i64 0]
abbrev rro (r : RV) : LObj := .row false 0 [i64 r.a, i64 r.s]
set_option maxHeartbeats 1000000 in
theorem phP_ev {H : LHeap} {r : RV} {v : BitVec 64} {m : MV} {e : Env} {Q : LExit → Env → LHeap → Prop} (ok : m.Ok 8) (st : m.sum 6 = 0)
    (e1 : LK.look e 1 = w64 v) (e2 : LK.look e 2 = ptr H.length) (e5 : LK.look e 5 = ptr (H.length + 3)) (e12 : LK.look e 12 = .bool r.right)
    (hQ : ∀ e' H', LK.look e' 4 = .bool true → Q .ret e' H') :
    XW (callE T) H.length phP e (H ++ [rro r, wrow m, brow m, mrow (H.length + 1) (H.length + 2) m, zop]) Q := by
  have b1 : (true == true) = true := rfl
  have b2 : (false == false) = true := rfl
  have b3 : (true == false) = false := rfl
  have b4 : (false == true) = false := rfl
  have mm := fun l => mem_at (H := H) (pre := [rro r]) (t := l) ok
  simp only [List.length_cons, List.length_nil, Nat.zero_add, List.cons_append, List.nil_append, Nat.reduceAdd] at mm
  unfold phP
  simp -dsimp only [go_sem, Nat.reduceEqDiff, Nat.reduceAdd, Nat.reduceSub, Nat.reduceMul, Nat.reduceLeDiff, Nat.reduceLT, Nat.reduceBEq, Int.reduceLT, Int.reduceLE, Int.reduceGT, Int.reduceGE, Int.reduceEq, Int.reduceNe, Int.reduceBEq, Int.reduceBNe, Int.reduceAdd, Int.reduceSub, Int.reduceMul, Int.reduceToNat, Int.reduceNeg, ↓reduceIte, ↓reduceDIte, e1, e2]
  refine CT_of (vput_ev (by simp)) ?_
  rintro _ _ ⟨u1, u2, rfl, rfl⟩
  cases hr : r.right
  · rw [hr] at e12
    simp only [Bool.false_eq_true, if_false]
    rw [show VOp.fin ⟨r, false, v, 0, 0#64, 0⟩ 2 = ⟨r, false, 0#64, 5, 0#64, 2⟩ from rfl]
    simp -dsimp only [go_sem, Nat.reduceEqDiff, Nat.reduceAdd, Nat.reduceSub, Nat.reduceMul, Nat.reduceLeDiff, Nat.reduceLT, Nat.reduceBEq, Int.reduceLT, Int.reduceLE, Int.reduceGT, Int.reduceGE, Int.reduceEq, Int.reduceNe, Int.reduceBEq, Int.reduceBNe, Int.reduceAdd, Int.reduceSub, Int.reduceMul, Int.reduceToNat, Int.reduceNeg, ↓reduceIte, ↓reduceDIte, e2]
    refine CT_val (vres_ev (x := ⟨r, false, 0#64, 5, 0#64, 2⟩) (get_app H _ 7)) ?_
    rw [if_pos (show (VOp.mk r false 0#64 5 0#64 2).at_ = 5 from rfl)]
    simp -dsimp only [go_sem, Nat.reduceEqDiff, Nat.reduceAdd, Nat.reduceSub, Nat.reduceMul, Nat.reduceLeDiff, Nat.reduceLT, Nat.reduceBEq, Int.reduceLT, Int.reduceLE, Int.reduceGT, Int.reduceGE, Int.reduceEq, Int.reduceNe, Int.reduceBEq, Int.reduceBNe, Int.reduceAdd, Int.reduceSub, Int.reduceMul, Int.reduceToNat, Int.reduceNeg, ↓reduceIte, ↓reduceDIte, e2]
    refine CT_val right_ev ?_
    simp -dsimp only [go_sem, Nat.reduceEqDiff, Nat.reduceAdd, Nat.reduceSub, Nat.reduceMul, Nat.reduceLeDiff, Nat.reduceLT, Nat.reduceBEq, Int.reduceLT, Int.reduceLE, Int.reduceGT, Int.reduceGE, Int.reduceEq, Int.reduceNe, Int.reduceBEq, Int.reduceBNe, Int.reduceAdd, Int.reduceSub, Int.reduceMul, Int.reduceToNat, Int.reduceNeg, ↓reduceIte, ↓reduceDIte, e12, hr, b1, b2, b3, b4]
    refine CT_val (vdone_ev (x := ⟨r, false, 0#64, 5, 0#64, 2⟩) (get_app H _ 7)) ?_
    simp -dsimp only [go_sem, Nat.reduceEqDiff, Nat.reduceAdd, Nat.reduceSub, Nat.reduceMul, Nat.reduceLeDiff, Nat.reduceLT, Nat.reduceBEq, Int.reduceLT, Int.reduceLE, Int.reduceGT, Int.reduceGE, Int.reduceEq, Int.reduceNe, Int.reduceBEq, Int.reduceBNe, Int.reduceAdd, Int.reduceSub, Int.reduceMul, Int.reduceToNat, Int.reduceNeg, ↓reduceIte, ↓reduceDIte, e12, hr, b1, b2, b3, b4, e2, e5]
    refine CT_val (setup_bad (mm _) hr) ?_
    simp -dsimp only [go_sem, Nat.reduceEqDiff, Nat.reduceAdd, Nat.reduceSub, Nat.reduceMul, Nat.reduceLeDiff, Nat.reduceLT, Nat.reduceBEq, Int.reduceLT, Int.reduceLE, Int.reduceGT, Int.reduceGE, Int.reduceEq, Int.reduceNe, Int.reduceBEq, Int.reduceBNe, Int.reduceAdd, Int.reduceSub, Int.reduceMul, Int.reduceToNat, Int.reduceNeg, ↓reduceIte, ↓reduceDIte, e2]
    refine CT_val words_ev ?_
    rw [if_neg (by simp [hr])]
    simp -dsimp only [go_sem, Nat.reduceEqDiff, Nat.reduceAdd, Nat.reduceSub, Nat.reduceMul, Nat.reduceLeDiff, Nat.reduceLT, Nat.reduceBEq, Int.reduceLT, Int.reduceLE, Int.reduceGT, Int.reduceGE, Int.reduceEq, Int.reduceNe, Int.reduceBEq, Int.reduceBNe, Int.reduceAdd, Int.reduceSub, Int.reduceMul, Int.reduceToNat, Int.reduceNeg, ↓reduceIte, ↓reduceDIte, e5]
    refine CT_val (vstep_done (x := ⟨r, false, 0#64, 5, 0#64, 2⟩) (get_app H _ 7) rfl) ?_
    simp -dsimp only [go_sem, Nat.reduceEqDiff, Nat.reduceAdd, Nat.reduceSub, Nat.reduceMul, Nat.reduceLeDiff, Nat.reduceLT, Nat.reduceBEq, Int.reduceLT, Int.reduceLE, Int.reduceGT, Int.reduceGE, Int.reduceEq, Int.reduceNe, Int.reduceBEq, Int.reduceBNe, Int.reduceAdd, Int.reduceSub, Int.reduceMul, Int.reduceToNat, Int.reduceNeg, ↓reduceIte, ↓reduceDIte, e5]
    refine CT_val (steps_ev (mm _)) ?_
    simp -dsimp only [go_sem, Nat.reduceEqDiff, Nat.reduceAdd, Nat.reduceSub, Nat.reduceMul, Nat.reduceLeDiff, Nat.reduceLT, Nat.reduceBEq, Int.reduceLT, Int.reduceLE, Int.reduceGT, Int.reduceGE, Int.reduceEq, Int.reduceNe, Int.reduceBEq, Int.reduceBNe, Int.reduceAdd, Int.reduceSub, Int.reduceMul, Int.reduceToNat, Int.reduceNeg, ↓reduceIte, ↓reduceDIte, st]
    refine CT_val (one_ev _ _) ?_
    simp -dsimp only [go_sem, Nat.reduceEqDiff, Nat.reduceAdd, Nat.reduceSub, Nat.reduceMul, Nat.reduceLeDiff, Nat.reduceLT, Nat.reduceBEq, Int.reduceLT, Int.reduceLE, Int.reduceGT, Int.reduceGE, Int.reduceEq, Int.reduceNe, Int.reduceBEq, Int.reduceBNe, Int.reduceAdd, Int.reduceSub, Int.reduceMul, Int.reduceToNat, Int.reduceNeg, ↓reduceIte, ↓reduceDIte]
    exact hQ _ _ rfl
  · rw [hr] at e12
    simp only [if_true]
    simp -dsimp only [go_sem, Nat.reduceEqDiff, Nat.reduceAdd, Nat.reduceSub, Nat.reduceMul, Nat.reduceLeDiff, Nat.reduceLT, Nat.reduceBEq, Int.reduceLT, Int.reduceLE, Int.reduceGT, Int.reduceGE, Int.reduceEq, Int.reduceNe, Int.reduceBEq, Int.reduceBNe, Int.reduceAdd, Int.reduceSub, Int.reduceMul, Int.reduceToNat, Int.reduceNeg, ↓reduceIte, ↓reduceDIte, e2]
    refine CT_val (vres_ev (x := ⟨r, false, v, 0, 0#64, 0⟩) (get_app H _ 7)) ?_
    rw [if_neg (by simp)]
    simp -dsimp only [go_sem, Nat.reduceEqDiff, Nat.reduceAdd, Nat.reduceSub, Nat.reduceMul, Nat.reduceLeDiff, Nat.reduceLT, Nat.reduceBEq, Int.reduceLT, Int.reduceLE, Int.reduceGT, Int.reduceGE, Int.reduceEq, Int.reduceNe, Int.reduceBEq, Int.reduceBNe, Int.reduceAdd, Int.reduceSub, Int.reduceMul, Int.reduceToNat, Int.reduceNeg, ↓reduceIte, ↓reduceDIte, e2]
    refine CT_val right_ev ?_
    simp -dsimp only [go_sem, Nat.reduceEqDiff, Nat.reduceAdd, Nat.reduceSub, Nat.reduceMul, Nat.reduceLeDiff, Nat.reduceLT, Nat.reduceBEq, Int.reduceLT, Int.reduceLE, Int.reduceGT, Int.reduceGE, Int.reduceEq, Int.reduceNe, Int.reduceBEq, Int.reduceBNe, Int.reduceAdd, Int.reduceSub, Int.reduceMul, Int.reduceToNat, Int.reduceNeg, ↓reduceIte, ↓reduceDIte, e12, hr, b1, b2, b3, b4]
    refine CT_val (vdone_ev (x := ⟨r, false, v, 0, 0#64, 0⟩) (get_app H _ 7)) ?_
    have c05 : ((0 : Int) == 5) = false := by decide
    simp -dsimp only [go_sem, Nat.reduceEqDiff, Nat.reduceAdd, Nat.reduceSub, Nat.reduceMul, Nat.reduceLeDiff, Nat.reduceLT, Nat.reduceBEq, Int.reduceLT, Int.reduceLE, Int.reduceGT, Int.reduceGE, Int.reduceEq, Int.reduceNe, Int.reduceBEq, Int.reduceBNe, Int.reduceAdd, Int.reduceSub, Int.reduceMul, Int.reduceToNat, Int.reduceNeg, ↓reduceIte, ↓reduceDIte, e12, hr, b1, b2, b3, b4, e2, e5, c05]
    refine CT_val (setup_nil (.inl rfl)) ?_
    simp -dsimp only [go_sem, Nat.reduceEqDiff, Nat.reduceAdd, Nat.reduceSub, Nat.reduceMul, Nat.reduceLeDiff, Nat.reduceLT, Nat.reduceBEq, Int.reduceLT, Int.reduceLE, Int.reduceGT, Int.reduceGE, Int.reduceEq, Int.reduceNe, Int.reduceBEq, Int.reduceBNe, Int.reduceAdd, Int.reduceSub, Int.reduceMul, Int.reduceToNat, Int.reduceNeg, ↓reduceIte, ↓reduceDIte]
    refine CT_val (vstep_nomem (x := ⟨r, false, v, 0, 0#64, 0⟩) (get_app H _ 7) (by simp) (.inl rfl)) ?_
    simp -dsimp only [go_sem, Nat.reduceEqDiff, Nat.reduceAdd, Nat.reduceSub, Nat.reduceMul, Nat.reduceLeDiff, Nat.reduceLT, Nat.reduceBEq, Int.reduceLT, Int.reduceLE, Int.reduceGT, Int.reduceGE, Int.reduceEq, Int.reduceNe, Int.reduceBEq, Int.reduceBNe, Int.reduceAdd, Int.reduceSub, Int.reduceMul, Int.reduceToNat, Int.reduceNeg, ↓reduceIte, ↓reduceDIte]
    refine CT_val (vat_ev (x := ⟨r, false, v, 0, 0#64, 0⟩) (get_app H _ 7)) ?_
    simp -dsimp only [go_sem, Nat.reduceEqDiff, Nat.reduceAdd, Nat.reduceSub, Nat.reduceMul, Nat.reduceLeDiff, Nat.reduceLT, Nat.reduceBEq, Int.reduceLT, Int.reduceLE, Int.reduceGT, Int.reduceGE, Int.reduceEq, Int.reduceNe, Int.reduceBEq, Int.reduceBNe, Int.reduceAdd, Int.reduceSub, Int.reduceMul, Int.reduceToNat, Int.reduceNeg, ↓reduceIte, ↓reduceDIte]
    refine CT_val (one_ev _ _) ?_
    simp -dsimp only [go_sem, Nat.reduceEqDiff, Nat.reduceAdd, Nat.reduceSub, Nat.reduceMul, Nat.reduceLeDiff, Nat.reduceLT, Nat.reduceBEq, Int.reduceLT, Int.reduceLE, Int.reduceGT, Int.reduceGE, Int.reduceEq, Int.reduceNe, Int.reduceBEq, Int.reduceBNe, Int.reduceAdd, Int.reduceSub, Int.reduceMul, Int.reduceToNat, Int.reduceNeg, ↓reduceIte, ↓reduceDIte]
    exact hQ _ _ rfl
set_option maxHeartbeats 1000000 in
theorem phR_ev {H : LHeap} {r : RV} {v : BitVec 64} {m : MV} {e : Env} {Q : LExit → Env → LHeap → Prop} (ok : m.Ok 8) (st : m.sum 6 = 0)
    (e1 : LK.look e 1 = w64 v) (e2 : LK.look e 2 = ptr H.length) (e5 : LK.look e 5 = ptr (H.length + 3))
    (hQ : ∀ e' H', LK.look e' 4 = .bool true → Q .ret e' H') :
    XW (callE T) H.length phR e (H ++ [rro r, wrow m, brow m, mrow (H.length + 1) (H.length + 2) m, zop]) Q := by
  unfold phR
  by_cases h1 : 0 ≤ r.a
  · by_cases h2 : r.a ≤ 65536
    · by_cases h3 : 2 ≤ r.s
      · by_cases h4 : r.s ≤ 1024
        · have hp := and_pow h3 h4
          have w1 : IntKind.i64.wrap (r.s - 1) = r.s - 1 := by rw [wrap_i64] <;> omega
          simp -dsimp only [go_sem, Nat.reduceEqDiff, Nat.reduceAdd, Nat.reduceSub, Nat.reduceMul, Nat.reduceLeDiff, Nat.reduceLT, Nat.reduceBEq, Int.reduceLT, Int.reduceLE, Int.reduceGT, Int.reduceGE, Int.reduceEq, Int.reduceNe, Int.reduceBEq, Int.reduceBNe, Int.reduceAdd, Int.reduceSub, Int.reduceMul, Int.reduceToNat, Int.reduceNeg, ↓reduceIte, ↓reduceDIte, e2, h1, h2, h3, h4, w1, hp]
          exact phP_ev (v := v) ok st (by simp -dsimp only [go_sem, Nat.reduceEqDiff, Nat.reduceAdd, Nat.reduceSub, Nat.reduceMul, Nat.reduceLeDiff, Nat.reduceLT, Nat.reduceBEq, Int.reduceLT, Int.reduceLE, Int.reduceGT, Int.reduceGE, Int.reduceEq, Int.reduceNe, Int.reduceBEq, Int.reduceBNe, Int.reduceAdd, Int.reduceSub, Int.reduceMul, Int.reduceToNat, Int.reduceNeg, ↓reduceIte, ↓reduceDIte, e1]) (by simp -dsimp only [go_sem, Nat.reduceEqDiff, Nat.reduceAdd, Nat.reduceSub, Nat.reduceMul, Nat.reduceLeDiff, Nat.reduceLT, Nat.reduceBEq, Int.reduceLT, Int.reduceLE, Int.reduceGT, Int.reduceGE, Int.reduceEq, Int.reduceNe, Int.reduceBEq, Int.reduceBNe, Int.reduceAdd, Int.reduceSub, Int.reduceMul, Int.reduceToNat, Int.reduceNeg, ↓reduceIte, ↓reduceDIte, e2]) (by simp -dsimp only [go_sem, Nat.reduceEqDiff, Nat.reduceAdd, Nat.reduceSub, Nat.reduceMul, Nat.reduceLeDiff, Nat.reduceLT, Nat.reduceBEq, Int.reduceLT, Int.reduceLE, Int.reduceGT, Int.reduceGE, Int.reduceEq, Int.reduceNe, Int.reduceBEq, Int.reduceBNe, Int.reduceAdd, Int.reduceSub, Int.reduceMul, Int.reduceToNat, Int.reduceNeg, ↓reduceIte, ↓reduceDIte, e5]) (by simp -dsimp only [go_sem, Nat.reduceEqDiff, Nat.reduceAdd, Nat.reduceSub, Nat.reduceMul, Nat.reduceLeDiff, Nat.reduceLT, Nat.reduceBEq, Int.reduceLT, Int.reduceLE, Int.reduceGT, Int.reduceGE, Int.reduceEq, Int.reduceNe, Int.reduceBEq, Int.reduceBNe, Int.reduceAdd, Int.reduceSub, Int.reduceMul, Int.reduceToNat, Int.reduceNeg, ↓reduceIte, ↓reduceDIte]; simp [RV.right, *]) hQ
        · simp -dsimp only [go_sem, Nat.reduceEqDiff, Nat.reduceAdd, Nat.reduceSub, Nat.reduceMul, Nat.reduceLeDiff, Nat.reduceLT, Nat.reduceBEq, Int.reduceLT, Int.reduceLE, Int.reduceGT, Int.reduceGE, Int.reduceEq, Int.reduceNe, Int.reduceBEq, Int.reduceBNe, Int.reduceAdd, Int.reduceSub, Int.reduceMul, Int.reduceToNat, Int.reduceNeg, ↓reduceIte, ↓reduceDIte, e2, h1, h2, h3, h4]
          exact phP_ev (v := v) ok st (by simp -dsimp only [go_sem, Nat.reduceEqDiff, Nat.reduceAdd, Nat.reduceSub, Nat.reduceMul, Nat.reduceLeDiff, Nat.reduceLT, Nat.reduceBEq, Int.reduceLT, Int.reduceLE, Int.reduceGT, Int.reduceGE, Int.reduceEq, Int.reduceNe, Int.reduceBEq, Int.reduceBNe, Int.reduceAdd, Int.reduceSub, Int.reduceMul, Int.reduceToNat, Int.reduceNeg, ↓reduceIte, ↓reduceDIte, e1]) (by simp -dsimp only [go_sem, Nat.reduceEqDiff, Nat.reduceAdd, Nat.reduceSub, Nat.reduceMul, Nat.reduceLeDiff, Nat.reduceLT, Nat.reduceBEq, Int.reduceLT, Int.reduceLE, Int.reduceGT, Int.reduceGE, Int.reduceEq, Int.reduceNe, Int.reduceBEq, Int.reduceBNe, Int.reduceAdd, Int.reduceSub, Int.reduceMul, Int.reduceToNat, Int.reduceNeg, ↓reduceIte, ↓reduceDIte, e2]) (by simp -dsimp only [go_sem, Nat.reduceEqDiff, Nat.reduceAdd, Nat.reduceSub, Nat.reduceMul, Nat.reduceLeDiff, Nat.reduceLT, Nat.reduceBEq, Int.reduceLT, Int.reduceLE, Int.reduceGT, Int.reduceGE, Int.reduceEq, Int.reduceNe, Int.reduceBEq, Int.reduceBNe, Int.reduceAdd, Int.reduceSub, Int.reduceMul, Int.reduceToNat, Int.reduceNeg, ↓reduceIte, ↓reduceDIte, e5]) (by simp -dsimp only [go_sem, Nat.reduceEqDiff, Nat.reduceAdd, Nat.reduceSub, Nat.reduceMul, Nat.reduceLeDiff, Nat.reduceLT, Nat.reduceBEq, Int.reduceLT, Int.reduceLE, Int.reduceGT, Int.reduceGE, Int.reduceEq, Int.reduceNe, Int.reduceBEq, Int.reduceBNe, Int.reduceAdd, Int.reduceSub, Int.reduceMul, Int.reduceToNat, Int.reduceNeg, ↓reduceIte, ↓reduceDIte]; simp [RV.right, *]) hQ
      · simp -dsimp only [go_sem, Nat.reduceEqDiff, Nat.reduceAdd, Nat.reduceSub, Nat.reduceMul, Nat.reduceLeDiff, Nat.reduceLT, Nat.reduceBEq, Int.reduceLT, Int.reduceLE, Int.reduceGT, Int.reduceGE, Int.reduceEq, Int.reduceNe, Int.reduceBEq, Int.reduceBNe, Int.reduceAdd, Int.reduceSub, Int.reduceMul, Int.reduceToNat, Int.reduceNeg, ↓reduceIte, ↓reduceDIte, e2, h1, h2, h3]
        exact phP_ev (v := v) ok st (by simp -dsimp only [go_sem, Nat.reduceEqDiff, Nat.reduceAdd, Nat.reduceSub, Nat.reduceMul, Nat.reduceLeDiff, Nat.reduceLT, Nat.reduceBEq, Int.reduceLT, Int.reduceLE, Int.reduceGT, Int.reduceGE, Int.reduceEq, Int.reduceNe, Int.reduceBEq, Int.reduceBNe, Int.reduceAdd, Int.reduceSub, Int.reduceMul, Int.reduceToNat, Int.reduceNeg, ↓reduceIte, ↓reduceDIte, e1]) (by simp -dsimp only [go_sem, Nat.reduceEqDiff, Nat.reduceAdd, Nat.reduceSub, Nat.reduceMul, Nat.reduceLeDiff, Nat.reduceLT, Nat.reduceBEq, Int.reduceLT, Int.reduceLE, Int.reduceGT, Int.reduceGE, Int.reduceEq, Int.reduceNe, Int.reduceBEq, Int.reduceBNe, Int.reduceAdd, Int.reduceSub, Int.reduceMul, Int.reduceToNat, Int.reduceNeg, ↓reduceIte, ↓reduceDIte, e2]) (by simp -dsimp only [go_sem, Nat.reduceEqDiff, Nat.reduceAdd, Nat.reduceSub, Nat.reduceMul, Nat.reduceLeDiff, Nat.reduceLT, Nat.reduceBEq, Int.reduceLT, Int.reduceLE, Int.reduceGT, Int.reduceGE, Int.reduceEq, Int.reduceNe, Int.reduceBEq, Int.reduceBNe, Int.reduceAdd, Int.reduceSub, Int.reduceMul, Int.reduceToNat, Int.reduceNeg, ↓reduceIte, ↓reduceDIte, e5]) (by simp -dsimp only [go_sem, Nat.reduceEqDiff, Nat.reduceAdd, Nat.reduceSub, Nat.reduceMul, Nat.reduceLeDiff, Nat.reduceLT, Nat.reduceBEq, Int.reduceLT, Int.reduceLE, Int.reduceGT, Int.reduceGE, Int.reduceEq, Int.reduceNe, Int.reduceBEq, Int.reduceBNe, Int.reduceAdd, Int.reduceSub, Int.reduceMul, Int.reduceToNat, Int.reduceNeg, ↓reduceIte, ↓reduceDIte]; simp [RV.right, *]) hQ
    · simp -dsimp only [go_sem, Nat.reduceEqDiff, Nat.reduceAdd, Nat.reduceSub, Nat.reduceMul, Nat.reduceLeDiff, Nat.reduceLT, Nat.reduceBEq, Int.reduceLT, Int.reduceLE, Int.reduceGT, Int.reduceGE, Int.reduceEq, Int.reduceNe, Int.reduceBEq, Int.reduceBNe, Int.reduceAdd, Int.reduceSub, Int.reduceMul, Int.reduceToNat, Int.reduceNeg, ↓reduceIte, ↓reduceDIte, e2, h1, h2]
      exact phP_ev (v := v) ok st (by simp -dsimp only [go_sem, Nat.reduceEqDiff, Nat.reduceAdd, Nat.reduceSub, Nat.reduceMul, Nat.reduceLeDiff, Nat.reduceLT, Nat.reduceBEq, Int.reduceLT, Int.reduceLE, Int.reduceGT, Int.reduceGE, Int.reduceEq, Int.reduceNe, Int.reduceBEq, Int.reduceBNe, Int.reduceAdd, Int.reduceSub, Int.reduceMul, Int.reduceToNat, Int.reduceNeg, ↓reduceIte, ↓reduceDIte, e1]) (by simp -dsimp only [go_sem, Nat.reduceEqDiff, Nat.reduceAdd, Nat.reduceSub, Nat.reduceMul, Nat.reduceLeDiff, Nat.reduceLT, Nat.reduceBEq, Int.reduceLT, Int.reduceLE, Int.reduceGT, Int.reduceGE, Int.reduceEq, Int.reduceNe, Int.reduceBEq, Int.reduceBNe, Int.reduceAdd, Int.reduceSub, Int.reduceMul, Int.reduceToNat, Int.reduceNeg, ↓reduceIte, ↓reduceDIte, e2]) (by simp -dsimp only [go_sem, Nat.reduceEqDiff, Nat.reduceAdd, Nat.reduceSub, Nat.reduceMul, Nat.reduceLeDiff, Nat.reduceLT, Nat.reduceBEq, Int.reduceLT, Int.reduceLE, Int.reduceGT, Int.reduceGE, Int.reduceEq, Int.reduceNe, Int.reduceBEq, Int.reduceBNe, Int.reduceAdd, Int.reduceSub, Int.reduceMul, Int.reduceToNat, Int.reduceNeg, ↓reduceIte, ↓reduceDIte, e5]) (by simp -dsimp only [go_sem, Nat.reduceEqDiff, Nat.reduceAdd, Nat.reduceSub, Nat.reduceMul, Nat.reduceLeDiff, Nat.reduceLT, Nat.reduceBEq, Int.reduceLT, Int.reduceLE, Int.reduceGT, Int.reduceGE, Int.reduceEq, Int.reduceNe, Int.reduceBEq, Int.reduceBNe, Int.reduceAdd, Int.reduceSub, Int.reduceMul, Int.reduceToNat, Int.reduceNeg, ↓reduceIte, ↓reduceDIte]; simp [RV.right, *]) hQ
  · simp -dsimp only [go_sem, Nat.reduceEqDiff, Nat.reduceAdd, Nat.reduceSub, Nat.reduceMul, Nat.reduceLeDiff, Nat.reduceLT, Nat.reduceBEq, Int.reduceLT, Int.reduceLE, Int.reduceGT, Int.reduceGE, Int.reduceEq, Int.reduceNe, Int.reduceBEq, Int.reduceBNe, Int.reduceAdd, Int.reduceSub, Int.reduceMul, Int.reduceToNat, Int.reduceNeg, ↓reduceIte, ↓reduceDIte, e2, h1]
    exact phP_ev (v := v) ok st (by simp -dsimp only [go_sem, Nat.reduceEqDiff, Nat.reduceAdd, Nat.reduceSub, Nat.reduceMul, Nat.reduceLeDiff, Nat.reduceLT, Nat.reduceBEq, Int.reduceLT, Int.reduceLE, Int.reduceGT, Int.reduceGE, Int.reduceEq, Int.reduceNe, Int.reduceBEq, Int.reduceBNe, Int.reduceAdd, Int.reduceSub, Int.reduceMul, Int.reduceToNat, Int.reduceNeg, ↓reduceIte, ↓reduceDIte, e1]) (by simp -dsimp only [go_sem, Nat.reduceEqDiff, Nat.reduceAdd, Nat.reduceSub, Nat.reduceMul, Nat.reduceLeDiff, Nat.reduceLT, Nat.reduceBEq, Int.reduceLT, Int.reduceLE, Int.reduceGT, Int.reduceGE, Int.reduceEq, Int.reduceNe, Int.reduceBEq, Int.reduceBNe, Int.reduceAdd, Int.reduceSub, Int.reduceMul, Int.reduceToNat, Int.reduceNeg, ↓reduceIte, ↓reduceDIte, e2]) (by simp -dsimp only [go_sem, Nat.reduceEqDiff, Nat.reduceAdd, Nat.reduceSub, Nat.reduceMul, Nat.reduceLeDiff, Nat.reduceLT, Nat.reduceBEq, Int.reduceLT, Int.reduceLE, Int.reduceGT, Int.reduceGE, Int.reduceEq, Int.reduceNe, Int.reduceBEq, Int.reduceBNe, Int.reduceAdd, Int.reduceSub, Int.reduceMul, Int.reduceToNat, Int.reduceNeg, ↓reduceIte, ↓reduceDIte, e5]) (by simp -dsimp only [go_sem, Nat.reduceEqDiff, Nat.reduceAdd, Nat.reduceSub, Nat.reduceMul, Nat.reduceLeDiff, Nat.reduceLT, Nat.reduceBEq, Int.reduceLT, Int.reduceLE, Int.reduceGT, Int.reduceGE, Int.reduceEq, Int.reduceNe, Int.reduceBEq, Int.reduceBNe, Int.reduceAdd, Int.reduceSub, Int.reduceMul, Int.reduceToNat, Int.reduceNeg, ↓reduceIte, ↓reduceDIte]; simp [RV.right, *]) hQ
set_option maxHeartbeats 1000000 in
theorem nobody_ev {lim : Nat} {H : LHeap} {r : RV} {v : BitVec 64} : callE T 4 lim [r.v, w64 v] H fun v H' => v = .bool true := by
  refine callE_pop (code := Ln) rfl (by simp) rfl ?_
  unfold Ln
  simp -dsimp only [go_sem, Nat.reduceEqDiff, Nat.reduceAdd, Nat.reduceSub, Nat.reduceMul, Nat.reduceLeDiff, Nat.reduceLT, Nat.reduceBEq, Int.reduceLT, Int.reduceLE, Int.reduceGT, Int.reduceGE, Int.reduceEq, Int.reduceNe, Int.reduceBEq, Int.reduceBNe, Int.reduceAdd, Int.reduceSub, Int.reduceMul, Int.reduceToNat, Int.reduceNeg, ↓reduceIte, ↓reduceDIte]
  refine CT_of (new_ev (by simp)) ?_
  rintro _ _ h
  rw [if_neg (by decide)] at h
  obtain ⟨rfl, rfl⟩ := h
  have ok := MV.Ok.new (n := 8) (by decide) (by decide)
  have st : (MV.new 8).sum 6 = 0 := by decide
  simp only [show (8 : Int).toNat = 8 from rfl]
  generalize MV.new 8 = m at ok st ⊢
  have mm := fun l => mem_at (H := H) (pre := [rro r]) (t := l) ok
  simp only [List.length_cons, List.length_nil, Nat.zero_add, List.cons_append, List.nil_append, Nat.reduceAdd] at mm
  simp -dsimp only [go_sem, Nat.reduceEqDiff, Nat.reduceAdd, Nat.reduceSub, Nat.reduceMul, Nat.reduceLeDiff, Nat.reduceLT, Nat.reduceBEq, Int.reduceLT, Int.reduceLE, Int.reduceGT, Int.reduceGE, Int.reduceEq, Int.reduceNe, Int.reduceBEq, Int.reduceBNe, Int.reduceAdd, Int.reduceSub, Int.reduceMul, Int.reduceToNat, Int.reduceNeg, ↓reduceIte, ↓reduceDIte, Nat.add_assoc]
  refine CT_val vres_nil ?_
  simp -dsimp only [go_sem, Nat.reduceEqDiff, Nat.reduceAdd, Nat.reduceSub, Nat.reduceMul, Nat.reduceLeDiff, Nat.reduceLT, Nat.reduceBEq, Int.reduceLT, Int.reduceLE, Int.reduceGT, Int.reduceGE, Int.reduceEq, Int.reduceNe, Int.reduceBEq, Int.reduceBNe, Int.reduceAdd, Int.reduceSub, Int.reduceMul, Int.reduceToNat, Int.reduceNeg, ↓reduceIte, ↓reduceDIte]
  refine CT_val (vres_zero (get_app H _ 4)) ?_
  have z1 : (0#64 + 0#64 : BitVec 64) = 0#64 := by decide
  simp -dsimp only [go_sem, Nat.reduceEqDiff, Nat.reduceAdd, Nat.reduceSub, Nat.reduceMul, Nat.reduceLeDiff, Nat.reduceLT, Nat.reduceBEq, Int.reduceLT, Int.reduceLE, Int.reduceGT, Int.reduceGE, Int.reduceEq, Int.reduceNe, Int.reduceBEq, Int.reduceBNe, Int.reduceAdd, Int.reduceSub, Int.reduceMul, Int.reduceToNat, Int.reduceNeg, ↓reduceIte, ↓reduceDIte, z1]
  refine CT_val vstep_nil ?_
  simp -dsimp only [go_sem, Nat.reduceEqDiff, Nat.reduceAdd, Nat.reduceSub, Nat.reduceMul, Nat.reduceLeDiff, Nat.reduceLT, Nat.reduceBEq, Int.reduceLT, Int.reduceLE, Int.reduceGT, Int.reduceGE, Int.reduceEq, Int.reduceNe, Int.reduceBEq, Int.reduceBNe, Int.reduceAdd, Int.reduceSub, Int.reduceMul, Int.reduceToNat, Int.reduceNeg, ↓reduceIte, ↓reduceDIte]
  refine CT_val vdone_nil ?_
  simp -dsimp only [go_sem, Nat.reduceEqDiff, Nat.reduceAdd, Nat.reduceSub, Nat.reduceMul, Nat.reduceLeDiff, Nat.reduceLT, Nat.reduceBEq, Int.reduceLT, Int.reduceLE, Int.reduceGT, Int.reduceGE, Int.reduceEq, Int.reduceNe, Int.reduceBEq, Int.reduceBNe, Int.reduceAdd, Int.reduceSub, Int.reduceMul, Int.reduceToNat, Int.reduceNeg, ↓reduceIte, ↓reduceDIte]
  refine CT_val vat_nil ?_
  simp -dsimp only [go_sem, Nat.reduceEqDiff, Nat.reduceAdd, Nat.reduceSub, Nat.reduceMul, Nat.reduceLeDiff, Nat.reduceLT, Nat.reduceBEq, Int.reduceLT, Int.reduceLE, Int.reduceGT, Int.reduceGE, Int.reduceEq, Int.reduceNe, Int.reduceBEq, Int.reduceBNe, Int.reduceAdd, Int.reduceSub, Int.reduceMul, Int.reduceToNat, Int.reduceNeg, ↓reduceIte, ↓reduceDIte]
  refine CT_val (steps_ev (mm _)) ?_
  simp -dsimp only [go_sem, Nat.reduceEqDiff, Nat.reduceAdd, Nat.reduceSub, Nat.reduceMul, Nat.reduceLeDiff, Nat.reduceLT, Nat.reduceBEq, Int.reduceLT, Int.reduceLE, Int.reduceGT, Int.reduceGE, Int.reduceEq, Int.reduceNe, Int.reduceBEq, Int.reduceBNe, Int.reduceAdd, Int.reduceSub, Int.reduceMul, Int.reduceToNat, Int.reduceNeg, ↓reduceIte, ↓reduceDIte, st]
  refine phR_ev (v := v) ok st (by simp -dsimp only [go_sem, Nat.reduceEqDiff, Nat.reduceAdd, Nat.reduceSub, Nat.reduceMul, Nat.reduceLeDiff, Nat.reduceLT, Nat.reduceBEq, Int.reduceLT, Int.reduceLE, Int.reduceGT, Int.reduceGE, Int.reduceEq, Int.reduceNe, Int.reduceBEq, Int.reduceBNe, Int.reduceAdd, Int.reduceSub, Int.reduceMul, Int.reduceToNat, Int.reduceNeg, ↓reduceIte, ↓reduceDIte]) (by simp -dsimp only [go_sem, Nat.reduceEqDiff, Nat.reduceAdd, Nat.reduceSub, Nat.reduceMul, Nat.reduceLeDiff, Nat.reduceLT, Nat.reduceBEq, Int.reduceLT, Int.reduceLE, Int.reduceGT, Int.reduceGE, Int.reduceEq, Int.reduceNe, Int.reduceBEq, Int.reduceBNe, Int.reduceAdd, Int.reduceSub, Int.reduceMul, Int.reduceToNat, Int.reduceNeg, ↓reduceIte, ↓reduceDIte]) (by simp -dsimp only [go_sem, Nat.reduceEqDiff, Nat.reduceAdd, Nat.reduceSub, Nat.reduceMul, Nat.reduceLeDiff, Nat.reduceLT, Nat.reduceBEq, Int.reduceLT, Int.reduceLE, Int.reduceGT, Int.reduceGE, Int.reduceEq, Int.reduceNe, Int.reduceBEq, Int.reduceBNe, Int.reduceAdd, Int.reduceSub, Int.reduceMul, Int.reduceToNat, Int.reduceNeg, ↓reduceIte, ↓reduceDIte]) ?_
  intro e' H' h6
  simp -dsimp only [go_sem, Nat.reduceEqDiff, Nat.reduceAdd, Nat.reduceSub, Nat.reduceMul, Nat.reduceLeDiff, Nat.reduceLT, Nat.reduceBEq, Int.reduceLT, Int.reduceLE, Int.reduceGT, Int.reduceGE, Int.reduceEq, Int.reduceNe, Int.reduceBEq, Int.reduceBNe, Int.reduceAdd, Int.reduceSub, Int.reduceMul, Int.reduceToNat, Int.reduceNeg, ↓reduceIte, ↓reduceDIte, h6]
end Go.Proofs.Ytgipbamdefjenaa
/- A ring that is laid. -/
namespace Go.Proofs.Ytgipbamdefjenaa
open Go Go.LK
set_option linter.unusedSimpArgs false
set_option linter.unusedVariables false
/-- The words of a ring of which some cells are laid. -/
def vlay (n a : Nat) : Nat → List (BitVec 64)
  | 0 => List.replicate n 0#64
  | k + 1 => (vlay n a k).set (a + 2 + 2 * k) (BitVec.ofNat 64 k)
theorem vlay_len (n a : Nat) : ∀ k, (vlay n a k).length = n
  | 0 => by simp [vlay]
  | k + 1 => by rw [vlay, List.length_set, vlay_len n a k]
theorem vlay_get (n a : Nat) : ∀ (k j : Nat), j < n → (vlay n a k)[j]? = some (if a + 2 ≤ j ∧ (j - a - 2) % 2 = 0 ∧ (j - a - 2) / 2 < k then BitVec.ofNat 64 ((j - a - 2) / 2) else 0#64)
  | 0, j, h => by simp [vlay, h]
  | k + 1, j, h => by
    rw [vlay]
    have ih := vlay_get n a k j h
    by_cases e : a + 2 + 2 * k = j
    · subst e
      rw [List.getElem?_set_self (by rw [vlay_len]; exact h), if_pos (by omega), show (a + 2 + 2 * k - a - 2) / 2 = k by omega]
    · rw [List.getElem?_set_ne e, ih]
      congr 1
      by_cases c : a + 2 ≤ j ∧ (j - a - 2) % 2 = 0 ∧ (j - a - 2) / 2 < k
      · rw [if_pos c, if_pos (by omega)]
      · rw [if_neg c, if_neg (by omega)]
theorem set_zero {w : List (BitVec 64)} {i : Nat} (h : w[i]? = some 0#64) : w.set i 0#64 = w := by
  apply List.ext_getElem?
  intro j
  by_cases e : i = j
  · subst e
    rw [List.getElem?_set_self (List.getElem?_eq_some_iff.1 h).1, h]
  · rw [List.getElem?_set_ne e]
section
variable {lim o b pw_ pb : Nat} {H : LHeap} {r : RV} {m : MV}
theorem store_d {w : List (BitVec 64)} (h : MemAt H b pw_ pb m) (c : Clean m w) {a : Int} {x : BitVec 64} (h0 : 0 ≤ a) (h1 : a < w.length) {q : Nat} (f : m.Few q) (hq : q < 1000000) :
    callE T 34 lim [ptr b, i64 a, w64 x] H fun v H' => ∃ m', Clean m' (w.set a.toNat x) ∧ m'.Few (q + 1) ∧ H' = memPut H b pw_ pb m' :=
  (store_ev h).mono fun v H' e => ⟨_, c.use h0 h1 1 _, f.use (by omega) _ _ _, e⟩
theorem setup_ev {n a s q0 : Nat} (h : MemAt H b pw_ pb m) (c : Clean m (List.replicate n 0#64)) (few : m.Few q0) (hq0 : q0 < 1000) (hr : r.right = true) (ha : r.a = a) (hs : r.s = s) (hn : a + 2 + 2 * s ≤ n) :
    callE T 10 lim [r.v, ptr b] H fun v H' => ∃ m', Clean m' (vlay n a s) ∧ m'.Few (q0 + 2 + 2 * s) ∧ v = i64 0 ∧ H' = memPut H b pw_ pb m' := by
  refine callE_pop rfl (by simp) rfl ?_
  obtain ⟨a0, a1, s0, s1⟩ := RV.right_of hr
  have hlen : m.w.length = n := by rw [c.ws]; simp
  have hle := h.le
  have hpos : ((m.w.length : Int) == 0) = false := by rw [beq_eq_false_iff_ne]; have := h.pos; omega
  have hsub : IntKind.i64.wrap ((m.w.length : Int) - r.a) = m.w.length - r.a := by rw [wrap_i64] <;> omega
  have hgt : ¬ (m.w.length : Int) - r.a < 2 + 2 * r.s := by omega
  have wa1 : IntKind.i64.wrap (r.a + 1) = r.a + 1 := by rw [wrap_i64] <;> omega
  simp -dsimp only [go_sem, Nat.reduceEqDiff, Nat.reduceAdd, Nat.reduceSub, Nat.reduceMul, Nat.reduceLeDiff, Nat.reduceLT, Nat.reduceBEq, Int.reduceLT, Int.reduceLE, Int.reduceGT, Int.reduceGE, Int.reduceEq, Int.reduceNe, Int.reduceBEq, Int.reduceBNe, Int.reduceAdd, Int.reduceSub, Int.reduceMul, Int.reduceToNat, Int.reduceNeg, ↓reduceIte, ↓reduceDIte]
  refine CT_val (len_ev (h.app _)) ?_
  simp -dsimp only [go_sem, Nat.reduceEqDiff, Nat.reduceAdd, Nat.reduceSub, Nat.reduceMul, Nat.reduceLeDiff, Nat.reduceLT, Nat.reduceBEq, Int.reduceLT, Int.reduceLE, Int.reduceGT, Int.reduceGE, Int.reduceEq, Int.reduceNe, Int.reduceBEq, Int.reduceBNe, Int.reduceAdd, Int.reduceSub, Int.reduceMul, Int.reduceToNat, Int.reduceNeg, ↓reduceIte, ↓reduceDIte, hpos]
  refine CT_val right_ev ?_
  simp -dsimp only [go_sem, Nat.reduceEqDiff, Nat.reduceAdd, Nat.reduceSub, Nat.reduceMul, Nat.reduceLeDiff, Nat.reduceLT, Nat.reduceBEq, Int.reduceLT, Int.reduceLE, Int.reduceGT, Int.reduceGE, Int.reduceEq, Int.reduceNe, Int.reduceBEq, Int.reduceBNe, Int.reduceAdd, Int.reduceSub, Int.reduceMul, Int.reduceToNat, Int.reduceNeg, ↓reduceIte, ↓reduceDIte, hr]
  refine CT_val words_ev ?_
  rw [if_pos hr]
  simp -dsimp only [go_sem, Nat.reduceEqDiff, Nat.reduceAdd, Nat.reduceSub, Nat.reduceMul, Nat.reduceLeDiff, Nat.reduceLT, Nat.reduceBEq, Int.reduceLT, Int.reduceLE, Int.reduceGT, Int.reduceGE, Int.reduceEq, Int.reduceNe, Int.reduceBEq, Int.reduceBNe, Int.reduceAdd, Int.reduceSub, Int.reduceMul, Int.reduceToNat, Int.reduceNeg, ↓reduceIte, ↓reduceDIte]
  refine CT_val (len_ev (h.app _)) ?_
  simp -dsimp only [go_sem, Nat.reduceEqDiff, Nat.reduceAdd, Nat.reduceSub, Nat.reduceMul, Nat.reduceLeDiff, Nat.reduceLT, Nat.reduceBEq, Int.reduceLT, Int.reduceLE, Int.reduceGT, Int.reduceGE, Int.reduceEq, Int.reduceNe, Int.reduceBEq, Int.reduceBNe, Int.reduceAdd, Int.reduceSub, Int.reduceMul, Int.reduceToNat, Int.reduceNeg, ↓reduceIte, ↓reduceDIte, hsub, hgt]
  refine CT_of (store_d (h.app _) c (by omega) (by simp; omega) few (by omega)) ?_
  rintro _ _ ⟨m1, c1, f1, rfl⟩
  rw [set_zero (by rw [List.getElem?_replicate, if_pos (by omega)])] at c1
  have h1 : MemAt (memPut H b pw_ pb m1) b pw_ pb m1 := h.put (by rw [c1.ws, c.ws]) (by rw [c1.len, c.ws])
  have lH : ∀ m, (memPut H b pw_ pb m).length = H.length := fun m => memPut_len _ _ _ _ _
  rw [memPut_app h]
  simp -dsimp only [go_sem, Nat.reduceEqDiff, Nat.reduceAdd, Nat.reduceSub, Nat.reduceMul, Nat.reduceLeDiff, Nat.reduceLT, Nat.reduceBEq, Int.reduceLT, Int.reduceLE, Int.reduceGT, Int.reduceGE, Int.reduceEq, Int.reduceNe, Int.reduceBEq, Int.reduceBNe, Int.reduceAdd, Int.reduceSub, Int.reduceMul, Int.reduceToNat, Int.reduceNeg, ↓reduceIte, ↓reduceDIte, lget_app_n0 (lH m1), wa1]
  refine CT_of (store_d (h1.app _) c1 (by omega) (by simp; omega) f1 (by omega)) ?_
  rintro _ _ ⟨m2, c2, f2, rfl⟩
  rw [set_zero (by rw [List.getElem?_replicate, if_pos (by omega)])] at c2
  rw [memPut_app h1, memPut_put h]
  simp -dsimp only [go_sem, Nat.reduceEqDiff, Nat.reduceAdd, Nat.reduceSub, Nat.reduceMul, Nat.reduceLeDiff, Nat.reduceLT, Nat.reduceBEq, Int.reduceLT, Int.reduceLE, Int.reduceGT, Int.reduceGE, Int.reduceEq, Int.reduceNe, Int.reduceBEq, Int.reduceBNe, Int.reduceAdd, Int.reduceSub, Int.reduceMul, Int.reduceToNat, Int.reduceNeg, ↓reduceIte, ↓reduceDIte, lget_app_n0 (lH m2)]
  rw [hs]
  refine LT_of (fun q : Nat × MV => [(1, ptr b), (2, ptr H.length), (35, i64 s), (36, i64 q.1)]) (fun q => memPut H b pw_ pb q.2 ++ [.row false 0 [i64 r.a, i64 s]]) (fun q => q.1 ≤ s ∧ Clean q.2 (vlay n a q.1) ∧ q.2.Few (q0 + 2 + 2 * q.1)) (fun q => s - q.1) (0, m2) rfl (by rw [← hs]) ⟨by omega, c2, f2⟩ ?_
  rintro ⟨k, m3⟩ ⟨hk, c3, f3⟩
  simp only at hk c3 f3 ⊢
  have h3 : MemAt (memPut H b pw_ pb m3) b pw_ pb m3 := h.put (by rw [c3.ws, c.ws, vlay_len]; simp) (by rw [c3.len, c.ws, vlay_len]; simp)
  by_cases hlt : k < s
  · have q1 : (k : Int) < s := by omega
    have q3 : IntKind.i64.wrap ((k : Int) + 1) = ((k + 1 : Nat) : Int) := by rw [wrap_i64] <;> omega
    have hcell : r.cell (BitVec.ofNat 64 k) = a + 2 + 2 * k := by
      have : (BitVec.ofNat 64 k).toNat = k := by rw [BitVec.toNat_ofNat, Nat.mod_eq_of_lt]; omega
      rw [RV.cell, this, hs, ha, Int.toNat_natCast, Nat.mod_eq_of_lt hlt]
    have wc : IntKind.i64.wrap ((a : Int) + 2 + 2 * k + 1) = a + 2 + 2 * k + 1 := by rw [wrap_i64] <;> omega
    have hcc : lcells [LObj.row false 0 [i64 r.a, i64 (s : Int)]] 0 0 2 = some [i64 r.a, i64 s] := rfl
    have ce := fun lim H => cell_ev (lim := lim) (H := H) (p := BitVec.ofNat 64 k) hr
    rw [hcell] at ce
    have rv : r.v = .agg #[i64 r.a, i64 (s : Int)] := by rw [RV.v, hs]
    rw [rv] at ce
    simp -dsimp only [go_sem, Nat.reduceEqDiff, Nat.reduceAdd, Nat.reduceSub, Nat.reduceMul, Nat.reduceLeDiff, Nat.reduceLT, Nat.reduceBEq, Int.reduceLT, Int.reduceLE, Int.reduceGT, Int.reduceGE, Int.reduceEq, Int.reduceNe, Int.reduceBEq, Int.reduceBNe, Int.reduceAdd, Int.reduceSub, Int.reduceMul, Int.reduceToNat, Int.reduceNeg, ↓reduceIte, ↓reduceDIte, q1, lcells_app_n0 (lH m3), hcc, BitVec.ofInt_natCast]
    refine CT_val (ce _ _) ?_
    simp -dsimp only [go_sem, Nat.reduceEqDiff, Nat.reduceAdd, Nat.reduceSub, Nat.reduceMul, Nat.reduceLeDiff, Nat.reduceLT, Nat.reduceBEq, Int.reduceLT, Int.reduceLE, Int.reduceGT, Int.reduceGE, Int.reduceEq, Int.reduceNe, Int.reduceBEq, Int.reduceBNe, Int.reduceAdd, Int.reduceSub, Int.reduceMul, Int.reduceToNat, Int.reduceNeg, ↓reduceIte, ↓reduceDIte, BitVec.ofInt_natCast]
    refine CT_of (store_d (h3.app _) c3 (by omega) (by rw [vlay_len]; omega) f3 (by omega)) ?_
    rintro _ _ ⟨m4, c4, f4, rfl⟩
    rw [show ((a : Int) + 2 + 2 * k).toNat = a + 2 + 2 * k by omega] at c4
    have c4 : Clean m4 (vlay n a (k + 1)) := c4
    rw [memPut_app h3, memPut_put h]
    have h4 : MemAt (memPut H b pw_ pb m4) b pw_ pb m4 := h.put (by rw [c4.ws, c.ws, vlay_len]; simp) (by rw [c4.len, c.ws, vlay_len]; simp)
    simp -dsimp only [go_sem, Nat.reduceEqDiff, Nat.reduceAdd, Nat.reduceSub, Nat.reduceMul, Nat.reduceLeDiff, Nat.reduceLT, Nat.reduceBEq, Int.reduceLT, Int.reduceLE, Int.reduceGT, Int.reduceGE, Int.reduceEq, Int.reduceNe, Int.reduceBEq, Int.reduceBNe, Int.reduceAdd, Int.reduceSub, Int.reduceMul, Int.reduceToNat, Int.reduceNeg, ↓reduceIte, ↓reduceDIte, wc]
    refine CT_of (store_d (h4.app _) c4 (by omega) (by rw [vlay_len]; omega) f4 (by omega)) ?_
    rintro _ _ ⟨m5, c5, f5, rfl⟩
    rw [show ((a : Int) + 2 + 2 * k + 1).toNat = a + 2 + 2 * k + 1 by omega, set_zero (by rw [vlay_get _ _ _ _ (by omega), if_neg (by omega)])] at c5
    rw [memPut_app h4, memPut_put h]
    simp -dsimp only [go_sem, Nat.reduceEqDiff, Nat.reduceAdd, Nat.reduceSub, Nat.reduceMul, Nat.reduceLeDiff, Nat.reduceLT, Nat.reduceBEq, Int.reduceLT, Int.reduceLE, Int.reduceGT, Int.reduceGE, Int.reduceEq, Int.reduceNe, Int.reduceBEq, Int.reduceBNe, Int.reduceAdd, Int.reduceSub, Int.reduceMul, Int.reduceToNat, Int.reduceNeg, ↓reduceIte, ↓reduceDIte, q3]
    exact ⟨(k + 1, m5), rfl, rfl, ⟨by simp only; omega, c5, f5⟩, by simp only; omega⟩
  · have q1 : ¬ (k : Int) < s := by omega
    obtain rfl : k = s := by omega
    simp -dsimp only [go_sem, Nat.reduceEqDiff, Nat.reduceAdd, Nat.reduceSub, Nat.reduceMul, Nat.reduceLeDiff, Nat.reduceLT, Nat.reduceBEq, Int.reduceLT, Int.reduceLE, Int.reduceGT, Int.reduceGE, Int.reduceEq, Int.reduceNe, Int.reduceBEq, Int.reduceBNe, Int.reduceAdd, Int.reduceSub, Int.reduceMul, Int.reduceToNat, Int.reduceNeg, ↓reduceIte, ↓reduceDIte, q1]
    exact ⟨m3, c3, f3, take_app_n (lH m3)⟩
end
end Go.Proofs.Ytgipbamdefjenaa
/- A ring alone: plain. -/
namespace Go.Proofs.Ytgipbamdefjenaa
open Go Go.LK
set_option linter.unusedSimpArgs false
set_option linter.unusedVariables false
/-- A ring that nobody uses just now holds numbers. -/
structure Seq (s : Nat) (w : List (BitVec 64)) (t : Nat) (l : List (BitVec 64)) : Prop where
  s2 : 2 ≤ s
  s1 : s ≤ 1024
  len : w.length = 2 + 2 * s
  le : l.length ≤ s
  few : t + l.length ≤ 100000
  w0 : w.getD 0 0 = BitVec.ofNat 64 (t + l.length)
  w1 : w.getD 1 0 = BitVec.ofNat 64 t
  cell : ∀ q, t ≤ q → q < t + s → w.getD (2 + 2 * (q % s)) 0 = BitVec.ofNat 64 (if q < t + l.length then q + 1 else q)
  data : ∀ i, i < l.length → w.getD (2 + 2 * ((t + i) % s) + 1) 0 = l.getD i 0
theorem load_cl {m : MV} {w : List (BitVec 64)} (c : Clean m w) {a : Int} (h0 : 0 ≤ a) (h1 : a < w.length) : m.load a = w.getD a.toNat 0 := by
  rw [MV.load, c.bad h0 h1, c.at]; rfl
theorem set_getD {w : List (BitVec 64)} {i j : Nat} {v : BitVec 64} (h : i ≠ j) : (w.set i v).getD j 0 = w.getD j 0 := by
  simp only [List.getD]; rw [List.getElem?_set_ne h]
theorem set_getD_self {w : List (BitVec 64)} {i : Nat} {v : BitVec 64} (h : i < w.length) : (w.set i v).getD i 0 = v := by
  simp only [List.getD]; rw [List.getElem?_set_self h]; rfl
theorem mod_ne {s p q t : Nat} (hs : 0 < s) (h1 : t ≤ p) (h2 : p < t + s) (h3 : t ≤ q) (h4 : q < t + s) (h : p ≠ q) : p % s ≠ q % s := by
  intro e
  have d1 := Nat.div_add_mod p s
  have d2 := Nat.div_add_mod q s
  rw [e] at d1
  have : s * (p / s) - s * (q / s) = p - q := by omega
  rcases Nat.lt_or_ge p q with g | g
  · have : s * (q / s) = s * (p / s) + (q - p) := by omega
    have h5 : p / s < q / s := by
      refine Nat.lt_of_mul_lt_mul_left (a := s) ?_
      omega
    have h6 : s * (p / s + 1) ≤ s * (q / s) := Nat.mul_le_mul_left _ h5
    rw [Nat.mul_add, Nat.mul_one] at h6
    omega
  · have g : q < p := by omega
    have : s * (p / s) = s * (q / s) + (p - q) := by omega
    have h5 : q / s < p / s := by
      refine Nat.lt_of_mul_lt_mul_left (a := s) ?_
      omega
    have h6 : s * (q / s + 1) ≤ s * (p / s) := Nat.mul_le_mul_left _ h5
    rw [Nat.mul_add, Nat.mul_one] at h6
    omega
theorem nat64 {n : Nat} (h : n < 18446744073709551616) : (BitVec.ofNat 64 n).toNat = n := by
  rw [BitVec.toNat_ofNat, Nat.mod_eq_of_lt h]
theorem cell_of {s n : Nat} (h : n < 18446744073709551616) : RV.cell ⟨0, s⟩ (BitVec.ofNat 64 n) = ((2 + 2 * (n % s) : Nat) : Int) := by
  rw [RV.cell, nat64 h]
  simp only [Int.toNat_natCast]
  omega
theorem Seq.put {s t : Nat} {w l : List (BitVec 64)} (h : Seq s w t l) (hl : l.length < s) (hf : t + l.length < 100000) (v : BitVec 64) :
    Seq s (((w.set 0 (BitVec.ofNat 64 (t + l.length + 1))).set (2 + 2 * ((t + l.length) % s) + 1) v).set (2 + 2 * ((t + l.length) % s)) (BitVec.ofNat 64 (t + l.length + 1))) t (l ++ [v]) := by
  have s2 := h.s2
  have hm : (t + l.length) % s < s := Nat.mod_lt _ (by omega)
  have hlen := h.len
  refine ⟨h.s2, h.s1, by simp [hlen], by simp; omega, by simp; omega, ?_, ?_, ?_, ?_⟩
  · rw [set_getD (by omega), set_getD (by omega), set_getD_self (by omega), List.length_append, List.length_singleton, Nat.add_assoc]
  · rw [set_getD (by omega), set_getD (by omega), set_getD (by omega)]; exact h.w1
  · intro q q1 q2
    rw [List.length_append, List.length_singleton]
    by_cases e : q = t + l.length
    · subst e
      rw [set_getD_self (by simp; omega), if_pos (by omega)]
    · have hne := mod_ne (by omega) q1 q2 (show t ≤ t + l.length by omega) (by omega) e
      rw [set_getD (by omega), set_getD (by omega), set_getD (by omega), h.cell q q1 q2]
      congr 1
      by_cases g : q < t + l.length
      · rw [if_pos g, if_pos (by omega)]
      · rw [if_neg g, if_neg (by omega)]
  · intro i hi
    rw [List.length_append, List.length_singleton] at hi
    by_cases e : i = l.length
    · subst e
      rw [set_getD (by omega), set_getD_self (by simp; omega)]
      simp [List.getD]
    · have hne := mod_ne (s := s) (p := t + i) (q := t + l.length) (t := t) (by omega) (by omega) (by omega) (by omega) (by omega) (by omega)
      rw [set_getD (by omega), set_getD (by omega), set_getD (by omega), h.data i (by omega)]
      simp only [List.getD]
      rw [List.getElem?_append_left (by omega)]
theorem Seq.take {s t : Nat} {w l : List (BitVec 64)} {v : BitVec 64} (h : Seq s w t (v :: l)) :
    Seq s ((w.set 1 (BitVec.ofNat 64 (t + 1))).set (2 + 2 * (t % s)) (BitVec.ofNat 64 (t + s))) (t + 1) l := by
  have s2 := h.s2
  have hm : t % s < s := Nat.mod_lt _ (by omega)
  have hlen := h.len
  have hle := h.le
  have hf := h.few
  simp only [List.length_cons] at hle hf
  refine ⟨h.s2, h.s1, by simp [hlen], by omega, by omega, ?_, ?_, ?_, ?_⟩
  · rw [set_getD (by omega), set_getD (by omega), h.w0, List.length_cons]
    congr 1; omega
  · rw [set_getD (by omega), set_getD_self (by omega)]
  · intro q q1 q2
    by_cases e : q = t + s
    · subst e
      rw [Nat.add_mod_right, set_getD_self (by simp; omega), if_neg (by omega)]
    · have hne := mod_ne (s := s) (p := q) (q := t) (t := t) (by omega) (by omega) (by omega) (by omega) (by omega) (by omega)
      rw [set_getD (by omega), set_getD (by omega), h.cell q (by omega) (by omega), List.length_cons]
      congr 1
      by_cases g : q < t + 1 + l.length
      · rw [if_pos g, if_pos (by omega)]
      · rw [if_neg g, if_neg (by omega)]
  · intro i hi
    rw [set_getD (by omega), set_getD (by omega)]
    have := h.data (i + 1) (by simp; omega)
    rw [show t + 1 + i = t + (i + 1) by omega, this]
    simp [List.getD]
end Go.Proofs.Ytgipbamdefjenaa
