/- The statement HpNobody. -/
import Derived.Test.YtcogpinognopcaaG2
namespace Go.Proofs.Ytcogpinognopcaa
open Go Go.LK
set_option linter.unusedSimpArgs false
set_option linter.unusedVariables false
theorem GV.slot_ge (g : GV) (t s : Int) : decide (0 ≤ g.slot t s) = g.has t s := by
  cases h : g.has t s
  · rw [GV.slot, h, if_neg (by simp)]; decide
  · have h' := h
    rw [GV.has] at h'
    simp only [Bool.and_eq_true, decide_eq_true_eq] at h'
    obtain ⟨a0, a1, t0, t1, s0, s1⟩ := GV.right_of h'.1.1.1.1
    have : 0 ≤ t * g.s := Int.mul_nonneg (by omega) (by omega)
    rw [GV.slot, if_pos h]
    rw [decide_eq_true (by omega)]
set_option maxRecDepth 100000 in
def phP : LCode :=
  (.seq (.steps [
    .act (some 125) (.op (.read (.loadN 3 (.tmp 3)))) none,
    .act (some 126) (.op (.pure (.move (.tmp 1)))) none,
    .act (some 127) (.op (.pure (.move (.tmp 2)))) none,
    .act (some 129) (.op (.read (.loadN 3 (.tmp 3)))) none,
    .act (some 130) (.op (.pure (.move (.tmp 1)))) none,
    .act (some 131) (.op (.pure (.move (.tmp 2)))) none,
    .act (some 133) (.op (.read (.loadN 3 (.tmp 3)))) none,
    .act (some 128) (.call (.func 11) [(.tmp 125), (.tmp 126), (.tmp 127), (.const (.int .i64 0))]) none,
    .again 133 (.loadN 3 (.tmp 3)) none,
    .again 129 (.loadN 3 (.tmp 3)) none,
    .act (some 132) (.call (.func 12) [(.tmp 129), (.tmp 130), (.tmp 131)]) none,
    .again 133 (.loadN 3 (.tmp 3)) none,
    .act (some 134) (.call (.func 13) [(.tmp 133)]) none,
    .act (some 16) (.op (.pure (.move (.tmp 128)))) none,
    .act (some 17) (.op (.pure (.move (.tmp 132)))) none,
    .act (some 18) (.op (.pure (.move (.tmp 134)))) none])
  (.seq (.steps [
    .act (some 136) (.op (.pure (.move (.tmp 16)))) none,
    .act (some 137) (.call (.func 18) [(.tmp 136)]) none,
    .act (some 135) (.op (.pure (.move (.tmp 137)))) none,
    .act (some 138) (.op (.pure (.extract (.tmp 135) 0))) none,
    .act (some 139) (.op (.pure (.extract (.tmp 135) 1))) none,
    .act (some 19) (.op (.pure (.move (.tmp 138)))) none,
    .act (some 20) (.op (.pure (.move (.tmp 139)))) none])
  (.seq (.steps [
    .act (some 141) (.op (.pure (.move (.tmp 17)))) none,
    .act (some 142) (.call (.func 18) [(.tmp 141)]) none,
    .act (some 140) (.op (.pure (.move (.tmp 142)))) none,
    .act (some 143) (.op (.pure (.extract (.tmp 140) 0))) none,
    .act (some 144) (.op (.pure (.extract (.tmp 140) 1))) none,
    .act (some 21) (.op (.pure (.move (.tmp 143)))) none,
    .act (some 22) (.op (.pure (.move (.tmp 144)))) none])
  (.seq (.steps [
    .act (some 146) (.op (.pure (.move (.tmp 18)))) none,
    .act (some 147) (.call (.func 18) [(.tmp 146)]) none,
    .act (some 145) (.op (.pure (.move (.tmp 147)))) none,
    .act (some 148) (.op (.pure (.extract (.tmp 145) 0))) none,
    .act (some 149) (.op (.pure (.extract (.tmp 145) 1))) none,
    .act (some 23) (.op (.pure (.move (.tmp 148)))) none,
    .act (some 24) (.op (.pure (.move (.tmp 149)))) none])
  (.seq (.seq (.steps [
    .act (some 150) (.op (.read (.loadN 3 (.tmp 3)))) none,
    .act (some 151) (.call (.func 26) [(.tmp 150)]) none,
    .act (some 152) (.op (.pure (.move (.tmp 14)))) none,
    .act (some 153) (.op (.pure (.eqB true (.tmp 151) (.tmp 152)))) none,
    .act (some 154) (.op (.pure (.move (.tmp 153)))) none,
    .act (some 155) (.op (.read (.loadN 3 (.tmp 3)))) (some (154, false)),
    .act (some 156) (.op (.pure (.move (.tmp 1)))) (some (154, false)),
    .act (some 157) (.op (.pure (.move (.tmp 2)))) (some (154, false)),
    .act (some 158) (.call (.func 23) [(.tmp 155), (.tmp 156), (.tmp 157)]) (some (154, false)),
    .act (some 159) (.op (.pure (.bin .geq (.tmp 158) (.const (.int .i64 0))))) (some (154, false)),
    .act (some 160) (.op (.pure (.move (.tmp 15)))) (some (154, false)),
    .act (some 161) (.op (.pure (.eqB true (.tmp 159) (.tmp 160)))) (some (154, false)),
    .act (some 162) (.op (.pure (.pick (.tmp 154) (.const (.bool true)) (.tmp 161)))) none,
    .act (some 163) (.op (.pure (.move (.tmp 162)))) none,
    .act (some 164) (.op (.pure (.move (.tmp 16)))) (some (163, false)),
    .act (some 165) (.call (.func 21) [(.tmp 164)]) (some (163, false)),
    .act (some 166) (.op (.pure (.move (.tmp 15)))) (some (163, false)),
    .act (some 167) (.op (.pure (.eqB false (.tmp 165) (.tmp 166)))) (some (163, false)),
    .act (some 168) (.op (.pure (.pick (.tmp 163) (.const (.bool true)) (.tmp 167)))) none,
    .act (some 169) (.op (.pure (.move (.tmp 168)))) none,
    .act (some 170) (.op (.pure (.move (.tmp 17)))) (some (169, false)),
    .act (some 171) (.call (.func 21) [(.tmp 170)]) (some (169, false)),
    .act (some 172) (.op (.pure (.move (.tmp 15)))) (some (169, false)),
    .act (some 173) (.op (.pure (.eqB false (.tmp 171) (.tmp 172)))) (some (169, false)),
    .act (some 174) (.op (.pure (.pick (.tmp 169) (.const (.bool true)) (.tmp 173)))) none,
    .act (some 175) (.op (.pure (.move (.tmp 174)))) none,
    .act (some 176) (.op (.pure (.move (.tmp 18)))) (some (175, false)),
    .act (some 177) (.call (.func 21) [(.tmp 176)]) (some (175, false)),
    .act (some 178) (.op (.pure (.move (.tmp 14)))) (some (175, false)),
    .act (some 179) (.op (.pure (.eqB false (.tmp 177) (.tmp 178)))) (some (175, false)),
    .act (some 180) (.op (.pure (.pick (.tmp 175) (.const (.bool true)) (.tmp 179)))) none,
    .act (some 181) (.op (.pure (.move (.tmp 180)))) none,
    .act (some 182) (.op (.pure (.move (.tmp 19)))) (some (181, false)),
    .act (some 183) (.op (.pure (.bin .eql (.tmp 182) (.const (.int .i64 2))))) (some (181, false)),
    .act (some 184) (.op (.pure (.move (.tmp 15)))) (some (181, false)),
    .act (some 185) (.op (.pure (.eqB false (.tmp 183) (.tmp 184)))) (some (181, false)),
    .act (some 186) (.op (.pure (.pick (.tmp 181) (.const (.bool true)) (.tmp 185)))) none,
    .act (some 187) (.op (.pure (.move (.tmp 186)))) none,
    .act (some 188) (.op (.pure (.move (.tmp 21)))) (some (187, false)),
    .act (some 189) (.op (.pure (.bin .eql (.tmp 188) (.const (.int .i64 2))))) (some (187, false)),
    .act (some 190) (.op (.pure (.move (.tmp 15)))) (some (187, false)),
    .act (some 191) (.op (.pure (.eqB false (.tmp 189) (.tmp 190)))) (some (187, false)),
    .act (some 192) (.op (.pure (.pick (.tmp 187) (.const (.bool true)) (.tmp 191)))) none,
    .act (some 193) (.op (.pure (.move (.tmp 192)))) none,
    .act (some 194) (.op (.pure (.move (.tmp 23)))) (some (193, false)),
    .act (some 195) (.op (.pure (.bin .eql (.tmp 194) (.const (.int .i64 2))))) (some (193, false)),
    .act (some 196) (.op (.pure (.move (.tmp 14)))) (some (193, false)),
    .act (some 197) (.op (.pure (.eqB false (.tmp 195) (.tmp 196)))) (some (193, false)),
    .act (some 198) (.op (.pure (.pick (.tmp 193) (.const (.bool true)) (.tmp 197)))) none])
  (.cond (.tmp 198)
   (.seq (.steps [
     .act (some 6) (.op (.pure (.move (.const (.bool false))))) none])
   .ret)
   .skip))
  (.seq (.seq (.steps [
    .act (some 199) (.op (.pure (.move (.tmp 14)))) none,
    .act (some 200) (.op (.pure (.not (.tmp 199)))) none])
  (.cond (.tmp 200)
   (.seq (.steps [
     .act (some 201) (.op (.read (.loadN 3 (.tmp 3)))) none,
     .act (some 202) (.op (.pure (.move (.tmp 7)))) none,
     .act (some 203) (.call (.func 9) [(.tmp 201), (.tmp 202)]) none,
     .act (some 204) (.op (.pure (.bin .eql (.tmp 203) (.const (.int .i64 2))))) none,
     .act (some 205) (.op (.pure (.move (.tmp 204)))) none,
     .act (some 206) (.op (.read (.loadN 3 (.tmp 3)))) (some (205, true)),
     .act (some 207) (.call (.func 10) [(.tmp 206)]) (some (205, true)),
     .act (some 208) (.op (.pure (.bin .eql (.tmp 207) (.const (.int .i64 0))))) (some (205, true)),
     .act (some 209) (.op (.pure (.pick (.tmp 205) (.tmp 208) (.const (.bool false))))) none,
     .act (some 210) (.op (.pure (.move (.tmp 209)))) none,
     .act (some 211) (.op (.pure (.move (.tmp 18)))) (some (210, true)),
     .act (some 212) (.op (.pure (.move (.tmp 7)))) (some (210, true)),
     .act (some 213) (.call (.func 16) [(.tmp 211), (.tmp 212)]) (some (210, true)),
     .act (some 214) (.op (.pure (.pick (.tmp 210) (.tmp 213) (.const (.bool false))))) none,
     .act (some 215) (.op (.pure (.move (.tmp 214)))) none,
     .act (some 216) (.op (.pure (.move (.tmp 7)))) (some (215, true)),
     .act (some 217) (.call (.func 25) [(.tmp 216)]) (some (215, true)),
     .act (some 218) (.op (.pure (.bin .eql (.tmp 217) (.const (.int .i64 0))))) (some (215, true)),
     .act (some 219) (.op (.pure (.pick (.tmp 215) (.tmp 218) (.const (.bool false))))) none,
     .act (some 220) (.op (.pure (.move (.tmp 219)))) none,
     .act (some 221) (.call (.func 20) []) (some (220, true)),
     .act (some 222) (.op (.pure (.pick (.tmp 220) (.tmp 221) (.const (.bool false))))) none,
     .act (some 6) (.op (.pure (.move (.tmp 222)))) none])
   .ret)
   .skip))
  (.seq (.steps [
    .act (some 223) (.op (.read (.loadN 3 (.tmp 3)))) none,
    .act (some 224) (.call (.func 9) [(.tmp 223), (.const (.pointer none))]) none,
    .act (some 225) (.op (.pure (.bin .eql (.tmp 224) (.const (.int .i64 1))))) none,
    .act (some 226) (.op (.pure (.move (.tmp 225)))) none,
    .act (some 227) (.op (.pure (.move (.tmp 18)))) (some (226, true)),
    .act (some 228) (.call (.func 16) [(.tmp 227), (.const (.pointer none))]) (some (226, true)),
    .act (some 229) (.op (.pure (.not (.tmp 228)))) (some (226, true)),
    .act (some 230) (.op (.pure (.pick (.tmp 226) (.tmp 229) (.const (.bool false))))) none,
    .act (some 231) (.op (.pure (.move (.tmp 230)))) none,
    .act (some 232) (.call (.func 20) []) (some (231, true)),
    .act (some 233) (.op (.pure (.pick (.tmp 231) (.tmp 232) (.const (.bool false))))) none,
    .act (some 6) (.op (.pure (.move (.tmp 233)))) none])
  .ret)))))))
def phI : LCode :=
  (.seq (.steps [
    .act (some 104) (.op (.pure (.move (.tmp 14)))) none,
    .act (some 105) (.op (.pure (.move (.tmp 104)))) none,
    .act (some 106) (.op (.pure (.move (.tmp 1)))) (some (105, true)),
    .act (some 107) (.op (.pure (.bin .geq (.tmp 106) (.const (.int .i64 0))))) (some (105, true)),
    .act (some 108) (.op (.pure (.pick (.tmp 105) (.tmp 107) (.const (.bool false))))) none,
    .act (some 109) (.op (.pure (.move (.tmp 108)))) none,
    .act (some 110) (.op (.pure (.move (.tmp 1)))) (some (109, true)),
    .act (some 111) (.op (.pure (.fieldAddr 1 (.tmp 3)))) (some (109, true)),
    .act (some 112) (.op (.read (.load1 (.tmp 111)))) (some (109, true)),
    .act (some 113) (.op (.pure (.bin .lss (.tmp 110) (.tmp 112)))) (some (109, true)),
    .act (some 114) (.op (.pure (.pick (.tmp 109) (.tmp 113) (.const (.bool false))))) none,
    .act (some 115) (.op (.pure (.move (.tmp 114)))) none,
    .act (some 116) (.op (.pure (.move (.tmp 2)))) (some (115, true)),
    .act (some 117) (.op (.pure (.bin .geq (.tmp 116) (.const (.int .i64 0))))) (some (115, true)),
    .act (some 118) (.op (.pure (.pick (.tmp 115) (.tmp 117) (.const (.bool false))))) none,
    .act (some 119) (.op (.pure (.move (.tmp 118)))) none,
    .act (some 120) (.op (.pure (.move (.tmp 2)))) (some (119, true)),
    .act (some 121) (.op (.pure (.fieldAddr 2 (.tmp 3)))) (some (119, true)),
    .act (some 122) (.op (.read (.load1 (.tmp 121)))) (some (119, true)),
    .act (some 123) (.op (.pure (.bin .lss (.tmp 120) (.tmp 122)))) (some (119, true)),
    .act (some 124) (.op (.pure (.pick (.tmp 119) (.tmp 123) (.const (.bool false))))) none,
    .act (some 15) (.op (.pure (.move (.tmp 124)))) none])
  phP)
def phR : LCode :=
  (.seq (.steps [
    .act (some 76) (.op (.pure (.fieldAddr 0 (.tmp 3)))) none,
    .act (some 77) (.op (.read (.load1 (.tmp 76)))) none,
    .act (some 78) (.op (.pure (.bin .geq (.tmp 77) (.const (.int .i64 0))))) none,
    .act (some 79) (.op (.pure (.move (.tmp 78)))) none,
    .act (some 80) (.op (.pure (.fieldAddr 0 (.tmp 3)))) (some (79, true)),
    .act (some 81) (.op (.read (.load1 (.tmp 80)))) (some (79, true)),
    .act (some 82) (.op (.pure (.bin .leq (.tmp 81) (.const (.int .i64 65536))))) (some (79, true)),
    .act (some 83) (.op (.pure (.pick (.tmp 79) (.tmp 82) (.const (.bool false))))) none,
    .act (some 84) (.op (.pure (.move (.tmp 83)))) none,
    .act (some 85) (.op (.pure (.fieldAddr 1 (.tmp 3)))) (some (84, true)),
    .act (some 86) (.op (.read (.load1 (.tmp 85)))) (some (84, true)),
    .act (some 87) (.op (.pure (.bin .geq (.tmp 86) (.const (.int .i64 1))))) (some (84, true)),
    .act (some 88) (.op (.pure (.pick (.tmp 84) (.tmp 87) (.const (.bool false))))) none,
    .act (some 89) (.op (.pure (.move (.tmp 88)))) none,
    .act (some 90) (.op (.pure (.fieldAddr 1 (.tmp 3)))) (some (89, true)),
    .act (some 91) (.op (.read (.load1 (.tmp 90)))) (some (89, true)),
    .act (some 92) (.op (.pure (.bin .leq (.tmp 91) (.const (.int .i64 64))))) (some (89, true)),
    .act (some 93) (.op (.pure (.pick (.tmp 89) (.tmp 92) (.const (.bool false))))) none,
    .act (some 94) (.op (.pure (.move (.tmp 93)))) none,
    .act (some 95) (.op (.pure (.fieldAddr 2 (.tmp 3)))) (some (94, true)),
    .act (some 96) (.op (.read (.load1 (.tmp 95)))) (some (94, true)),
    .act (some 97) (.op (.pure (.bin .geq (.tmp 96) (.const (.int .i64 1))))) (some (94, true)),
    .act (some 98) (.op (.pure (.pick (.tmp 94) (.tmp 97) (.const (.bool false))))) none,
    .act (some 99) (.op (.pure (.move (.tmp 98)))) none,
    .act (some 100) (.op (.pure (.fieldAddr 2 (.tmp 3)))) (some (99, true)),
    .act (some 101) (.op (.read (.load1 (.tmp 100)))) (some (99, true)),
    .act (some 102) (.op (.pure (.bin .leq (.tmp 101) (.const (.int .i64 8))))) (some (99, true)),
    .act (some 103) (.op (.pure (.pick (.tmp 99) (.tmp 102) (.const (.bool false))))) none,
    .act (some 14) (.op (.pure (.move (.tmp 103)))) none])
  phI)
def Lp : LCode :=
  (.seq (.steps [
    .act (some 3) (.op (.new (.box (.tmp 0)))) none,
    .act (some 6) (.op (.pure (.move (.const (.bool false))))) none])
  (.seq (.steps [
    .act (some 26) (.call (.func 7) [(.const (.int .i64 8))]) none,
    .act (some 25) (.op (.pure (.move (.tmp 26)))) none,
    .act (some 27) (.op (.pure (.extract (.tmp 25) 0))) none,
    .act (some 28) (.op (.pure (.extract (.tmp 25) 1))) none,
    .act (some 7) (.op (.pure (.move (.tmp 27)))) none,
    .act (some 8) (.op (.pure (.move (.tmp 28)))) none])
  (.seq (.seq (.steps [
    .act (some 29) (.op (.pure (.move (.tmp 8)))) none,
    .act (some 30) (.op (.pure (.bin .neq (.tmp 29) (.const (.int .i64 0))))) none])
  (.cond (.tmp 30)
   (.seq (.steps [
     .act (some 6) (.op (.pure (.move (.const (.bool false))))) none])
   .ret)
   .skip))
  (.seq (.steps [
    .act (some 9) (.op (.pure (.move (.const (.pointer none))))) none])
  (.seq (.steps [
    .act (some 32) (.op (.pure (.move (.tmp 9)))) none,
    .act (some 33) (.call (.func 18) [(.tmp 32)]) none,
    .act (some 31) (.op (.pure (.move (.tmp 33)))) none,
    .act (some 34) (.op (.pure (.extract (.tmp 31) 0))) none,
    .act (some 35) (.op (.pure (.extract (.tmp 31) 1))) none,
    .act (some 10) (.op (.pure (.move (.tmp 34)))) none,
    .act (some 11) (.op (.pure (.move (.tmp 35)))) none])
  (.seq (.steps [
    .act (some 37) (.op (.pure (.build [(.bool false), (.int .i64 0), (.int .i64 0), (.int .i64 0), (.int .i64 0), (.int .i64 0), (.int .i64 0), (.int .i64 0), (w64 0#64), (.slice none 0 0), (.bool false), (.int .i64 0)] []))) none,
    .act (some 38) (.op (.new (.box (.tmp 37)))) none,
    .act (some 39) (.call (.func 18) [(.tmp 38)]) none,
    .act (some 36) (.op (.pure (.move (.tmp 39)))) none,
    .act (some 40) (.op (.pure (.extract (.tmp 36) 0))) none,
    .act (some 41) (.op (.pure (.extract (.tmp 36) 1))) none,
    .act (some 12) (.op (.pure (.move (.tmp 40)))) none,
    .act (some 13) (.op (.pure (.move (.tmp 41)))) none])
  (.seq (.seq (.steps [
    .act (some 42) (.op (.pure (.move (.tmp 10)))) none,
    .act (some 43) (.op (.pure (.bin .neq (.tmp 42) (.const (.int .i64 1))))) none,
    .act (some 44) (.op (.pure (.move (.tmp 43)))) none,
    .act (some 45) (.op (.pure (.move (.tmp 12)))) (some (44, false)),
    .act (some 46) (.op (.pure (.bin .neq (.tmp 45) (.const (.int .i64 1))))) (some (44, false)),
    .act (some 47) (.op (.pure (.pick (.tmp 44) (.const (.bool true)) (.tmp 46)))) none,
    .act (some 48) (.op (.pure (.move (.tmp 47)))) none,
    .act (some 49) (.op (.pure (.move (.tmp 11)))) (some (48, false)),
    .act (some 50) (.op (.pure (.move (.tmp 13)))) (some (48, false)),
    .act (some 51) (.op (.pure (.bin .add (.tmp 49) (.tmp 50)))) (some (48, false)),
    .act (some 52) (.op (.pure (.bin .neq (.tmp 51) (.const (w64 0#64))))) (some (48, false)),
    .act (some 53) (.op (.pure (.pick (.tmp 48) (.const (.bool true)) (.tmp 52)))) none,
    .act (some 54) (.op (.pure (.move (.tmp 53)))) none,
    .act (some 55) (.op (.pure (.move (.tmp 9)))) (some (54, false)),
    .act (some 56) (.op (.pure (.move (.tmp 7)))) (some (54, false)),
    .act (some 57) (.call (.func 16) [(.tmp 55), (.tmp 56)]) (some (54, false)),
    .act (some 58) (.op (.pure (.not (.tmp 57)))) (some (54, false)),
    .act (some 59) (.op (.pure (.pick (.tmp 54) (.const (.bool true)) (.tmp 58)))) none,
    .act (some 60) (.op (.pure (.move (.tmp 59)))) none,
    .act (some 61) (.op (.pure (.move (.tmp 9)))) (some (60, false)),
    .act (some 62) (.call (.func 21) [(.tmp 61)]) (some (60, false)),
    .act (some 63) (.op (.pure (.not (.tmp 62)))) (some (60, false)),
    .act (some 64) (.op (.pure (.pick (.tmp 60) (.const (.bool true)) (.tmp 63)))) none,
    .act (some 65) (.op (.pure (.move (.tmp 64)))) none,
    .act (some 66) (.op (.pure (.move (.tmp 9)))) (some (65, false)),
    .act (some 67) (.call (.func 19) [(.tmp 66)]) (some (65, false)),
    .act (some 68) (.op (.pure (.len false (.tmp 67)))) (some (65, false)),
    .act (some 69) (.op (.pure (.bin .neq (.tmp 68) (.const (.int .i64 0))))) (some (65, false)),
    .act (some 70) (.op (.pure (.pick (.tmp 65) (.const (.bool true)) (.tmp 69)))) none,
    .act (some 71) (.op (.pure (.move (.tmp 70)))) none,
    .act (some 72) (.op (.pure (.move (.tmp 7)))) (some (71, false)),
    .act (some 73) (.call (.func 25) [(.tmp 72)]) (some (71, false)),
    .act (some 74) (.op (.pure (.bin .neq (.tmp 73) (.const (.int .i64 0))))) (some (71, false)),
    .act (some 75) (.op (.pure (.pick (.tmp 71) (.const (.bool true)) (.tmp 74)))) none])
  (.cond (.tmp 75)
   (.seq (.steps [
     .act (some 6) (.op (.pure (.move (.const (.bool false))))) none])
   .ret)
   .skip))
  phR)))))))

abbrev zop : LObj := .row false 0 [.bool false, i64 0, i64 0, i64 0, i64 0, i64 0, i64 0, i64 0, w64 0#64, .slice none 0 0, .bool false, i64 0]
abbrev gro (g : GV) : LObj := .row false 0 [i64 g.a, i64 g.t, i64 g.s]
set_option maxHeartbeats 1000000 in
theorem phP_ev {H : LHeap} {g : GV} {t s : Int} {m : MV} {e : Env} {Q : LExit → Env → LHeap → Prop} (ok : m.Ok 8) (st : m.sum 6 = 0)
    (e1 : LK.look e 1 = i64 t) (e2 : LK.look e 2 = i64 s) (e3 : LK.look e 3 = ptr H.length) (e7 : LK.look e 7 = ptr (H.length + 3)) (e14 : LK.look e 14 = .bool g.right) (e15 : LK.look e 15 = .bool (g.has t s))
    (hQ : ∀ e' H', LK.look e' 6 = .bool true → Q .ret e' H') :
    XW (callE T) H.length phP e (H ++ [gro g, wrow m, brow m, mrow (H.length + 1) (H.length + 2) m, zop]) Q := by
  have b1 : (true == true) = true := rfl
  have b2 : (false == false) = true := rfl
  have b3 : (true == false) = false := rfl
  have b4 : (false == true) = false := rfl
  have hge := g.slot_ge t s
  have mm := fun l => mem_at (H := H) (pre := [gro g]) (t := l) ok
  simp only [List.length_cons, List.length_nil, Nat.zero_add, List.cons_append, List.nil_append, Nat.reduceAdd] at mm
  unfold phP
  simp -dsimp only [go_sem, Nat.reduceEqDiff, Nat.reduceAdd, Nat.reduceSub, Nat.reduceMul, Nat.reduceLeDiff, Nat.reduceLT, Nat.reduceBEq, Int.reduceLT, Int.reduceLE, Int.reduceGT, Int.reduceGE, Int.reduceEq, Int.reduceNe, Int.reduceBEq, Int.reduceBNe, Int.reduceAdd, Int.reduceSub, Int.reduceMul, Int.reduceToNat, Int.reduceNeg, ↓reduceIte, ↓reduceDIte, e1, e2, e3]
  refine CT_of (hprotect_ev (by simp)) ?_
  rintro _ _ ⟨u1, rfl, rfl⟩
  simp -dsimp only [go_sem, Nat.reduceEqDiff, Nat.reduceAdd, Nat.reduceSub, Nat.reduceMul, Nat.reduceLeDiff, Nat.reduceLT, Nat.reduceBEq, Int.reduceLT, Int.reduceLE, Int.reduceGT, Int.reduceGE, Int.reduceEq, Int.reduceNe, Int.reduceBEq, Int.reduceBNe, Int.reduceAdd, Int.reduceSub, Int.reduceMul, Int.reduceToNat, Int.reduceNeg, ↓reduceIte, ↓reduceDIte, e1, e2, e3]
  refine CT_of (hclear_ev (by simp)) ?_
  rintro _ _ ⟨u2, rfl, rfl⟩
  simp -dsimp only [go_sem, Nat.reduceEqDiff, Nat.reduceAdd, Nat.reduceSub, Nat.reduceMul, Nat.reduceLeDiff, Nat.reduceLT, Nat.reduceBEq, Int.reduceLT, Int.reduceLE, Int.reduceGT, Int.reduceGE, Int.reduceEq, Int.reduceNe, Int.reduceBEq, Int.reduceBNe, Int.reduceAdd, Int.reduceSub, Int.reduceMul, Int.reduceToNat, Int.reduceNeg, ↓reduceIte, ↓reduceDIte, e1, e2, e3]
  refine CT_of (hscan_ev (by simp)) ?_
  rintro _ _ ⟨u3, rfl, rfl⟩
  rw [hge]
  simp -dsimp only [go_sem, Nat.reduceEqDiff, Nat.reduceAdd, Nat.reduceSub, Nat.reduceMul, Nat.reduceLeDiff, Nat.reduceLT, Nat.reduceBEq, Int.reduceLT, Int.reduceLE, Int.reduceGT, Int.reduceGE, Int.reduceEq, Int.reduceNe, Int.reduceBEq, Int.reduceBNe, Int.reduceAdd, Int.reduceSub, Int.reduceMul, Int.reduceToNat, Int.reduceNeg, ↓reduceIte, ↓reduceDIte, e1, e2, e3]
  refine CT_val (hres_ev (get_app H _ 6)) ?_
  cases hr : g.right
  · have hh : g.has t s = false := by simp [GV.has, hr]
    rw [hr] at e14
    rw [hh] at e15 hge ⊢
    simp only [HOp.begins, Bool.false_eq_true,if_false,if_true]
    simp -dsimp only [go_sem, Nat.reduceEqDiff, Nat.reduceAdd, Nat.reduceSub, Nat.reduceMul, Nat.reduceLeDiff, Nat.reduceLT, Nat.reduceBEq, Int.reduceLT, Int.reduceLE, Int.reduceGT, Int.reduceGE, Int.reduceEq, Int.reduceNe, Int.reduceBEq, Int.reduceBNe, Int.reduceAdd, Int.reduceSub, Int.reduceMul, Int.reduceToNat, Int.reduceNeg, ↓reduceIte, ↓reduceDIte]
    refine CT_val (hres_ev (get_app H _ 8)) ?_
    simp only [HOp.begins, Bool.false_eq_true,if_false,if_true]
    simp -dsimp only [go_sem, Nat.reduceEqDiff, Nat.reduceAdd, Nat.reduceSub, Nat.reduceMul, Nat.reduceLeDiff, Nat.reduceLT, Nat.reduceBEq, Int.reduceLT, Int.reduceLE, Int.reduceGT, Int.reduceGE, Int.reduceEq, Int.reduceNe, Int.reduceBEq, Int.reduceBNe, Int.reduceAdd, Int.reduceSub, Int.reduceMul, Int.reduceToNat, Int.reduceNeg, ↓reduceIte, ↓reduceDIte]
    refine CT_val (hres_ev (get_app H _ 10)) ?_
    simp only [HOp.begins, Bool.false_eq_true,if_false,if_true]
    simp -dsimp only [go_sem, Nat.reduceEqDiff, Nat.reduceAdd, Nat.reduceSub, Nat.reduceMul, Nat.reduceLeDiff, Nat.reduceLT, Nat.reduceBEq, Int.reduceLT, Int.reduceLE, Int.reduceGT, Int.reduceGE, Int.reduceEq, Int.reduceNe, Int.reduceBEq, Int.reduceBNe, Int.reduceAdd, Int.reduceSub, Int.reduceMul, Int.reduceToNat, Int.reduceNeg, ↓reduceIte, ↓reduceDIte, e3]
    refine CT_val right_ev ?_
    simp -dsimp only [go_sem, Nat.reduceEqDiff, Nat.reduceAdd, Nat.reduceSub, Nat.reduceMul, Nat.reduceLeDiff, Nat.reduceLT, Nat.reduceBEq, Int.reduceLT, Int.reduceLE, Int.reduceGT, Int.reduceGE, Int.reduceEq, Int.reduceNe, Int.reduceBEq, Int.reduceBNe, Int.reduceAdd, Int.reduceSub, Int.reduceMul, Int.reduceToNat, Int.reduceNeg, ↓reduceIte, ↓reduceDIte, e14, hr, hh, b1, b2, b3, b4, e3, e1, e2]
    refine CT_val slot_ev ?_
    simp -dsimp only [go_sem, Nat.reduceEqDiff, Nat.reduceAdd, Nat.reduceSub, Nat.reduceMul, Nat.reduceLeDiff, Nat.reduceLT, Nat.reduceBEq, Int.reduceLT, Int.reduceLE, Int.reduceGT, Int.reduceGE, Int.reduceEq, Int.reduceNe, Int.reduceBEq, Int.reduceBNe, Int.reduceAdd, Int.reduceSub, Int.reduceMul, Int.reduceToNat, Int.reduceNeg, ↓reduceIte, ↓reduceDIte, e15, hr, hh, b1, b2, b3, b4, e3, e1, e2, hge]
    refine CT_val (hdone_ev (get_app H _ 6)) ?_
    simp only [HOp.begins, Bool.false_eq_true,if_false,if_true]
    simp -dsimp only [go_sem, Nat.reduceEqDiff, Nat.reduceAdd, Nat.reduceSub, Nat.reduceMul, Nat.reduceLeDiff, Nat.reduceLT, Nat.reduceBEq, Int.reduceLT, Int.reduceLE, Int.reduceGT, Int.reduceGE, Int.reduceEq, Int.reduceNe, Int.reduceBEq, Int.reduceBNe, Int.reduceAdd, Int.reduceSub, Int.reduceMul, Int.reduceToNat, Int.reduceNeg, ↓reduceIte, ↓reduceDIte, e15, hr, hh, b1, b2, b3, b4, e3, e1, e2, hge]
    refine CT_val (hdone_ev (get_app H _ 8)) ?_
    simp only [HOp.begins, Bool.false_eq_true,if_false,if_true]
    simp -dsimp only [go_sem, Nat.reduceEqDiff, Nat.reduceAdd, Nat.reduceSub, Nat.reduceMul, Nat.reduceLeDiff, Nat.reduceLT, Nat.reduceBEq, Int.reduceLT, Int.reduceLE, Int.reduceGT, Int.reduceGE, Int.reduceEq, Int.reduceNe, Int.reduceBEq, Int.reduceBNe, Int.reduceAdd, Int.reduceSub, Int.reduceMul, Int.reduceToNat, Int.reduceNeg, ↓reduceIte, ↓reduceDIte, e15, e14, hr, hh, b1, b2, b3, b4, e3, e1, e2, hge]
    refine CT_val (hdone_ev (get_app H _ 10)) ?_
    simp only [HOp.begins, Bool.false_eq_true,if_false,if_true]
    simp -dsimp only [go_sem, Nat.reduceEqDiff, Nat.reduceAdd, Nat.reduceSub, Nat.reduceMul, Nat.reduceLeDiff, Nat.reduceLT, Nat.reduceBEq, Int.reduceLT, Int.reduceLE, Int.reduceGT, Int.reduceGE, Int.reduceEq, Int.reduceNe, Int.reduceBEq, Int.reduceBNe, Int.reduceAdd, Int.reduceSub, Int.reduceMul, Int.reduceToNat, Int.reduceNeg, ↓reduceIte, ↓reduceDIte, e15, e14, hr, hh, b1, b2, b3, b4, e3, e1, e2, hge, e7]
    refine CT_val (setup_bad (mm _) hr) ?_
    simp -dsimp only [go_sem, Nat.reduceEqDiff, Nat.reduceAdd, Nat.reduceSub, Nat.reduceMul, Nat.reduceLeDiff, Nat.reduceLT, Nat.reduceBEq, Int.reduceLT, Int.reduceLE, Int.reduceGT, Int.reduceGE, Int.reduceEq, Int.reduceNe, Int.reduceBEq, Int.reduceBNe, Int.reduceAdd, Int.reduceSub, Int.reduceMul, Int.reduceToNat, Int.reduceNeg, ↓reduceIte, ↓reduceDIte, e3]
    refine CT_val words_ev ?_
    have hw : g.words = 0 := by simp [GV.words, hr]
    rw [hw]
    simp -dsimp only [go_sem, Nat.reduceEqDiff, Nat.reduceAdd, Nat.reduceSub, Nat.reduceMul, Nat.reduceLeDiff, Nat.reduceLT, Nat.reduceBEq, Int.reduceLT, Int.reduceLE, Int.reduceGT, Int.reduceGE, Int.reduceEq, Int.reduceNe, Int.reduceBEq, Int.reduceBNe, Int.reduceAdd, Int.reduceSub, Int.reduceMul, Int.reduceToNat, Int.reduceNeg, ↓reduceIte, ↓reduceDIte, e7]
    refine CT_val (hstep_done (get_app H _ 10) rfl) ?_
    simp -dsimp only [go_sem, Nat.reduceEqDiff, Nat.reduceAdd, Nat.reduceSub, Nat.reduceMul, Nat.reduceLeDiff, Nat.reduceLT, Nat.reduceBEq, Int.reduceLT, Int.reduceLE, Int.reduceGT, Int.reduceGE, Int.reduceEq, Int.reduceNe, Int.reduceBEq, Int.reduceBNe, Int.reduceAdd, Int.reduceSub, Int.reduceMul, Int.reduceToNat, Int.reduceNeg, ↓reduceIte, ↓reduceDIte, e7]
    refine CT_val (steps_ev (mm _)) ?_
    simp -dsimp only [go_sem, Nat.reduceEqDiff, Nat.reduceAdd, Nat.reduceSub, Nat.reduceMul, Nat.reduceLeDiff, Nat.reduceLT, Nat.reduceBEq, Int.reduceLT, Int.reduceLE, Int.reduceGT, Int.reduceGE, Int.reduceEq, Int.reduceNe, Int.reduceBEq, Int.reduceBNe, Int.reduceAdd, Int.reduceSub, Int.reduceMul, Int.reduceToNat, Int.reduceNeg, ↓reduceIte, ↓reduceDIte, st]
    refine CT_val (one_ev _ _) ?_
    simp -dsimp only [go_sem, Nat.reduceEqDiff, Nat.reduceAdd, Nat.reduceSub, Nat.reduceMul, Nat.reduceLeDiff, Nat.reduceLT, Nat.reduceBEq, Int.reduceLT, Int.reduceLE, Int.reduceGT, Int.reduceGE, Int.reduceEq, Int.reduceNe, Int.reduceBEq, Int.reduceBNe, Int.reduceAdd, Int.reduceSub, Int.reduceMul, Int.reduceToNat, Int.reduceNeg, ↓reduceIte, ↓reduceDIte]
    exact hQ _ _ rfl
  · rw [hr] at e14
    cases hh : g.has t s
    · rw [hh] at e15 hge
      simp only [HOp.begins, Bool.false_eq_true,if_false,if_true]
      simp -dsimp only [go_sem, Nat.reduceEqDiff, Nat.reduceAdd, Nat.reduceSub, Nat.reduceMul, Nat.reduceLeDiff, Nat.reduceLT, Nat.reduceBEq, Int.reduceLT, Int.reduceLE, Int.reduceGT, Int.reduceGE, Int.reduceEq, Int.reduceNe, Int.reduceBEq, Int.reduceBNe, Int.reduceAdd, Int.reduceSub, Int.reduceMul, Int.reduceToNat, Int.reduceNeg, ↓reduceIte, ↓reduceDIte]
      refine CT_val (hres_ev (get_app H _ 8)) ?_
      simp only [HOp.begins, Bool.false_eq_true,if_false,if_true]
      simp -dsimp only [go_sem, Nat.reduceEqDiff, Nat.reduceAdd, Nat.reduceSub, Nat.reduceMul, Nat.reduceLeDiff, Nat.reduceLT, Nat.reduceBEq, Int.reduceLT, Int.reduceLE, Int.reduceGT, Int.reduceGE, Int.reduceEq, Int.reduceNe, Int.reduceBEq, Int.reduceBNe, Int.reduceAdd, Int.reduceSub, Int.reduceMul, Int.reduceToNat, Int.reduceNeg, ↓reduceIte, ↓reduceDIte]
      refine CT_val (hres_ev (get_app H _ 10)) ?_
      simp only [HOp.begins, Bool.false_eq_true,if_false,if_true]
      simp -dsimp only [go_sem, Nat.reduceEqDiff, Nat.reduceAdd, Nat.reduceSub, Nat.reduceMul, Nat.reduceLeDiff, Nat.reduceLT, Nat.reduceBEq, Int.reduceLT, Int.reduceLE, Int.reduceGT, Int.reduceGE, Int.reduceEq, Int.reduceNe, Int.reduceBEq, Int.reduceBNe, Int.reduceAdd, Int.reduceSub, Int.reduceMul, Int.reduceToNat, Int.reduceNeg, ↓reduceIte, ↓reduceDIte, e3]
      refine CT_val right_ev ?_
      simp -dsimp only [go_sem, Nat.reduceEqDiff, Nat.reduceAdd, Nat.reduceSub, Nat.reduceMul, Nat.reduceLeDiff, Nat.reduceLT, Nat.reduceBEq, Int.reduceLT, Int.reduceLE, Int.reduceGT, Int.reduceGE, Int.reduceEq, Int.reduceNe, Int.reduceBEq, Int.reduceBNe, Int.reduceAdd, Int.reduceSub, Int.reduceMul, Int.reduceToNat, Int.reduceNeg, ↓reduceIte, ↓reduceDIte, e14, hr, hh, b1, b2, b3, b4, e3, e1, e2]
      refine CT_val slot_ev ?_
      simp -dsimp only [go_sem, Nat.reduceEqDiff, Nat.reduceAdd, Nat.reduceSub, Nat.reduceMul, Nat.reduceLeDiff, Nat.reduceLT, Nat.reduceBEq, Int.reduceLT, Int.reduceLE, Int.reduceGT, Int.reduceGE, Int.reduceEq, Int.reduceNe, Int.reduceBEq, Int.reduceBNe, Int.reduceAdd, Int.reduceSub, Int.reduceMul, Int.reduceToNat, Int.reduceNeg, ↓reduceIte, ↓reduceDIte, e15, hr, hh, b1, b2, b3, b4, e3, e1, e2, hge]
      refine CT_val (hdone_ev (get_app H _ 6)) ?_
      simp only [HOp.begins, Bool.false_eq_true,if_false,if_true]
      simp -dsimp only [go_sem, Nat.reduceEqDiff, Nat.reduceAdd, Nat.reduceSub, Nat.reduceMul, Nat.reduceLeDiff, Nat.reduceLT, Nat.reduceBEq, Int.reduceLT, Int.reduceLE, Int.reduceGT, Int.reduceGE, Int.reduceEq, Int.reduceNe, Int.reduceBEq, Int.reduceBNe, Int.reduceAdd, Int.reduceSub, Int.reduceMul, Int.reduceToNat, Int.reduceNeg, ↓reduceIte, ↓reduceDIte, e15, hr, hh, b1, b2, b3, b4, e3, e1, e2, hge]
      refine CT_val (hdone_ev (get_app H _ 8)) ?_
      simp only [HOp.begins, Bool.false_eq_true,if_false,if_true]
      simp -dsimp only [go_sem, Nat.reduceEqDiff, Nat.reduceAdd, Nat.reduceSub, Nat.reduceMul, Nat.reduceLeDiff, Nat.reduceLT, Nat.reduceBEq, Int.reduceLT, Int.reduceLE, Int.reduceGT, Int.reduceGE, Int.reduceEq, Int.reduceNe, Int.reduceBEq, Int.reduceBNe, Int.reduceAdd, Int.reduceSub, Int.reduceMul, Int.reduceToNat, Int.reduceNeg, ↓reduceIte, ↓reduceDIte, e15, e14, hr, hh, b1, b2, b3, b4, e3, e1, e2, hge]
      refine CT_val (hdone_ev (get_app H _ 10)) ?_
      simp only [HOp.begins, Bool.false_eq_true,if_false,if_true]
      simp -dsimp only [go_sem, Nat.reduceEqDiff, Nat.reduceAdd, Nat.reduceSub, Nat.reduceMul, Nat.reduceLeDiff, Nat.reduceLT, Nat.reduceBEq, Int.reduceLT, Int.reduceLE, Int.reduceGT, Int.reduceGE, Int.reduceEq, Int.reduceNe, Int.reduceBEq, Int.reduceBNe, Int.reduceAdd, Int.reduceSub, Int.reduceMul, Int.reduceToNat, Int.reduceNeg, ↓reduceIte, ↓reduceDIte, e15, e14, hr, hh, b1, b2, b3, b4, e3, e1, e2, hge, e7]
      refine CT_val (setup_nil (.inl rfl)) ?_
      simp -dsimp only [go_sem, Nat.reduceEqDiff, Nat.reduceAdd, Nat.reduceSub, Nat.reduceMul, Nat.reduceLeDiff, Nat.reduceLT, Nat.reduceBEq, Int.reduceLT, Int.reduceLE, Int.reduceGT, Int.reduceGE, Int.reduceEq, Int.reduceNe, Int.reduceBEq, Int.reduceBNe, Int.reduceAdd, Int.reduceSub, Int.reduceMul, Int.reduceToNat, Int.reduceNeg, ↓reduceIte, ↓reduceDIte]
      refine CT_val (hstep_nomem (get_app H _ 10) rfl (.inl rfl)) ?_
      simp -dsimp only [go_sem, Nat.reduceEqDiff, Nat.reduceAdd, Nat.reduceSub, Nat.reduceMul, Nat.reduceLeDiff, Nat.reduceLT, Nat.reduceBEq, Int.reduceLT, Int.reduceLE, Int.reduceGT, Int.reduceGE, Int.reduceEq, Int.reduceNe, Int.reduceBEq, Int.reduceBNe, Int.reduceAdd, Int.reduceSub, Int.reduceMul, Int.reduceToNat, Int.reduceNeg, ↓reduceIte, ↓reduceDIte]
      refine CT_val (one_ev _ _) ?_
      simp -dsimp only [go_sem, Nat.reduceEqDiff, Nat.reduceAdd, Nat.reduceSub, Nat.reduceMul, Nat.reduceLeDiff, Nat.reduceLT, Nat.reduceBEq, Int.reduceLT, Int.reduceLE, Int.reduceGT, Int.reduceGE, Int.reduceEq, Int.reduceNe, Int.reduceBEq, Int.reduceBNe, Int.reduceAdd, Int.reduceSub, Int.reduceMul, Int.reduceToNat, Int.reduceNeg, ↓reduceIte, ↓reduceDIte]
      exact hQ _ _ rfl
    · rw [hh] at e15 hge
      simp only [HOp.begins, Bool.false_eq_true,if_false,if_true]
      simp -dsimp only [go_sem, Nat.reduceEqDiff, Nat.reduceAdd, Nat.reduceSub, Nat.reduceMul, Nat.reduceLeDiff, Nat.reduceLT, Nat.reduceBEq, Int.reduceLT, Int.reduceLE, Int.reduceGT, Int.reduceGE, Int.reduceEq, Int.reduceNe, Int.reduceBEq, Int.reduceBNe, Int.reduceAdd, Int.reduceSub, Int.reduceMul, Int.reduceToNat, Int.reduceNeg, ↓reduceIte, ↓reduceDIte]
      refine CT_val (hres_ev (get_app H _ 8)) ?_
      simp only [HOp.begins, Bool.false_eq_true,if_false,if_true]
      simp -dsimp only [go_sem, Nat.reduceEqDiff, Nat.reduceAdd, Nat.reduceSub, Nat.reduceMul, Nat.reduceLeDiff, Nat.reduceLT, Nat.reduceBEq, Int.reduceLT, Int.reduceLE, Int.reduceGT, Int.reduceGE, Int.reduceEq, Int.reduceNe, Int.reduceBEq, Int.reduceBNe, Int.reduceAdd, Int.reduceSub, Int.reduceMul, Int.reduceToNat, Int.reduceNeg, ↓reduceIte, ↓reduceDIte]
      refine CT_val (hres_ev (get_app H _ 10)) ?_
      simp only [HOp.begins, Bool.false_eq_true,if_false,if_true]
      simp -dsimp only [go_sem, Nat.reduceEqDiff, Nat.reduceAdd, Nat.reduceSub, Nat.reduceMul, Nat.reduceLeDiff, Nat.reduceLT, Nat.reduceBEq, Int.reduceLT, Int.reduceLE, Int.reduceGT, Int.reduceGE, Int.reduceEq, Int.reduceNe, Int.reduceBEq, Int.reduceBNe, Int.reduceAdd, Int.reduceSub, Int.reduceMul, Int.reduceToNat, Int.reduceNeg, ↓reduceIte, ↓reduceDIte, e3]
      refine CT_val right_ev ?_
      simp -dsimp only [go_sem, Nat.reduceEqDiff, Nat.reduceAdd, Nat.reduceSub, Nat.reduceMul, Nat.reduceLeDiff, Nat.reduceLT, Nat.reduceBEq, Int.reduceLT, Int.reduceLE, Int.reduceGT, Int.reduceGE, Int.reduceEq, Int.reduceNe, Int.reduceBEq, Int.reduceBNe, Int.reduceAdd, Int.reduceSub, Int.reduceMul, Int.reduceToNat, Int.reduceNeg, ↓reduceIte, ↓reduceDIte, e14, hr, hh, b1, b2, b3, b4, e3, e1, e2]
      refine CT_val slot_ev ?_
      simp -dsimp only [go_sem, Nat.reduceEqDiff, Nat.reduceAdd, Nat.reduceSub, Nat.reduceMul, Nat.reduceLeDiff, Nat.reduceLT, Nat.reduceBEq, Int.reduceLT, Int.reduceLE, Int.reduceGT, Int.reduceGE, Int.reduceEq, Int.reduceNe, Int.reduceBEq, Int.reduceBNe, Int.reduceAdd, Int.reduceSub, Int.reduceMul, Int.reduceToNat, Int.reduceNeg, ↓reduceIte, ↓reduceDIte, e15, hr, hh, b1, b2, b3, b4, e3, e1, e2, hge]
      refine CT_val (hdone_ev (get_app H _ 6)) ?_
      simp only [HOp.begins, Bool.false_eq_true,if_false,if_true]
      simp -dsimp only [go_sem, Nat.reduceEqDiff, Nat.reduceAdd, Nat.reduceSub, Nat.reduceMul, Nat.reduceLeDiff, Nat.reduceLT, Nat.reduceBEq, Int.reduceLT, Int.reduceLE, Int.reduceGT, Int.reduceGE, Int.reduceEq, Int.reduceNe, Int.reduceBEq, Int.reduceBNe, Int.reduceAdd, Int.reduceSub, Int.reduceMul, Int.reduceToNat, Int.reduceNeg, ↓reduceIte, ↓reduceDIte, e15, hr, hh, b1, b2, b3, b4, e3, e1, e2, hge]
      refine CT_val (hdone_ev (get_app H _ 8)) ?_
      simp only [HOp.begins, Bool.false_eq_true,if_false,if_true]
      simp -dsimp only [go_sem, Nat.reduceEqDiff, Nat.reduceAdd, Nat.reduceSub, Nat.reduceMul, Nat.reduceLeDiff, Nat.reduceLT, Nat.reduceBEq, Int.reduceLT, Int.reduceLE, Int.reduceGT, Int.reduceGE, Int.reduceEq, Int.reduceNe, Int.reduceBEq, Int.reduceBNe, Int.reduceAdd, Int.reduceSub, Int.reduceMul, Int.reduceToNat, Int.reduceNeg, ↓reduceIte, ↓reduceDIte, e15, e14, hr, hh, b1, b2, b3, b4, e3, e1, e2, hge]
      refine CT_val (hdone_ev (get_app H _ 10)) ?_
      simp only [HOp.begins, Bool.false_eq_true,if_false,if_true]
      simp -dsimp only [go_sem, Nat.reduceEqDiff, Nat.reduceAdd, Nat.reduceSub, Nat.reduceMul, Nat.reduceLeDiff, Nat.reduceLT, Nat.reduceBEq, Int.reduceLT, Int.reduceLE, Int.reduceGT, Int.reduceGE, Int.reduceEq, Int.reduceNe, Int.reduceBEq, Int.reduceBNe, Int.reduceAdd, Int.reduceSub, Int.reduceMul, Int.reduceToNat, Int.reduceNeg, ↓reduceIte, ↓reduceDIte, e15, e14, hr, hh, b1, b2, b3, b4, e3, e1, e2, hge, e7]
      refine CT_val (setup_nil (.inl rfl)) ?_
      simp -dsimp only [go_sem, Nat.reduceEqDiff, Nat.reduceAdd, Nat.reduceSub, Nat.reduceMul, Nat.reduceLeDiff, Nat.reduceLT, Nat.reduceBEq, Int.reduceLT, Int.reduceLE, Int.reduceGT, Int.reduceGE, Int.reduceEq, Int.reduceNe, Int.reduceBEq, Int.reduceBNe, Int.reduceAdd, Int.reduceSub, Int.reduceMul, Int.reduceToNat, Int.reduceNeg, ↓reduceIte, ↓reduceDIte]
      refine CT_val (hstep_nomem (get_app H _ 10) rfl (.inl rfl)) ?_
      simp -dsimp only [go_sem, Nat.reduceEqDiff, Nat.reduceAdd, Nat.reduceSub, Nat.reduceMul, Nat.reduceLeDiff, Nat.reduceLT, Nat.reduceBEq, Int.reduceLT, Int.reduceLE, Int.reduceGT, Int.reduceGE, Int.reduceEq, Int.reduceNe, Int.reduceBEq, Int.reduceBNe, Int.reduceAdd, Int.reduceSub, Int.reduceMul, Int.reduceToNat, Int.reduceNeg, ↓reduceIte, ↓reduceDIte]
      refine CT_val (one_ev _ _) ?_
      simp -dsimp only [go_sem, Nat.reduceEqDiff, Nat.reduceAdd, Nat.reduceSub, Nat.reduceMul, Nat.reduceLeDiff, Nat.reduceLT, Nat.reduceBEq, Int.reduceLT, Int.reduceLE, Int.reduceGT, Int.reduceGE, Int.reduceEq, Int.reduceNe, Int.reduceBEq, Int.reduceBNe, Int.reduceAdd, Int.reduceSub, Int.reduceMul, Int.reduceToNat, Int.reduceNeg, ↓reduceIte, ↓reduceDIte]
      exact hQ _ _ rfl
set_option maxHeartbeats 1000000 in
theorem phI_ev {H : LHeap} {g : GV} {t s : Int} {m : MV} {e : Env} {Q : LExit → Env → LHeap → Prop} (ok : m.Ok 8) (st : m.sum 6 = 0)
    (e1 : LK.look e 1 = i64 t) (e2 : LK.look e 2 = i64 s) (e3 : LK.look e 3 = ptr H.length) (e7 : LK.look e 7 = ptr (H.length + 3)) (e14 : LK.look e 14 = .bool g.right)
    (hQ : ∀ e' H', LK.look e' 6 = .bool true → Q .ret e' H') :
    XW (callE T) H.length phI e (H ++ [gro g, wrow m, brow m, mrow (H.length + 1) (H.length + 2) m, zop]) Q := by
  unfold phI
  cases hr : g.right
  · rw [hr] at e14
    have hh : g.has t s = false := by simp [GV.has, hr]
    simp -dsimp only [go_sem, Nat.reduceEqDiff, Nat.reduceAdd, Nat.reduceSub, Nat.reduceMul, Nat.reduceLeDiff, Nat.reduceLT, Nat.reduceBEq, Int.reduceLT, Int.reduceLE, Int.reduceGT, Int.reduceGE, Int.reduceEq, Int.reduceNe, Int.reduceBEq, Int.reduceBNe, Int.reduceAdd, Int.reduceSub, Int.reduceMul, Int.reduceToNat, Int.reduceNeg, ↓reduceIte, ↓reduceDIte, e14]
    exact phP_ev (t := t) (s := s) ok st (by simp -dsimp only [go_sem, Nat.reduceEqDiff, Nat.reduceAdd, Nat.reduceSub, Nat.reduceMul, Nat.reduceLeDiff, Nat.reduceLT, Nat.reduceBEq, Int.reduceLT, Int.reduceLE, Int.reduceGT, Int.reduceGE, Int.reduceEq, Int.reduceNe, Int.reduceBEq, Int.reduceBNe, Int.reduceAdd, Int.reduceSub, Int.reduceMul, Int.reduceToNat, Int.reduceNeg, ↓reduceIte, ↓reduceDIte, e1]) (by simp -dsimp only [go_sem, Nat.reduceEqDiff, Nat.reduceAdd, Nat.reduceSub, Nat.reduceMul, Nat.reduceLeDiff, Nat.reduceLT, Nat.reduceBEq, Int.reduceLT, Int.reduceLE, Int.reduceGT, Int.reduceGE, Int.reduceEq, Int.reduceNe, Int.reduceBEq, Int.reduceBNe, Int.reduceAdd, Int.reduceSub, Int.reduceMul, Int.reduceToNat, Int.reduceNeg, ↓reduceIte, ↓reduceDIte, e2]) (by simp -dsimp only [go_sem, Nat.reduceEqDiff, Nat.reduceAdd, Nat.reduceSub, Nat.reduceMul, Nat.reduceLeDiff, Nat.reduceLT, Nat.reduceBEq, Int.reduceLT, Int.reduceLE, Int.reduceGT, Int.reduceGE, Int.reduceEq, Int.reduceNe, Int.reduceBEq, Int.reduceBNe, Int.reduceAdd, Int.reduceSub, Int.reduceMul, Int.reduceToNat, Int.reduceNeg, ↓reduceIte, ↓reduceDIte, e3]) (by simp -dsimp only [go_sem, Nat.reduceEqDiff, Nat.reduceAdd, Nat.reduceSub, Nat.reduceMul, Nat.reduceLeDiff, Nat.reduceLT, Nat.reduceBEq, Int.reduceLT, Int.reduceLE, Int.reduceGT, Int.reduceGE, Int.reduceEq, Int.reduceNe, Int.reduceBEq, Int.reduceBNe, Int.reduceAdd, Int.reduceSub, Int.reduceMul, Int.reduceToNat, Int.reduceNeg, ↓reduceIte, ↓reduceDIte, e7]) (by simp -dsimp only [go_sem, Nat.reduceEqDiff, Nat.reduceAdd, Nat.reduceSub, Nat.reduceMul, Nat.reduceLeDiff, Nat.reduceLT, Nat.reduceBEq, Int.reduceLT, Int.reduceLE, Int.reduceGT, Int.reduceGE, Int.reduceEq, Int.reduceNe, Int.reduceBEq, Int.reduceBNe, Int.reduceAdd, Int.reduceSub, Int.reduceMul, Int.reduceToNat, Int.reduceNeg, ↓reduceIte, ↓reduceDIte, e14, hr]) (by simp -dsimp only [go_sem, Nat.reduceEqDiff, Nat.reduceAdd, Nat.reduceSub, Nat.reduceMul, Nat.reduceLeDiff, Nat.reduceLT, Nat.reduceBEq, Int.reduceLT, Int.reduceLE, Int.reduceGT, Int.reduceGE, Int.reduceEq, Int.reduceNe, Int.reduceBEq, Int.reduceBNe, Int.reduceAdd, Int.reduceSub, Int.reduceMul, Int.reduceToNat, Int.reduceNeg, ↓reduceIte, ↓reduceDIte, hh]) hQ
  · rw [hr] at e14
    simp -dsimp only [go_sem, Nat.reduceEqDiff, Nat.reduceAdd, Nat.reduceSub, Nat.reduceMul, Nat.reduceLeDiff, Nat.reduceLT, Nat.reduceBEq, Int.reduceLT, Int.reduceLE, Int.reduceGT, Int.reduceGE, Int.reduceEq, Int.reduceNe, Int.reduceBEq, Int.reduceBNe, Int.reduceAdd, Int.reduceSub, Int.reduceMul, Int.reduceToNat, Int.reduceNeg, ↓reduceIte, ↓reduceDIte, e14, e1, e3, e2]
    (repeat' (first | (refine BT_beq (fun hc => ?_) (fun hc hc2 => ?_) <;> simp -dsimp only [go_sem, Nat.reduceEqDiff, Nat.reduceAdd, Nat.reduceSub, Nat.reduceMul, Nat.reduceLeDiff, Nat.reduceLT, Nat.reduceBEq, Int.reduceLT, Int.reduceLE, Int.reduceGT, Int.reduceGE, Int.reduceEq, Int.reduceNe, Int.reduceBEq, Int.reduceBNe, Int.reduceAdd, Int.reduceSub, Int.reduceMul, Int.reduceToNat, Int.reduceNeg, ↓reduceIte, ↓reduceDIte, e14, e1, e3, e2, *]) | (refine GT_beqT (fun hc => ?_) (fun hc hc2 => ?_) <;> simp -dsimp only [go_sem, Nat.reduceEqDiff, Nat.reduceAdd, Nat.reduceSub, Nat.reduceMul, Nat.reduceLeDiff, Nat.reduceLT, Nat.reduceBEq, Int.reduceLT, Int.reduceLE, Int.reduceGT, Int.reduceGE, Int.reduceEq, Int.reduceNe, Int.reduceBEq, Int.reduceBNe, Int.reduceAdd, Int.reduceSub, Int.reduceMul, Int.reduceToNat, Int.reduceNeg, ↓reduceIte, ↓reduceDIte, e14, e1, e3, e2, *]) | (refine GT_beqF (fun hc hc2 => ?_) (fun hc => ?_) <;> simp -dsimp only [go_sem, Nat.reduceEqDiff, Nat.reduceAdd, Nat.reduceSub, Nat.reduceMul, Nat.reduceLeDiff, Nat.reduceLT, Nat.reduceBEq, Int.reduceLT, Int.reduceLE, Int.reduceGT, Int.reduceGE, Int.reduceEq, Int.reduceNe, Int.reduceBEq, Int.reduceBNe, Int.reduceAdd, Int.reduceSub, Int.reduceMul, Int.reduceToNat, Int.reduceNeg, ↓reduceIte, ↓reduceDIte, e14, e1, e3, e2, *]) | (refine BT_bne (fun hc hc1 hc2 => ?_) (fun hc => ?_) <;> simp -dsimp only [go_sem, Nat.reduceEqDiff, Nat.reduceAdd, Nat.reduceSub, Nat.reduceMul, Nat.reduceLeDiff, Nat.reduceLT, Nat.reduceBEq, Int.reduceLT, Int.reduceLE, Int.reduceGT, Int.reduceGE, Int.reduceEq, Int.reduceNe, Int.reduceBEq, Int.reduceBNe, Int.reduceAdd, Int.reduceSub, Int.reduceMul, Int.reduceToNat, Int.reduceNeg, ↓reduceIte, ↓reduceDIte, e14, e1, e3, e2, *]) | (refine GT_bneT (fun hc hc1 hc2 => ?_) (fun hc => ?_) <;> simp -dsimp only [go_sem, Nat.reduceEqDiff, Nat.reduceAdd, Nat.reduceSub, Nat.reduceMul, Nat.reduceLeDiff, Nat.reduceLT, Nat.reduceBEq, Int.reduceLT, Int.reduceLE, Int.reduceGT, Int.reduceGE, Int.reduceEq, Int.reduceNe, Int.reduceBEq, Int.reduceBNe, Int.reduceAdd, Int.reduceSub, Int.reduceMul, Int.reduceToNat, Int.reduceNeg, ↓reduceIte, ↓reduceDIte, e14, e1, e3, e2, *]) | (refine GT_bneF (fun hc => ?_) (fun hc hc1 hc2 => ?_) <;> simp -dsimp only [go_sem, Nat.reduceEqDiff, Nat.reduceAdd, Nat.reduceSub, Nat.reduceMul, Nat.reduceLeDiff, Nat.reduceLT, Nat.reduceBEq, Int.reduceLT, Int.reduceLE, Int.reduceGT, Int.reduceGE, Int.reduceEq, Int.reduceNe, Int.reduceBEq, Int.reduceBNe, Int.reduceAdd, Int.reduceSub, Int.reduceMul, Int.reduceToNat, Int.reduceNeg, ↓reduceIte, ↓reduceDIte, e14, e1, e3, e2, *]) | (refine BT_not (fun hc => ?_) (fun hc => ?_) <;> simp -dsimp only [go_sem, Nat.reduceEqDiff, Nat.reduceAdd, Nat.reduceSub, Nat.reduceMul, Nat.reduceLeDiff, Nat.reduceLT, Nat.reduceBEq, Int.reduceLT, Int.reduceLE, Int.reduceGT, Int.reduceGE, Int.reduceEq, Int.reduceNe, Int.reduceBEq, Int.reduceBNe, Int.reduceAdd, Int.reduceSub, Int.reduceMul, Int.reduceToNat, Int.reduceNeg, ↓reduceIte, ↓reduceDIte, e14, e1, e3, e2, *]) | (refine GT_notT (fun hc => ?_) (fun hc => ?_) <;> simp -dsimp only [go_sem, Nat.reduceEqDiff, Nat.reduceAdd, Nat.reduceSub, Nat.reduceMul, Nat.reduceLeDiff, Nat.reduceLT, Nat.reduceBEq, Int.reduceLT, Int.reduceLE, Int.reduceGT, Int.reduceGE, Int.reduceEq, Int.reduceNe, Int.reduceBEq, Int.reduceBNe, Int.reduceAdd, Int.reduceSub, Int.reduceMul, Int.reduceToNat, Int.reduceNeg, ↓reduceIte, ↓reduceDIte, e14, e1, e3, e2, *]) | (refine GT_notF (fun hc => ?_) (fun hc => ?_) <;> simp -dsimp only [go_sem, Nat.reduceEqDiff, Nat.reduceAdd, Nat.reduceSub, Nat.reduceMul, Nat.reduceLeDiff, Nat.reduceLT, Nat.reduceBEq, Int.reduceLT, Int.reduceLE, Int.reduceGT, Int.reduceGE, Int.reduceEq, Int.reduceNe, Int.reduceBEq, Int.reduceBNe, Int.reduceAdd, Int.reduceSub, Int.reduceMul, Int.reduceToNat, Int.reduceNeg, ↓reduceIte, ↓reduceDIte, e14, e1, e3, e2, *]) | (refine BT_dec (fun hc => ?_) (fun hc => ?_) <;> simp -dsimp only [go_sem, Nat.reduceEqDiff, Nat.reduceAdd, Nat.reduceSub, Nat.reduceMul, Nat.reduceLeDiff, Nat.reduceLT, Nat.reduceBEq, Int.reduceLT, Int.reduceLE, Int.reduceGT, Int.reduceGE, Int.reduceEq, Int.reduceNe, Int.reduceBEq, Int.reduceBNe, Int.reduceAdd, Int.reduceSub, Int.reduceMul, Int.reduceToNat, Int.reduceNeg, ↓reduceIte, ↓reduceDIte, e14, e1, e3, e2, *]) | (refine GT_decT (fun hc => ?_) (fun hc => ?_) <;> simp -dsimp only [go_sem, Nat.reduceEqDiff, Nat.reduceAdd, Nat.reduceSub, Nat.reduceMul, Nat.reduceLeDiff, Nat.reduceLT, Nat.reduceBEq, Int.reduceLT, Int.reduceLE, Int.reduceGT, Int.reduceGE, Int.reduceEq, Int.reduceNe, Int.reduceBEq, Int.reduceBNe, Int.reduceAdd, Int.reduceSub, Int.reduceMul, Int.reduceToNat, Int.reduceNeg, ↓reduceIte, ↓reduceDIte, e14, e1, e3, e2, *]) | (refine GT_decF (fun hc => ?_) (fun hc => ?_) <;> simp -dsimp only [go_sem, Nat.reduceEqDiff, Nat.reduceAdd, Nat.reduceSub, Nat.reduceMul, Nat.reduceLeDiff, Nat.reduceLT, Nat.reduceBEq, Int.reduceLT, Int.reduceLE, Int.reduceGT, Int.reduceGE, Int.reduceEq, Int.reduceNe, Int.reduceBEq, Int.reduceBNe, Int.reduceAdd, Int.reduceSub, Int.reduceMul, Int.reduceToNat, Int.reduceNeg, ↓reduceIte, ↓reduceDIte, e14, e1, e3, e2, *]) | (refine BT_intro (fun hc => ?_) (fun hc => ?_) <;> simp -dsimp only [go_sem, Nat.reduceEqDiff, Nat.reduceAdd, Nat.reduceSub, Nat.reduceMul, Nat.reduceLeDiff, Nat.reduceLT, Nat.reduceBEq, Int.reduceLT, Int.reduceLE, Int.reduceGT, Int.reduceGE, Int.reduceEq, Int.reduceNe, Int.reduceBEq, Int.reduceBNe, Int.reduceAdd, Int.reduceSub, Int.reduceMul, Int.reduceToNat, Int.reduceNeg, ↓reduceIte, ↓reduceDIte, e14, e1, e3, e2, *]) | (refine GT_introT (fun hc => ?_) (fun hc => ?_) <;> simp -dsimp only [go_sem, Nat.reduceEqDiff, Nat.reduceAdd, Nat.reduceSub, Nat.reduceMul, Nat.reduceLeDiff, Nat.reduceLT, Nat.reduceBEq, Int.reduceLT, Int.reduceLE, Int.reduceGT, Int.reduceGE, Int.reduceEq, Int.reduceNe, Int.reduceBEq, Int.reduceBNe, Int.reduceAdd, Int.reduceSub, Int.reduceMul, Int.reduceToNat, Int.reduceNeg, ↓reduceIte, ↓reduceDIte, e14, e1, e3, e2, *]) | (refine GT_introF (fun hc => ?_) (fun hc => ?_) <;> simp -dsimp only [go_sem, Nat.reduceEqDiff, Nat.reduceAdd, Nat.reduceSub, Nat.reduceMul, Nat.reduceLeDiff, Nat.reduceLT, Nat.reduceBEq, Int.reduceLT, Int.reduceLE, Int.reduceGT, Int.reduceGE, Int.reduceEq, Int.reduceNe, Int.reduceBEq, Int.reduceBNe, Int.reduceAdd, Int.reduceSub, Int.reduceMul, Int.reduceToNat, Int.reduceNeg, ↓reduceIte, ↓reduceDIte, e14, e1, e3, e2, *])))
    · have hh : g.has t s = decide (s < g.s) := by simp [GV.has, hr, *]; try omega
      exact phP_ev (t := t) (s := s) ok st (by simp -dsimp only [go_sem, Nat.reduceEqDiff, Nat.reduceAdd, Nat.reduceSub, Nat.reduceMul, Nat.reduceLeDiff, Nat.reduceLT, Nat.reduceBEq, Int.reduceLT, Int.reduceLE, Int.reduceGT, Int.reduceGE, Int.reduceEq, Int.reduceNe, Int.reduceBEq, Int.reduceBNe, Int.reduceAdd, Int.reduceSub, Int.reduceMul, Int.reduceToNat, Int.reduceNeg, ↓reduceIte, ↓reduceDIte, e1]) (by simp -dsimp only [go_sem, Nat.reduceEqDiff, Nat.reduceAdd, Nat.reduceSub, Nat.reduceMul, Nat.reduceLeDiff, Nat.reduceLT, Nat.reduceBEq, Int.reduceLT, Int.reduceLE, Int.reduceGT, Int.reduceGE, Int.reduceEq, Int.reduceNe, Int.reduceBEq, Int.reduceBNe, Int.reduceAdd, Int.reduceSub, Int.reduceMul, Int.reduceToNat, Int.reduceNeg, ↓reduceIte, ↓reduceDIte, e2]) (by simp -dsimp only [go_sem, Nat.reduceEqDiff, Nat.reduceAdd, Nat.reduceSub, Nat.reduceMul, Nat.reduceLeDiff, Nat.reduceLT, Nat.reduceBEq, Int.reduceLT, Int.reduceLE, Int.reduceGT, Int.reduceGE, Int.reduceEq, Int.reduceNe, Int.reduceBEq, Int.reduceBNe, Int.reduceAdd, Int.reduceSub, Int.reduceMul, Int.reduceToNat, Int.reduceNeg, ↓reduceIte, ↓reduceDIte, e3]) (by simp -dsimp only [go_sem, Nat.reduceEqDiff, Nat.reduceAdd, Nat.reduceSub, Nat.reduceMul, Nat.reduceLeDiff, Nat.reduceLT, Nat.reduceBEq, Int.reduceLT, Int.reduceLE, Int.reduceGT, Int.reduceGE, Int.reduceEq, Int.reduceNe, Int.reduceBEq, Int.reduceBNe, Int.reduceAdd, Int.reduceSub, Int.reduceMul, Int.reduceToNat, Int.reduceNeg, ↓reduceIte, ↓reduceDIte, e7]) (by simp -dsimp only [go_sem, Nat.reduceEqDiff, Nat.reduceAdd, Nat.reduceSub, Nat.reduceMul, Nat.reduceLeDiff, Nat.reduceLT, Nat.reduceBEq, Int.reduceLT, Int.reduceLE, Int.reduceGT, Int.reduceGE, Int.reduceEq, Int.reduceNe, Int.reduceBEq, Int.reduceBNe, Int.reduceAdd, Int.reduceSub, Int.reduceMul, Int.reduceToNat, Int.reduceNeg, ↓reduceIte, ↓reduceDIte, e14, hr]) (by simp -dsimp only [go_sem, Nat.reduceEqDiff, Nat.reduceAdd, Nat.reduceSub, Nat.reduceMul, Nat.reduceLeDiff, Nat.reduceLT, Nat.reduceBEq, Int.reduceLT, Int.reduceLE, Int.reduceGT, Int.reduceGE, Int.reduceEq, Int.reduceNe, Int.reduceBEq, Int.reduceBNe, Int.reduceAdd, Int.reduceSub, Int.reduceMul, Int.reduceToNat, Int.reduceNeg, ↓reduceIte, ↓reduceDIte, hh]) hQ
    all_goals
      have hh : g.has t s = false := by simp [GV.has, hr]; omega
      exact phP_ev (t := t) (s := s) ok st (by simp -dsimp only [go_sem, Nat.reduceEqDiff, Nat.reduceAdd, Nat.reduceSub, Nat.reduceMul, Nat.reduceLeDiff, Nat.reduceLT, Nat.reduceBEq, Int.reduceLT, Int.reduceLE, Int.reduceGT, Int.reduceGE, Int.reduceEq, Int.reduceNe, Int.reduceBEq, Int.reduceBNe, Int.reduceAdd, Int.reduceSub, Int.reduceMul, Int.reduceToNat, Int.reduceNeg, ↓reduceIte, ↓reduceDIte, e1]) (by simp -dsimp only [go_sem, Nat.reduceEqDiff, Nat.reduceAdd, Nat.reduceSub, Nat.reduceMul, Nat.reduceLeDiff, Nat.reduceLT, Nat.reduceBEq, Int.reduceLT, Int.reduceLE, Int.reduceGT, Int.reduceGE, Int.reduceEq, Int.reduceNe, Int.reduceBEq, Int.reduceBNe, Int.reduceAdd, Int.reduceSub, Int.reduceMul, Int.reduceToNat, Int.reduceNeg, ↓reduceIte, ↓reduceDIte, e2]) (by simp -dsimp only [go_sem, Nat.reduceEqDiff, Nat.reduceAdd, Nat.reduceSub, Nat.reduceMul, Nat.reduceLeDiff, Nat.reduceLT, Nat.reduceBEq, Int.reduceLT, Int.reduceLE, Int.reduceGT, Int.reduceGE, Int.reduceEq, Int.reduceNe, Int.reduceBEq, Int.reduceBNe, Int.reduceAdd, Int.reduceSub, Int.reduceMul, Int.reduceToNat, Int.reduceNeg, ↓reduceIte, ↓reduceDIte, e3]) (by simp -dsimp only [go_sem, Nat.reduceEqDiff, Nat.reduceAdd, Nat.reduceSub, Nat.reduceMul, Nat.reduceLeDiff, Nat.reduceLT, Nat.reduceBEq, Int.reduceLT, Int.reduceLE, Int.reduceGT, Int.reduceGE, Int.reduceEq, Int.reduceNe, Int.reduceBEq, Int.reduceBNe, Int.reduceAdd, Int.reduceSub, Int.reduceMul, Int.reduceToNat, Int.reduceNeg, ↓reduceIte, ↓reduceDIte, e7]) (by simp -dsimp only [go_sem, Nat.reduceEqDiff, Nat.reduceAdd, Nat.reduceSub, Nat.reduceMul, Nat.reduceLeDiff, Nat.reduceLT, Nat.reduceBEq, Int.reduceLT, Int.reduceLE, Int.reduceGT, Int.reduceGE, Int.reduceEq, Int.reduceNe, Int.reduceBEq, Int.reduceBNe, Int.reduceAdd, Int.reduceSub, Int.reduceMul, Int.reduceToNat, Int.reduceNeg, ↓reduceIte, ↓reduceDIte, e14, hr]) (by simp -dsimp only [go_sem, Nat.reduceEqDiff, Nat.reduceAdd, Nat.reduceSub, Nat.reduceMul, Nat.reduceLeDiff, Nat.reduceLT, Nat.reduceBEq, Int.reduceLT, Int.reduceLE, Int.reduceGT, Int.reduceGE, Int.reduceEq, Int.reduceNe, Int.reduceBEq, Int.reduceBNe, Int.reduceAdd, Int.reduceSub, Int.reduceMul, Int.reduceToNat, Int.reduceNeg, ↓reduceIte, ↓reduceDIte, hh]) hQ
set_option maxHeartbeats 1000000 in
theorem phR_ev {H : LHeap} {g : GV} {t s : Int} {m : MV} {e : Env} {Q : LExit → Env → LHeap → Prop} (ok : m.Ok 8) (st : m.sum 6 = 0)
    (e1 : LK.look e 1 = i64 t) (e2 : LK.look e 2 = i64 s) (e3 : LK.look e 3 = ptr H.length) (e7 : LK.look e 7 = ptr (H.length + 3))
    (hQ : ∀ e' H', LK.look e' 6 = .bool true → Q .ret e' H') :
    XW (callE T) H.length phR e (H ++ [gro g, wrow m, brow m, mrow (H.length + 1) (H.length + 2) m, zop]) Q := by
  unfold phR
  simp -dsimp only [go_sem, Nat.reduceEqDiff, Nat.reduceAdd, Nat.reduceSub, Nat.reduceMul, Nat.reduceLeDiff, Nat.reduceLT, Nat.reduceBEq, Int.reduceLT, Int.reduceLE, Int.reduceGT, Int.reduceGE, Int.reduceEq, Int.reduceNe, Int.reduceBEq, Int.reduceBNe, Int.reduceAdd, Int.reduceSub, Int.reduceMul, Int.reduceToNat, Int.reduceNeg, ↓reduceIte, ↓reduceDIte, e3]
  (repeat' (first | (refine BT_beq (fun hc => ?_) (fun hc hc2 => ?_) <;> simp -dsimp only [go_sem, Nat.reduceEqDiff, Nat.reduceAdd, Nat.reduceSub, Nat.reduceMul, Nat.reduceLeDiff, Nat.reduceLT, Nat.reduceBEq, Int.reduceLT, Int.reduceLE, Int.reduceGT, Int.reduceGE, Int.reduceEq, Int.reduceNe, Int.reduceBEq, Int.reduceBNe, Int.reduceAdd, Int.reduceSub, Int.reduceMul, Int.reduceToNat, Int.reduceNeg, ↓reduceIte, ↓reduceDIte, e3, *]) | (refine GT_beqT (fun hc => ?_) (fun hc hc2 => ?_) <;> simp -dsimp only [go_sem, Nat.reduceEqDiff, Nat.reduceAdd, Nat.reduceSub, Nat.reduceMul, Nat.reduceLeDiff, Nat.reduceLT, Nat.reduceBEq, Int.reduceLT, Int.reduceLE, Int.reduceGT, Int.reduceGE, Int.reduceEq, Int.reduceNe, Int.reduceBEq, Int.reduceBNe, Int.reduceAdd, Int.reduceSub, Int.reduceMul, Int.reduceToNat, Int.reduceNeg, ↓reduceIte, ↓reduceDIte, e3, *]) | (refine GT_beqF (fun hc hc2 => ?_) (fun hc => ?_) <;> simp -dsimp only [go_sem, Nat.reduceEqDiff, Nat.reduceAdd, Nat.reduceSub, Nat.reduceMul, Nat.reduceLeDiff, Nat.reduceLT, Nat.reduceBEq, Int.reduceLT, Int.reduceLE, Int.reduceGT, Int.reduceGE, Int.reduceEq, Int.reduceNe, Int.reduceBEq, Int.reduceBNe, Int.reduceAdd, Int.reduceSub, Int.reduceMul, Int.reduceToNat, Int.reduceNeg, ↓reduceIte, ↓reduceDIte, e3, *]) | (refine BT_bne (fun hc hc1 hc2 => ?_) (fun hc => ?_) <;> simp -dsimp only [go_sem, Nat.reduceEqDiff, Nat.reduceAdd, Nat.reduceSub, Nat.reduceMul, Nat.reduceLeDiff, Nat.reduceLT, Nat.reduceBEq, Int.reduceLT, Int.reduceLE, Int.reduceGT, Int.reduceGE, Int.reduceEq, Int.reduceNe, Int.reduceBEq, Int.reduceBNe, Int.reduceAdd, Int.reduceSub, Int.reduceMul, Int.reduceToNat, Int.reduceNeg, ↓reduceIte, ↓reduceDIte, e3, *]) | (refine GT_bneT (fun hc hc1 hc2 => ?_) (fun hc => ?_) <;> simp -dsimp only [go_sem, Nat.reduceEqDiff, Nat.reduceAdd, Nat.reduceSub, Nat.reduceMul, Nat.reduceLeDiff, Nat.reduceLT, Nat.reduceBEq, Int.reduceLT, Int.reduceLE, Int.reduceGT, Int.reduceGE, Int.reduceEq, Int.reduceNe, Int.reduceBEq, Int.reduceBNe, Int.reduceAdd, Int.reduceSub, Int.reduceMul, Int.reduceToNat, Int.reduceNeg, ↓reduceIte, ↓reduceDIte, e3, *]) | (refine GT_bneF (fun hc => ?_) (fun hc hc1 hc2 => ?_) <;> simp -dsimp only [go_sem, Nat.reduceEqDiff, Nat.reduceAdd, Nat.reduceSub, Nat.reduceMul, Nat.reduceLeDiff, Nat.reduceLT, Nat.reduceBEq, Int.reduceLT, Int.reduceLE, Int.reduceGT, Int.reduceGE, Int.reduceEq, Int.reduceNe, Int.reduceBEq, Int.reduceBNe, Int.reduceAdd, Int.reduceSub, Int.reduceMul, Int.reduceToNat, Int.reduceNeg, ↓reduceIte, ↓reduceDIte, e3, *]) | (refine BT_not (fun hc => ?_) (fun hc => ?_) <;> simp -dsimp only [go_sem, Nat.reduceEqDiff, Nat.reduceAdd, Nat.reduceSub, Nat.reduceMul, Nat.reduceLeDiff, Nat.reduceLT, Nat.reduceBEq, Int.reduceLT, Int.reduceLE, Int.reduceGT, Int.reduceGE, Int.reduceEq, Int.reduceNe, Int.reduceBEq, Int.reduceBNe, Int.reduceAdd, Int.reduceSub, Int.reduceMul, Int.reduceToNat, Int.reduceNeg, ↓reduceIte, ↓reduceDIte, e3, *]) | (refine GT_notT (fun hc => ?_) (fun hc => ?_) <;> simp -dsimp only [go_sem, Nat.reduceEqDiff, Nat.reduceAdd, Nat.reduceSub, Nat.reduceMul, Nat.reduceLeDiff, Nat.reduceLT, Nat.reduceBEq, Int.reduceLT, Int.reduceLE, Int.reduceGT, Int.reduceGE, Int.reduceEq, Int.reduceNe, Int.reduceBEq, Int.reduceBNe, Int.reduceAdd, Int.reduceSub, Int.reduceMul, Int.reduceToNat, Int.reduceNeg, ↓reduceIte, ↓reduceDIte, e3, *]) | (refine GT_notF (fun hc => ?_) (fun hc => ?_) <;> simp -dsimp only [go_sem, Nat.reduceEqDiff, Nat.reduceAdd, Nat.reduceSub, Nat.reduceMul, Nat.reduceLeDiff, Nat.reduceLT, Nat.reduceBEq, Int.reduceLT, Int.reduceLE, Int.reduceGT, Int.reduceGE, Int.reduceEq, Int.reduceNe, Int.reduceBEq, Int.reduceBNe, Int.reduceAdd, Int.reduceSub, Int.reduceMul, Int.reduceToNat, Int.reduceNeg, ↓reduceIte, ↓reduceDIte, e3, *]) | (refine BT_dec (fun hc => ?_) (fun hc => ?_) <;> simp -dsimp only [go_sem, Nat.reduceEqDiff, Nat.reduceAdd, Nat.reduceSub, Nat.reduceMul, Nat.reduceLeDiff, Nat.reduceLT, Nat.reduceBEq, Int.reduceLT, Int.reduceLE, Int.reduceGT, Int.reduceGE, Int.reduceEq, Int.reduceNe, Int.reduceBEq, Int.reduceBNe, Int.reduceAdd, Int.reduceSub, Int.reduceMul, Int.reduceToNat, Int.reduceNeg, ↓reduceIte, ↓reduceDIte, e3, *]) | (refine GT_decT (fun hc => ?_) (fun hc => ?_) <;> simp -dsimp only [go_sem, Nat.reduceEqDiff, Nat.reduceAdd, Nat.reduceSub, Nat.reduceMul, Nat.reduceLeDiff, Nat.reduceLT, Nat.reduceBEq, Int.reduceLT, Int.reduceLE, Int.reduceGT, Int.reduceGE, Int.reduceEq, Int.reduceNe, Int.reduceBEq, Int.reduceBNe, Int.reduceAdd, Int.reduceSub, Int.reduceMul, Int.reduceToNat, Int.reduceNeg, ↓reduceIte, ↓reduceDIte, e3, *]) | (refine GT_decF (fun hc => ?_) (fun hc => ?_) <;> simp -dsimp only [go_sem, Nat.reduceEqDiff, Nat.reduceAdd, Nat.reduceSub, Nat.reduceMul, Nat.reduceLeDiff, Nat.reduceLT, Nat.reduceBEq, Int.reduceLT, Int.reduceLE, Int.reduceGT, Int.reduceGE, Int.reduceEq, Int.reduceNe, Int.reduceBEq, Int.reduceBNe, Int.reduceAdd, Int.reduceSub, Int.reduceMul, Int.reduceToNat, Int.reduceNeg, ↓reduceIte, ↓reduceDIte, e3, *]) | (refine BT_intro (fun hc => ?_) (fun hc => ?_) <;> simp -dsimp only [go_sem, Nat.reduceEqDiff, Nat.reduceAdd, Nat.reduceSub, Nat.reduceMul, Nat.reduceLeDiff, Nat.reduceLT, Nat.reduceBEq, Int.reduceLT, Int.reduceLE, Int.reduceGT, Int.reduceGE, Int.reduceEq, Int.reduceNe, Int.reduceBEq, Int.reduceBNe, Int.reduceAdd, Int.reduceSub, Int.reduceMul, Int.reduceToNat, Int.reduceNeg, ↓reduceIte, ↓reduceDIte, e3, *]) | (refine GT_introT (fun hc => ?_) (fun hc => ?_) <;> simp -dsimp only [go_sem, Nat.reduceEqDiff, Nat.reduceAdd, Nat.reduceSub, Nat.reduceMul, Nat.reduceLeDiff, Nat.reduceLT, Nat.reduceBEq, Int.reduceLT, Int.reduceLE, Int.reduceGT, Int.reduceGE, Int.reduceEq, Int.reduceNe, Int.reduceBEq, Int.reduceBNe, Int.reduceAdd, Int.reduceSub, Int.reduceMul, Int.reduceToNat, Int.reduceNeg, ↓reduceIte, ↓reduceDIte, e3, *]) | (refine GT_introF (fun hc => ?_) (fun hc => ?_) <;> simp -dsimp only [go_sem, Nat.reduceEqDiff, Nat.reduceAdd, Nat.reduceSub, Nat.reduceMul, Nat.reduceLeDiff, Nat.reduceLT, Nat.reduceBEq, Int.reduceLT, Int.reduceLE, Int.reduceGT, Int.reduceGE, Int.reduceEq, Int.reduceNe, Int.reduceBEq, Int.reduceBNe, Int.reduceAdd, Int.reduceSub, Int.reduceMul, Int.reduceToNat, Int.reduceNeg, ↓reduceIte, ↓reduceDIte, e3, *])))
  all_goals exact phI_ev (t := t) (s := s) ok st (by simp -dsimp only [go_sem, Nat.reduceEqDiff, Nat.reduceAdd, Nat.reduceSub, Nat.reduceMul, Nat.reduceLeDiff, Nat.reduceLT, Nat.reduceBEq, Int.reduceLT, Int.reduceLE, Int.reduceGT, Int.reduceGE, Int.reduceEq, Int.reduceNe, Int.reduceBEq, Int.reduceBNe, Int.reduceAdd, Int.reduceSub, Int.reduceMul, Int.reduceToNat, Int.reduceNeg, ↓reduceIte, ↓reduceDIte, e1]) (by simp -dsimp only [go_sem, Nat.reduceEqDiff, Nat.reduceAdd, Nat.reduceSub, Nat.reduceMul, Nat.reduceLeDiff, Nat.reduceLT, Nat.reduceBEq, Int.reduceLT, Int.reduceLE, Int.reduceGT, Int.reduceGE, Int.reduceEq, Int.reduceNe, Int.reduceBEq, Int.reduceBNe, Int.reduceAdd, Int.reduceSub, Int.reduceMul, Int.reduceToNat, Int.reduceNeg, ↓reduceIte, ↓reduceDIte, e2]) (by simp -dsimp only [go_sem, Nat.reduceEqDiff, Nat.reduceAdd, Nat.reduceSub, Nat.reduceMul, Nat.reduceLeDiff, Nat.reduceLT, Nat.reduceBEq, Int.reduceLT, Int.reduceLE, Int.reduceGT, Int.reduceGE, Int.reduceEq, Int.reduceNe, Int.reduceBEq, Int.reduceBNe, Int.reduceAdd, Int.reduceSub, Int.reduceMul, Int.reduceToNat, Int.reduceNeg, ↓reduceIte, ↓reduceDIte, e3]) (by simp -dsimp only [go_sem, Nat.reduceEqDiff, Nat.reduceAdd, Nat.reduceSub, Nat.reduceMul, Nat.reduceLeDiff, Nat.reduceLT, Nat.reduceBEq, Int.reduceLT, Int.reduceLE, Int.reduceGT, Int.reduceGE, Int.reduceEq, Int.reduceNe, Int.reduceBEq, Int.reduceBNe, Int.reduceAdd, Int.reduceSub, Int.reduceMul, Int.reduceToNat, Int.reduceNeg, ↓reduceIte, ↓reduceDIte, e7]) (by simp -dsimp only [go_sem, Nat.reduceEqDiff, Nat.reduceAdd, Nat.reduceSub, Nat.reduceMul, Nat.reduceLeDiff, Nat.reduceLT, Nat.reduceBEq, Int.reduceLT, Int.reduceLE, Int.reduceGT, Int.reduceGE, Int.reduceEq, Int.reduceNe, Int.reduceBEq, Int.reduceBNe, Int.reduceAdd, Int.reduceSub, Int.reduceMul, Int.reduceToNat, Int.reduceNeg, ↓reduceIte, ↓reduceDIte]; simp [GV.right, *]) hQ
set_option maxHeartbeats 1000000 in
theorem nobody_ev {lim : Nat} {H : LHeap} {g : GV} {t s : Int} : callE T 6 lim [g.v, i64 t, i64 s] H fun v H' => v = .bool true := by
  refine callE_pop (code := Lp) rfl (by simp) rfl ?_
  unfold Lp
  simp -dsimp only [go_sem, Nat.reduceEqDiff, Nat.reduceAdd, Nat.reduceSub, Nat.reduceMul, Nat.reduceLeDiff, Nat.reduceLT, Nat.reduceBEq, Int.reduceLT, Int.reduceLE, Int.reduceGT, Int.reduceGE, Int.reduceEq, Int.reduceNe, Int.reduceBEq, Int.reduceBNe, Int.reduceAdd, Int.reduceSub, Int.reduceMul, Int.reduceToNat, Int.reduceNeg, ↓reduceIte, ↓reduceDIte]
  refine CT_of (new_ev (by simp)) ?_
  rintro _ _ h
  rw [if_neg (by decide)] at h
  obtain ⟨rfl, rfl⟩ := h
  have ok := MV.Ok.new (n := 8) (by decide) (by decide)
  have st : (MV.new 8).sum 6 = 0 := by decide
  simp only [show (8 : Int).toNat = 8 from rfl]
  generalize MV.new 8 = m at ok st ⊢
  have mm := fun l => mem_at (H := H) (pre := [gro g]) (t := l) ok
  simp only [List.length_cons, List.length_nil, Nat.zero_add, List.cons_append, List.nil_append, Nat.reduceAdd] at mm
  simp -dsimp only [go_sem, Nat.reduceEqDiff, Nat.reduceAdd, Nat.reduceSub, Nat.reduceMul, Nat.reduceLeDiff, Nat.reduceLT, Nat.reduceBEq, Int.reduceLT, Int.reduceLE, Int.reduceGT, Int.reduceGE, Int.reduceEq, Int.reduceNe, Int.reduceBEq, Int.reduceBNe, Int.reduceAdd, Int.reduceSub, Int.reduceMul, Int.reduceToNat, Int.reduceNeg, ↓reduceIte, ↓reduceDIte]
  refine CT_val hres_nil ?_
  simp -dsimp only [go_sem, Nat.reduceEqDiff, Nat.reduceAdd, Nat.reduceSub, Nat.reduceMul, Nat.reduceLeDiff, Nat.reduceLT, Nat.reduceBEq, Int.reduceLT, Int.reduceLE, Int.reduceGT, Int.reduceGE, Int.reduceEq, Int.reduceNe, Int.reduceBEq, Int.reduceBNe, Int.reduceAdd, Int.reduceSub, Int.reduceMul, Int.reduceToNat, Int.reduceNeg, ↓reduceIte, ↓reduceDIte]
  refine CT_val (hres_zero (get_app H _ 4)) ?_
  have z1 : (0#64 + 0#64 : BitVec 64) = 0#64 := by decide
  simp -dsimp only [go_sem, Nat.reduceEqDiff, Nat.reduceAdd, Nat.reduceSub, Nat.reduceMul, Nat.reduceLeDiff, Nat.reduceLT, Nat.reduceBEq, Int.reduceLT, Int.reduceLE, Int.reduceGT, Int.reduceGE, Int.reduceEq, Int.reduceNe, Int.reduceBEq, Int.reduceBNe, Int.reduceAdd, Int.reduceSub, Int.reduceMul, Int.reduceToNat, Int.reduceNeg, ↓reduceIte, ↓reduceDIte, z1]
  refine CT_val hstep_nil ?_
  simp -dsimp only [go_sem, Nat.reduceEqDiff, Nat.reduceAdd, Nat.reduceSub, Nat.reduceMul, Nat.reduceLeDiff, Nat.reduceLT, Nat.reduceBEq, Int.reduceLT, Int.reduceLE, Int.reduceGT, Int.reduceGE, Int.reduceEq, Int.reduceNe, Int.reduceBEq, Int.reduceBNe, Int.reduceAdd, Int.reduceSub, Int.reduceMul, Int.reduceToNat, Int.reduceNeg, ↓reduceIte, ↓reduceDIte]
  refine CT_val hdone_nil ?_
  simp -dsimp only [go_sem, Nat.reduceEqDiff, Nat.reduceAdd, Nat.reduceSub, Nat.reduceMul, Nat.reduceLeDiff, Nat.reduceLT, Nat.reduceBEq, Int.reduceLT, Int.reduceLE, Int.reduceGT, Int.reduceGE, Int.reduceEq, Int.reduceNe, Int.reduceBEq, Int.reduceBNe, Int.reduceAdd, Int.reduceSub, Int.reduceMul, Int.reduceToNat, Int.reduceNeg, ↓reduceIte, ↓reduceDIte]
  refine CT_val hmet_nil ?_
  simp -dsimp only [go_sem, Nat.reduceEqDiff, Nat.reduceAdd, Nat.reduceSub, Nat.reduceMul, Nat.reduceLeDiff, Nat.reduceLT, Nat.reduceBEq, Int.reduceLT, Int.reduceLE, Int.reduceGT, Int.reduceGE, Int.reduceEq, Int.reduceNe, Int.reduceBEq, Int.reduceBNe, Int.reduceAdd, Int.reduceSub, Int.reduceMul, Int.reduceToNat, Int.reduceNeg, ↓reduceIte, ↓reduceDIte]
  refine CT_val (steps_ev (mm _)) ?_
  simp -dsimp only [go_sem, Nat.reduceEqDiff, Nat.reduceAdd, Nat.reduceSub, Nat.reduceMul, Nat.reduceLeDiff, Nat.reduceLT, Nat.reduceBEq, Int.reduceLT, Int.reduceLE, Int.reduceGT, Int.reduceGE, Int.reduceEq, Int.reduceNe, Int.reduceBEq, Int.reduceBNe, Int.reduceAdd, Int.reduceSub, Int.reduceMul, Int.reduceToNat, Int.reduceNeg, ↓reduceIte, ↓reduceDIte, st]
  refine phR_ev (t := t) (s := s) ok st (by simp -dsimp only [go_sem, Nat.reduceEqDiff, Nat.reduceAdd, Nat.reduceSub, Nat.reduceMul, Nat.reduceLeDiff, Nat.reduceLT, Nat.reduceBEq, Int.reduceLT, Int.reduceLE, Int.reduceGT, Int.reduceGE, Int.reduceEq, Int.reduceNe, Int.reduceBEq, Int.reduceBNe, Int.reduceAdd, Int.reduceSub, Int.reduceMul, Int.reduceToNat, Int.reduceNeg, ↓reduceIte, ↓reduceDIte]) (by simp -dsimp only [go_sem, Nat.reduceEqDiff, Nat.reduceAdd, Nat.reduceSub, Nat.reduceMul, Nat.reduceLeDiff, Nat.reduceLT, Nat.reduceBEq, Int.reduceLT, Int.reduceLE, Int.reduceGT, Int.reduceGE, Int.reduceEq, Int.reduceNe, Int.reduceBEq, Int.reduceBNe, Int.reduceAdd, Int.reduceSub, Int.reduceMul, Int.reduceToNat, Int.reduceNeg, ↓reduceIte, ↓reduceDIte]) (by simp -dsimp only [go_sem, Nat.reduceEqDiff, Nat.reduceAdd, Nat.reduceSub, Nat.reduceMul, Nat.reduceLeDiff, Nat.reduceLT, Nat.reduceBEq, Int.reduceLT, Int.reduceLE, Int.reduceGT, Int.reduceGE, Int.reduceEq, Int.reduceNe, Int.reduceBEq, Int.reduceBNe, Int.reduceAdd, Int.reduceSub, Int.reduceMul, Int.reduceToNat, Int.reduceNeg, ↓reduceIte, ↓reduceDIte]) (by simp -dsimp only [go_sem, Nat.reduceEqDiff, Nat.reduceAdd, Nat.reduceSub, Nat.reduceMul, Nat.reduceLeDiff, Nat.reduceLT, Nat.reduceBEq, Int.reduceLT, Int.reduceLE, Int.reduceGT, Int.reduceGE, Int.reduceEq, Int.reduceNe, Int.reduceBEq, Int.reduceBNe, Int.reduceAdd, Int.reduceSub, Int.reduceMul, Int.reduceToNat, Int.reduceNeg, ↓reduceIte, ↓reduceDIte]) ?_
  intro e' H' h6
  simp -dsimp only [go_sem, Nat.reduceEqDiff, Nat.reduceAdd, Nat.reduceSub, Nat.reduceMul, Nat.reduceLeDiff, Nat.reduceLT, Nat.reduceBEq, Int.reduceLT, Int.reduceLE, Int.reduceGT, Int.reduceGE, Int.reduceEq, Int.reduceNe, Int.reduceBEq, Int.reduceBNe, Int.reduceAdd, Int.reduceSub, Int.reduceMul, Int.reduceToNat, Int.reduceNeg, ↓reduceIte, ↓reduceDIte, h6]
end Go.Proofs.Ytcogpinognopcaa
