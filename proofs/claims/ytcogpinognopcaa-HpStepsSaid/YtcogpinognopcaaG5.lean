/- The statement HpNobody. -/
import Derived.Test.YtcogpinognopcaaG2
namespace Go.Proofs.Ytcogpinognopcaa
open Go Go.LK
set_option linter.unusedSimpArgs false
set_option linter.unusedVariables false
theorem GV.slot_ge (g : GV) (t s : Int) : decide (0 ≤ g.slot t s) = g.has t s := by
  cases h : g.has t s
  · rw [GV.slot, h, if_neg (by simp)]; decide
  · have h' := h
    rw [GV.has] at h'
    simp only [Bool.and_eq_true, decide_eq_true_eq] at h'
    obtain ⟨a0, a1, t0, t1, s0, s1⟩ := GV.right_of h'.1.1.1.1
    have : 0 ≤ t * g.s := Int.mul_nonneg (by omega) (by omega)
    rw [GV.slot, if_pos h]
    rw [decide_eq_true (by omega)]
set_option maxRecDepth 100000 in
def phP : LCode :=
  (.seq (.steps [
    .act (some 125) (.op (.read (.loadN 3 (.tmp 3)))) none,
    .act (some 126) (.op (.pure (.move (.tmp 1)))) none,
    .act (some 127) (.op (.pure (.move (.tmp 2)))) none,
    .act (some 129) (.op (.read (.loadN 3 (.tmp 3)))) none,
    .act (some 130) (.op (.pure (.move (.tmp 1)))) none,
    .act (some 131) (.op (.pure (.move (.tmp 2)))) none,
    .act (some 133) (.op (.read (.loadN 3 (.tmp 3)))) none,
    .act (some 128) (.call (.func 11) [(.tmp 125), (.tmp 126), (.tmp 127), (.const (.int .i64 0))]) none,
    .again 133 (.loadN 3 (.tmp 3)) none,
    .again 129 (.loadN 3 (.tmp 3)) none,
    .act (some 132) (.call (.func 12) [(.tmp 129), (.tmp 130), (.tmp 131)]) none,
    .again 133 (.loadN 3 (.tmp 3)) none,
    .act (some 134) (.call (.func 13) [(.tmp 133)]) none,
    .act (some 16) (.op (.pure (.move (.tmp 128)))) none,
    .act (some 17) (.op (.pure (.move (.tmp 132)))) none,
    .act (some 18) (.op (.pure (.move (.tmp 134)))) none])
  (.seq (.steps [
    .act (some 136) (.op (.pure (.move (.tmp 16)))) none,
    .act (some 137) (.call (.func 18) [(.tmp 136)]) none,
    .act (some 135) (.op (.pure (.move (.tmp 137)))) none,
    .act (some 138) (.op (.pure (.extract (.tmp 135) 0))) none,
    .act (some 139) (.op (.pure (.extract (.tmp 135) 1))) none,
    .act (some 19) (.op (.pure (.move (.tmp 138)))) none,
    .act (some 20) (.op (.pure (.move (.tmp 139)))) none])
  (.seq (.steps [
    .act (some 141) (.op (.pure (.move (.tmp 17)))) none,
    .act (some 142) (.call (.func 18) [(.tmp 141)]) none,
    .act (some 140) (.op (.pure (.move (.tmp 142)))) none,
    .act (some 143) (.op (.pure (.extract (.tmp 140) 0))) none,
    .act (some 144) (.op (.pure (.extract (.tmp 140) 1))) none,
    .act (some 21) (.op (.pure (.move (.tmp 143)))) none,
    .act (some 22) (.op (.pure (.move (.tmp 144)))) none])
  (.seq (.steps [
    .act (some 146) (.op (.pure (.move (.tmp 18)))) none,
    .act (some 147) (.call (.func 18) [(.tmp 146)]) none,
    .act (some 145) (.op (.pure (.move (.tmp 147)))) none,
    .act (some 148) (.op (.pure (.extract (.tmp 145) 0))) none,
    .act (some 149) (.op (.pure (.extract (.tmp 145) 1))) none,
    .act (some 23) (.op (.pure (.move (.tmp 148)))) none,
    .act (some 24) (.op (.pure (.move (.tmp 149)))) none])
  (.seq (.seq (.steps [
    .act (some 150) (.op (.read (.loadN 3 (.tmp 3)))) none,
    .act (some 151) (.call (.func 26) [(.tmp 150)]) none,
    .act (some 152) (.op (.pure (.move (.tmp 14)))) none,
    .act (some 153) (.op (.pure (.eqB true (.tmp 151) (.tmp 152)))) none,
    .act (some 154) (.op (.pure (.move (.tmp 153)))) none,
    .act (some 155) (.op (.read (.loadN 3 (.tmp 3)))) (some (154, false)),
    .act (some 156) (.op (.pure (.move (.tmp 1)))) (some (154, false)),
    .act (some 157) (.op (.pure (.move (.tmp 2)))) (some (154, false)),
    .act (some 158) (.call (.func 23) [(.tmp 155), (.tmp 156), (.tmp 157)]) (some (154, false)),
    .act (some 159) (.op (.pure (.bin .geq (.tmp 158) (.const (.int .i64 0))))) (some (154, false)),
    .act (some 160) (.op (.pure (.move (.tmp 15)))) (some (154, false)),
    .act (some 161) (.op (.pure (.eqB true (.tmp 159) (.tmp 160)))) (some (154, false)),
    .act (some 162) (.op (.pure (.pick (.tmp 154) (.const (.bool true)) (.tmp 161)))) none,
    .act (some 163) (.op (.pure (.move (.tmp 162)))) none,
    .act (some 164) (.op (.pure (.move (.tmp 16)))) (some (163, false)),
    .act (some 165) (.call (.func 21) [(.tmp 164)]) (some (163, false)),
    .act (some 166) (.op (.pure (.move (.tmp 15)))) (some (163, false)),
    .act (some 167) (.op (.pure (.eqB false (.tmp 165) (.tmp 166)))) (some (163, false)),
    .act (some 168) (.op (.pure (.pick (.tmp 163) (.const (.bool true)) (.tmp 167)))) none,
    .act (some 169) (.op (.pure (.move (.tmp 168)))) none,
    .act (some 170) (.op (.pure (.move (.tmp 17)))) (some (169, false)),
    .act (some 171) (.call (.func 21) [(.tmp 170)]) (some (169, false)),
    .act (some 172) (.op (.pure (.move (.tmp 15)))) (some (169, false)),
    .act (some 173) (.op (.pure (.eqB false (.tmp 171) (.tmp 172)))) (some (169, false)),
    .act (some 174) (.op (.pure (.pick (.tmp 169) (.const (.bool true)) (.tmp 173)))) none,
    .act (some 175) (.op (.pure (.move (.tmp 174)))) none,
    .act (some 176) (.op (.pure (.move (.tmp 18)))) (some (175, false)),
    .act (some 177) (.call (.func 21) [(.tmp 176)]) (some (175, false)),
    .act (some 178) (.op (.pure (.move (.tmp 14)))) (some (175, false)),
    .act (some 179) (.op (.pure (.eqB false (.tmp 177) (.tmp 178)))) (some (175, false)),
    .act (some 180) (.op (.pure (.pick (.tmp 175) (.const (.bool true)) (.tmp 179)))) none,
    .act (some 181) (.op (.pure (.move (.tmp 180)))) none,
    .act (some 182) (.op (.pure (.move (.tmp 19)))) (some (181, false)),
    .act (some 183) (.op (.pure (.bin .eql (.tmp 182) (.const (.int .i64 2))))) (some (181, false)),
    .act (some 184) (.op (.pure (.move (.tmp 15)))) (some (181, false)),
    .act (some 185) (.op (.pure (.eqB false (.tmp 183) (.tmp 184)))) (some (181, false)),
    .act (some 186) (.op (.pure (.pick (.tmp 181) (.const (.bool true)) (.tmp 185)))) none,
    .act (some 187) (.op (.pure (.move (.tmp 186)))) none,
    .act (some 188) (.op (.pure (.move (.tmp 21)))) (some (187, false)),
    .act (some 189) (.op (.pure (.bin .eql (.tmp 188) (.const (.int .i64 2))))) (some (187, false)),
    .act (some 190) (.op (.pure (.move (.tmp 15)))) (some (187, false)),
    .act (some 191) (.op (.pure (.eqB false (.tmp 189) (.tmp 190)))) (some (187, false)),
    .act (some 192) (.op (.pure (.pick (.tmp 187) (.const (.bool true)) (.tmp 191)))) none,
    .act (some 193) (.op (.pure (.move (.tmp 192)))) none,
    .act (some 194) (.op (.pure (.move (.tmp 23)))) (some (193, false)),
    .act (some 195) (.op (.pure (.bin .eql (.tmp 194) (.const (.int .i64 2))))) (some (193, false)),
    .act (some 196) (.op (.pure (.move (.tmp 14)))) (some (193, false)),
    .act (some 197) (.op (.pure (.eqB false (.tmp 195) (.tmp 196)))) (some (193, false)),
    .act (some 198) (.op (.pure (.pick (.tmp 193) (.const (.bool true)) (.tmp 197)))) none])
  (.cond (.tmp 198)
   (.seq (.steps [
     .act (some 6) (.op (.pure (.move (.const (.bool false))))) none])
   .ret)
   .skip))
  (.seq (.seq (.steps [
    .act (some 199) (.op (.pure (.move (.tmp 14)))) none,
    .act (some 200) (.op (.pure (.not (.tmp 199)))) none])
  (.cond (.tmp 200)
   (.seq (.steps [
     .act (some 201) (.op (.read (.loadN 3 (.tmp 3)))) none,
     .act (some 202) (.op (.pure (.move (.tmp 7)))) none,
     .act (some 203) (.call (.func 9) [(.tmp 201), (.tmp 202)]) none,
     .act (some 204) (.op (.pure (.bin .eql (.tmp 203) (.const (.int .i64 2))))) none,
     .act (some 205) (.op (.pure (.move (.tmp 204)))) none,
     .act (some 206) (.op (.read (.loadN 3 (.tmp 3)))) (some (205, true)),
     .act (some 207) (.call (.func 10) [(.tmp 206)]) (some (205, true)),
     .act (some 208) (.op (.pure (.bin .eql (.tmp 207) (.const (.int .i64 0))))) (some (205, true)),
     .act (some 209) (.op (.pure (.pick (.tmp 205) (.tmp 208) (.const (.bool false))))) none,
     .act (some 210) (.op (.pure (.move (.tmp 209)))) none,
     .act (some 211) (.op (.pure (.move (.tmp 18)))) (some (210, true)),
     .act (some 212) (.op (.pure (.move (.tmp 7)))) (some (210, true)),
     .act (some 213) (.call (.func 16) [(.tmp 211), (.tmp 212)]) (some (210, true)),
     .act (some 214) (.op (.pure (.pick (.tmp 210) (.tmp 213) (.const (.bool false))))) none,
     .act (some 215) (.op (.pure (.move (.tmp 214)))) none,
     .act (some 216) (.op (.pure (.move (.tmp 7)))) (some (215, true)),
     .act (some 217) (.call (.func 25) [(.tmp 216)]) (some (215, true)),
     .act (some 218) (.op (.pure (.bin .eql (.tmp 217) (.const (.int .i64 0))))) (some (215, true)),
     .act (some 219) (.op (.pure (.pick (.tmp 215) (.tmp 218) (.const (.bool false))))) none,
     .act (some 220) (.op (.pure (.move (.tmp 219)))) none,
     .act (some 221) (.call (.func 20) []) (some (220, true)),
     .act (some 222) (.op (.pure (.pick (.tmp 220) (.tmp 221) (.const (.bool false))))) none,
     .act (some 6) (.op (.pure (.move (.tmp 222)))) none])
   .ret)
   .skip))
  (.seq (.steps [
    .act (some 223) (.op (.read (.loadN 3 (.tmp 3)))) none,
    .act (some 224) (.call (.func 9) [(.tmp 223), (.const (.pointer none))]) none,
    .act (some 225) (.op (.pure (.bin .eql (.tmp 224) (.const (.int .i64 1))))) none,
    .act (some 226) (.op (.pure (.move (.tmp 225)))) none,
    .act (some 227) (.op (.pure (.move (.tmp 18)))) (some (226, true)),
    .act (some 228) (.call (.func 16) [(.tmp 227), (.const (.pointer none))]) (some (226, true)),
    .act (some 229) (.op (.pure (.not (.tmp 228)))) (some (226, true)),
    .act (some 230) (.op (.pure (.pick (.tmp 226) (.tmp 229) (.const (.bool false))))) none,
    .act (some 231) (.op (.pure (.move (.tmp 230)))) none,
    .act (some 232) (.call (.func 20) []) (some (231, true)),
    .act (some 233) (.op (.pure (.pick (.tmp 231) (.tmp 232) (.const (.bool false))))) none,
    .act (some 6) (.op (.pure (.move (.tmp 233)))) none])
  .ret)))))))
def phI : LCode :=
  (.seq (.steps [
    .act (some 104) (.op (.pure (.move (.tmp 14)))) none,
    .act (some 105) (.op (.pure (.move (.tmp 104)))) none,
    .act (some 106) (.op (.pure (.move (.tmp 1)))) (some (105, true)),
    .act (some 107) (.op (.pure (.bin .geq (.tmp 106) (.const (.int .i64 0))))) (some (105, true)),
    .act (some 108) (.op (.pure (.pick (.tmp 105) (.tmp 107) (.const (.bool false))))) none,
    .act (some 109) (.op (.pure (.move (.tmp 108)))) none,
    .act (some 110) (.op (.pure (.move (.tmp 1)))) (some (109, true)),
    .act (some 111) (.op (.pure (.fieldAddr 1 (.tmp 3)))) (some (109, true)),
    .act (some 112) (.op (.read (.load1 (.tmp 111)))) (some (109, true)),
    .act (some 113) (.op (.pure (.bin .lss (.tmp 110) (.tmp 112)))) (some (109, true)),
    .act (some 114) (.op (.pure (.pick (.tmp 109) (.tmp 113) (.const (.bool false))))) none,
    .act (some 115) (.op (.pure (.move (.tmp 114)))) none,
    .act (some 116) (.op (.pure (.move (.tmp 2)))) (some (115, true)),
    .act (some 117) (.op (.pure (.bin .geq (.tmp 116) (.const (.int .i64 0))))) (some (115, true)),
    .act (some 118) (.op (.pure (.pick (.tmp 115) (.tmp 117) (.const (.bool false))))) none,
    .act (some 119) (.op (.pure (.move (.tmp 118)))) none,
    .act (some 120) (.op (.pure (.move (.tmp 2)))) (some (119, true)),
    .act (some 121) (.op (.pure (.fieldAddr 2 (.tmp 3)))) (some (119, true)),
    .act (some 122) (.op (.read (.load1 (.tmp 121)))) (some (119, true)),
    .act (some 123) (.op (.pure (.bin .lss (.tmp 120) (.tmp 122)))) (some (119, true)),
    .act (some 124) (.op (.pure (.pick (.tmp 119) (.tmp 123) (.const (.bool false))))) none,
    .act (some 15) (.op (.pure (.move (.tmp 124)))) none])
  phP)
def phR : LCode :=
  (.seq (.steps [
    .act (some 76) (.op (.pure (.fieldAddr 0 (.tmp 3)))) none,
    .act (some 77) (.op (.read (.load1 (.tmp 76)))) none,
    .act (some 78) (.op (.pure (.bin .geq (.tmp 77) (.const (.int .i64 0))))) none,
    .act (some 79) (.op (.pure (.move (.tmp 78)))) none,
    .act (some 80) (.op (.pure (.fieldAddr 0 (.tmp 3)))) (some (79, true)),
    .act (some 81) (.op (.read (.load1 (.tmp 80)))) (some (79, true)),
    .act (some 82) (.op (.pure (.bin .leq (.tmp 81) (.const (.int .i64 65536))))) (some (79, true)),
    .act (some 83) (.op (.pure (.pick (.tmp 79) (.tmp 82) (.const (.bool false))))) none,
    .act (some 84) (.op (.pure (.move (.tmp 83)))) none,
    .act (some 85) (.op (.pure (.fieldAddr 1 (.tmp 3)))) (some (84, true)),
    .act (some 86) (.op (.read (.load1 (.tmp 85)))) (some (84, true)),
    .act (some 87) (.op (.pure (.bin .geq (.tmp 86) (.const (.int .i64 1))))) (some (84, true)),
    .act (some 88) (.op (.pure (.pick (.tmp 84) (.tmp 87) (.const (.bool false))))) none,
    .act (some 89) (.op (.pure (.move (.tmp 88)))) none,
    .act (some 90) (.op (.pure (.fieldAddr 1 (.tmp 3)))) (some (89, true)),
    .act (some 91) (.op (.read (.load1 (.tmp 90)))) (some (89, true)),
    .act (some 92) (.op (.pure (.bin .leq (.tmp 91) (.const (.int .i64 64))))) (some (89, true)),
    .act (some 93) (.op (.pure (.pick (.tmp 89) (.tmp 92) (.const (.bool false))))) none,
    .act (some 94) (.op (.pure (.move (.tmp 93)))) none,
    .act (some 95) (.op (.pure (.fieldAddr 2 (.tmp 3)))) (some (94, true)),
    .act (some 96) (.op (.read (.load1 (.tmp 95)))) (some (94, true)),
    .act (some 97) (.op (.pure (.bin .geq (.tmp 96) (.const (.int .i64 1))))) (some (94, true)),
    .act (some 98) (.op (.pure (.pick (.tmp 94) (.tmp 97) (.const (.bool false))))) none,
    .act (some 99) (.op (.pure (.move (.tmp 98)))) none,
    .act (some 100) (.op (.pure (.fieldAddr 2 (.tmp 3)))) (some (99, true)),
    .act (some 101) (.op (.read (.load1 (.tmp 100)))) (some (99, true)),
    .act (some 102) (.op (.pure (.bin .leq (.tmp 101) (.const (.int .i64 8))))) (some (99, true)),
    .act (some 103) (.op (.pure (.pick (.tmp 99) (.tmp 102) (.const (.bool false))))) none,
    .act (some 14) (.op (.pure (.move (.tmp 103)))) none])
  phI)
def Lp : LCode :=
  (.seq (.steps [
    .act (some 3) (.op (.new (.box (.tmp 0)))) none,
    .act (some 6) (.op (.pure (.move (.const (.bool false))))) none])
  (.seq (.steps [
    .act (some 26) (.call (.func 7) [(.const (.int .i64 8))]) none,
    .act (some 25) (.op (.pure (.move (.tmp 26)))) none,
    .act (some 27) (.op (.pure (.extract (.tmp 25) 0))) none,
    .act (some 28) (.op (.pure (.extract (.tmp 25) 1))) none,
    .act (some 7) (.op (.pure (.move (.tmp 27)))) none,
    .act (some 8) (.op (.pure (.move (.tmp 28)))) none])
  (.seq (.seq (.steps [
    .act (some 29) (.op (.pure (.move (.tmp 8)))) none,
    .act (some 30) (.op (.pure (.bin .neq (.tmp 29) (.const (.int .i64 0))))) none])
  (.cond (.tmp 30)
   (.seq (.steps [
     .act (some 6) (.op (.pure (.move (.const (.bool false))))) none])
   .ret)
   .skip))
  (.seq (.steps [
    .act (some 9) (.op (.pure (.move (.const (.pointer none))))) none])
  (.seq (.steps [
    .act (some 32) (.op (.pure (.move (.tmp 9)))) none,
    .act (some 33) (.call (.func 18) [(.tmp 32)]) none,
    .act (some 31) (.op (.pure (.move (.tmp 33)))) none,
    .act (some 34) (.op (.pure (.extract (.tmp 31) 0))) none,
    .act (some 35) (.op (.pure (.extract (.tmp 31) 1))) none,
    .act (some 10) (.op (.pure (.move (.tmp 34)))) none,
    .act (some 11) (.op (.pure (.move (.tmp 35)))) none])
  (.seq (.steps [
    .act (some 37) (.op (.pure (.build [(.bool false), (.int .i64 0), (.int .i64 0), (.int .i64 0), (.int .i64 0), (.int .i64 0), (.int .i64 0), (.int .i64 0), (w64 0#64), (.slice none 0 0), (.bool false), (.int .i64 0)] []))) none,
    .act (some 38) (.op (.new (.box (.tmp 37)))) none,
    .act (some 39) (.call (.func 18) [(.tmp 38)]) none,
    .act (some 36) (.op (.pure (.move (.tmp 39)))) none,
    .act (some 40) (.op (.pure (.extract (.tmp 36) 0))) none,
    .act (some 41) (.op (.pure (.extract (.tmp 36) 1))) none,
    .act (some 12) (.op (.pure (.move (.tmp 40)))) none,
    .act (some 13) (.op (.pure (.move (.tmp 41)))) none])
  (.seq (.seq (.steps [
    .act (some 42) (.op (.pure (.move (.tmp 10)))) none,
    .act (some 43) (.op (.pure (.bin .neq (.tmp 42) (.const (.int .i64 1))))) none,
    .act (some 44) (.op (.pure (.move (.tmp 43)))) none,
    .act (some 45) (.op (.pure (.move (.tmp 12)))) (some (44, false)),
    .act (some 46) (.op (.pure (.bin .neq (.tmp 45) (.const (.int .i64 1))))) (some (44, false)),
    .act (some 47) (.op (.pure (.pick (.tmp 44) (.const (.bool true)) (.tmp 46)))) none,
    .act (some 48) (.op (.pure (.move (.tmp 47)))) none,
    .act (some 49) (.op (.pure (.move (.tmp 11)))) (some (48, false)),
    .act (some 50) (.op (.pure (.move (.tmp 13)))) (some (48, false)),
    .act (some 51) (.op (.pure (.bin .add (.tmp 49) (.tmp 50)))) (some (48, false)),
    .act (some 52) (.op (.pure (.bin .neq (.tmp 51) (.const (w64 0#64))))) (some (48, false)),
    .act (some 53) (.op (.pure (.pick (.tmp 48) (.const (.bool true)) (.tmp 52)))) none,
    .act (some 54) (.op (.pure (.move (.tmp 53)))) none,
    .act (some 55) (.op (.pure (.move (.tmp 9)))) (some (54, false)),
    .act (some 56) (.op (.pure (.move (.tmp 7)))) (some (54, false)),
    .act (some 57) (.call (.func 16) [(.tmp 55), (.tmp 56)]) (some (54, false)),
    .act (some 58) (.op (.pure (.not (.tmp 57)))) (some (54, false)),
    .act (some 59) (.op (.pure (.pick (.tmp 54) (.const (.bool true)) (.tmp 58)))) none,
    .act (some 60) (.op (.pure (.move (.tmp 59)))) none,
    .act (some 61) (.op (.pure (.move (.tmp 9)))) (some (60, false)),
    .act (some 62) (.call (.func 21) [(.tmp 61)]) (some (60, false)),
    .act (some 63) (.op (.pure (.not (.tmp 62)))) (some (60, false)),
    .act (some 64) (.op (.pure (.pick (.tmp 60) (.const (.bool true)) (.tmp 63)))) none,
    .act (some 65) (.op (.pure (.move (.tmp 64)))) none,
    .act (some 66) (.op (.pure (.move (.tmp 9)))) (some (65, false)),
    .act (some 67) (.call (.func 19) [(.tmp 66)]) (some (65, false)),
    .act (some 68) (.op (.pure (.len false (.tmp 67)))) (some (65, false)),
    .act (some 69) (.op (.pure (.bin .neq (.tmp 68) (.const (.int .i64 0))))) (some (65, false)),
    .act (some 70) (.op (.pure (.pick (.tmp 65) (.const (.bool true)) (.tmp 69)))) none,
    .act (some 71) (.op (.pure (.move (.tmp 70)))) none,
    .act (some 72) (.op (.pure (.move (.tmp 7)))) (some (71, false)),
    .act (some 73) (.call (.func 25) [(.tmp 72)]) (some (71, false)),
    .act (some 74) (.op (.pure (.bin .neq (.tmp 73) (.const (.int .i64 0))))) (some (71, false)),
    .act (some 75) (.op (.pure (.pick (.tmp 71) (.const (.bool true)) (.tmp 74)))) none])
  (.cond (.tmp 75)
   (.seq (.steps [
     .act (some 6) (.op (.pure (.move (.const (.bool false))))) none])
   .ret)
   .skip))
  phR)))))))

abbrev zop : LObj := .row false 0 [.bool false, i64 0, i64 0, i64 0, i64 0, i64 0, i64 0, i64 0, w64 0#64, .slice none 0 0, .bool false, i64 0]
abbrev gro (g : GV) : LObj := .row false 0 [i64 g.a, i64 g.t, i64 g.s]
set_option maxHeartbeats 1000000 in
theorem phP_ev {H : LHeap} {g : GV} {t s : Int} {m : MV} {e : Env} {Q : LExit → Env → LHeap → Prop} (ok : m.Ok 8) (st : m.sum 6 = 0)
    (e1 : LK.look e 1 = i64 t) (e2 : LK.look e 2 = i64 s) (e3 : LK.look e 3 = ptr H.length) (e7 : LK.look e 7 = ptr (H.length + 3)) (e14 : LK.look e 14 = .bool g.right) (e15 : LK.look e 15 = .bool (g.has t s))
    (hQ : ∀ e' H', LK.look e' 6 = .bool true → Q .ret e' H') :
    XW (callE T) H.length phP e (H ++ [gro g, wrow m, brow m, mrow (H.length + 1) (H.length + 2) m, zop]) Q := by
  have b1 : (true == true) = true := rfl
  have b2 : (false == false) = true := rfl
  have b3 : (true == false) = false := rfl
  have b4 : (false == true) = false := rfl
  have hge := g.slot_ge t s
  have mm := fun l => mem_at (H := H) (pre := [gro g]) (t := l) ok
  simp only [List.length_cons, List.length_nil, Nat.zero_add, List.cons_append, List.nil_append, Nat.reduceAdd] at mm
  unfold phP
  simp -dsimp only [go_sem, Nat.reduceEqDiff, Nat.reduceAdd, Nat.reduceSub, Nat.reduceMul, Nat.reduceLeDiff, Nat.reduceLT, Nat.reduceBEq, Int.reduceLT, Int.reduceLE, Int.reduceGT, Int.reduceGE, Int.reduceEq, Int.reduceNe, Int.reduceBEq, Int.reduceBNe, Int.reduceAdd, Int.reduceSub, Int.reduceMul, Int.reduceToNat, Int.reduceNeg, ↓reduceIte, ↓reduceDIte, e1, e2, e3]
  refine CT_of (hprotect_ev (by simp)) ?_
  rintro _ _ ⟨u1, rfl, rfl⟩
  simp -dsimp only [go_sem, Nat.reduceEqDiff, Nat.reduceAdd, Nat.reduceSub, Nat.reduceMul, Nat.reduceLeDiff, Nat.reduceLT, Nat.reduceBEq, Int.reduceLT, Int.reduceLE, Int.reduceGT, Int.reduceGE, Int.reduceEq, Int.reduceNe, Int.reduceBEq, Int.reduceBNe, Int.reduceAdd, Int.reduceSub, Int.reduceMul, Int.reduceToNat, Int.reduceNeg, ↓reduceIte, ↓reduceDIte, e1, e2, e3]
  refine CT_of (hclear_ev (by simp)) ?_
  rintro _ _ ⟨u2, rfl, rfl⟩
  simp -dsimp only [go_sem, Nat.reduceEqDiff, Nat.reduceAdd, Nat.reduceSub, Nat.reduceMul, Nat.reduceLeDiff, Nat.reduceLT, Nat.reduceBEq, Int.reduceLT, Int.reduceLE, Int.reduceGT, Int.reduceGE, Int.reduceEq, Int.reduceNe, Int.reduceBEq, Int.reduceBNe, Int.reduceAdd, Int.reduceSub, Int.reduceMul, Int.reduceToNat, Int.reduceNeg, ↓reduceIte, ↓reduceDIte, e1, e2, e3]
  refine CT_of (hscan_ev (by simp)) ?_
  rintro _ _ ⟨u3, rfl, rfl⟩
  rw [hge]
  simp -dsimp only [go_sem, Nat.reduceEqDiff, Nat.reduceAdd, Nat.reduceSub, Nat.reduceMul, Nat.reduceLeDiff, Nat.reduceLT, Nat.reduceBEq, Int.reduceLT, Int.reduceLE, Int.reduceGT, Int.reduceGE, Int.reduceEq, Int.reduceNe, Int.reduceBEq, Int.reduceBNe, Int.reduceAdd, Int.reduceSub, Int.reduceMul, Int.reduceToNat, Int.reduceNeg, ↓reduceIte, ↓reduceDIte, e1, e2, e3]
  refine CT_val (hres_ev (get_app H _ 6)) ?_
  cases hr : g.right
  · have hh : g.has t s = false := by simp [GV.has, hr]
    rw [hr] at e14
    rw [hh] at e15 hge ⊢
    simp only [HOp.begins, Bool.false_eq_true,if_false,if_true]
    simp -dsimp only [go_sem, Nat.reduceEqDiff, Nat.reduceAdd, Nat.reduceSub, Nat.reduceMul, Nat.reduceLeDiff, Nat.reduceLT, Nat.reduceBEq, Int.reduceLT, Int.reduceLE, Int.reduceGT, Int.reduceGE, Int.reduceEq, Int.reduceNe, Int.reduceBEq, Int.reduceBNe, Int.reduceAdd, Int.reduceSub, Int.reduceMul, Int.reduceToNat, Int.reduceNeg, ↓reduceIte, ↓reduceDIte]
    refine CT_val (hres_ev (get_app H _ 8)) ?_
    simp only [HOp.begins, Bool.false_eq_true,if_false,if_true]
    simp -dsimp only [go_sem, Nat.reduceEqDiff, Nat.reduceAdd, Nat.reduceSub, Nat.reduceMul, Nat.reduceLeDiff, Nat.reduceLT, Nat.reduceBEq, Int.reduceLT, Int.reduceLE, Int.reduceGT, Int.reduceGE, Int.reduceEq, Int.reduceNe, Int.reduceBEq, Int.reduceBNe, Int.reduceAdd, Int.reduceSub, Int.reduceMul, Int.reduceToNat, Int.reduceNeg, ↓reduceIte, ↓reduceDIte]
    refine CT_val (hres_ev (get_app H _ 10)) ?_
    simp only [HOp.begins, Bool.false_eq_true,if_false,if_true]
    simp -dsimp only [go_sem, Nat.reduceEqDiff, Nat.reduceAdd, Nat.reduceSub, Nat.reduceMul, Nat.reduceLeDiff, Nat.reduceLT, Nat.reduceBEq, Int.reduceLT, Int.reduceLE, Int.reduceGT, Int.reduceGE, Int.reduceEq, Int.reduceNe, Int.reduceBEq, Int.reduceBNe, Int.reduceAdd, Int.reduceSub, Int.reduceMul, Int.reduceToNat, Int.reduceNeg, ↓reduceIte, ↓reduceDIte, e3]
    refine CT_val right_ev ?_
    simp -dsimp only [go_sem, Nat.reduceEqDiff, Nat.reduceAdd, Nat.reduceSub, Nat.reduceMul, Nat.reduceLeDiff, Nat.reduceLT, Nat.reduceBEq, Int.reduceLT, Int.reduceLE, Int.reduceGT, Int.reduceGE, Int.reduceEq, Int.reduceNe, Int.reduceBEq, Int.reduceBNe, Int.reduceAdd, Int.reduceSub, Int.reduceMul, Int.reduceToNat, Int.reduceNeg, ↓reduceIte, ↓reduceDIte, e14, hr, hh, b1, b2, b3, b4, e3, e1, e2]
    refine CT_val slot_ev ?_
    simp -dsimp only [go_sem, Nat.reduceEqDiff, Nat.reduceAdd, Nat.reduceSub, Nat.reduceMul, Nat.reduceLeDiff, Nat.reduceLT, Nat.reduceBEq, Int.reduceLT, Int.reduceLE, Int.reduceGT, Int.reduceGE, Int.reduceEq, Int.reduceNe, Int.reduceBEq, Int.reduceBNe, Int.reduceAdd, Int.reduceSub, Int.reduceMul, Int.reduceToNat, Int.reduceNeg, ↓reduceIte, ↓reduceDIte, e15, hr, hh, b1, b2, b3, b4, e3, e1, e2, hge]
    refine CT_val (hdone_ev (get_app H _ 6)) ?_
    simp only [HOp.begins, Bool.false_eq_true,if_false,if_true]
    simp -dsimp only [go_sem, Nat.reduceEqDiff, Nat.reduceAdd, Nat.reduceSub, Nat.reduceMul, Nat.reduceLeDiff, Nat.reduceLT, Nat.reduceBEq, Int.reduceLT, Int.reduceLE, Int.reduceGT, Int.reduceGE, Int.reduceEq, Int.reduceNe, Int.reduceBEq, Int.reduceBNe, Int.reduceAdd, Int.reduceSub, Int.reduceMul, Int.reduceToNat, Int.reduceNeg, ↓reduceIte, ↓reduceDIte, e15, hr, hh, b1, b2, b3, b4, e3, e1, e2, hge]
    refine CT_val (hdone_ev (get_app H _ 8)) ?_
    simp only [HOp.begins, Bool.false_eq_true,if_false,if_true]
    simp -dsimp only [go_sem, Nat.reduceEqDiff, Nat.reduceAdd, Nat.reduceSub, Nat.reduceMul, Nat.reduceLeDiff, Nat.reduceLT, Nat.reduceBEq, Int.reduceLT, Int.reduceLE, Int.reduceGT, Int.reduceGE, Int.reduceEq, Int.reduceNe, Int.reduceBEq, Int.reduceBNe, Int.reduceAdd, Int.reduceSub, Int.reduceMul, Int.reduceToNat, Int.reduceNeg, ↓reduceIte, ↓reduceDIte, e15, e14, hr, hh, b1, b2, b3, b4, e3, e1, e2, hge]
    refine CT_val (hdone_ev (get_app H _ 10)) ?_
    simp only [HOp.begins, Bool.false_eq_true,if_false,if_true]
    simp -dsimp only [go_sem, Nat.reduceEqDiff, Nat.reduceAdd, Nat.reduceSub, Nat.reduceMul, Nat.reduceLeDiff, Nat.reduceLT, Nat.reduceBEq, Int.reduceLT, Int.reduceLE, Int.reduceGT, Int.reduceGE, Int.reduceEq, Int.reduceNe, Int.reduceBEq, Int.reduceBNe, Int.reduceAdd, Int.reduceSub, Int.reduceMul, Int.reduceToNat, Int.reduceNeg, ↓reduceIte, ↓reduceDIte, e15, e14, hr, hh, b1, b2, b3, b4, e3, e1, e2, hge, e7]
    refine CT_val (setup_bad (mm _) hr) ?_
    simp -dsimp only [go_sem, Nat.reduceEqDiff, Nat.reduceAdd, Nat.reduceSub, Nat.reduceMul, Nat.reduceLeDiff, Nat.reduceLT, Nat.reduceBEq, Int.reduceLT, Int.reduceLE, Int.reduceGT, Int.reduceGE, Int.reduceEq, Int.reduceNe, Int.reduceBEq, Int.reduceBNe, Int.reduceAdd, Int.reduceSub, Int.reduceMul, Int.reduceToNat, Int.reduceNeg, ↓reduceIte, ↓reduceDIte, e3]
    refine CT_val words_ev ?_
    have hw : g.words = 0 := by simp [GV.words, hr]
    rw [hw]
    simp -dsimp only [go_sem, Nat.reduceEqDiff, Nat.reduceAdd, Nat.reduceSub, Nat.reduceMul, Nat.reduceLeDiff, Nat.reduceLT, Nat.reduceBEq, Int.reduceLT, Int.reduceLE, Int.reduceGT, Int.reduceGE, Int.reduceEq, Int.reduceNe, Int.reduceBEq, Int.reduceBNe, Int.reduceAdd, Int.reduceSub, Int.reduceMul, Int.reduceToNat, Int.reduceNeg, ↓reduceIte, ↓reduceDIte, e7]
    refine CT_val (hstep_done (get_app H _ 10) rfl) ?_
    simp -dsimp only [go_sem, Nat.reduceEqDiff, Nat.reduceAdd, Nat.reduceSub, Nat.reduceMul, Nat.reduceLeDiff, Nat.reduceLT, Nat.reduceBEq, Int.reduceLT, Int.reduceLE, Int.reduceGT, Int.reduceGE, Int.reduceEq, Int.reduceNe, Int.reduceBEq, Int.reduceBNe, Int.reduceAdd, Int.reduceSub, Int.reduceMul, Int.reduceToNat, Int.reduceNeg, ↓reduceIte, ↓reduceDIte, e7]
    refine CT_val (steps_ev (mm _)) ?_
    simp -dsimp only [go_sem, Nat.reduceEqDiff, Nat.reduceAdd, Nat.reduceSub, Nat.reduceMul, Nat.reduceLeDiff, Nat.reduceLT, Nat.reduceBEq, Int.reduceLT, Int.reduceLE, Int.reduceGT, Int.reduceGE, Int.reduceEq, Int.reduceNe, Int.reduceBEq, Int.reduceBNe, Int.reduceAdd, Int.reduceSub, Int.reduceMul, Int.reduceToNat, Int.reduceNeg, ↓reduceIte, ↓reduceDIte, st]
    refine CT_val (one_ev _ _) ?_
    simp -dsimp only [go_sem, Nat.reduceEqDiff, Nat.reduceAdd, Nat.reduceSub, Nat.reduceMul, Nat.reduceLeDiff, Nat.reduceLT, Nat.reduceBEq, Int.reduceLT, Int.reduceLE, Int.reduceGT, Int.reduceGE, Int.reduceEq, Int.reduceNe, Int.reduceBEq, Int.reduceBNe, Int.reduceAdd, Int.reduceSub, Int.reduceMul, Int.reduceToNat, Int.reduceNeg, ↓reduceIte, ↓reduceDIte]
    exact hQ _ _ rfl
  · rw [hr] at e14
    cases hh : g.has t s
    · rw [hh] at e15 hge
      simp only [HOp.begins, Bool.false_eq_true,if_false,if_true]
      simp -dsimp only [go_sem, Nat.reduceEqDiff, Nat.reduceAdd, Nat.reduceSub, Nat.reduceMul, Nat.reduceLeDiff, Nat.reduceLT, Nat.reduceBEq, Int.reduceLT, Int.reduceLE, Int.reduceGT, Int.reduceGE, Int.reduceEq, Int.reduceNe, Int.reduceBEq, Int.reduceBNe, Int.reduceAdd, Int.reduceSub, Int.reduceMul, Int.reduceToNat, Int.reduceNeg, ↓reduceIte, ↓reduceDIte]
      refine CT_val (hres_ev (get_app H _ 8)) ?_
      simp only [HOp.begins, Bool.false_eq_true,if_false,if_true]
      simp -dsimp only [go_sem, Nat.reduceEqDiff, Nat.reduceAdd, Nat.reduceSub, Nat.reduceMul, Nat.reduceLeDiff, Nat.reduceLT, Nat.reduceBEq, Int.reduceLT, Int.reduceLE, Int.reduceGT, Int.reduceGE, Int.reduceEq, Int.reduceNe, Int.reduceBEq, Int.reduceBNe, Int.reduceAdd, Int.reduceSub, Int.reduceMul, Int.reduceToNat, Int.reduceNeg, ↓reduceIte, ↓reduceDIte]
      refine CT_val (hres_ev (get_app H _ 10)) ?_
      simp only [HOp.begins, Bool.false_eq_true,if_false,if_true]
      simp -dsimp only [go_sem, Nat.reduceEqDiff, Nat.reduceAdd, Nat.reduceSub, Nat.reduceMul, Nat.reduceLeDiff, Nat.reduceLT, Nat.reduceBEq, Int.reduceLT, Int.reduceLE, Int.reduceGT, Int.reduceGE, Int.reduceEq, Int.reduceNe, Int.reduceBEq, Int.reduceBNe, Int.reduceAdd, Int.reduceSub, Int.reduceMul, Int.reduceToNat, Int.reduceNeg, ↓reduceIte, ↓reduceDIte, e3]
      refine CT_val right_ev ?_
      simp -dsimp only [go_sem, Nat.reduceEqDiff, Nat.reduceAdd, Nat.reduceSub, Nat.reduceMul, Nat.reduceLeDiff, Nat.reduceLT, Nat.reduceBEq, Int.reduceLT, Int.reduceLE, Int.reduceGT, Int.reduceGE, Int.reduceEq, Int.reduceNe, Int.reduceBEq, Int.reduceBNe, Int.reduceAdd, Int.reduceSub, Int.reduceMul, Int.reduceToNat, Int.reduceNeg, ↓reduceIte, ↓reduceDIte, e14, hr, hh, b1, b2, b3, b4, e3, e1, e2]
      refine CT_val slot_ev ?_
      simp -dsimp only [go_sem, Nat.reduceEqDiff, Nat.reduceAdd, Nat.reduceSub, Nat.reduceMul, Nat.reduceLeDiff, Nat.reduceLT, Nat.reduceBEq, Int.reduceLT, Int.reduceLE, Int.reduceGT, Int.reduceGE, Int.reduceEq, Int.reduceNe, Int.reduceBEq, Int.reduceBNe, Int.reduceAdd, Int.reduceSub, Int.reduceMul, Int.reduceToNat, Int.reduceNeg, ↓reduceIte, ↓reduceDIte, e15, hr, hh, b1, b2, b3, b4, e3, e1, e2, hge]
      refine CT_val (hdone_ev (get_app H _ 6)) ?_
      simp only [HOp.begins, Bool.false_eq_true,if_false,if_true]
      simp -dsimp only [go_sem, Nat.reduceEqDiff, Nat.reduceAdd, Nat.reduceSub, Nat.reduceMul, Nat.reduceLeDiff, Nat.reduceLT, Nat.reduceBEq, Int.reduceLT, Int.reduceLE, Int.reduceGT, Int.reduceGE, Int.reduceEq, Int.reduceNe, Int.reduceBEq, Int.reduceBNe, Int.reduceAdd, Int.reduceSub, Int.reduceMul, Int.reduceToNat, Int.reduceNeg, ↓reduceIte, ↓reduceDIte, e15, hr, hh, b1, b2, b3, b4, e3, e1, e2, hge]
      refine CT_val (hdone_ev (get_app H _ 8)) ?_
      simp only [HOp.begins, Bool.false_eq_true,if_false,if_true]
      simp -dsimp only [go_sem, Nat.reduceEqDiff, Nat.reduceAdd, Nat.reduceSub, Nat.reduceMul, Nat.reduceLeDiff, Nat.reduceLT, Nat.reduceBEq, Int.reduceLT, Int.reduceLE, Int.reduceGT, Int.reduceGE, Int.reduceEq, Int.reduceNe, Int.reduceBEq, Int.reduceBNe, Int.reduceAdd, Int.reduceSub, Int.reduceMul, Int.reduceToNat, Int.reduceNeg, ↓reduceIte, ↓reduceDIte, e15, e14, hr, hh, b1, b2, b3, b4, e3, e1, e2, hge]
      refine CT_val (hdone_ev (get_app H _ 10)) ?_
      simp only [HOp.begins, Bool.false_eq_true,if_false,if_true]
      simp -dsimp only [go_sem, Nat.reduceEqDiff, Nat.reduceAdd, Nat.reduceSub, Nat.reduceMul, Nat.reduceLeDiff, Nat.reduceLT, Nat.reduceBEq, Int.reduceLT, Int.reduceLE, Int.reduceGT, Int.reduceGE, Int.reduceEq, Int.reduceNe, Int.reduceBEq, Int.reduceBNe, Int.reduceAdd, Int.reduceSub, Int.reduceMul, Int.reduceToNat, Int.reduceNeg, ↓reduceIte, ↓reduceDIte, e15, e14, hr, hh, b1, b2, b3, b4, e3, e1, e2, hge, e7]
      refine CT_val (setup_nil (.inl rfl)) ?_
      simp -dsimp only [go_sem, Nat.reduceEqDiff, Nat.reduceAdd, Nat.reduceSub, Nat.reduceMul, Nat.reduceLeDiff, Nat.reduceLT, Nat.reduceBEq, Int.reduceLT, Int.reduceLE, Int.reduceGT, Int.reduceGE, Int.reduceEq, Int.reduceNe, Int.reduceBEq, Int.reduceBNe, Int.reduceAdd, Int.reduceSub, Int.reduceMul, Int.reduceToNat, Int.reduceNeg, ↓reduceIte, ↓reduceDIte]
      refine CT_val (hstep_nomem (get_app H _ 10) rfl (.inl rfl)) ?_
      simp -dsimp only [go_sem, Nat.reduceEqDiff, Nat.reduceAdd, Nat.reduceSub, Nat.reduceMul, Nat.reduceLeDiff, Nat.reduceLT, Nat.reduceBEq, Int.reduceLT, Int.reduceLE, Int.reduceGT, Int.reduceGE, Int.reduceEq, Int.reduceNe, Int.reduceBEq, Int.reduceBNe, Int.reduceAdd, Int.reduceSub, Int.reduceMul, Int.reduceToNat, Int.reduceNeg, ↓reduceIte, ↓reduceDIte]
      refine CT_val (one_ev _ _) ?_
      simp -dsimp only [go_sem, Nat.reduceEqDiff, Nat.reduceAdd, Nat.reduceSub, Nat.reduceMul, Nat.reduceLeDiff, Nat.reduceLT, Nat.reduceBEq, Int.reduceLT, Int.reduceLE, Int.reduceGT, Int.reduceGE, Int.reduceEq, Int.reduceNe, Int.reduceBEq, Int.reduceBNe, Int.reduceAdd, Int.reduceSub, Int.reduceMul, Int.reduceToNat, Int.reduceNeg, ↓reduceIte, ↓reduceDIte]
      exact hQ _ _ rfl
    · rw [hh] at e15 hge
      simp only [HOp.begins, Bool.false_eq_true,if_false,if_true]
      simp -dsimp only [go_sem, Nat.reduceEqDiff, Nat.reduceAdd, Nat.reduceSub, Nat.reduceMul, Nat.reduceLeDiff, Nat.reduceLT, Nat.reduceBEq, Int.reduceLT, Int.reduceLE, Int.reduceGT, Int.reduceGE, Int.reduceEq, Int.reduceNe, Int.reduceBEq, Int.reduceBNe, Int.reduceAdd, Int.reduceSub, Int.reduceMul, Int.reduceToNat, Int.reduceNeg, ↓reduceIte, ↓reduceDIte]
      refine CT_val (hres_ev (get_app H _ 8)) ?_
      simp only [HOp.begins, Bool.false_eq_true,if_false,if_true]
      simp -dsimp only [go_sem, Nat.reduceEqDiff, Nat.reduceAdd, Nat.reduceSub, Nat.reduceMul, Nat.reduceLeDiff, Nat.reduceLT, Nat.reduceBEq, Int.reduceLT, Int.reduceLE, Int.reduceGT, Int.reduceGE, Int.reduceEq, Int.reduceNe, Int.reduceBEq, Int.reduceBNe, Int.reduceAdd, Int.reduceSub, Int.reduceMul, Int.reduceToNat, Int.reduceNeg, ↓reduceIte, ↓reduceDIte]
      refine CT_val (hres_ev (get_app H _ 10)) ?_
      simp only [HOp.begins, Bool.false_eq_true,if_false,if_true]
      simp -dsimp only [go_sem, Nat.reduceEqDiff, Nat.reduceAdd, Nat.reduceSub, Nat.reduceMul, Nat.reduceLeDiff, Nat.reduceLT, Nat.reduceBEq, Int.reduceLT, Int.reduceLE, Int.reduceGT, Int.reduceGE, Int.reduceEq, Int.reduceNe, Int.reduceBEq, Int.reduceBNe, Int.reduceAdd, Int.reduceSub, Int.reduceMul, Int.reduceToNat, Int.reduceNeg, ↓reduceIte, ↓reduceDIte, e3]
      refine CT_val right_ev ?_
      simp -dsimp only [go_sem, Nat.reduceEqDiff, Nat.reduceAdd, Nat.reduceSub, Nat.reduceMul, Nat.reduceLeDiff, Nat.reduceLT, Nat.reduceBEq, Int.reduceLT, Int.reduceLE, Int.reduceGT, Int.reduceGE, Int.reduceEq, Int.reduceNe, Int.reduceBEq, Int.reduceBNe, Int.reduceAdd, Int.reduceSub, Int.reduceMul, Int.reduceToNat, Int.reduceNeg, ↓reduceIte, ↓reduceDIte, e14, hr, hh, b1, b2, b3, b4, e3, e1, e2]
      refine CT_val slot_ev ?_
      simp -dsimp only [go_sem, Nat.reduceEqDiff, Nat.reduceAdd, Nat.reduceSub, Nat.reduceMul, Nat.reduceLeDiff, Nat.reduceLT, Nat.reduceBEq, Int.reduceLT, Int.reduceLE, Int.reduceGT, Int.reduceGE, Int.reduceEq, Int.reduceNe, Int.reduceBEq, Int.reduceBNe, Int.reduceAdd, Int.reduceSub, Int.reduceMul, Int.reduceToNat, Int.reduceNeg, ↓reduceIte, ↓reduceDIte, e15, hr, hh, b1, b2, b3, b4, e3, e1, e2, hge]
      refine CT_val (hdone_ev (get_app H _ 6)) ?_
      simp only [HOp.begins, Bool.false_eq_true,if_false,if_true]
      simp -dsimp only [go_sem, Nat.reduceEqDiff, Nat.reduceAdd, Nat.reduceSub, Nat.reduceMul, Nat.reduceLeDiff, Nat.reduceLT, Nat.reduceBEq, Int.reduceLT, Int.reduceLE, Int.reduceGT, Int.reduceGE, Int.reduceEq, Int.reduceNe, Int.reduceBEq, Int.reduceBNe, Int.reduceAdd, Int.reduceSub, Int.reduceMul, Int.reduceToNat, Int.reduceNeg, ↓reduceIte, ↓reduceDIte, e15, hr, hh, b1, b2, b3, b4, e3, e1, e2, hge]
      refine CT_val (hdone_ev (get_app H _ 8)) ?_
      simp only [HOp.begins, Bool.false_eq_true,if_false,if_true]
      simp -dsimp only [go_sem, Nat.reduceEqDiff, Nat.reduceAdd, Nat.reduceSub, Nat.reduceMul, Nat.reduceLeDiff, Nat.reduceLT, Nat.reduceBEq, Int.reduceLT, Int.reduceLE, Int.reduceGT, Int.reduceGE, Int.reduceEq, Int.reduceNe, Int.reduceBEq, Int.reduceBNe, Int.reduceAdd, Int.reduceSub, Int.reduceMul, Int.reduceToNat, Int.reduceNeg, ↓reduceIte, ↓reduceDIte, e15, e14, hr, hh, b1, b2, b3, b4, e3, e1, e2, hge]
      refine CT_val (hdone_ev (get_app H _ 10)) ?_
      simp only [HOp.begins, Bool.false_eq_true,if_false,if_true]
      simp -dsimp only [go_sem, Nat.reduceEqDiff, Nat.reduceAdd, Nat.reduceSub, Nat.reduceMul, Nat.reduceLeDiff, Nat.reduceLT, Nat.reduceBEq, Int.reduceLT, Int.reduceLE, Int.reduceGT, Int.reduceGE, Int.reduceEq, Int.reduceNe, Int.reduceBEq, Int.reduceBNe, Int.reduceAdd, Int.reduceSub, Int.reduceMul, Int.reduceToNat, Int.reduceNeg, ↓reduceIte, ↓reduceDIte, e15, e14, hr, hh, b1, b2, b3, b4, e3, e1, e2, hge, e7]
      refine CT_val (setup_nil (.inl rfl)) ?_
      simp -dsimp only [go_sem, Nat.reduceEqDiff, Nat.reduceAdd, Nat.reduceSub, Nat.reduceMul, Nat.reduceLeDiff, Nat.reduceLT, Nat.reduceBEq, Int.reduceLT, Int.reduceLE, Int.reduceGT, Int.reduceGE, Int.reduceEq, Int.reduceNe, Int.reduceBEq, Int.reduceBNe, Int.reduceAdd, Int.reduceSub, Int.reduceMul, Int.reduceToNat, Int.reduceNeg, ↓reduceIte, ↓reduceDIte]
      refine CT_val (hstep_nomem (get_app H _ 10) rfl (.inl rfl)) ?_
      simp -dsimp only [go_sem, Nat.reduceEqDiff, Nat.reduceAdd, Nat.reduceSub, Nat.reduceMul, Nat.reduceLeDiff, Nat.reduceLT, Nat.reduceBEq, Int.reduceLT, Int.reduceLE, Int.reduceGT, Int.reduceGE, Int.reduceEq, Int.reduceNe, Int.reduceBEq, Int.reduceBNe, Int.reduceAdd, Int.reduceSub, Int.reduceMul, Int.reduceToNat, Int.reduceNeg, ↓reduceIte, ↓reduceDIte]
      refine CT_val (one_ev _ _) ?_
      simp -dsimp only [go_sem, Nat.reduceEqDiff, Nat.reduceAdd, Nat.reduceSub, Nat.reduceMul, Nat.reduceLeDiff, Nat.reduceLT, Nat.reduceBEq, Int.reduceLT, Int.reduceLE, Int.reduceGT, Int.reduceGE, Int.reduceEq, Int.reduceNe, Int.reduceBEq, Int.reduceBNe, Int.reduceAdd, Int.reduceSub, Int.reduceMul, Int.reduceToNat, Int.reduceNeg, ↓reduceIte, ↓reduceDIte]
      exact hQ _ _ rfl
set_option maxHeartbeats 1000000 in
theorem phI_ev {H : LHeap} {g : GV} {t s : Int} {m : MV} {e : Env} {Q : LExit → Env → LHeap → Prop} (ok : m.Ok 8) (st : m.sum 6 = 0)
    (e1 : LK.look e 1 = i64 t) (e2 : LK.look e 2 = i64 s) (e3 : LK.look e 3 = ptr H.length) (e7 : LK.look e 7 = ptr (H.length + 3)) (e14 : LK.look e 14 = .bool g.right)
    (hQ : ∀ e' H', LK.look e' 6 = .bool true → Q .ret e' H') :
    XW (callE T) H.length phI e (H ++ [gro g, wrow m, brow m, mrow (H.length + 1) (H.length + 2) m, zop]) Q := by
  unfold phI
  cases hr : g.right
  · rw [hr] at e14
    have hh : g.has t s = false := by simp [GV.has, hr]
    simp -dsimp only [go_sem, Nat.reduceEqDiff, Nat.reduceAdd, Nat.reduceSub, Nat.reduceMul, Nat.reduceLeDiff, Nat.reduceLT, Nat.reduceBEq, Int.reduceLT, Int.reduceLE, Int.reduceGT, Int.reduceGE, Int.reduceEq, Int.reduceNe, Int.reduceBEq, Int.reduceBNe, Int.reduceAdd, Int.reduceSub, Int.reduceMul, Int.reduceToNat, Int.reduceNeg, ↓reduceIte, ↓reduceDIte, e14]
    exact phP_ev (t := t) (s := s) ok st (by simp -dsimp only [go_sem, Nat.reduceEqDiff, Nat.reduceAdd, Nat.reduceSub, Nat.reduceMul, Nat.reduceLeDiff, Nat.reduceLT, Nat.reduceBEq, Int.reduceLT, Int.reduceLE, Int.reduceGT, Int.reduceGE, Int.reduceEq, Int.reduceNe, Int.reduceBEq, Int.reduceBNe, Int.reduceAdd, Int.reduceSub, Int.reduceMul, Int.reduceToNat, Int.reduceNeg, ↓reduceIte, ↓reduceDIte, e1]) (by simp -dsimp only [go_sem, Nat.reduceEqDiff, Nat.reduceAdd, Nat.reduceSub, Nat.reduceMul, Nat.reduceLeDiff, Nat.reduceLT, Nat.reduceBEq, Int.reduceLT, Int.reduceLE, Int.reduceGT, Int.reduceGE, Int.reduceEq, Int.reduceNe, Int.reduceBEq, Int.reduceBNe, Int.reduceAdd, Int.reduceSub, Int.reduceMul, Int.reduceToNat, Int.reduceNeg, ↓reduceIte, ↓reduceDIte, e2]) (by simp -dsimp only [go_sem, Nat.reduceEqDiff, Nat.reduceAdd, Nat.reduceSub, Nat.reduceMul, Nat.reduceLeDiff, Nat.reduceLT, Nat.reduceBEq, Int.reduceLT, Int.reduceLE, Int.reduceGT, Int.reduceGE, Int.reduceEq, Int.reduceNe, Int.reduceBEq, Int.reduceBNe, Int.reduceAdd, Int.reduceSub, Int.reduceMul, Int.reduceToNat, Int.reduceNeg, ↓reduceIte, ↓reduceDIte, e3]) (by simp -dsimp only [go_sem, Nat.reduceEqDiff, Nat.reduceAdd, Nat.reduceSub, Nat.reduceMul, Nat.reduceLeDiff, Nat.reduceLT, Nat.reduceBEq, Int.reduceLT, Int.reduceLE, Int.reduceGT, Int.reduceGE, Int.reduceEq, Int.reduceNe, Int.reduceBEq, Int.reduceBNe, Int.reduceAdd, Int.reduceSub, Int.reduceMul, Int.reduceToNat, Int.reduceNeg, ↓reduceIte, ↓reduceDIte, e7]) (by simp -dsimp only [go_sem, Nat.reduceEqDiff, Nat.reduceAdd, Nat.reduceSub, Nat.reduceMul, Nat.reduceLeDiff, Nat.reduceLT, Nat.reduceBEq, Int.reduceLT, Int.reduceLE, Int.reduceGT, Int.reduceGE, Int.reduceEq, Int.reduceNe, Int.reduceBEq, Int.reduceBNe, Int.reduceAdd, Int.reduceSub, Int.reduceMul, Int.reduceToNat, Int.reduceNeg, ↓reduceIte, ↓reduceDIte, e14, hr]) (by simp -dsimp only [go_sem, Nat.reduceEqDiff, Nat.reduceAdd, Nat.reduceSub, Nat.reduceMul, Nat.reduceLeDiff, Nat.reduceLT, Nat.reduceBEq, Int.reduceLT, Int.reduceLE, Int.reduceGT, Int.reduceGE, Int.reduceEq, Int.reduceNe, Int.reduceBEq, Int.reduceBNe, Int.reduceAdd, Int.reduceSub, Int.reduceMul, Int.reduceToNat, Int.reduceNeg, ↓reduceIte, ↓reduceDIte, hh]) hQ
  · rw [hr] at e14
    simp -dsimp only [go_sem, Nat.reduceEqDiff, Nat.reduceAdd, Nat.reduceSub, Nat.reduceMul, Nat.reduceLeDiff, Nat.reduceLT, Nat.reduceBEq, Int.reduceLT, Int.reduceLE, Int.reduceGT, Int.reduceGE, Int.reduceEq, Int.reduceNe, Int.reduceBEq, Int.reduceBNe, Int.reduceAdd, Int.reduceSub, Int.reduceMul, Int.reduceToNat, Int.reduceNeg, ↓reduceIte, ↓reduceDIte, e14, e1, e3, e2]
    (repeat' (first | (refine BT_beq (fun hc => ?_) (fun hc hc2 => ?_) <;> simp -dsimp only [go_sem, Nat.reduceEqDiff, Nat.reduceAdd, Nat.reduceSub, Nat.reduceMul, Nat.reduceLeDiff, Nat.reduceLT, Nat.reduceBEq, Int.reduceLT, Int.reduceLE, Int.reduceGT, Int.reduceGE, Int.reduceEq, Int.reduceNe, Int.reduceBEq, Int.reduceBNe, Int.reduceAdd, Int.reduceSub, Int.reduceMul, Int.reduceToNat, Int.reduceNeg, ↓reduceIte, ↓reduceDIte, e14, e1, e3, e2, *]) | (refine GT_beqT (fun hc => ?_) (fun hc hc2 => ?_) <;> simp -dsimp only [go_sem, Nat.reduceEqDiff, Nat.reduceAdd, Nat.reduceSub, Nat.reduceMul, Nat.reduceLeDiff, Nat.reduceLT, Nat.reduceBEq, Int.reduceLT, Int.reduceLE, Int.reduceGT, Int.reduceGE, Int.reduceEq, Int.reduceNe, Int.reduceBEq, Int.reduceBNe, Int.reduceAdd, Int.reduceSub, Int.reduceMul, Int.reduceToNat, Int.reduceNeg, ↓reduceIte, ↓reduceDIte, e14, e1, e3, e2, *]) | (refine GT_beqF (fun hc hc2 => ?_) (fun hc => ?_) <;> simp -dsimp only [go_sem, Nat.reduceEqDiff, Nat.reduceAdd, Nat.reduceSub, Nat.reduceMul, Nat.reduceLeDiff, Nat.reduceLT, Nat.reduceBEq, Int.reduceLT, Int.reduceLE, Int.reduceGT, Int.reduceGE, Int.reduceEq, Int.reduceNe, Int.reduceBEq, Int.reduceBNe, Int.reduceAdd, Int.reduceSub, Int.reduceMul, Int.reduceToNat, Int.reduceNeg, ↓reduceIte, ↓reduceDIte, e14, e1, e3, e2, *]) | (refine BT_bne (fun hc hc1 hc2 => ?_) (fun hc => ?_) <;> simp -dsimp only [go_sem, Nat.reduceEqDiff, Nat.reduceAdd, Nat.reduceSub, Nat.reduceMul, Nat.reduceLeDiff, Nat.reduceLT, Nat.reduceBEq, Int.reduceLT, Int.reduceLE, Int.reduceGT, Int.reduceGE, Int.reduceEq, Int.reduceNe, Int.reduceBEq, Int.reduceBNe, Int.reduceAdd, Int.reduceSub, Int.reduceMul, Int.reduceToNat, Int.reduceNeg, ↓reduceIte, ↓reduceDIte, e14, e1, e3, e2, *]) | (refine GT_bneT (fun hc hc1 hc2 => ?_) (fun hc => ?_) <;> simp -dsimp only [go_sem, Nat.reduceEqDiff, Nat.reduceAdd, Nat.reduceSub, Nat.reduceMul, Nat.reduceLeDiff, Nat.reduceLT, Nat.reduceBEq, Int.reduceLT, Int.reduceLE, Int.reduceGT, Int.reduceGE, Int.reduceEq, Int.reduceNe, Int.reduceBEq, Int.reduceBNe, Int.reduceAdd, Int.reduceSub, Int.reduceMul, Int.reduceToNat, Int.reduceNeg, ↓reduceIte, ↓reduceDIte, e14, e1, e3, e2, *]) | (refine GT_bneF (fun hc => ?_) (fun hc hc1 hc2 => ?_) <;> simp -dsimp only [go_sem, Nat.reduceEqDiff, Nat.reduceAdd, Nat.reduceSub, Nat.reduceMul, Nat.reduceLeDiff, Nat.reduceLT, Nat.reduceBEq, Int.reduceLT, Int.reduceLE, Int.reduceGT, Int.reduceGE, Int.reduceEq, Int.reduceNe, Int.reduceBEq, Int.reduceBNe, Int.reduceAdd, Int.reduceSub, Int.reduceMul, Int.reduceToNat, Int.reduceNeg, ↓reduceIte, ↓reduceDIte, e14, e1, e3, e2, *]) | (refine BT_not (fun hc => ?_) (fun hc => ?_) <;> simp -dsimp only [go_sem, Nat.reduceEqDiff, Nat.reduceAdd, Nat.reduceSub, Nat.reduceMul, Nat.reduceLeDiff, Nat.reduceLT, Nat.reduceBEq, Int.reduceLT, Int.reduceLE, Int.reduceGT, Int.reduceGE, Int.reduceEq, Int.reduceNe, Int.reduceBEq, Int.reduceBNe, Int.reduceAdd, Int.reduceSub, Int.reduceMul, Int.reduceToNat, Int.reduceNeg, ↓reduceIte, ↓reduceDIte, e14, e1, e3, e2, *]) | (refine GT_notT (fun hc => ?_) (fun hc => ?_) <;> simp -dsimp only [go_sem, Nat.reduceEqDiff, Nat.reduceAdd, Nat.reduceSub, Nat.reduceMul, Nat.reduceLeDiff, Nat.reduceLT, Nat.reduceBEq, Int.reduceLT, Int.reduceLE, Int.reduceGT, Int.reduceGE, Int.reduceEq, Int.reduceNe, Int.reduceBEq, Int.reduceBNe, Int.reduceAdd, Int.reduceSub, Int.reduceMul, Int.reduceToNat, Int.reduceNeg, ↓reduceIte, ↓reduceDIte, e14, e1, e3, e2, *]) | (refine GT_notF (fun hc => ?_) (fun hc => ?_) <;> simp -dsimp only [go_sem, Nat.reduceEqDiff, Nat.reduceAdd, Nat.reduceSub, Nat.reduceMul, Nat.reduceLeDiff, Nat.reduceLT, Nat.reduceBEq, Int.reduceLT, Int.reduceLE, Int.reduceGT, Int.reduceGE, Int.reduceEq, Int.reduceNe, Int.reduceBEq, Int.reduceBNe, Int.reduceAdd, Int.reduceSub, Int.reduceMul, Int.reduceToNat, Int.reduceNeg, ↓reduceIte, ↓reduceDIte, e14, e1, e3, e2, *]) | (refine BT_dec (fun hc => ?_) (fun hc => ?_) <;> simp -dsimp only [go_sem, Nat.reduceEqDiff, Nat.reduceAdd, Nat.reduceSub, Nat.reduceMul, Nat.reduceLeDiff, Nat.reduceLT, Nat.reduceBEq, Int.reduceLT, Int.reduceLE, Int.reduceGT, Int.reduceGE, Int.reduceEq, Int.reduceNe, Int.reduceBEq, Int.reduceBNe, Int.reduceAdd, Int.reduceSub, Int.reduceMul, Int.reduceToNat, Int.reduceNeg, ↓reduceIte, ↓reduceDIte, e14, e1, e3, e2, *]) | (refine GT_decT (fun hc => ?_) (fun hc => ?_) <;> simp -dsimp only [go_sem, Nat.reduceEqDiff, Nat.reduceAdd, Nat.reduceSub, Nat.reduceMul, Nat.reduceLeDiff, Nat.reduceLT, Nat.reduceBEq, Int.reduceLT, Int.reduceLE, Int.reduceGT, Int.reduceGE, Int.reduceEq, Int.reduceNe, Int.reduceBEq, Int.reduceBNe, Int.reduceAdd, Int.reduceSub, Int.reduceMul, Int.reduceToNat, Int.reduceNeg, ↓reduceIte, ↓reduceDIte, e14, e1, e3, e2, *]) | (refine GT_decF (fun hc => ?_) (fun hc => ?_) <;> simp -dsimp only [go_sem, Nat.reduceEqDiff, Nat.reduceAdd, Nat.reduceSub, Nat.reduceMul, Nat.reduceLeDiff, Nat.reduceLT, Nat.reduceBEq, Int.reduceLT, Int.reduceLE, Int.reduceGT, Int.reduceGE, Int.reduceEq, Int.reduceNe, Int.reduceBEq, Int.reduceBNe, Int.reduceAdd, Int.reduceSub, Int.reduceMul, Int.reduceToNat, Int.reduceNeg, ↓reduceIte, ↓reduceDIte, e14, e1, e3, e2, *]) | (refine BT_intro (fun hc => ?_) (fun hc => ?_) <;> simp -dsimp only [go_sem, Nat.reduceEqDiff, Nat.reduceAdd, Nat.reduceSub, Nat.reduceMul, Nat.reduceLeDiff, Nat.reduceLT, Nat.reduceBEq, Int.reduceLT, Int.reduceLE, Int.reduceGT, Int.reduceGE, Int.reduceEq, Int.reduceNe, Int.reduceBEq, Int.reduceBNe, Int.reduceAdd, Int.reduceSub, Int.reduceMul, Int.reduceToNat, Int.reduceNeg, ↓reduceIte, ↓reduceDIte, e14, e1, e3, e2, *]) | (refine GT_introT (fun hc => ?_) (fun hc => ?_) <;> simp -dsimp only [go_sem, Nat.reduceEqDiff, Nat.reduceAdd, Nat.reduceSub, Nat.reduceMul, Nat.reduceLeDiff, Nat.reduceLT, Nat.reduceBEq, Int.reduceLT, Int.reduceLE, Int.reduceGT, Int.reduceGE, Int.reduceEq, Int.reduceNe, Int.reduceBEq, Int.reduceBNe, Int.reduceAdd, Int.reduceSub, Int.reduceMul, Int.reduceToNat, Int.reduceNeg, ↓reduceIte, ↓reduceDIte, e14, e1, e3, e2, *]) | (refine GT_introF (fun hc => ?_) (fun hc => ?_) <;> simp -dsimp only [go_sem, Nat.reduceEqDiff, Nat.reduceAdd, Nat.reduceSub, Nat.reduceMul, Nat.reduceLeDiff, Nat.reduceLT, Nat.reduceBEq, Int.reduceLT, Int.reduceLE, Int.reduceGT, Int.reduceGE, Int.reduceEq, Int.reduceNe, Int.reduceBEq, Int.reduceBNe, Int.reduceAdd, Int.reduceSub, Int.reduceMul, Int.reduceToNat, Int.reduceNeg, ↓reduceIte, ↓reduceDIte, e14, e1, e3, e2, *])))
    · have hh : g.has t s = decide (s < g.s) := by simp [GV.has, hr, *]; try omega
      exact phP_ev (t := t) (s := s) ok st (by simp -dsimp only [go_sem, Nat.reduceEqDiff, Nat.reduceAdd, Nat.reduceSub, Nat.reduceMul, Nat.reduceLeDiff, Nat.reduceLT, Nat.reduceBEq, Int.reduceLT, Int.reduceLE, Int.reduceGT, Int.reduceGE, Int.reduceEq, Int.reduceNe, Int.reduceBEq, Int.reduceBNe, Int.reduceAdd, Int.reduceSub, Int.reduceMul, Int.reduceToNat, Int.reduceNeg, ↓reduceIte, ↓reduceDIte, e1]) (by simp -dsimp only [go_sem, Nat.reduceEqDiff, Nat.reduceAdd, Nat.reduceSub, Nat.reduceMul, Nat.reduceLeDiff, Nat.reduceLT, Nat.reduceBEq, Int.reduceLT, Int.reduceLE, Int.reduceGT, Int.reduceGE, Int.reduceEq, Int.reduceNe, Int.reduceBEq, Int.reduceBNe, Int.reduceAdd, Int.reduceSub, Int.reduceMul, Int.reduceToNat, Int.reduceNeg, ↓reduceIte, ↓reduceDIte, e2]) (by simp -dsimp only [go_sem, Nat.reduceEqDiff, Nat.reduceAdd, Nat.reduceSub, Nat.reduceMul, Nat.reduceLeDiff, Nat.reduceLT, Nat.reduceBEq, Int.reduceLT, Int.reduceLE, Int.reduceGT, Int.reduceGE, Int.reduceEq, Int.reduceNe, Int.reduceBEq, Int.reduceBNe, Int.reduceAdd, Int.reduceSub, Int.reduceMul, Int.reduceToNat, Int.reduceNeg, ↓reduceIte, ↓reduceDIte, e3]) (by simp -dsimp only [go_sem, Nat.reduceEqDiff, Nat.reduceAdd, Nat.reduceSub, Nat.reduceMul, Nat.reduceLeDiff, Nat.reduceLT, Nat.reduceBEq, Int.reduceLT, Int.reduceLE, Int.reduceGT, Int.reduceGE, Int.reduceEq, Int.reduceNe, Int.reduceBEq, Int.reduceBNe, Int.reduceAdd, Int.reduceSub, Int.reduceMul, Int.reduceToNat, Int.reduceNeg, ↓reduceIte, ↓reduceDIte, e7]) (by simp -dsimp only [go_sem, Nat.reduceEqDiff, Nat.reduceAdd, Nat.reduceSub, Nat.reduceMul, Nat.reduceLeDiff, Nat.reduceLT, Nat.reduceBEq, Int.reduceLT, Int.reduceLE, Int.reduceGT, Int.reduceGE, Int.reduceEq, Int.reduceNe, Int.reduceBEq, Int.reduceBNe, Int.reduceAdd, Int.reduceSub, Int.reduceMul, Int.reduceToNat, Int.reduceNeg, ↓reduceIte, ↓reduceDIte, e14, hr]) (by simp -dsimp only [go_sem, Nat.reduceEqDiff, Nat.reduceAdd, Nat.reduceSub, Nat.reduceMul, Nat.reduceLeDiff, Nat.reduceLT, Nat.reduceBEq, Int.reduceLT, Int.reduceLE, Int.reduceGT, Int.reduceGE, Int.reduceEq, Int.reduceNe, Int.reduceBEq, Int.reduceBNe, Int.reduceAdd, Int.reduceSub, Int.reduceMul, Int.reduceToNat, Int.reduceNeg, ↓reduceIte, ↓reduceDIte, hh]) hQ
    all_goals
      have hh : g.has t s = false := by simp [GV.has, hr]; omega
      exact phP_ev (t := t) (s := s) ok st (by simp -dsimp only [go_sem, Nat.reduceEqDiff, Nat.reduceAdd, Nat.reduceSub, Nat.reduceMul, Nat.reduceLeDiff, Nat.reduceLT, Nat.reduceBEq, Int.reduceLT, Int.reduceLE, Int.reduceGT, Int.reduceGE, Int.reduceEq, Int.reduceNe, Int.reduceBEq, Int.reduceBNe, Int.reduceAdd, Int.reduceSub, Int.reduceMul, Int.reduceToNat, Int.reduceNeg, ↓reduceIte, ↓reduceDIte, e1]) (by simp -dsimp only [go_sem, Nat.reduceEqDiff, Nat.reduceAdd, Nat.reduceSub, Nat.reduceMul, Nat.reduceLeDiff, Nat.reduceLT, Nat.reduceBEq, Int.reduceLT, Int.reduceLE, Int.reduceGT, Int.reduceGE, Int.reduceEq, Int.reduceNe, Int.reduceBEq, Int.reduceBNe, Int.reduceAdd, Int.reduceSub, Int.reduceMul, Int.reduceToNat, Int.reduceNeg, ↓reduceIte, ↓reduceDIte, e2]) (by simp -dsimp only [go_sem, Nat.reduceEqDiff, Nat.reduceAdd, Nat.reduceSub, Nat.reduceMul, Nat.reduceLeDiff, Nat.reduceLT, Nat.reduceBEq, Int.reduceLT, Int.reduceLE, Int.reduceGT, Int.reduceGE, Int.reduceEq, Int.reduceNe, Int.reduceBEq, Int.reduceBNe, Int.reduceAdd, Int.reduceSub, Int.reduceMul, Int.reduceToNat, Int.reduceNeg, ↓reduceIte, ↓reduceDIte, e3]) (by simp -dsimp only [go_sem, Nat.reduceEqDiff, Nat.reduceAdd, Nat.reduceSub, Nat.reduceMul, Nat.reduceLeDiff, Nat.reduceLT, Nat.reduceBEq, Int.reduceLT, Int.reduceLE, Int.reduceGT, Int.reduceGE, Int.reduceEq, Int.reduceNe, Int.reduceBEq, Int.reduceBNe, Int.reduceAdd, Int.reduceSub, Int.reduceMul, Int.reduceToNat, Int.reduceNeg, ↓reduceIte, ↓reduceDIte, e7]) (by simp -dsimp only [go_sem, Nat.reduceEqDiff, Nat.reduceAdd, Nat.reduceSub, Nat.reduceMul, Nat.reduceLeDiff, Nat.reduceLT, Nat.reduceBEq, Int.reduceLT, Int.reduceLE, Int.reduceGT, Int.reduceGE, Int.reduceEq, Int.reduceNe, Int.reduceBEq, Int.reduceBNe, Int.reduceAdd, Int.reduceSub, Int.reduceMul, Int.reduceToNat, Int.reduceNeg, ↓reduceIte, ↓reduceDIte, e14, hr]) (by simp -dsimp only [go_sem, Nat.reduceEqDiff, Nat.reduceAdd, Nat.reduceSub, Nat.reduceMul, Nat.reduceLeDiff, Nat.reduceLT, Nat.reduceBEq, Int.reduceLT, Int.reduceLE, Int.reduceGT, Int.reduceGE, Int.reduceEq, Int.reduceNe, Int.reduceBEq, Int.reduceBNe, Int.reduceAdd, Int.reduceSub, Int.reduceMul, Int.reduceToNat, Int.reduceNeg, ↓reduceIte, ↓reduceDIte, hh]) hQ
set_option maxHeartbeats 1000000 in
theorem phR_ev {H : LHeap} {g : GV} {t s : Int} {m : MV} {e : Env} {Q : LExit → Env → LHeap → Prop} (ok : m.Ok 8) (st : m.sum 6 = 0)
    (e1 : LK.look e 1 = i64 t) (e2 : LK.look e 2 = i64 s) (e3 : LK.look e 3 = ptr H.length) (e7 : LK.look e 7 = ptr (H.length + 3))
    (hQ : ∀ e' H', LK.look e' 6 = .bool true → Q .ret e' H') :
    XW (callE T) H.length phR e (H ++ [gro g, wrow m, brow m, mrow (H.length + 1) (H.length + 2) m, zop]) Q := by
  unfold phR
  simp -dsimp only [go_sem, Nat.reduceEqDiff, Nat.reduceAdd, Nat.reduceSub, Nat.reduceMul, Nat.reduceLeDiff, Nat.reduceLT, Nat.reduceBEq, Int.reduceLT, Int.reduceLE, Int.reduceGT, Int.reduceGE, Int.reduceEq, Int.reduceNe, Int.reduceBEq, Int.reduceBNe, Int.reduceAdd, Int.reduceSub, Int.reduceMul, Int.reduceToNat, Int.reduceNeg, ↓reduceIte, ↓reduceDIte, e3]
  (repeat' (first | (refine BT_beq (fun hc => ?_) (fun hc hc2 => ?_) <;> simp -dsimp only [go_sem, Nat.reduceEqDiff, Nat.reduceAdd, Nat.reduceSub, Nat.reduceMul, Nat.reduceLeDiff, Nat.reduceLT, Nat.reduceBEq, Int.reduceLT, Int.reduceLE, Int.reduceGT, Int.reduceGE, Int.reduceEq, Int.reduceNe, Int.reduceBEq, Int.reduceBNe, Int.reduceAdd, Int.reduceSub, Int.reduceMul, Int.reduceToNat, Int.reduceNeg, ↓reduceIte, ↓reduceDIte, e3, *]) | (refine GT_beqT (fun hc => ?_) (fun hc hc2 => ?_) <;> simp -dsimp only [go_sem, Nat.reduceEqDiff, Nat.reduceAdd, Nat.reduceSub, Nat.reduceMul, Nat.reduceLeDiff, Nat.reduceLT, Nat.reduceBEq, Int.reduceLT, Int.reduceLE, Int.reduceGT, Int.reduceGE, Int.reduceEq, Int.reduceNe, Int.reduceBEq, Int.reduceBNe, Int.reduceAdd, Int.reduceSub, Int.reduceMul, Int.reduceToNat, Int.reduceNeg, ↓reduceIte, ↓reduceDIte, e3, *]) | (refine GT_beqF (fun hc hc2 => ?_) (fun hc => ?_) <;> simp -dsimp only [go_sem, Nat.reduceEqDiff, Nat.reduceAdd, Nat.reduceSub, Nat.reduceMul, Nat.reduceLeDiff, Nat.reduceLT, Nat.reduceBEq, Int.reduceLT, Int.reduceLE, Int.reduceGT, Int.reduceGE, Int.reduceEq, Int.reduceNe, Int.reduceBEq, Int.reduceBNe, Int.reduceAdd, Int.reduceSub, Int.reduceMul, Int.reduceToNat, Int.reduceNeg, ↓reduceIte, ↓reduceDIte, e3, *]) | (refine BT_bne (fun hc hc1 hc2 => ?_) (fun hc => ?_) <;> simp -dsimp only [go_sem, Nat.reduceEqDiff, Nat.reduceAdd, Nat.reduceSub, Nat.reduceMul, Nat.reduceLeDiff, Nat.reduceLT, Nat.reduceBEq, Int.reduceLT, Int.reduceLE, Int.reduceGT, Int.reduceGE, Int.reduceEq, Int.reduceNe, Int.reduceBEq, Int.reduceBNe, Int.reduceAdd, Int.reduceSub, Int.reduceMul, Int.reduceToNat, Int.reduceNeg, ↓reduceIte, ↓reduceDIte, e3, *]) | (refine GT_bneT (fun hc hc1 hc2 => ?_) (fun hc => ?_) <;> simp -dsimp only [go_sem, Nat.reduceEqDiff, Nat.reduceAdd, Nat.reduceSub, Nat.reduceMul, Nat.reduceLeDiff, Nat.reduceLT, Nat.reduceBEq, Int.reduceLT, Int.reduceLE, Int.reduceGT, Int.reduceGE, Int.reduceEq, Int.reduceNe, Int.reduceBEq, Int.reduceBNe, Int.reduceAdd, Int.reduceSub, Int.reduceMul, Int.reduceToNat, Int.reduceNeg, ↓reduceIte, ↓reduceDIte, e3, *]) | (refine GT_bneF (fun hc => ?_) (fun hc hc1 hc2 => ?_) <;> simp -dsimp only [go_sem, Nat.reduceEqDiff, Nat.reduceAdd, Nat.reduceSub, Nat.reduceMul, Nat.reduceLeDiff, Nat.reduceLT, Nat.reduceBEq, Int.reduceLT, Int.reduceLE, Int.reduceGT, Int.reduceGE, Int.reduceEq, Int.reduceNe, Int.reduceBEq, Int.reduceBNe, Int.reduceAdd, Int.reduceSub, Int.reduceMul, Int.reduceToNat, Int.reduceNeg, ↓reduceIte, ↓reduceDIte, e3, *]) | (refine BT_not (fun hc => ?_) (fun hc => ?_) <;> simp -dsimp only [go_sem, Nat.reduceEqDiff, Nat.reduceAdd, Nat.reduceSub, Nat.reduceMul, Nat.reduceLeDiff, Nat.reduceLT, Nat.reduceBEq, Int.reduceLT, Int.reduceLE, Int.reduceGT, Int.reduceGE, Int.reduceEq, Int.reduceNe, Int.reduceBEq, Int.reduceBNe, Int.reduceAdd, Int.reduceSub, Int.reduceMul, Int.reduceToNat, Int.reduceNeg, ↓reduceIte, ↓reduceDIte, e3, *]) | (refine GT_notT (fun hc => ?_) (fun hc => ?_) <;> simp -dsimp only [go_sem, Nat.reduceEqDiff, Nat.reduceAdd, Nat.reduceSub, Nat.reduceMul, Nat.reduceLeDiff, Nat.reduceLT, Nat.reduceBEq, Int.reduceLT, Int.reduceLE, Int.reduceGT, Int.reduceGE, Int.reduceEq, Int.reduceNe, Int.reduceBEq, Int.reduceBNe, Int.reduceAdd, Int.reduceSub, Int.reduceMul, Int.reduceToNat, Int.reduceNeg, ↓reduceIte, ↓reduceDIte, e3, *]) | (refine GT_notF (fun hc => ?_) (fun hc => ?_) <;> simp -dsimp only [go_sem, Nat.reduceEqDiff, Nat.reduceAdd, Nat.reduceSub, Nat.reduceMul, Nat.reduceLeDiff, Nat.reduceLT, Nat.reduceBEq, Int.reduceLT, Int.reduceLE, Int.reduceGT, Int.reduceGE, Int.reduceEq, Int.reduceNe, Int.reduceBEq, Int.reduceBNe, Int.reduceAdd, Int.reduceSub, Int.reduceMul, Int.reduceToNat, Int.reduceNeg, ↓reduceIte, ↓reduceDIte, e3, *]) | (refine BT_dec (fun hc => ?_) (fun hc => ?_) <;> simp -dsimp only [go_sem, Nat.reduceEqDiff, Nat.reduceAdd, Nat.reduceSub, Nat.reduceMul, Nat.reduceLeDiff, Nat.reduceLT, Nat.reduceBEq, Int.reduceLT, Int.reduceLE, Int.reduceGT, Int.reduceGE, Int.reduceEq, Int.reduceNe, Int.reduceBEq, Int.reduceBNe, Int.reduceAdd, Int.reduceSub, Int.reduceMul, Int.reduceToNat, Int.reduceNeg, ↓reduceIte, ↓reduceDIte, e3, *]) | (refine GT_decT (fun hc => ?_) (fun hc => ?_) <;> simp -dsimp only [go_sem, Nat.reduceEqDiff, Nat.reduceAdd, Nat.reduceSub, Nat.reduceMul, Nat.reduceLeDiff, Nat.reduceLT, Nat.reduceBEq, Int.reduceLT, Int.reduceLE, Int.reduceGT, Int.reduceGE, Int.reduceEq, Int.reduceNe, Int.reduceBEq, Int.reduceBNe, Int.reduceAdd, Int.reduceSub, Int.reduceMul, Int.reduceToNat, Int.reduceNeg, ↓reduceIte, ↓reduceDIte, e3, *]) | (refine GT_decF (fun hc => ?_) (fun hc => ?_) <;> simp -dsimp only [go_sem, Nat.reduceEqDiff, Nat.reduceAdd, Nat.reduceSub, Nat.reduceMul, Nat.reduceLeDiff, Nat.reduceLT, Nat.reduceBEq, Int.reduceLT, Int.reduceLE, Int.reduceGT, Int.reduceGE, Int.reduceEq, Int.reduceNe, Int.reduceBEq, Int.reduceBNe, Int.reduceAdd, Int.reduceSub, Int.reduceMul, Int.reduceToNat, Int.reduceNeg, ↓reduceIte, ↓reduceDIte, e3, *]) | (refine BT_intro (fun hc => ?_) (fun hc => ?_) <;> simp -dsimp only [go_sem, Nat.reduceEqDiff, Nat.reduceAdd, Nat.reduceSub, Nat.reduceMul, Nat.reduceLeDiff, Nat.reduceLT, Nat.reduceBEq, Int.reduceLT, Int.reduceLE, Int.reduceGT, Int.reduceGE, Int.reduceEq, Int.reduceNe, Int.reduceBEq, Int.reduceBNe, Int.reduceAdd, Int.reduceSub, Int.reduceMul, Int.reduceToNat, Int.reduceNeg, ↓reduceIte, ↓reduceDIte, e3, *]) | (refine GT_introT (fun hc => ?_) (fun hc => ?_) <;> simp -dsimp only [go_sem, Nat.reduceEqDiff, Nat.reduceAdd, Nat.reduceSub, Nat.reduceMul, Nat.reduceLeDiff, Nat.reduceLT, Nat.reduceBEq, Int.reduceLT, Int.reduceLE, Int.reduceGT, Int.reduceGE, Int.reduceEq, Int.reduceNe, Int.reduceBEq, Int.reduceBNe, Int.reduceAdd, Int.reduceSub, Int.reduceMul, Int.reduceToNat, Int.reduceNeg, ↓reduceIte, ↓reduceDIte, e3, *]) | (refine GT_introF (fun hc => ?_) (fun hc => ?_) <;> simp -dsimp only [go_sem, Nat.reduceEqDiff, Nat.reduceAdd, Nat.reduceSub, Nat.reduceMul, Nat.reduceLeDiff, Nat.reduceLT, Nat.reduceBEq, Int.reduceLT, Int.reduceLE, Int.reduceGT, Int.reduceGE, Int.reduceEq, Int.reduceNe, Int.reduceBEq, Int.reduceBNe, Int.reduceAdd, Int.reduceSub, Int.reduceMul, Int.reduceToNat, Int.reduceNeg, ↓reduceIte, ↓reduceDIte, e3, *])))
  all_goals exact phI_ev (t := t) (s := s) ok st (by simp -dsimp only [go_sem, Nat.reduceEqDiff, Nat.reduceAdd, Nat.reduceSub, Nat.reduceMul, Nat.reduceLeDiff, Nat.reduceLT, Nat.reduceBEq, Int.reduceLT, Int.reduceLE, Int.reduceGT, Int.reduceGE, Int.reduceEq, Int.reduceNe, Int.reduceBEq, Int.reduceBNe, Int.reduceAdd, Int.reduceSub, Int.reduceMul, Int.reduceToNat, Int.reduceNeg, ↓reduceIte, ↓reduceDIte, e1]) (by simp -dsimp only [go_sem, Nat.reduceEqDiff, Nat.reduceAdd, Nat.reduceSub, Nat.reduceMul, Nat.reduceLeDiff, Nat.reduceLT, Nat.reduceBEq, Int.reduceLT, Int.reduceLE, Int.reduceGT, Int.reduceGE, Int.reduceEq, Int.reduceNe, Int.reduceBEq, Int.reduceBNe, Int.reduceAdd, Int.reduceSub, Int.reduceMul, Int.reduceToNat, Int.reduceNeg, ↓reduceIte, ↓reduceDIte, e2]) (by simp -dsimp only [go_sem, Nat.reduceEqDiff, Nat.reduceAdd, Nat.reduceSub, Nat.reduceMul, Nat.reduceLeDiff, Nat.reduceLT, Nat.reduceBEq, Int.reduceLT, Int.reduceLE, Int.reduceGT, Int.reduceGE, Int.reduceEq, Int.reduceNe, Int.reduceBEq, Int.reduceBNe, Int.reduceAdd, Int.reduceSub, Int.reduceMul, Int.reduceToNat, Int.reduceNeg, ↓reduceIte, ↓reduceDIte, e3]) (by simp -dsimp only [go_sem, Nat.reduceEqDiff, Nat.reduceAdd, Nat.reduceSub, Nat.reduceMul, Nat.reduceLeDiff, Nat.reduceLT, Nat.reduceBEq, Int.reduceLT, Int.reduceLE, Int.reduceGT, Int.reduceGE, Int.reduceEq, Int.reduceNe, Int.reduceBEq, Int.reduceBNe, Int.reduceAdd, Int.reduceSub, Int.reduceMul, Int.reduceToNat, Int.reduceNeg, ↓reduceIte, ↓reduceDIte, e7]) (by simp -dsimp only [go_sem, Nat.reduceEqDiff, Nat.reduceAdd, Nat.reduceSub, Nat.reduceMul, Nat.reduceLeDiff, Nat.reduceLT, Nat.reduceBEq, Int.reduceLT, Int.reduceLE, Int.reduceGT, Int.reduceGE, Int.reduceEq, Int.reduceNe, Int.reduceBEq, Int.reduceBNe, Int.reduceAdd, Int.reduceSub, Int.reduceMul, Int.reduceToNat, Int.reduceNeg, ↓reduceIte, ↓reduceDIte]; simp [GV.right, *]) hQ
set_option maxHeartbeats 1000000 in
theorem nobody_ev {lim : Nat} {H : LHeap} {g : GV} {t s : Int} : callE T 6 lim [g.v, i64 t, i64 s] H fun v H' => v = .bool true := by
  refine callE_pop (code := Lp) rfl (by simp) rfl ?_
  unfold Lp
  simp -dsimp only [go_sem, Nat.reduceEqDiff, Nat.reduceAdd, Nat.reduceSub, Nat.reduceMul, Nat.reduceLeDiff, Nat.reduceLT, Nat.reduceBEq, Int.reduceLT, Int.reduceLE, Int.reduceGT, Int.reduceGE, Int.reduceEq, Int.reduceNe, Int.reduceBEq, Int.reduceBNe, Int.reduceAdd, Int.reduceSub, Int.reduceMul, Int.reduceToNat, Int.reduceNeg, ↓reduceIte, ↓reduceDIte]
  refine CT_of (new_ev (by simp)) ?_
  rintro _ _ h
  rw [if_neg (by decide)] at h
  obtain ⟨rfl, rfl⟩ := h
  have ok := MV.Ok.new (n := 8) (by decide) (by decide)
  have st : (MV.new 8).sum 6 = 0 := by decide
  simp only [show (8 : Int).toNat = 8 from rfl]
  generalize MV.new 8 = m at ok st ⊢
  have mm := fun l => mem_at (H := H) (pre := [gro g]) (t := l) ok
  simp only [List.length_cons, List.length_nil, Nat.zero_add, List.cons_append, List.nil_append, Nat.reduceAdd] at mm
  simp -dsimp only [go_sem, Nat.reduceEqDiff, Nat.reduceAdd, Nat.reduceSub, Nat.reduceMul, Nat.reduceLeDiff, Nat.reduceLT, Nat.reduceBEq, Int.reduceLT, Int.reduceLE, Int.reduceGT, Int.reduceGE, Int.reduceEq, Int.reduceNe, Int.reduceBEq, Int.reduceBNe, Int.reduceAdd, Int.reduceSub, Int.reduceMul, Int.reduceToNat, Int.reduceNeg, ↓reduceIte, ↓reduceDIte]
  refine CT_val hres_nil ?_
  simp -dsimp only [go_sem, Nat.reduceEqDiff, Nat.reduceAdd, Nat.reduceSub, Nat.reduceMul, Nat.reduceLeDiff, Nat.reduceLT, Nat.reduceBEq, Int.reduceLT, Int.reduceLE, Int.reduceGT, Int.reduceGE, Int.reduceEq, Int.reduceNe, Int.reduceBEq, Int.reduceBNe, Int.reduceAdd, Int.reduceSub, Int.reduceMul, Int.reduceToNat, Int.reduceNeg, ↓reduceIte, ↓reduceDIte]
  refine CT_val (hres_zero (get_app H _ 4)) ?_
  have z1 : (0#64 + 0#64 : BitVec 64) = 0#64 := by decide
  simp -dsimp only [go_sem, Nat.reduceEqDiff, Nat.reduceAdd, Nat.reduceSub, Nat.reduceMul, Nat.reduceLeDiff, Nat.reduceLT, Nat.reduceBEq, Int.reduceLT, Int.reduceLE, Int.reduceGT, Int.reduceGE, Int.reduceEq, Int.reduceNe, Int.reduceBEq, Int.reduceBNe, Int.reduceAdd, Int.reduceSub, Int.reduceMul, Int.reduceToNat, Int.reduceNeg, ↓reduceIte, ↓reduceDIte, z1]
  refine CT_val hstep_nil ?_
  simp -dsimp only [go_sem, Nat.reduceEqDiff, Nat.reduceAdd, Nat.reduceSub, Nat.reduceMul, Nat.reduceLeDiff, Nat.reduceLT, Nat.reduceBEq, Int.reduceLT, Int.reduceLE, Int.reduceGT, Int.reduceGE, Int.reduceEq, Int.reduceNe, Int.reduceBEq, Int.reduceBNe, Int.reduceAdd, Int.reduceSub, Int.reduceMul, Int.reduceToNat, Int.reduceNeg, ↓reduceIte, ↓reduceDIte]
  refine CT_val hdone_nil ?_
  simp -dsimp only [go_sem, Nat.reduceEqDiff, Nat.reduceAdd, Nat.reduceSub, Nat.reduceMul, Nat.reduceLeDiff, Nat.reduceLT, Nat.reduceBEq, Int.reduceLT, Int.reduceLE, Int.reduceGT, Int.reduceGE, Int.reduceEq, Int.reduceNe, Int.reduceBEq, Int.reduceBNe, Int.reduceAdd, Int.reduceSub, Int.reduceMul, Int.reduceToNat, Int.reduceNeg, ↓reduceIte, ↓reduceDIte]
  refine CT_val hmet_nil ?_
  simp -dsimp only [go_sem, Nat.reduceEqDiff, Nat.reduceAdd, Nat.reduceSub, Nat.reduceMul, Nat.reduceLeDiff, Nat.reduceLT, Nat.reduceBEq, Int.reduceLT, Int.reduceLE, Int.reduceGT, Int.reduceGE, Int.reduceEq, Int.reduceNe, Int.reduceBEq, Int.reduceBNe, Int.reduceAdd, Int.reduceSub, Int.reduceMul, Int.reduceToNat, Int.reduceNeg, ↓reduceIte, ↓reduceDIte]
  refine CT_val (steps_ev (mm _)) ?_
  simp -dsimp only [go_sem, Nat.reduceEqDiff, Nat.reduceAdd, Nat.reduceSub, Nat.reduceMul, Nat.reduceLeDiff, Nat.reduceLT, Nat.reduceBEq, Int.reduceLT, Int.reduceLE, Int.reduceGT, Int.reduceGE, Int.reduceEq, Int.reduceNe, Int.reduceBEq, Int.reduceBNe, Int.reduceAdd, Int.reduceSub, Int.reduceMul, Int.reduceToNat, Int.reduceNeg, ↓reduceIte, ↓reduceDIte, st]
  refine phR_ev (t := t) (s := s) ok st (by simp -dsimp only [go_sem, Nat.reduceEqDiff, Nat.reduceAdd, Nat.reduceSub, Nat.reduceMul, Nat.reduceLeDiff, Nat.reduceLT, Nat.reduceBEq, Int.reduceLT, Int.reduceLE, Int.reduceGT, Int.reduceGE, Int.reduceEq, Int.reduceNe, Int.reduceBEq, Int.reduceBNe, Int.reduceAdd, Int.reduceSub, Int.reduceMul, Int.reduceToNat, Int.reduceNeg, ↓reduceIte, ↓reduceDIte]) (by simp -dsimp only [go_sem, Nat.reduceEqDiff, Nat.reduceAdd, Nat.reduceSub, Nat.reduceMul, Nat.reduceLeDiff, Nat.reduceLT, Nat.reduceBEq, Int.reduceLT, Int.reduceLE, Int.reduceGT, Int.reduceGE, Int.reduceEq, Int.reduceNe, Int.reduceBEq, Int.reduceBNe, Int.reduceAdd, Int.reduceSub, Int.reduceMul, Int.reduceToNat, Int.reduceNeg, ↓reduceIte, ↓reduceDIte]) (by simp -dsimp only [go_sem, Nat.reduceEqDiff, Nat.reduceAdd, Nat.reduceSub, Nat.reduceMul, Nat.reduceLeDiff, Nat.reduceLT, Nat.reduceBEq, Int.reduceLT, Int.reduceLE, Int.reduceGT, Int.reduceGE, Int.reduceEq, Int.reduceNe, Int.reduceBEq, Int.reduceBNe, Int.reduceAdd, Int.reduceSub, Int.reduceMul, Int.reduceToNat, Int.reduceNeg, ↓reduceIte, ↓reduceDIte]) (by simp -dsimp only [go_sem, Nat.reduceEqDiff, Nat.reduceAdd, Nat.reduceSub, Nat.reduceMul, Nat.reduceLeDiff, Nat.reduceLT, Nat.reduceBEq, Int.reduceLT, Int.reduceLE, Int.reduceGT, Int.reduceGE, Int.reduceEq, Int.reduceNe, Int.reduceBEq, Int.reduceBNe, Int.reduceAdd, Int.reduceSub, Int.reduceMul, Int.reduceToNat, Int.reduceNeg, ↓reduceIte, ↓reduceDIte]) ?_
  intro e' H' h6
  simp -dsimp only [go_sem, Nat.reduceEqDiff, Nat.reduceAdd, Nat.reduceSub, Nat.reduceMul, Nat.reduceLeDiff, Nat.reduceLT, Nat.reduceBEq, Int.reduceLT, Int.reduceLE, Int.reduceGT, Int.reduceGE, Int.reduceEq, Int.reduceNe, Int.reduceBEq, Int.reduceBNe, Int.reduceAdd, Int.reduceSub, Int.reduceMul, Int.reduceToNat, Int.reduceNeg, ↓reduceIte, ↓reduceDIte, h6]
end Go.Proofs.Ytcogpinognopcaa
/- The statement HpClears. -/
namespace Go.Proofs.Ytcogpinognopcaa
open Go Go.LK
set_option linter.unusedSimpArgs false
set_option linter.unusedVariables false
/-- The numbers but 0. -/
def nz (l : List (BitVec 64)) : List (BitVec 64) := l.filter fun v => v != 0#64
theorem nz_app (l : List (BitVec 64)) (v : BitVec 64) : nz (l ++ [v]) = if v = 0#64 then nz l else nz l ++ [v] := by
  unfold nz
  rw [List.filter_append]
  by_cases h : v = 0#64
  · simp [h]
  · simp [h]
/-- A scan that has looked at some. -/
def scn (g : GV) (w : List (BitVec 64)) (k : Nat) : HOp :=
  ⟨g, 2, 0, 0, k, if k = 0 then 0#64 else BitVec.ofNat 64 (nz ((w.drop g.a.toNat).take k)).length, nz ((w.drop g.a.toNat).take k), decide (0 < k) && decide ((k : Int) = g.words), 0⟩
theorem scn_step {g : GV} {w : List (BitVec 64)} {m : MV} (c : Clean m w) (hr : g.right = true) {k : Nat} (hk : (k : Int) < g.words) (hw : g.a + g.words ≤ w.length) :
    ((scn g w k).step m).1 = scn g w (k + 1) ∧ Clean ((scn g w k).step m).2 w := by
  obtain ⟨a0, a1, t0, t1, s0, s1⟩ := GV.right_of hr
  have hd : (scn g w k).done = false := by simp [scn]; omega
  have es : (scn g w k).step m = ({ scn g w k with met := (if m.load (g.a + k) = 0#64 then (scn g w k).met else (scn g w k).met ++ [m.load (g.a + k)]), at_ := (k : Int) + 1, p := BitVec.ofNat 64 (if m.load (g.a + k) = 0#64 then (scn g w k).met else (scn g w k).met ++ [m.load (g.a + k)]).length, done := decide ((k : Int) + 1 = g.words) }, m.use 0 (g.a + k) id) := by
    simp only [HOp.step, hd]; rfl
  have hl : m.load (g.a + k) = w.getD (g.a.toNat + k) 0 := by
    rw [MV.load, c.bad (by omega) (by omega), c.at]
    rw [show (g.a + (k : Int)).toNat = g.a.toNat + k by omega]; rfl
  have hlt : g.a.toNat + k < w.length := by omega
  have ht : (w.drop g.a.toNat).take (k + 1) = (w.drop g.a.toNat).take k ++ [w.getD (g.a.toNat + k) 0] := by
    rw [List.take_add_one, List.getElem?_drop, List.getElem?_eq_getElem hlt]
    simp [List.getD, hlt]
  rw [es]
  refine ⟨?_, c.use_id (by omega) (by omega) 0⟩
  rw [hl]
  have hm : (if w.getD (g.a.toNat + k) 0 = 0#64 then (scn g w k).met else (scn g w k).met ++ [w.getD (g.a.toNat + k) 0]) = nz ((w.drop g.a.toNat).take (k + 1)) := by
    rw [ht, nz_app]; rfl
  rw [hm]
  simp [scn]
theorem nz_at : ∀ (l : List (BitVec 64)) (i : Nat) (v : BitVec 64), l[i]? = some v → v ≠ 0#64 → (nz l)[(nz (l.take i)).length]? = some v
  | [], i, v, h, _ => by simp at h
  | x :: l, 0, v, h, hv => by
    simp only [List.getElem?_cons_zero, Option.some.injEq] at h
    subst h
    have : nz (x :: l) = x :: nz l := by simp [nz, hv]
    rw [this]; rfl
  | x :: l, i + 1, v, h, hv => by
    simp only [List.getElem?_cons_succ] at h
    have ih := nz_at l i v h hv
    by_cases hx : x = 0#64
    · have e1 : nz (x :: l) = nz l := by simp [nz, hx]
      have e2 : nz ((x :: l).take (i + 1)) = nz (l.take i) := by simp [nz, hx]
      rw [e1, e2]; exact ih
    · have e1 : nz (x :: l) = x :: nz l := by simp [nz, hx]
      have e2 : nz ((x :: l).take (i + 1)) = x :: nz (l.take i) := by simp [nz, hx]
      rw [e1, e2, List.length_cons, List.getElem?_cons_succ]; exact ih
theorem nz_le (l : List (BitVec 64)) (i : Nat) (v : BitVec 64) (h : l[i]? = some v) (hv : v ≠ 0#64) : (nz (l.take i)).length < (nz l).length :=
  (List.getElem?_eq_some_iff.1 (nz_at l i v h hv)).1
/-- What is laid ahead. -/
def lays (l : List (BitVec 64)) : Nat → List (BitVec 64)
  | 0 => List.replicate 12 0#64
  | k + 1 => (lays l k).set (4 + k) (l.getD k 1)
theorem lays_len (l : List (BitVec 64)) : ∀ k, (lays l k).length = 12
  | 0 => rfl
  | k + 1 => by rw [lays, List.length_set, lays_len l k]
theorem Clean.peek {m : MV} {w : List (BitVec 64)} (c : Clean m w) {p n : Nat} (h : p + n ≤ w.length) (hn : 0 < n) : m.peek p n = (w.drop p).take n := by
  unfold MV.peek
  rw [c.ws, if_neg (by omega), if_neg (by omega), if_neg (by omega)]
  congr 1
  omega
theorem nz_len (l : List (BitVec 64)) (k : Nat) : (nz (l.take k)).length ≤ k := by
  refine Nat.le_trans (List.length_filter_le _ _) ?_
  rw [List.length_take]; omega
set_option maxHeartbeats 1000000 in
theorem clears_ev {lim : Nat} {H : LHeap} {a : Option Addr} {l : List (BitVec 64)} {t s : Int} (hl : Sl 1 H a (l.map w64)) : callE T 5 lim [.slice a l.length l.length, i64 t, i64 s] H fun v H' => v = .bool true := by
  refine callE_pop rfl (by simp) rfl ?_
  simp -dsimp only [go_sem, Nat.reduceEqDiff, Nat.reduceAdd, Nat.reduceSub, Nat.reduceMul, Nat.reduceLeDiff, Nat.reduceLT, Nat.reduceBEq, Int.reduceLT, Int.reduceLE, Int.reduceGT, Int.reduceGE, Int.reduceEq, Int.reduceNe, Int.reduceBEq, Int.reduceBNe, Int.reduceAdd, Int.reduceSub, Int.reduceMul, Int.reduceToNat, Int.reduceNeg, ↓reduceIte, ↓reduceDIte]
  refine CT_of (new_ev (by simp)) ?_
  rintro _ _ h
  rw [if_neg (by decide)] at h
  obtain ⟨rfl, rfl⟩ := h
  have ok := MV.Ok.new (n := 12) (by decide) (by decide)
  have cl0 := Clean.new (n := 12) (by decide) (by decide)
  simp only [show (12 : Int).toNat = 12 from rfl]
  generalize MV.new 12 = m0 at ok cl0 ⊢
  have mm := fun (m : MV) (ok : m.Ok 12) l => mem_at (H := H) (pre := [gro ⟨4, 4, 2⟩]) (t := l) ok
  simp only [List.length_cons, List.length_nil, Nat.zero_add, List.cons_append, List.nil_append, Nat.reduceAdd] at mm
  simp -dsimp only [go_sem, Nat.reduceEqDiff, Nat.reduceAdd, Nat.reduceSub, Nat.reduceMul, Nat.reduceLeDiff, Nat.reduceLT, Nat.reduceBEq, Int.reduceLT, Int.reduceLE, Int.reduceGT, Int.reduceGE, Int.reduceEq, Int.reduceNe, Int.reduceBEq, Int.reduceBNe, Int.reduceAdd, Int.reduceSub, Int.reduceMul, Int.reduceToNat, Int.reduceNeg, ↓reduceIte, ↓reduceDIte, Nat.add_assoc]
  refine CT_of (setup_ev (g := ⟨4, 4, 2⟩) (mm _ ok _) cl0 rfl (by decide)) ?_
  rintro _ _ ⟨m1, cl1, rfl, rfl⟩
  simp -dsimp only [go_sem, Nat.reduceEqDiff, Nat.reduceAdd, Nat.reduceSub, Nat.reduceMul, Nat.reduceLeDiff, Nat.reduceLT, Nat.reduceBEq, Int.reduceLT, Int.reduceLE, Int.reduceGT, Int.reduceGE, Int.reduceEq, Int.reduceNe, Int.reduceBEq, Int.reduceBNe, Int.reduceAdd, Int.reduceSub, Int.reduceMul, Int.reduceToNat, Int.reduceNeg, ↓reduceIte, ↓reduceDIte, memPut]
  refine LT_of (fun s' : Nat × MV => [(0, .slice a l.length l.length), (1, i64 t), (2, i64 s), (7, ptr H.length), (8, ptr (H.length + 3)), (10, i64 s'.1)]) (fun s' => H ++ [gro ⟨4, 4, 2⟩, wrow s'.2, brow s'.2, mrow (H.length + 1) (H.length + 2) s'.2]) (fun s' => s'.1 ≤ 8 ∧ Clean s'.2 (lays l s'.1)) (fun s' => 8 - s'.1) (0, m1) rfl rfl ⟨by omega, cl1⟩ ?_
  rintro ⟨i, m⟩ ⟨hi, cl⟩
  simp only at hi cl ⊢
  have hll := lays_len l i
  have okm : m.Ok 12 := by have := cl.ok; rwa [hll] at this
  by_cases hlt : i < 8
  · have c1 : (i : Int) < 8 := by omega
    have w1 : IntKind.i64.wrap ((i : Int) + 1) = ((i + 1 : Nat) : Int) := by rw [wrap_i64] <;> omega
    have w2 : IntKind.i64.wrap (4 + (i : Int)) = 4 + i := by rw [wrap_i64] <;> omega
    by_cases hil : i < l.length
    · have c2 : (i : Int) < l.length := by omega
      have c0 : 0 ≤ (i : Int) := by omega
      obtain ⟨bk, ok', rfl, _, hg⟩ := hl.all (by simp; omega)
      have gk := fun t => hg t i (w64 (l.getD i 1)) (by simp [hil])
      simp -dsimp only [go_sem, Nat.reduceEqDiff, Nat.reduceAdd, Nat.reduceSub, Nat.reduceMul, Nat.reduceLeDiff, Nat.reduceLT, Nat.reduceBEq, Int.reduceLT, Int.reduceLE, Int.reduceGT, Int.reduceGE, Int.reduceEq, Int.reduceNe, Int.reduceBEq, Int.reduceBNe, Int.reduceAdd, Int.reduceSub, Int.reduceMul, Int.reduceToNat, Int.reduceNeg, ↓reduceIte, ↓reduceDIte, c1, c2, c0, w1, w2, gk]
      refine CT_of (store_c (mm _ okm _) cl (by omega) (by rw [hll]; omega)) ?_
      rintro _ _ ⟨m2, cl2, rfl⟩
      rw [show (4 + (i : Int)).toNat = 4 + i by omega] at cl2
      simp -dsimp only [go_sem, Nat.reduceEqDiff, Nat.reduceAdd, Nat.reduceSub, Nat.reduceMul, Nat.reduceLeDiff, Nat.reduceLT, Nat.reduceBEq, Int.reduceLT, Int.reduceLE, Int.reduceGT, Int.reduceGE, Int.reduceEq, Int.reduceNe, Int.reduceBEq, Int.reduceBNe, Int.reduceAdd, Int.reduceSub, Int.reduceMul, Int.reduceToNat, Int.reduceNeg, ↓reduceIte, ↓reduceDIte, memPut, w1]
      exact ⟨(i + 1, m2), rfl, rfl, ⟨by simp only; omega, cl2⟩, by simp only; omega⟩
    · have c2 : ¬ (i : Int) < l.length := by omega
      have e1 : l.getD i 1 = 1#64 := by simp [List.getD, List.getElem?_eq_none (show l.length ≤ i by omega)]
      simp -dsimp only [go_sem, Nat.reduceEqDiff, Nat.reduceAdd, Nat.reduceSub, Nat.reduceMul, Nat.reduceLeDiff, Nat.reduceLT, Nat.reduceBEq, Int.reduceLT, Int.reduceLE, Int.reduceGT, Int.reduceGE, Int.reduceEq, Int.reduceNe, Int.reduceBEq, Int.reduceBNe, Int.reduceAdd, Int.reduceSub, Int.reduceMul, Int.reduceToNat, Int.reduceNeg, ↓reduceIte, ↓reduceDIte, c1, c2, w1, w2]
      refine CT_of (store_c (mm _ okm _) cl (by omega) (by rw [hll]; omega)) ?_
      rintro _ _ ⟨m2, cl2, rfl⟩
      rw [show (4 + (i : Int)).toNat = 4 + i by omega, ← e1] at cl2
      simp -dsimp only [go_sem, Nat.reduceEqDiff, Nat.reduceAdd, Nat.reduceSub, Nat.reduceMul, Nat.reduceLeDiff, Nat.reduceLT, Nat.reduceBEq, Int.reduceLT, Int.reduceLE, Int.reduceGT, Int.reduceGE, Int.reduceEq, Int.reduceNe, Int.reduceBEq, Int.reduceBNe, Int.reduceAdd, Int.reduceSub, Int.reduceMul, Int.reduceToNat, Int.reduceNeg, ↓reduceIte, ↓reduceDIte, memPut, w1]
      exact ⟨(i + 1, m2), rfl, rfl, ⟨by simp only; omega, cl2⟩, by simp only; omega⟩
  · have c1 : ¬ (i : Int) < 8 := by omega
    obtain ⟨t1, ht1, t0, t3⟩ := andK t 3 (by decide)
    obtain ⟨s1, hs1, s0, s3⟩ := andK s 1 (by decide)
    have t3 : t1 ≤ 3 := t3
    have s3 : s1 ≤ 1 := s3
    obtain rfl : i = 8 := by omega
    generalize lays l 8 = w at cl hll
    simp -dsimp only [go_sem, Nat.reduceEqDiff, Nat.reduceAdd, Nat.reduceSub, Nat.reduceMul, Nat.reduceLeDiff, Nat.reduceLT, Nat.reduceBEq, Int.reduceLT, Int.reduceLE, Int.reduceGT, Int.reduceGE, Int.reduceEq, Int.reduceNe, Int.reduceBEq, Int.reduceBNe, Int.reduceAdd, Int.reduceSub, Int.reduceMul, Int.reduceToNat, Int.reduceNeg, ↓reduceIte, ↓reduceDIte, c1, ht1, hs1]
    refine CT_of (peek_ev (by simp) (mm m okm _) (by decide)) ?_
    rintro _ _ ⟨aw, tw, rfl, rfl, ow⟩
    have hp1 : m.peek 4 8 = (w.drop 4).take 8 := cl.peek (p := 4) (n := 8) (by omega) (by decide)
    have hpl : ((w.drop 4).take 8).length = 8 := by simp [hll]
    rw [hp1] at ow ⊢
    rw [hpl]
    have r0 : (H ++ [gro ⟨4, 4, 2⟩, wrow m, brow m, mrow (H.length + 1) (H.length + 2) m] ++ tw)[H.length]? = some (gro ⟨4, 4, 2⟩) := get_old (get_app0 _ _) _
    have r1 := (mm m okm []).app tw
    have ow1 := ow.sl
    have hK : H.length + 4 ≤ (H ++ [gro ⟨4, 4, 2⟩, wrow m, brow m, mrow (H.length + 1) (H.length + 2) m] ++ tw).length := by simp
    have hfr := ow.fresh
    have hfr2 : Fresh (H.length + 4) aw := hfr.mono (by simp)
    generalize H ++ [gro ⟨4, 4, 2⟩, wrow m, brow m, mrow (H.length + 1) (H.length + 2) m] ++ tw = K0 at r0 r1 ow1 hK ⊢
    clear ow hfr
    have g0 : lcells K0 H.length 0 3 = some [i64 4, i64 4, i64 2] := lcells_of r0 rfl
    simp -dsimp only [go_sem, Nat.reduceEqDiff, Nat.reduceAdd, Nat.reduceSub, Nat.reduceMul, Nat.reduceLeDiff, Nat.reduceLT, Nat.reduceBEq, Int.reduceLT, Int.reduceLE, Int.reduceGT, Int.reduceGE, Int.reduceEq, Int.reduceNe, Int.reduceBEq, Int.reduceBNe, Int.reduceAdd, Int.reduceSub, Int.reduceMul, Int.reduceToNat, Int.reduceNeg, ↓reduceIte, ↓reduceDIte, g0]
    refine CT_of (hclear_ev (g := ⟨4, 4, 2⟩) (by omega)) ?_
    rintro _ _ ⟨u1, rfl, rfl⟩
    have hhas : (GV.mk 4 4 2).has t1 s1 = true := by
      have e1 : (GV.mk 4 4 2).right = true := rfl
      simp [GV.has, e1]; omega
    have hslot : (GV.mk 4 4 2).slot t1 s1 = 4 + t1 * 2 + s1 := by rw [GV.slot, if_pos hhas]
    rw [(GV.mk 4 4 2).slot_ge, hhas, hslot]
    simp only [HOp.begins, if_true]
    have A1 : Ahd H.length (K0.length + 2) (K0 ++ [u1, hrw none ⟨⟨4, 4, 2⟩, 1, 4 + t1 * 2 + s1, 0, 0, 0#64, [], false, 0⟩]) (K0.length + 1) (H.length + 3) (H.length + 1) (H.length + 2) none ⟨⟨4, 4, 2⟩, 1, 4 + t1 * 2 + s1, 0, 0, 0#64, [], false, 0⟩ m :=
      ⟨get_app K0 _ 1, Own.nil _ _ _, r1.app _, by omega, by omega, by omega, by omega, by omega, by omega, by omega, by omega, by omega, by simp⟩
    simp -dsimp only [go_sem, Nat.reduceEqDiff, Nat.reduceAdd, Nat.reduceSub, Nat.reduceMul, Nat.reduceLeDiff, Nat.reduceLT, Nat.reduceBEq, Int.reduceLT, Int.reduceLE, Int.reduceGT, Int.reduceGE, Int.reduceEq, Int.reduceNe, Int.reduceBEq, Int.reduceBNe, Int.reduceAdd, Int.reduceSub, Int.reduceMul, Int.reduceToNat, Int.reduceNeg, ↓reduceIte, ↓reduceDIte]
    refine CT_of (hstep_ev (n := 0) A1 rfl (by simp only; omega) rfl (by decide)) ?_
    rintro _ K2 ⟨rfl, ac, S1⟩
    have es : HOp.step ⟨⟨4, 4, 2⟩, 1, 4 + t1 * 2 + s1, 0, 0, 0#64, [], false, 0⟩ m = (⟨⟨4, 4, 2⟩, 1, 4 + t1 * 2 + s1, 0, 0, 0#64, [], true, 0⟩, m.use 1 (4 + t1 * 2 + s1) (fun _ => 0#64)) := rfl
    rw [es] at S1 ⊢
    obtain ⟨S, hS⟩ := Int.eq_ofNat_of_zero_le (show 0 ≤ t1 * 2 + s1 by omega)
    have cl2 : Clean (m.use 1 (4 + t1 * 2 + s1) (fun _ => 0#64)) (w.set (4 + S) 0#64) := by
      have := cl.use (a := 4 + t1 * 2 + s1) (by omega) (by omega) 1 (fun _ => 0#64)
      rwa [show (4 + t1 * 2 + s1).toNat = 4 + S by omega] at this
    have hll2 : (w.set (4 + S) 0#64).length = 12 := by simp [hll]
    have q0 : K2[H.length]? = some (gro ⟨4, 4, 2⟩) := by
      rw [S1.pre _ (by simp; omega) (by omega) (by omega) (by omega) (by omega) (fun _ h => by cases h)]
      exact get_old r0 _
    have q1 : Sl 1 K2 aw (((w.drop 4).take 8).map w64) := by
      rcases ow1 with h | ⟨b, o, ro, es, cc, h1, h2, h3⟩
      · exact .inl h
      · have hb := (List.getElem?_eq_some_iff.1 h2).1
        have hb2 := hfr2 _ h1
        simp only at hb2
        refine .inr ⟨b, o, ro, es, cc, h1, ?_, h3⟩
        rw [S1.pre b (by simp; omega) (by omega) (by omega) (by omega) (by omega) (fun _ h => by cases h)]
        exact get_old h2 _
    have q2 := S1.mem
    have hK2 : H.length + 4 ≤ K2.length := by have := S1.len; simp at this; omega
    generalize m.use 1 (4 + t1 * 2 + s1) (fun _ => 0#64) = m2 at cl2 q2 ⊢
    clear S1 A1 r0 r1 ow1 hK g0
    have g0 : lcells K2 H.length 0 3 = some [i64 4, i64 4, i64 2] := lcells_of q0 rfl
    simp -dsimp only [go_sem, Nat.reduceEqDiff, Nat.reduceAdd, Nat.reduceSub, Nat.reduceMul, Nat.reduceLeDiff, Nat.reduceLT, Nat.reduceBEq, Int.reduceLT, Int.reduceLE, Int.reduceGT, Int.reduceGE, Int.reduceEq, Int.reduceNe, Int.reduceBEq, Int.reduceBNe, Int.reduceAdd, Int.reduceSub, Int.reduceMul, Int.reduceToNat, Int.reduceNeg, ↓reduceIte, ↓reduceDIte, g0]
    refine CT_of (hscan_ev (g := ⟨4, 4, 2⟩) (by omega)) ?_
    rintro _ _ ⟨u2, rfl, rfl⟩
    rw [show HOp.begins ⟨⟨4, 4, 2⟩, 2, 0, 0, 0, 0#64, [], false, 0⟩ (GV.mk 4 4 2).right = scn ⟨4, 4, 2⟩ (w.set (4 + S) 0#64) 0 from rfl]
    generalize hw2 : w.set (4 + S) 0#64 = w2 at cl2 hll2 ⊢
    have A3 : Ahd H.length (K2.length + 2) (K2 ++ [u2, hrw none (scn ⟨4, 4, 2⟩ w2 0)]) (K2.length + 1) (H.length + 3) (H.length + 1) (H.length + 2) none (scn ⟨4, 4, 2⟩ w2 0) m2 :=
      ⟨get_app K2 _ 1, Own.nil _ _ _, q2.app _, by omega, by omega, by omega, by omega, by omega, by omega, by omega, by omega, by omega, by simp⟩
    have q1' := q1.app [u2, hrw none (scn ⟨4, 4, 2⟩ w2 0)]
    have hfr3 : ∀ x, aw = some x → H.length + 4 ≤ x.block ∧ x.block < K2.length := fun x hx => ⟨hfr2 _ hx, by
      rcases q1 with h | ⟨b, o, ro, es, cc, h1, h2, h3⟩
      · rw [h.1] at hx; cases hx
      · rw [h1] at hx; cases hx; exact (List.getElem?_eq_some_iff.1 h2).1⟩
    generalize K2 ++ [u2, hrw none (scn ⟨4, 4, 2⟩ w2 0)] = K3 at A3 q1' ⊢
    have ho3 : ∃ o, o = K2.length + 1 := ⟨_, rfl⟩
    obtain ⟨o3, ho3⟩ := ho3
    rw [← ho3] at A3 ⊢
    have hlo : K2.length + 2 = o3 + 1 := by omega
    rw [hlo] at A3
    simp -dsimp only [go_sem, Nat.reduceEqDiff, Nat.reduceAdd, Nat.reduceSub, Nat.reduceMul, Nat.reduceLeDiff, Nat.reduceLT, Nat.reduceBEq, Int.reduceLT, Int.reduceLE, Int.reduceGT, Int.reduceGE, Int.reduceEq, Int.reduceNe, Int.reduceBEq, Int.reduceBNe, Int.reduceAdd, Int.reduceSub, Int.reduceMul, Int.reduceToNat, Int.reduceNeg, ↓reduceIte, ↓reduceDIte]
    refine LT_of (fun s' : Nat × LHeap × Option Addr × MV => [(1, i64 t1), (2, i64 s1), (8, ptr (H.length + 3)), (12, .slice aw 8 8), (14, ptr o3), (15, i64 s'.1)]) (fun s' => s'.2.1) (fun s' => s'.1 ≤ 8 ∧ Ahd H.length (o3 + 1) s'.2.1 o3 (H.length + 3) (H.length + 1) (H.length + 2) s'.2.2.1 (scn ⟨4, 4, 2⟩ w2 s'.1) s'.2.2.2 ∧ Clean s'.2.2.2 w2 ∧ Sl 1 s'.2.1 aw (((w.drop 4).take 8).map w64)) (fun s' => 8 - s'.1) (0, K3, none, m2) rfl rfl ⟨by omega, A3, cl2, q1'⟩ ?_
    rintro ⟨k, K, ak, mk⟩ ⟨hk, A, clk, qk⟩
    simp only at hk A clk qk ⊢
    clear A3 q1'
    by_cases hk8 : k < 8
    · have c2 : (k : Int) < 8 := by omega
      have w1 : IntKind.i64.wrap ((k : Int) + 1) = ((k + 1 : Nat) : Int) := by rw [wrap_i64] <;> omega
      have hd : (scn ⟨4, 4, 2⟩ w2 k).done = false := by
        have : (GV.mk 4 4 2).words = 8 := rfl
        simp [scn, this]; omega
      have st := scn_step clk (show (GV.mk 4 4 2).right = true from rfl) (k := k) (by show (k : Int) < 8; omega) (by show (4 : Int) + 8 ≤ w2.length; omega)
      have hml := nz_len (w2.drop 4) k
      simp -dsimp only [go_sem, Nat.reduceEqDiff, Nat.reduceAdd, Nat.reduceSub, Nat.reduceMul, Nat.reduceLeDiff, Nat.reduceLT, Nat.reduceBEq, Int.reduceLT, Int.reduceLE, Int.reduceGT, Int.reduceGE, Int.reduceEq, Int.reduceNe, Int.reduceBEq, Int.reduceBNe, Int.reduceAdd, Int.reduceSub, Int.reduceMul, Int.reduceToNat, Int.reduceNeg, ↓reduceIte, ↓reduceDIte, c2]
      refine CT_val (hdone_ev A.row) ?_
      simp -dsimp only [go_sem, Nat.reduceEqDiff, Nat.reduceAdd, Nat.reduceSub, Nat.reduceMul, Nat.reduceLeDiff, Nat.reduceLT, Nat.reduceBEq, Int.reduceLT, Int.reduceLE, Int.reduceGT, Int.reduceGE, Int.reduceEq, Int.reduceNe, Int.reduceBEq, Int.reduceBNe, Int.reduceAdd, Int.reduceSub, Int.reduceMul, Int.reduceToNat, Int.reduceNeg, ↓reduceIte, ↓reduceDIte, hd]
      refine CT_of (hstep_ev A rfl (by simp only [scn]; omega) rfl (by simp only [scn]; show (nz ((w2.drop 4).take k)).length < _; omega)) ?_
      rintro _ K5 ⟨rfl, a5, S5⟩
      rw [st.1] at S5
      simp -dsimp only [go_sem, Nat.reduceEqDiff, Nat.reduceAdd, Nat.reduceSub, Nat.reduceMul, Nat.reduceLeDiff, Nat.reduceLT, Nat.reduceBEq, Int.reduceLT, Int.reduceLE, Int.reduceGT, Int.reduceGE, Int.reduceEq, Int.reduceNe, Int.reduceBEq, Int.reduceBNe, Int.reduceAdd, Int.reduceSub, Int.reduceMul, Int.reduceToNat, Int.reduceNeg, ↓reduceIte, ↓reduceDIte, w1]
      refine ⟨(k + 1, K5, a5, _), rfl, rfl, ⟨by simp only; omega, A.next S5, st.2, ?_⟩, by simp only; omega⟩
      rcases qk with h | ⟨b, o, ro, es, cc, h1, h2, h3⟩
      · exact .inl h
      · have hb := hfr3 _ h1
        simp only at hb
        refine .inr ⟨b, o, ro, es, cc, h1, ?_, h3⟩
        simp only
        rw [A.keep S5 (by omega) (by omega) (by omega) (by omega) (by omega)]
        exact h2
    · obtain rfl : k = 8 := by omega
      simp -dsimp only [go_sem, Nat.reduceEqDiff, Nat.reduceAdd, Nat.reduceSub, Nat.reduceMul, Nat.reduceLeDiff, Nat.reduceLT, Nat.reduceBEq, Int.reduceLT, Int.reduceLE, Int.reduceGT, Int.reduceGE, Int.reduceEq, Int.reduceNe, Int.reduceBEq, Int.reduceBNe, Int.reduceAdd, Int.reduceSub, Int.reduceMul, Int.reduceToNat, Int.reduceNeg, ↓reduceIte, ↓reduceDIte]
      refine CT_of (peek_ev (by have := A.l6; omega) A.mem (by decide)) ?_
      rintro _ _ ⟨an, tn, rfl, rfl, on⟩
      have hp2 : mk.peek 4 8 = (w2.drop 4).take 8 := clk.peek (p := 4) (n := 8) (by omega) (by decide)
      have hpl2 : ((w2.drop 4).take 8).length = 8 := by simp [hll2]
      rw [hp2] at on ⊢
      rw [hpl2]
      simp -dsimp only [go_sem, Nat.reduceEqDiff, Nat.reduceAdd, Nat.reduceSub, Nat.reduceMul, Nat.reduceLeDiff, Nat.reduceLT, Nat.reduceBEq, Int.reduceLT, Int.reduceLE, Int.reduceGT, Int.reduceGE, Int.reduceEq, Int.reduceNe, Int.reduceBEq, Int.reduceBNe, Int.reduceAdd, Int.reduceSub, Int.reduceMul, Int.reduceToNat, Int.reduceNeg, ↓reduceIte, ↓reduceDIte]
      have A2 := A.app tn
      refine CT_of (hmet_ev (by have := A2.l6; omega) A2.row A2.own rfl (by simp only [scn]; have := nz_len (w2.drop 4) 8; show (nz ((w2.drop 4).take 8)).length < _; omega)) ?_
      rintro _ _ ⟨am, tm, rfl, rfl, om⟩
      have A4 := A2.app tm
      have qk2 := (qk.app tn).app tm
      have on2 := (on.app tm).sl
      have om2 := om.sl
      have hmet : (scn ⟨4, 4, 2⟩ w2 8).met = nz ((w2.drop 4).take 8) := rfl
      rw [hmet] at om2 ⊢
      generalize K ++ tn ++ tm = K6 at A4 qk2 on2 om2 ⊢
      have hN : (w2.drop 4).take 8 = ((w.drop 4).take 8).set S 0#64 := by
        rw [← hw2]
        apply List.ext_getElem?
        intro j
        have hSl : S < 8 := by omega
        by_cases e : S = j
        · subst e
          rw [List.getElem?_set_self (by rw [hpl]; exact hSl), List.getElem?_take, if_pos hSl, List.getElem?_drop, List.getElem?_set_self (by omega)]
        · rw [List.getElem?_set_ne e, List.getElem?_take, List.getElem?_take, List.getElem?_drop, List.getElem?_drop, List.getElem?_set_ne (by omega)]
      have hNl : ((w2.drop 4).take 8).length = 8 := hpl2
      generalize (w2.drop 4).take 8 = Nw at hN hNl on2 om2 ⊢
      generalize (w.drop 4).take 8 = Ww at hN hpl qk2 ⊢
      obtain ⟨bn, onn, rfl, _, hgn⟩ := on2.all (by simp; omega)
      obtain ⟨bw, oww, rfl, _, hgw⟩ := qk2.all (by simp; omega)
      have okM : ∀ j v, Nw[j]? = some v → v ≠ 0#64 → ∃ bm omm, am = some ⟨bm, omm, none⟩ ∧ lget K6 bm (omm + (nz (Nw.take j)).length) = some (w64 v) := by
        intro j v hj hv
        have h1 := nz_le Nw j v hj hv
        obtain ⟨bm, omm, rfl, _, hgm⟩ := om2.all (by simp; omega)
        refine ⟨bm, omm, rfl, ?_⟩
        have := hgm [] (nz (Nw.take j)).length (w64 v) (by rw [List.getElem?_map, nz_at Nw j v hj hv]; rfl)
        rwa [List.append_nil] at this
      simp -dsimp only [go_sem, Nat.reduceEqDiff, Nat.reduceAdd, Nat.reduceSub, Nat.reduceMul, Nat.reduceLeDiff, Nat.reduceLT, Nat.reduceBEq, Int.reduceLT, Int.reduceLE, Int.reduceGT, Int.reduceGE, Int.reduceEq, Int.reduceNe, Int.reduceBEq, Int.reduceBNe, Int.reduceAdd, Int.reduceSub, Int.reduceMul, Int.reduceToNat, Int.reduceNeg, ↓reduceIte, ↓reduceDIte]
      refine LT_of (fun s' : Nat => [(1, i64 t1), (2, i64 s1), (12, .slice (some ⟨bw, oww, none⟩) 8 8), (14, ptr o3), (16, .slice (some ⟨bn, onn, none⟩) 8 8), (17, .slice am (nz Nw).length (nz Nw).length), (18, i64 (nz (Nw.take s')).length), (19, i64 s')]) (fun _ => K6) (fun s' => s' ≤ 8) (fun s' => 8 - s') 0 rfl rfl (by omega) ?_
      intro i hi8
      by_cases hi : i < 8
      · have c3 : (i : Int) < 8 := by omega
        have c0 : 0 ≤ (i : Int) := by omega
        have w1 : IntKind.i64.wrap ((i : Int) + 1) = ((i + 1 : Nat) : Int) := by rw [wrap_i64] <;> omega
        have w2' : IntKind.i64.wrap (2 * t1) = 2 * t1 := by rw [wrap_i64] <;> omega
        have w3 : IntKind.i64.wrap (2 * t1 + s1) = 2 * t1 + s1 := by rw [wrap_i64] <;> omega
        have gn := hgn [] i (w64 (Nw.getD i 0)) (by simp [hNl, hi])
        have gw := hgw [] i (w64 (Ww.getD i 0)) (by simp [hpl, hi])
        simp only [List.append_nil] at gn gw
        have hv : Nw[i]? = some (Nw.getD i 0) := by rw [List.getElem?_eq_getElem (by omega)]; simp [List.getD, hNl, hi]
        have htk : Nw.take (i + 1) = Nw.take i ++ [Nw.getD i 0] := by rw [List.take_add_one, hv]; rfl
        have hnz : nz (Nw.take (i + 1)) = if Nw.getD i 0 = 0#64 then nz (Nw.take i) else nz (Nw.take i) ++ [Nw.getD i 0] := by rw [htk, nz_app]
        have hb1 := nz_len Nw i
        by_cases eS : i = S
        · have own : ((i : Int) == 2 * t1 + s1) = true := by rw [beq_iff_eq]; omega
          have h0 : Nw.getD i 0 = 0#64 := by rw [hN, eS, List.getD, List.getElem?_set_self (by omega)]; rfl
          rw [if_pos h0] at hnz
          rw [h0] at gn
          simp -dsimp only [go_sem, Nat.reduceEqDiff, Nat.reduceAdd, Nat.reduceSub, Nat.reduceMul, Nat.reduceLeDiff, Nat.reduceLT, Nat.reduceBEq, Int.reduceLT, Int.reduceLE, Int.reduceGT, Int.reduceGE, Int.reduceEq, Int.reduceNe, Int.reduceBEq, Int.reduceBNe, Int.reduceAdd, Int.reduceSub, Int.reduceMul, Int.reduceToNat, Int.reduceNeg, ↓reduceIte, ↓reduceDIte, c3, c0, w1, w2', w3, own, gn, gw]
          exact ⟨i + 1, by rw [hnz], by omega, by omega⟩
        · have own : ((i : Int) == 2 * t1 + s1) = false := by rw [beq_eq_false_iff_ne]; omega
          have h0 : Nw.getD i 0 = Ww.getD i 0 := by rw [hN]; simp only [List.getD]; rw [List.getElem?_set_ne (Ne.symm eS)]
          rw [← h0] at gw
          by_cases hz : Nw.getD i 0 = 0#64
          · rw [if_pos hz] at hnz
            rw [hz] at gn gw
            simp -dsimp only [go_sem, Nat.reduceEqDiff, Nat.reduceAdd, Nat.reduceSub, Nat.reduceMul, Nat.reduceLeDiff, Nat.reduceLT, Nat.reduceBEq, Int.reduceLT, Int.reduceLE, Int.reduceGT, Int.reduceGE, Int.reduceEq, Int.reduceNe, Int.reduceBEq, Int.reduceBNe, Int.reduceAdd, Int.reduceSub, Int.reduceMul, Int.reduceToNat, Int.reduceNeg, ↓reduceIte, ↓reduceDIte, c3, c0, w1, w2', w3, own, gn, gw]
            exact ⟨i + 1, by rw [hnz], by omega, by omega⟩
          · rw [if_neg hz] at hnz
            have hz2 : (Nw.getD i 0 != 0#64) = true := by simpa using hz
            obtain ⟨bm, omm, rfl, gm⟩ := okM i _ hv hz
            have hlt := nz_le Nw i _ hv hz
            have c4 : ¬ ((nz Nw).length : Int) ≤ (nz (Nw.take i)).length := by omega
            have c5 : 0 ≤ ((nz (Nw.take i)).length : Int) := by omega
            have c6 : ((nz (Nw.take i)).length : Int) < (nz Nw).length := by omega
            have w4 : IntKind.i64.wrap (((nz (Nw.take i)).length : Int) + 1) = (((nz (Nw.take i)).length + 1 : Nat) : Int) := by rw [wrap_i64] <;> omega
            simp -dsimp only [go_sem, Nat.reduceEqDiff, Nat.reduceAdd, Nat.reduceSub, Nat.reduceMul, Nat.reduceLeDiff, Nat.reduceLT, Nat.reduceBEq, Int.reduceLT, Int.reduceLE, Int.reduceGT, Int.reduceGE, Int.reduceEq, Int.reduceNe, Int.reduceBEq, Int.reduceBNe, Int.reduceAdd, Int.reduceSub, Int.reduceMul, Int.reduceToNat, Int.reduceNeg, ↓reduceIte, ↓reduceDIte, c3, c0, w1, w2', w3, own, gn, gw, hz2, c4, c5, c6, gm, w4]
            exact ⟨i + 1, by rw [hnz]; simp, by omega, by omega⟩
      · obtain rfl : i = 8 := by omega
        have e8 : Nw.take 8 = Nw := List.take_of_length_le (by omega)
        rw [e8]
        simp -dsimp only [go_sem, Nat.reduceEqDiff, Nat.reduceAdd, Nat.reduceSub, Nat.reduceMul, Nat.reduceLeDiff, Nat.reduceLT, Nat.reduceBEq, Int.reduceLT, Int.reduceLE, Int.reduceGT, Int.reduceGE, Int.reduceEq, Int.reduceNe, Int.reduceBEq, Int.reduceBNe, Int.reduceAdd, Int.reduceSub, Int.reduceMul, Int.reduceToNat, Int.reduceNeg, ↓reduceIte, ↓reduceDIte]
        refine CT_val (hdone_ev A4.row) ?_
        have hd : (scn ⟨4, 4, 2⟩ w2 8).done = true := rfl
        simp -dsimp only [go_sem, Nat.reduceEqDiff, Nat.reduceAdd, Nat.reduceSub, Nat.reduceMul, Nat.reduceLeDiff, Nat.reduceLT, Nat.reduceBEq, Int.reduceLT, Int.reduceLE, Int.reduceGT, Int.reduceGE, Int.reduceEq, Int.reduceNe, Int.reduceBEq, Int.reduceBNe, Int.reduceAdd, Int.reduceSub, Int.reduceMul, Int.reduceToNat, Int.reduceNeg, ↓reduceIte, ↓reduceDIte, hd]
        refine CT_val (one_ev _ _) ?_
        simp -dsimp only [go_sem, Nat.reduceEqDiff, Nat.reduceAdd, Nat.reduceSub, Nat.reduceMul, Nat.reduceLeDiff, Nat.reduceLT, Nat.reduceBEq, Int.reduceLT, Int.reduceLE, Int.reduceGT, Int.reduceGE, Int.reduceEq, Int.reduceNe, Int.reduceBEq, Int.reduceBNe, Int.reduceAdd, Int.reduceSub, Int.reduceMul, Int.reduceToNat, Int.reduceNeg, ↓reduceIte, ↓reduceDIte]
end Go.Proofs.Ytcogpinognopcaa
/- The statement HpMeets: plain. -/
namespace Go.Proofs.Ytcogpinognopcaa
open Go Go.LK
set_option linter.unusedSimpArgs false
set_option linter.unusedVariables false
abbrev g4 : GV := ⟨4, 4, 2⟩
theorem load_cl {m : MV} {w : List (BitVec 64)} (c : Clean m w) {a : Int} (h0 : 0 ≤ a) (h1 : a < w.length) : m.load a = w.getD a.toNat 0 := by
  rw [MV.load, c.bad h0 h1, c.at]; rfl
theorem set_getD {w : List (BitVec 64)} {i j : Nat} {v : BitVec 64} (h : i ≠ j) : (w.set i v).getD j 0 = w.getD j 0 := by
  simp only [List.getD]; rw [List.getElem?_set_ne h]
theorem set_getD_self {w : List (BitVec 64)} {i : Nat} {v : BitVec 64} (h : i < w.length) : (w.set i v).getD i 0 = v := by
  simp only [List.getD]; rw [List.getElem?_set_self h]; rfl
/-- An operation of another thread. -/
structure OpOk (x : HOp) : Prop where
  g : x.g = g4
  kind : x.kind = 0 ∨ x.kind = 1
  s0 : 6 ≤ x.slot
  s1 : x.slot ≤ 9
  w0 : 0 ≤ x.word
  w1 : x.word ≤ 3
  met : x.met = []
  a0 : 0 ≤ x.at_
  a1 : x.at_ ≤ 2
theorem opOk_step {x : HOp} {m : MV} {w : List (BitVec 64)} (h : OpOk x) (c : Clean m w) (hw : w.length = 12) :
    ∃ w', Clean (x.step m).2 w' ∧ w'.length = 12 ∧ w'.getD 5 0 = w.getD 5 0 ∧ OpOk (x.step m).1 := by
  have h0 := h.s0; have h1 := h.s1; have h2 := h.w0; have h3 := h.w1
  have e5 : x.slot.toNat ≠ 5 := by omega
  cases hd : x.done
  · rcases h.kind with k | k
    · by_cases g1 : x.at_ = 1
      · have es : x.step m = ({ x with at_ := 2 }, m.use 1 x.slot (fun _ => x.p)) := by simp [HOp.step, hd, k, g1]
        rw [es]
        exact ⟨_, c.use (by omega) (by omega) 1 (fun _ => x.p), by simp [hw], set_getD e5, ⟨h.g, h.kind, h0, h1, h2, h3, h.met, by simp, by simp⟩⟩
      · have es : x.step m = ({ x with done := decide (x.at_ = 2) && (m.load x.word == x.p), p := m.load x.word, at_ := 1 }, m.use 0 x.word id) := by simp [HOp.step, hd, k, g1]
        rw [es]
        exact ⟨_, c.use_id (by omega) (by omega) 0, hw, rfl, ⟨h.g, h.kind, h0, h1, h2, h3, h.met, by simp, by simp⟩⟩
    · have es : x.step m = ({ x with done := true }, m.use 1 x.slot (fun _ => 0#64)) := by simp [HOp.step, hd, k]
      rw [es]
      exact ⟨_, c.use (by omega) (by omega) 1 (fun _ => 0#64), by simp [hw], set_getD e5, ⟨h.g, h.kind, h0, h1, h2, h3, h.met, h.a0, h.a1⟩⟩
  · have es : x.step m = (x, m) := by simp [HOp.step, hd]
    rw [es]
    exact ⟨w, c, hw, rfl, h⟩
/-- The Protect. -/
structure PO (x : HOp) (w : List (BitVec 64)) : Prop where
  g : x.g = g4
  kind : x.kind = 0
  slot : x.slot = 5
  word : x.word = 0
  met : x.met = []
  code : x.code = 0
  at_ : x.at_ = 0 ∨ x.at_ = 1 ∨ x.at_ = 2
  two : x.done = false → x.at_ = 2 → w.getD 5 0 = x.p
  fin : x.done = true → w.getD 5 0 = x.p
def rank (x : HOp) (w : List (BitVec 64)) : Nat :=
  if x.done = true then 0 else if x.at_ = 0 then 3 else if x.at_ = 1 then (if x.p = w.getD 0 0 then 2 else 4) else (if x.p = w.getD 0 0 then 1 else 3)
theorem rank_le (x : HOp) (w : List (BitVec 64)) : rank x w ≤ 4 := by
  unfold rank; split; · omega
  split; · omega
  split
  · split <;> omega
  · split <;> omega
theorem po_step {x : HOp} {m : MV} {w : List (BitVec 64)} (h : PO x w) (c : Clean m w) (hw : w.length = 12) (hd : x.done = false) :
    ∃ w', Clean (x.step m).2 w' ∧ w'.length = 12 ∧ PO (x.step m).1 w' ∧ rank (x.step m).1 w' < rank x w := by
  have hs := h.slot; have hwd := h.word
  by_cases g1 : x.at_ = 1
  · have es : x.step m = ({ x with at_ := 2 }, m.use 1 x.slot (fun _ => x.p)) := by simp [HOp.step, hd, h.kind, g1]
    rw [es, hs]
    have cu := c.use (a := 5) (by omega) (by omega) 1 (fun _ => x.p)
    have e5 : (w.set 5 x.p).getD 5 0 = x.p := set_getD_self (by omega)
    have e0 : (w.set 5 x.p).getD 0 0 = w.getD 0 0 := set_getD (by decide)
    refine ⟨w.set 5 x.p, cu, by simp [hw], ⟨h.g, h.kind, rfl, hwd, h.met, h.code, by simp, fun _ _ => e5, fun q => ?_⟩, ?_⟩
    · exact e5
    · simp only [rank, hd, g1, e0]
      generalize w.getD 0 0 = z
      by_cases q : x.p = z <;> simp [q]
  · have es : x.step m = ({ x with done := decide (x.at_ = 2) && (m.load x.word == x.p), p := m.load x.word, at_ := 1 }, m.use 0 x.word id) := by simp [HOp.step, hd, h.kind, g1]
    have hl : m.load x.word = w.getD 0 0 := by rw [hwd, load_cl c (by omega) (by omega)]; rfl
    rw [es, hl]
    refine ⟨w, c.use_id (by omega) (by omega) 0, hw, ⟨h.g, h.kind, hs, hwd, h.met, h.code, by simp, fun _ q => ?_, fun q => ?_⟩, ?_⟩
    · simp at q
    · simp only [Bool.and_eq_true, decide_eq_true_eq, beq_iff_eq] at q
      simp only
      rw [h.two hd q.1, q.2]
    · rcases h.at_ with q | q | q
      · simp [rank, hd, q]
      · exact absurd q g1
      · simp only [rank, hd, q]
        generalize w.getD 0 0 = z
        by_cases r : z = x.p
        · subst r; simp
        · have r' : ¬ x.p = z := fun q => r q.symm
          simp [r, r']
/-- The scan. -/
structure SC (x : HOp) (w : List (BitVec 64)) (k : Nat) : Prop where
  g : x.g = g4
  kind : x.kind = 2
  code : x.code = 0
  at_ : x.at_ = k
  le : k ≤ 8
  done : x.done = decide (k = 8)
  p : k = 8 → x.p = BitVec.ofNat 64 x.met.length
  len : x.met.length ≤ k
  has : 2 ≤ k → w.getD 5 0 = 0#64 ∨ w.getD 5 0 ∈ x.met
theorem sc_step {x : HOp} {m : MV} {w : List (BitVec 64)} {k : Nat} (h : SC x w k) (c : Clean m w) (hw : w.length = 12) (hk : k < 8) :
    Clean (x.step m).2 w ∧ SC (x.step m).1 w (k + 1) := by
  have hd : x.done = false := by rw [h.done]; simp; omega
  have hat := h.at_
  have hg := h.g
  have es : x.step m = ({ x with met := (if m.load (x.g.a + x.at_) = 0#64 then x.met else x.met ++ [m.load (x.g.a + x.at_)]), at_ := x.at_ + 1, p := BitVec.ofNat 64 (if m.load (x.g.a + x.at_) = 0#64 then x.met else x.met ++ [m.load (x.g.a + x.at_)]).length, done := decide (x.at_ + 1 = x.g.words) }, m.use 0 (x.g.a + x.at_) id) := by simp [HOp.step, hd, h.kind]
  have ha : x.g.a = 4 := by rw [hg]
  have hwords : x.g.words = 8 := by rw [hg]; rfl
  have hl : m.load (4 + (k : Int)) = w.getD (4 + k) 0 := by
    rw [load_cl c (by omega) (by omega), show (4 + (k : Int)).toNat = 4 + k by omega]
  rw [es, ha, hat, hl, hwords]
  refine ⟨c.use_id (by omega) (by omega) 0, ⟨hg, h.kind, h.code, by simp, by omega, ?_, fun _ => rfl, ?_, fun _ => ?_⟩⟩
  · simp only
    rw [decide_eq_decide]; omega
  · simp only
    split
    · have := h.len; omega
    · simp; exact h.len
  · simp only
    by_cases e : k = 1
    · subst e
      by_cases z : w.getD (4 + 1) 0 = 0#64
      · exact .inl z
      · right
        rw [if_neg z]; simp
    · rcases h.has (by omega) with q | q
      · exact .inl q
      · right
        split
        · exact q
        · exact List.mem_append_left _ q
theorem SC.wrd {x : HOp} {w w' : List (BitVec 64)} {k : Nat} (h : SC x w k) (e : w'.getD 5 0 = w.getD 5 0) : SC x w' k :=
  ⟨h.g, h.kind, h.code, h.at_, h.le, h.done, h.p, h.len, by rw [e]; exact h.has⟩
theorem PO.wrd {x : HOp} {w w' : List (BitVec 64)} (h : PO x w) (e : w'.getD 5 0 = w.getD 5 0) : PO x w' :=
  ⟨h.g, h.kind, h.slot, h.word, h.met, h.code, h.at_, by rw [e]; exact h.two, by rw [e]; exact h.fin⟩
end Go.Proofs.Ytcogpinognopcaa
