import Derived.Test.YtopjhhcncjleaaaLP
import Derived.KernelRfl
import Derived.Test.YtopjhhcncjleaaaProg
namespace Go.Proofs.Ytopjhhcncjleaaa
open Go Go.LK Go.Proofs
set_option maxRecDepth 100000
/-- sluiceway/sluicewaylaw14.CrqSteps -/
def L3 : LFun := { n := 299, pop := true, res := [.tmp 6], code :=
  (.seq (.steps [
    .act (some 6) (.op (.pure (.move (.const (.bool false))))) none])
  (.seq (.steps [
    .act (some 28) (.op (.pure (.move (.tmp 0)))) none,
    .act (some 29) (.call (.func 8) [(.tmp 28)]) none,
    .act (some 30) (.op (.pure (.build [(.int .i64 0), (.int .i64 0)] [(0, 1, (.const (.int .i64 2))), (1, 1, (.tmp 29))]))) none,
    .act (some 7) (.op (.new (.alloc [(.int .i64 0), (.int .i64 0)]))) none,
    .act none (.op (.eff (.store 2 (.tmp 7) (.tmp 30)))) none])
  (.seq (.steps [
    .act (some 32) (.call (.func 9) [(.const (.int .i64 22))]) none,
    .act (some 31) (.op (.pure (.move (.tmp 32)))) none,
    .act (some 33) (.op (.pure (.extract (.tmp 31) 0))) none,
    .act (some 34) (.op (.pure (.extract (.tmp 31) 1))) none,
    .act (some 8) (.op (.pure (.move (.tmp 33)))) none,
    .act (some 9) (.op (.pure (.move (.tmp 34)))) none])
  (.seq (.steps [
    .act (some 36) (.call (.func 10) [(.const (.int .i64 22))]) none,
    .act (some 35) (.op (.pure (.move (.tmp 36)))) none,
    .act (some 37) (.op (.pure (.extract (.tmp 35) 0))) none,
    .act (some 38) (.op (.pure (.extract (.tmp 35) 1))) none,
    .act (some 10) (.op (.new (.alloc [(.slice none 0 0), (.slice none 0 0), (.int .i64 0), (.int .i64 0), (.int .i64 0), (.int .i64 0), (.int .i64 0), (.int .i64 0), (.int .i64 0), (.bool false)]))) none,
    .act none (.op (.eff (.store 10 (.tmp 10) (.tmp 37)))) none,
    .act (some 11) (.op (.pure (.move (.tmp 38)))) none])
  (.seq (.seq (.steps [
    .act (some 39) (.op (.pure (.move (.tmp 9)))) none,
    .act (some 40) (.op (.pure (.bin .neq (.tmp 39) (.const (.int .i64 0))))) none,
    .act (some 41) (.op (.pure (.move (.tmp 40)))) none,
    .act (some 42) (.op (.pure (.move (.tmp 11)))) (some (41, false)),
    .act (some 43) (.op (.pure (.bin .neq (.tmp 42) (.const (.int .i64 0))))) (some (41, false)),
    .act (some 44) (.op (.pure (.pick (.tmp 41) (.const (.bool true)) (.tmp 43)))) none,
    .act (some 45) (.op (.pure (.move (.tmp 44)))) none,
    .act (some 46) (.op (.read (.loadN 2 (.tmp 7)))) (some (45, false)),
    .act (some 47) (.op (.pure (.move (.tmp 8)))) (some (45, false)),
    .act (some 48) (.call (.func 11) [(.tmp 46), (.tmp 47)]) (some (45, false)),
    .act (some 49) (.op (.pure (.bin .neq (.tmp 48) (.const (.int .i64 0))))) (some (45, false)),
    .act (some 50) (.op (.pure (.pick (.tmp 45) (.const (.bool true)) (.tmp 49)))) none,
    .act (some 51) (.op (.pure (.move (.tmp 50)))) none,
    .act (some 52) (.op (.read (.loadN 2 (.tmp 7)))) (some (51, false)),
    .act (some 54) (.op (.pure (.fieldAddr 1 (.tmp 7)))) (some (51, false)),
    .act (some 55) (.op (.read (.load1 (.tmp 54)))) (some (51, false)),
    .act (some 56) (.op (.pure (.bin .mul (.const (.int .i64 2)) (.tmp 55)))) (some (51, false)),
    .act (some 57) (.op (.pure (.bin .add (.const (.int .i64 4)) (.tmp 56)))) (some (51, false)),
    .act (some 53) (.call (.func 12) [(.tmp 52)]) (some (51, false)),
    .act (some 58) (.op (.pure (.bin .neq (.tmp 53) (.tmp 57)))) (some (51, false)),
    .act (some 59) (.op (.pure (.pick (.tmp 51) (.const (.bool true)) (.tmp 58)))) none,
    .again 55 (.load1 (.tmp 54)) (some (51, false))])
  (.cond (.tmp 59)
   (.seq (.steps [
     .act (some 6) (.op (.pure (.move (.const (.bool false))))) none])
   .ret)
   .skip))
  (.seq (.seq (.steps [
    .act (some 12) (.op (.pure (.move (.const (.int .i64 0))))) none])
  (.block 0 (.loop [1, 2, 7, 8, 10, 12] (.seq (.seq (.steps [
      .act (some 60) (.op (.pure (.move (.tmp 12)))) none,
      .act (some 61) (.op (.pure (.fieldAddr 1 (.tmp 7)))) none,
      .act (some 62) (.op (.read (.load1 (.tmp 61)))) none,
      .act (some 63) (.op (.pure (.bin .lss (.tmp 60) (.tmp 62)))) none])
    (.cond (.tmp 63)
     .skip
     (.exit 0)))
    (.seq (.block 1 (.steps [
       .act (some 66) (.op (.pure (.fieldAddr 0 (.tmp 10)))) none,
       .act (some 67) (.op (.read (.load1 (.tmp 66)))) none,
       .act (some 68) (.op (.pure (.move (.tmp 12)))) none,
       .act (some 69) (.op (.pure (.bin .mul (.const (.int .i64 2)) (.tmp 68)))) none,
       .act (some 70) (.op (.pure (.bin .add (.const (.int .i64 6)) (.tmp 69)))) none,
       .act (some 71) (.op (.pure (.move (.tmp 12)))) none,
       .act (some 72) (.op (.pure (.conv .u64 (.tmp 71)))) none,
       .act (some 73) (.op (.pure (.bin .mul (.const (w64 2#64)) (.tmp 72)))) none,
       .act (some 74) (.op (.pure (.bin .add (.tmp 73) (.const (w64 1#64))))) none,
       .act (some 75) (.op (.pure (.idxSl 1 (.tmp 67) (.tmp 70)))) none,
       .act none (.op (.eff (.store 1 (.tmp 75) (.tmp 74)))) none]))
    (.steps [
      .act (some 64) (.op (.pure (.move (.tmp 12)))) none,
      .act (some 65) (.op (.pure (.bin .add (.tmp 64) (.const (.int .i64 1))))) none,
      .act (some 12) (.op (.pure (.move (.tmp 65)))) none]))))))
  (.seq (.steps [
    .act (some 13) (.op (.pure (.move (.const (.slice none 0 0))))) none])
  (.seq (.steps [
    .act (some 14) (.op (.pure (.move (.const (.slice none 0 0))))) none])
  (.seq (.seq (.steps [
    .act (some 15) (.op (.pure (.move (.const (.int .i64 0))))) none])
  (.block 2 (.loop [1, 2, 7, 8, 10, 13, 14, 15] (.seq (.seq (.steps [
      .act (some 76) (.op (.pure (.move (.tmp 15)))) none,
      .act (some 77) (.op (.pure (.move (.tmp 1)))) none,
      .act (some 78) (.op (.pure (.len false (.tmp 77)))) none,
      .act (some 79) (.op (.pure (.bin .lss (.tmp 76) (.tmp 78)))) none,
      .act (some 80) (.op (.pure (.move (.tmp 79)))) none,
      .act (some 81) (.op (.pure (.move (.tmp 15)))) (some (80, true)),
      .act (some 82) (.op (.pure (.bin .lss (.tmp 81) (.const (.int .i64 12))))) (some (80, true)),
      .act (some 83) (.op (.pure (.pick (.tmp 80) (.tmp 82) (.const (.bool false))))) none])
    (.cond (.tmp 83)
     .skip
     (.exit 2)))
    (.seq (.block 3 (.seq (.steps [
       .act (some 86) (.op (.pure (.move (.tmp 1)))) none,
       .act (some 87) (.op (.pure (.move (.tmp 15)))) none,
       .act (some 88) (.op (.pure (.idxSl 3 (.tmp 86) (.tmp 87)))) none,
       .act (some 89) (.op (.pure (.fieldAddr 1 (.tmp 88)))) none,
       .act (some 90) (.op (.read (.load1 (.tmp 89)))) none,
       .act (some 91) (.op (.pure (.bin .rem (.tmp 90) (.const (.int .i64 3))))) none,
       .act (some 92) (.op (.pure (.bin .add (.tmp 91) (.const (.int .i64 3))))) none,
       .act (some 93) (.op (.pure (.bin .rem (.tmp 92) (.const (.int .i64 3))))) none,
       .act (some 16) (.op (.pure (.move (.tmp 93)))) none])
     (.seq (.steps [
       .act (some 94) (.op (.pure (.move (.tmp 1)))) none,
       .act (some 95) (.op (.pure (.move (.tmp 15)))) none,
       .act (some 96) (.op (.pure (.idxSl 3 (.tmp 94) (.tmp 95)))) none,
       .act (some 97) (.op (.pure (.fieldAddr 2 (.tmp 96)))) none,
       .act (some 98) (.op (.read (.load1 (.tmp 97)))) none,
       .act (some 99) (.op (.pure (.bin .and (.tmp 98) (.const (w64 65535#64))))) none,
       .act (some 17) (.op (.pure (.move (.tmp 99)))) none])
     (.seq (.seq (.steps [
       .act (some 100) (.op (.pure (.move (.tmp 16)))) none,
       .act (some 101) (.op (.pure (.bin .neq (.tmp 100) (.const (.int .i64 0))))) none])
     (.cond (.tmp 101)
      (.steps [
        .act (some 17) (.op (.pure (.move (.const (w64 0#64))))) none])
      .skip))
     (.seq (.steps [
       .act (some 102) (.op (.pure (.move (.tmp 13)))) none,
       .act (some 103) (.op (.read (.loadN 2 (.tmp 7)))) none,
       .act (some 104) (.op (.pure (.move (.tmp 16)))) none,
       .act (some 105) (.op (.pure (.move (.tmp 17)))) none,
       .act (some 106) (.call (.func 13) [(.tmp 103), (.tmp 104), (.tmp 105)]) none,
       .act (some 107) (.op (.new (.mkSlice 1 1 [(.pointer none)] [(0, 1, (.tmp 106))]))) none,
       .act (some 108) (.op (.eff (.append 1 8 (.tmp 102) (.tmp 107)))) none,
       .act (some 13) (.op (.pure (.move (.tmp 108)))) none])
     (.steps [
       .act (some 109) (.op (.pure (.move (.tmp 14)))) none,
       .act (some 110) (.op (.pure (.fieldAddr 1 (.tmp 7)))) none,
       .act (some 111) (.op (.read (.load1 (.tmp 110)))) none,
       .act (some 112) (.op (.pure (.move (.tmp 16)))) none,
       .act (some 113) (.op (.pure (.move (.tmp 17)))) none,
       .act (some 114) (.op (.pure (.build [(.int .i64 0), (.int .i64 0), (.int .i64 0), (w64 0#64), (.int .i64 0), (w64 0#64), (w64 0#64), (w64 0#64), (w64 0#64), (.int .i64 0), (.int .i64 0), (w64 0#64)] [(0, 1, (.const (.int .i64 2))), (1, 1, (.tmp 111)), (2, 1, (.tmp 112)), (3, 1, (.tmp 113))]))) none,
       .act (some 115) (.op (.new (.mkSlice 12 1 [(.int .i64 0), (.int .i64 0), (.int .i64 0), (w64 0#64), (.int .i64 0), (w64 0#64), (w64 0#64), (w64 0#64), (w64 0#64), (.int .i64 0), (.int .i64 0), (w64 0#64)] [(0, 12, (.tmp 114))]))) none,
       .act (some 116) (.op (.eff (.append 12 96 (.tmp 109) (.tmp 115)))) none,
       .act (some 14) (.op (.pure (.move (.tmp 116)))) none]))))))
    (.steps [
      .act (some 84) (.op (.pure (.move (.tmp 15)))) none,
      .act (some 85) (.op (.pure (.bin .add (.tmp 84) (.const (.int .i64 1))))) none,
      .act (some 15) (.op (.pure (.move (.tmp 85)))) none]))))))
  (.seq (.seq (.steps [
    .act (some 18) (.op (.pure (.move (.const (.int .i64 0))))) none])
  (.block 4 (.loop [2, 7, 8, 10, 13, 14, 18] (.seq (.seq (.steps [
      .act (some 117) (.op (.pure (.move (.tmp 18)))) none,
      .act (some 118) (.op (.pure (.move (.tmp 2)))) none,
      .act (some 119) (.op (.pure (.len false (.tmp 118)))) none,
      .act (some 120) (.op (.pure (.bin .lss (.tmp 117) (.tmp 119)))) none,
      .act (some 121) (.op (.pure (.move (.tmp 120)))) none,
      .act (some 122) (.op (.pure (.move (.tmp 18)))) (some (121, true)),
      .act (some 123) (.op (.pure (.bin .lss (.tmp 122) (.const (.int .i64 250))))) (some (121, true)),
      .act (some 124) (.op (.pure (.pick (.tmp 121) (.tmp 123) (.const (.bool false))))) none,
      .act (some 125) (.op (.pure (.move (.tmp 124)))) none,
      .act (some 126) (.op (.pure (.move (.tmp 13)))) (some (125, true)),
      .act (some 127) (.op (.pure (.len false (.tmp 126)))) (some (125, true)),
      .act (some 128) (.op (.pure (.bin .gtr (.tmp 127) (.const (.int .i64 0))))) (some (125, true)),
      .act (some 129) (.op (.pure (.pick (.tmp 125) (.tmp 128) (.const (.bool false))))) none])
    (.cond (.tmp 129)
     .skip
     (.exit 4)))
    (.seq (.block 5 (.seq (.steps [
       .act (some 132) (.op (.pure (.move (.tmp 2)))) none,
       .act (some 133) (.op (.pure (.move (.tmp 18)))) none,
       .act (some 134) (.op (.pure (.idxSl 1 (.tmp 132) (.tmp 133)))) none,
       .act (some 135) (.op (.read (.load1 (.tmp 134)))) none,
       .act (some 136) (.op (.pure (.move (.tmp 13)))) none,
       .act (some 137) (.op (.pure (.len false (.tmp 136)))) none,
       .act (some 138) (.op (.pure (.bin .rem (.tmp 135) (.tmp 137)))) none,
       .act (some 139) (.op (.pure (.move (.tmp 13)))) none,
       .act (some 140) (.op (.pure (.len false (.tmp 139)))) none,
       .act (some 141) (.op (.pure (.bin .add (.tmp 138) (.tmp 140)))) none,
       .act (some 142) (.op (.pure (.move (.tmp 13)))) none,
       .act (some 143) (.op (.pure (.len false (.tmp 142)))) none,
       .act (some 144) (.op (.pure (.bin .rem (.tmp 141) (.tmp 143)))) none,
       .act (some 19) (.op (.pure (.move (.tmp 144)))) none])
     (.seq (.steps [
       .act (some 146) (.op (.pure (.move (.tmp 14)))) none,
       .act (some 147) (.op (.pure (.move (.tmp 19)))) none,
       .act (some 148) (.op (.pure (.idxSl 12 (.tmp 146) (.tmp 147)))) none,
       .act (some 149) (.op (.read (.loadN 12 (.tmp 148)))) none,
       .act (some 150) (.op (.read (.loadN 10 (.tmp 10)))) none,
       .act (some 20) (.op (.new (.alloc [(.int .i64 0), (.int .i64 0), (.int .i64 0), (w64 0#64), (.int .i64 0), (w64 0#64), (w64 0#64), (w64 0#64), (w64 0#64), (.int .i64 0), (.int .i64 0), (w64 0#64)]))) none,
       .act (some 21) (.op (.new (.alloc [(.slice none 0 0), (.slice none 0 0), (.int .i64 0), (.int .i64 0), (.int .i64 0), (.int .i64 0), (.int .i64 0), (.int .i64 0), (.int .i64 0), (.bool false)]))) none,
       .act (some 151) (.call (.func 14) [(.tmp 149), (.tmp 150)]) none,
       .act (some 145) (.op (.pure (.move (.tmp 151)))) none,
       .act (some 152) (.op (.pure (.extract (.tmp 145) 0))) none,
       .act (some 153) (.op (.pure (.extract (.tmp 145) 1))) none,
       .act none (.op (.eff (.store 12 (.tmp 20) (.tmp 152)))) none,
       .act none (.op (.eff (.store 10 (.tmp 21) (.tmp 153)))) none])
     (.seq (.seq (.steps [
       .act (some 154) (.op (.pure (.move (.tmp 13)))) none,
       .act (some 155) (.op (.pure (.move (.tmp 19)))) none,
       .act (some 156) (.op (.pure (.idxSl 1 (.tmp 154) (.tmp 155)))) none,
       .act (some 157) (.op (.read (.load1 (.tmp 156)))) none,
       .act (some 158) (.op (.pure (.move (.tmp 8)))) none,
       .act (some 160) (.op (.pure (.fieldAddr 4 (.tmp 20)))) none,
       .act (some 161) (.op (.read (.load1 (.tmp 160)))) none,
       .act (some 162) (.op (.pure (.bin .geq (.tmp 161) (.const (.int .i64 9))))) none,
       .act (some 159) (.call (.func 15) [(.tmp 157), (.tmp 158)]) none,
       .act (some 163) (.op (.pure (.eqB true (.tmp 159) (.tmp 162)))) none,
       .act (some 164) (.op (.pure (.move (.tmp 163)))) none,
       .act (some 165) (.op (.pure (.move (.tmp 13)))) (some (164, false)),
       .act (some 166) (.op (.pure (.move (.tmp 19)))) (some (164, false)),
       .act (some 167) (.op (.pure (.idxSl 1 (.tmp 165) (.tmp 166)))) (some (164, false)),
       .act (some 168) (.op (.read (.load1 (.tmp 167)))) (some (164, false)),
       .act (some 170) (.op (.pure (.fieldAddr 4 (.tmp 20)))) (some (164, false)),
       .act (some 171) (.op (.read (.load1 (.tmp 170)))) (some (164, false)),
       .again 161 (.load1 (.tmp 160)) none,
       .act (some 169) (.call (.func 16) [(.tmp 168)]) (some (164, false)),
       .act (some 172) (.op (.pure (.bin .neq (.tmp 169) (.tmp 171)))) (some (164, false)),
       .act (some 173) (.op (.pure (.pick (.tmp 164) (.const (.bool true)) (.tmp 172)))) none,
       .again 171 (.load1 (.tmp 170)) (some (164, false))])
     (.cond (.tmp 173)
      (.seq (.steps [
        .act (some 6) (.op (.pure (.move (.const (.bool false))))) none])
      .ret)
      .skip))
     (.steps [
       .act (some 174) (.op (.pure (.move (.tmp 14)))) none,
       .act (some 175) (.op (.pure (.move (.tmp 19)))) none,
       .act (some 176) (.op (.read (.loadN 12 (.tmp 20)))) none,
       .act (some 177) (.op (.read (.loadN 10 (.tmp 21)))) none,
       .act (some 178) (.op (.pure (.idxSl 12 (.tmp 174) (.tmp 175)))) none,
       .act none (.op (.eff (.store 12 (.tmp 178) (.tmp 176)))) none,
       .again 177 (.loadN 10 (.tmp 21)) none,
       .act none (.op (.eff (.store 10 (.tmp 10) (.tmp 177)))) none])))))
    (.steps [
      .act (some 130) (.op (.pure (.move (.tmp 18)))) none,
      .act (some 131) (.op (.pure (.bin .add (.tmp 130) (.const (.int .i64 1))))) none,
      .act (some 18) (.op (.pure (.move (.tmp 131)))) none]))))))
  (.seq (.steps [
    .act (some 179) (.op (.pure (.move (.tmp 8)))) none,
    .act (some 180) (.call (.func 17) [(.tmp 179), (.const (.int .i64 0)), (.const (.int .i64 22))]) none,
    .act (some 22) (.op (.pure (.move (.tmp 180)))) none])
  (.seq (.steps [
    .act (some 23) (.op (.pure (.move (.const (.int .i64 0))))) none])
  (.seq (.seq (.steps [
    .act (some 24) (.op (.pure (.move (.const (.int .i64 0))))) none])
  (.block 6 (.loop [7, 8, 10, 13, 14, 22, 23, 24] (.seq (.seq (.steps [
      .act (some 181) (.op (.pure (.move (.tmp 24)))) none,
      .act (some 182) (.op (.pure (.move (.tmp 22)))) none,
      .act (some 183) (.op (.pure (.len false (.tmp 182)))) none,
      .act (some 184) (.op (.pure (.bin .lss (.tmp 181) (.tmp 183)))) none])
    (.cond (.tmp 184)
     .skip
     (.exit 6)))
    (.seq (.block 7 (.seq (.seq (.steps [
       .act (some 187) (.op (.pure (.move (.tmp 22)))) none,
       .act (some 188) (.op (.pure (.move (.tmp 24)))) none,
       .act (some 189) (.op (.pure (.idxSl 1 (.tmp 187) (.tmp 188)))) none,
       .act (some 190) (.op (.read (.load1 (.tmp 189)))) none,
       .act (some 191) (.op (.pure (.fieldAddr 0 (.tmp 10)))) none,
       .act (some 192) (.op (.read (.load1 (.tmp 191)))) none,
       .act (some 193) (.op (.pure (.move (.tmp 24)))) none,
       .act (some 194) (.op (.pure (.idxSl 1 (.tmp 192) (.tmp 193)))) none,
       .act (some 195) (.op (.read (.load1 (.tmp 194)))) none,
       .act (some 196) (.op (.pure (.bin .neq (.tmp 190) (.tmp 195)))) none])
     (.cond (.tmp 196)
      (.seq (.steps [
        .act (some 6) (.op (.pure (.move (.const (.bool false))))) none])
      .ret)
      .skip))
     (.seq (.steps [
       .act (some 197) (.op (.pure (.move (.tmp 24)))) none,
       .act (some 198) (.op (.pure (.bin .geq (.tmp 197) (.const (.int .i64 6))))) none,
       .act (some 199) (.op (.pure (.move (.tmp 198)))) none,
       .act (some 200) (.op (.pure (.move (.tmp 24)))) (some (199, true)),
       .act (some 201) (.op (.pure (.bin .rem (.tmp 200) (.const (.int .i64 2))))) (some (199, true)),
       .act (some 202) (.op (.pure (.bin .eql (.tmp 201) (.const (.int .i64 1))))) (some (199, true)),
       .act (some 203) (.op (.pure (.pick (.tmp 199) (.tmp 202) (.const (.bool false))))) none,
       .act (some 204) (.op (.pure (.move (.tmp 203)))) none,
       .act (some 205) (.op (.pure (.move (.tmp 24)))) (some (204, true)),
       .act (some 206) (.op (.pure (.fieldAddr 1 (.tmp 7)))) (some (204, true)),
       .act (some 207) (.op (.read (.load1 (.tmp 206)))) (some (204, true)),
       .act (some 208) (.op (.pure (.bin .mul (.const (.int .i64 2)) (.tmp 207)))) (some (204, true)),
       .act (some 209) (.op (.pure (.bin .add (.const (.int .i64 6)) (.tmp 208)))) (some (204, true)),
       .act (some 210) (.op (.pure (.bin .lss (.tmp 205) (.tmp 209)))) (some (204, true)),
       .act (some 211) (.op (.pure (.pick (.tmp 204) (.tmp 210) (.const (.bool false))))) none,
       .act (some 212) (.op (.pure (.move (.tmp 211)))) none,
       .act (some 213) (.op (.pure (.move (.tmp 22)))) (some (212, true)),
       .act (some 214) (.op (.pure (.move (.tmp 24)))) (some (212, true)),
       .act (some 215) (.op (.pure (.idxSl 1 (.tmp 213) (.tmp 214)))) (some (212, true)),
       .act (some 216) (.op (.read (.load1 (.tmp 215)))) (some (212, true)),
       .act (some 217) (.op (.pure (.bin .neq (.tmp 216) (.const (w64 0#64))))) (some (212, true)),
       .act (some 218) (.op (.pure (.pick (.tmp 212) (.tmp 217) (.const (.bool false))))) none])
     (.cond (.tmp 218)
      (.steps [
        .act (some 219) (.op (.pure (.move (.tmp 23)))) none,
        .act (some 220) (.op (.pure (.bin .add (.tmp 219) (.const (.int .i64 1))))) none,
        .act (some 23) (.op (.pure (.move (.tmp 220)))) none])
      .skip))))
    (.steps [
      .act (some 185) (.op (.pure (.move (.tmp 24)))) none,
      .act (some 186) (.op (.pure (.bin .add (.tmp 185) (.const (.int .i64 1))))) none,
      .act (some 24) (.op (.pure (.move (.tmp 186)))) none]))))))
  (.seq (.seq (.steps [
    .act (some 25) (.op (.pure (.move (.const (.int .i64 0))))) none])
  (.block 8 (.loop [7, 8, 10, 13, 14, 22, 23, 25] (.seq (.seq (.steps [
      .act (some 221) (.op (.pure (.move (.tmp 25)))) none,
      .act (some 222) (.op (.pure (.move (.tmp 13)))) none,
      .act (some 223) (.op (.pure (.len false (.tmp 222)))) none,
      .act (some 224) (.op (.pure (.bin .lss (.tmp 221) (.tmp 223)))) none])
    (.cond (.tmp 224)
     .skip
     (.exit 8)))
    (.seq (.block 9 (.seq (.steps [
       .act (some 228) (.op (.pure (.move (.tmp 13)))) none,
       .act (some 229) (.op (.pure (.move (.tmp 25)))) none,
       .act (some 230) (.op (.pure (.idxSl 1 (.tmp 228) (.tmp 229)))) none,
       .act (some 231) (.op (.read (.load1 (.tmp 230)))) none,
       .act (some 232) (.call (.func 18) [(.tmp 231)]) none,
       .act (some 227) (.op (.pure (.move (.tmp 232)))) none,
       .act (some 233) (.op (.pure (.extract (.tmp 227) 0))) none,
       .act (some 234) (.op (.pure (.extract (.tmp 227) 1))) none,
       .act (some 26) (.op (.pure (.move (.tmp 233)))) none,
       .act (some 27) (.op (.pure (.move (.tmp 234)))) none])
     (.seq (.steps [
       .act (some 235) (.op (.pure (.move (.tmp 14)))) none,
       .act (some 236) (.op (.pure (.move (.tmp 25)))) none,
       .act (some 237) (.op (.pure (.idxSl 12 (.tmp 235) (.tmp 236)))) none,
       .act (some 238) (.op (.pure (.fieldAddr 4 (.tmp 237)))) none,
       .act (some 239) (.op (.read (.load1 (.tmp 238)))) none,
       .act (some 240) (.op (.pure (.bin .geq (.tmp 239) (.const (.int .i64 9))))) none,
       .act (some 241) (.op (.pure (.move (.tmp 240)))) none,
       .act (some 242) (.op (.pure (.move (.tmp 26)))) (some (241, true)),
       .act (some 243) (.op (.pure (.move (.tmp 14)))) (some (241, true)),
       .act (some 244) (.op (.pure (.move (.tmp 25)))) (some (241, true)),
       .act (some 245) (.op (.pure (.idxSl 12 (.tmp 243) (.tmp 244)))) (some (241, true)),
       .act (some 246) (.op (.pure (.fieldAddr 10 (.tmp 245)))) (some (241, true)),
       .act (some 247) (.op (.read (.load1 (.tmp 246)))) (some (241, true)),
       .act (some 248) (.op (.pure (.bin .neq (.tmp 242) (.tmp 247)))) (some (241, true)),
       .act (some 249) (.op (.pure (.move (.tmp 248)))) (some (241, true)),
       .act (some 250) (.op (.pure (.move (.tmp 27)))) (some (249, false)),
       .act (some 251) (.op (.pure (.move (.tmp 14)))) (some (249, false)),
       .act (some 252) (.op (.pure (.move (.tmp 25)))) (some (249, false)),
       .act (some 253) (.op (.pure (.idxSl 12 (.tmp 251) (.tmp 252)))) (some (249, false)),
       .act (some 254) (.op (.pure (.fieldAddr 11 (.tmp 253)))) (some (249, false)),
       .act (some 255) (.op (.read (.load1 (.tmp 254)))) (some (249, false)),
       .act (some 256) (.op (.pure (.bin .neq (.tmp 250) (.tmp 255)))) (some (249, false)),
       .act (some 257) (.op (.pure (.pick (.tmp 249) (.const (.bool true)) (.tmp 256)))) (some (241, true)),
       .act (some 258) (.op (.pure (.pick (.tmp 241) (.tmp 257) (.const (.bool false))))) none,
       .act (some 259) (.op (.pure (.move (.tmp 258)))) none,
       .act (some 260) (.op (.pure (.move (.tmp 14)))) (some (259, false)),
       .act (some 261) (.op (.pure (.move (.tmp 25)))) (some (259, false)),
       .act (some 262) (.op (.pure (.idxSl 12 (.tmp 260) (.tmp 261)))) (some (259, false)),
       .act (some 263) (.op (.pure (.fieldAddr 4 (.tmp 262)))) (some (259, false)),
       .act (some 264) (.op (.read (.load1 (.tmp 263)))) (some (259, false)),
       .act (some 265) (.op (.pure (.bin .lss (.tmp 264) (.const (.int .i64 9))))) (some (259, false)),
       .act (some 266) (.op (.pure (.move (.tmp 265)))) (some (259, false)),
       .act (some 267) (.op (.pure (.move (.tmp 26)))) (some (266, true)),
       .act (some 268) (.op (.pure (.bin .neq (.tmp 267) (.const (.int .i64 0))))) (some (266, true)),
       .act (some 269) (.op (.pure (.move (.tmp 268)))) (some (266, true)),
       .act (some 270) (.op (.pure (.move (.tmp 27)))) (some (269, false)),
       .act (some 271) (.op (.pure (.bin .neq (.tmp 270) (.const (w64 0#64))))) (some (269, false)),
       .act (some 272) (.op (.pure (.pick (.tmp 269) (.const (.bool true)) (.tmp 271)))) (some (266, true)),
       .act (some 273) (.op (.pure (.pick (.tmp 266) (.tmp 272) (.const (.bool false))))) (some (259, false)),
       .act (some 274) (.op (.pure (.pick (.tmp 259) (.const (.bool true)) (.tmp 273)))) none])
     (.cond (.tmp 274)
      (.seq (.steps [
        .act (some 6) (.op (.pure (.move (.const (.bool false))))) none])
      .ret)
      .skip))))
    (.steps [
      .act (some 225) (.op (.pure (.move (.tmp 25)))) none,
      .act (some 226) (.op (.pure (.bin .add (.tmp 225) (.const (.int .i64 1))))) none,
      .act (some 25) (.op (.pure (.move (.tmp 226)))) none]))))))
  (.seq (.steps [
    .act (some 275) (.op (.pure (.move (.tmp 22)))) none,
    .act (some 276) (.op (.pure (.len false (.tmp 275)))) none,
    .act (some 277) (.op (.pure (.bin .eql (.tmp 276) (.const (.int .i64 22))))) none,
    .act (some 278) (.op (.pure (.move (.tmp 277)))) none,
    .act (some 279) (.op (.read (.loadN 2 (.tmp 7)))) (some (278, true)),
    .act (some 280) (.op (.pure (.move (.tmp 8)))) (some (278, true)),
    .act (some 282) (.op (.pure (.move (.tmp 23)))) (some (278, true)),
    .act (some 281) (.call (.func 19) [(.tmp 279), (.tmp 280)]) (some (278, true)),
    .act (some 283) (.op (.pure (.bin .eql (.tmp 281) (.tmp 282)))) (some (278, true)),
    .act (some 284) (.op (.pure (.pick (.tmp 278) (.tmp 283) (.const (.bool false))))) none,
    .act (some 285) (.op (.pure (.move (.tmp 284)))) none,
    .act (some 286) (.op (.read (.loadN 2 (.tmp 7)))) (some (285, true)),
    .act (some 287) (.op (.pure (.move (.tmp 8)))) (some (285, true)),
    .act (some 289) (.op (.pure (.fieldAddr 0 (.tmp 10)))) (some (285, true)),
    .act (some 290) (.op (.read (.load1 (.tmp 289)))) (some (285, true)),
    .act (some 291) (.op (.pure (.idxSl 1 (.tmp 290) (.const (.int .i64 3))))) (some (285, true)),
    .act (some 292) (.op (.read (.load1 (.tmp 291)))) (some (285, true)),
    .act (some 293) (.op (.pure (.bin .geq (.tmp 292) (.const (w64 9223372036854775808#64))))) (some (285, true)),
    .act (some 288) (.call (.func 20) [(.tmp 286), (.tmp 287)]) (some (285, true)),
    .act (some 294) (.op (.pure (.eqB false (.tmp 288) (.tmp 293)))) (some (285, true)),
    .act (some 295) (.op (.pure (.pick (.tmp 285) (.tmp 294) (.const (.bool false))))) none,
    .act (some 296) (.op (.pure (.move (.tmp 295)))) none,
    .again 292 (.load1 (.tmp 291)) (some (285, true)),
    .again 290 (.load1 (.tmp 289)) (some (285, true)),
    .act (some 297) (.call (.func 21) []) (some (296, true)),
    .act (some 298) (.op (.pure (.pick (.tmp 296) (.tmp 297) (.const (.bool false))))) none,
    .act (some 6) (.op (.pure (.move (.tmp 298)))) none])
  .ret))))))))))))))) }
theorem c3 : compFn Try.prog (mkPlan Try.prog) [(7, [1, 2, 7, 8, 10, 12]), (13, [1, 2, 7, 8, 10, 13, 14, 15]), (22, [2, 7, 8, 10, 13, 14, 18]), (32, [7, 8, 10, 13, 14, 22, 23, 24]), (39, [7, 8, 10, 13, 14, 22, 23, 25])] true 3 = some L3 := by kernel_rfl
/-- sluiceway/sluicewaylaw14.CrqDrains -/
def L4 : LFun := { n := 163, pop := true, res := [.tmp 6], code :=
  (.seq (.steps [
    .act (some 6) (.op (.pure (.move (.const (.bool false))))) none])
  (.seq (.steps [
    .act (some 25) (.op (.pure (.move (.tmp 0)))) none,
    .act (some 26) (.call (.func 8) [(.tmp 25)]) none,
    .act (some 27) (.op (.pure (.build [(.int .i64 0), (.int .i64 0)] [(0, 1, (.const (.int .i64 0))), (1, 1, (.tmp 26))]))) none,
    .act (some 7) (.op (.new (.alloc [(.int .i64 0), (.int .i64 0)]))) none,
    .act none (.op (.eff (.store 2 (.tmp 7) (.tmp 27)))) none])
  (.seq (.steps [
    .act (some 29) (.op (.pure (.fieldAddr 1 (.tmp 7)))) none,
    .act (some 30) (.op (.read (.load1 (.tmp 29)))) none,
    .act (some 31) (.op (.pure (.bin .mul (.const (.int .i64 2)) (.tmp 30)))) none,
    .act (some 32) (.op (.pure (.bin .add (.const (.int .i64 4)) (.tmp 31)))) none,
    .act (some 33) (.call (.func 9) [(.tmp 32)]) none,
    .act (some 28) (.op (.pure (.move (.tmp 33)))) none,
    .act (some 34) (.op (.pure (.extract (.tmp 28) 0))) none,
    .act (some 35) (.op (.pure (.extract (.tmp 28) 1))) none,
    .act (some 8) (.op (.pure (.move (.tmp 34)))) none,
    .act (some 9) (.op (.pure (.move (.tmp 35)))) none])
  (.seq (.seq (.steps [
    .act (some 36) (.op (.pure (.move (.tmp 9)))) none,
    .act (some 37) (.op (.pure (.bin .neq (.tmp 36) (.const (.int .i64 0))))) none,
    .act (some 38) (.op (.pure (.move (.tmp 37)))) none,
    .act (some 39) (.op (.read (.loadN 2 (.tmp 7)))) (some (38, false)),
    .act (some 40) (.op (.pure (.move (.tmp 8)))) (some (38, false)),
    .act (some 41) (.call (.func 11) [(.tmp 39), (.tmp 40)]) (some (38, false)),
    .act (some 42) (.op (.pure (.bin .neq (.tmp 41) (.const (.int .i64 0))))) (some (38, false)),
    .act (some 43) (.op (.pure (.pick (.tmp 38) (.const (.bool true)) (.tmp 42)))) none])
  (.cond (.tmp 43)
   (.seq (.steps [
     .act (some 6) (.op (.pure (.move (.const (.bool false))))) none])
   .ret)
   .skip))
  (.seq (.steps [
    .act (some 10) (.op (.pure (.move (.const (.int .i64 0))))) none])
  (.seq (.block 0 (.loop [1, 2, 7, 8, 10] (.seq (.seq (.steps [
      .act (some 44) (.op (.pure (.move (.tmp 10)))) none,
      .act (some 45) (.op (.pure (.move (.tmp 1)))) none,
      .act (some 46) (.op (.pure (.len false (.tmp 45)))) none,
      .act (some 47) (.op (.pure (.bin .lss (.tmp 44) (.tmp 46)))) none,
      .act (some 48) (.op (.pure (.move (.tmp 47)))) none,
      .act (some 49) (.op (.pure (.move (.tmp 10)))) (some (48, true)),
      .act (some 50) (.op (.pure (.fieldAddr 1 (.tmp 7)))) (some (48, true)),
      .act (some 51) (.op (.read (.load1 (.tmp 50)))) (some (48, true)),
      .act (some 52) (.op (.pure (.bin .lss (.tmp 49) (.tmp 51)))) (some (48, true)),
      .act (some 53) (.op (.pure (.pick (.tmp 48) (.tmp 52) (.const (.bool false))))) none])
    (.cond (.tmp 53)
     .skip
     (.exit 0)))
    (.block 1 (.seq (.seq (.steps [
       .act (some 55) (.op (.pure (.move (.tmp 8)))) none,
       .act (some 56) (.op (.read (.loadN 2 (.tmp 7)))) none,
       .act (some 57) (.op (.pure (.move (.tmp 1)))) none,
       .act (some 58) (.op (.pure (.move (.tmp 10)))) none,
       .act (some 59) (.op (.pure (.idxSl 1 (.tmp 57) (.tmp 58)))) none,
       .act (some 60) (.op (.read (.load1 (.tmp 59)))) none,
       .act (some 61) (.op (.pure (.bin .and (.tmp 60) (.const (w64 16777215#64))))) none,
       .act (some 62) (.call (.func 23) [(.tmp 56), (.tmp 61)]) none,
       .act (some 63) (.call (.func 22) [(.tmp 55), (.tmp 62), (.const (.int .i64 9))]) none,
       .act (some 54) (.op (.pure (.move (.tmp 63)))) none,
       .act (some 64) (.op (.pure (.extract (.tmp 54) 0))) none,
       .act (some 65) (.op (.pure (.extract (.tmp 54) 1))) none,
       .act (some 66) (.op (.pure (.extract (.tmp 54) 2))) none,
       .act (some 11) (.op (.pure (.move (.tmp 64)))) none,
       .act (some 12) (.op (.pure (.move (.tmp 65)))) none,
       .act (some 13) (.op (.pure (.move (.tmp 66)))) none])
     (.seq (.steps [
       .act (some 67) (.op (.pure (.move (.tmp 13)))) none,
       .act (some 68) (.op (.pure (.not (.tmp 67)))) none,
       .act (some 69) (.op (.pure (.move (.tmp 68)))) none,
       .act (some 70) (.op (.pure (.move (.tmp 11)))) (some (69, false)),
       .act (some 71) (.op (.pure (.bin .neq (.tmp 70) (.const (.int .i64 0))))) (some (69, false)),
       .act (some 72) (.op (.pure (.pick (.tmp 69) (.const (.bool true)) (.tmp 71)))) none])
     (.cond (.tmp 72)
      (.seq (.steps [
        .act (some 6) (.op (.pure (.move (.const (.bool false))))) none])
      .ret)
      .skip)))
     (.steps [
       .act (some 73) (.op (.pure (.move (.tmp 10)))) none,
       .act (some 74) (.op (.pure (.bin .add (.tmp 73) (.const (.int .i64 1))))) none,
       .act (some 10) (.op (.pure (.move (.tmp 74)))) none]))))))
  (.seq (.steps [
    .act (some 75) (.op (.pure (.move (.tmp 8)))) none,
    .act (some 76) (.op (.read (.loadN 2 (.tmp 7)))) none,
    .act (some 77) (.call (.func 24) [(.tmp 76)]) none,
    .act (some 78) (.call (.func 22) [(.tmp 75), (.tmp 77), (.const (.int .i64 2))]) none])
  (.seq (.seq (.steps [
    .act (some 14) (.op (.pure (.move (.const (.int .i64 0))))) none])
  (.block 2 (.loop [1, 2, 7, 8, 10, 14] (.seq (.seq (.steps [
      .act (some 79) (.op (.pure (.move (.tmp 14)))) none,
      .act (some 80) (.op (.pure (.move (.tmp 2)))) none,
      .act (some 81) (.op (.pure (.bin .and (.tmp 80) (.const (.int .i64 3))))) none,
      .act (some 82) (.op (.pure (.bin .lss (.tmp 79) (.tmp 81)))) none])
    (.cond (.tmp 82)
     .skip
     (.exit 2)))
    (.seq (.block 3 (.seq (.steps [
       .act (some 86) (.op (.pure (.move (.tmp 8)))) none,
       .act (some 87) (.op (.read (.loadN 2 (.tmp 7)))) none,
       .act (some 88) (.call (.func 23) [(.tmp 87), (.const (w64 1#64))]) none,
       .act (some 89) (.call (.func 22) [(.tmp 86), (.tmp 88), (.const (.int .i64 3))]) none,
       .act (some 85) (.op (.pure (.move (.tmp 89)))) none,
       .act (some 90) (.op (.pure (.extract (.tmp 85) 0))) none,
       .act (some 91) (.op (.pure (.extract (.tmp 85) 1))) none,
       .act (some 92) (.op (.pure (.extract (.tmp 85) 2))) none,
       .act (some 15) (.op (.pure (.move (.tmp 90)))) none,
       .act (some 16) (.op (.pure (.move (.tmp 91)))) none,
       .act (some 17) (.op (.pure (.move (.tmp 92)))) none])
     (.seq (.steps [
       .act (some 93) (.op (.pure (.move (.tmp 17)))) none,
       .act (some 94) (.op (.pure (.not (.tmp 93)))) none,
       .act (some 95) (.op (.pure (.move (.tmp 94)))) none,
       .act (some 96) (.op (.pure (.move (.tmp 15)))) (some (95, false)),
       .act (some 97) (.op (.pure (.bin .neq (.tmp 96) (.const (.int .i64 16))))) (some (95, false)),
       .act (some 98) (.op (.pure (.pick (.tmp 95) (.const (.bool true)) (.tmp 97)))) none])
     (.cond (.tmp 98)
      (.seq (.steps [
        .act (some 6) (.op (.pure (.move (.const (.bool false))))) none])
      .ret)
      .skip))))
    (.steps [
      .act (some 83) (.op (.pure (.move (.tmp 14)))) none,
      .act (some 84) (.op (.pure (.bin .add (.tmp 83) (.const (.int .i64 1))))) none,
      .act (some 14) (.op (.pure (.move (.tmp 84)))) none]))))))
  (.seq (.seq (.steps [
    .act (some 18) (.op (.pure (.move (.const (.int .i64 0))))) none])
  (.block 4 (.loop [1, 7, 8, 10, 18] (.seq (.seq (.steps [
      .act (some 99) (.op (.pure (.move (.tmp 18)))) none,
      .act (some 100) (.op (.pure (.move (.tmp 10)))) none,
      .act (some 101) (.op (.pure (.bin .lss (.tmp 99) (.tmp 100)))) none])
    (.cond (.tmp 101)
     .skip
     (.exit 4)))
    (.seq (.block 5 (.seq (.steps [
       .act (some 105) (.op (.pure (.move (.tmp 8)))) none,
       .act (some 106) (.op (.read (.loadN 2 (.tmp 7)))) none,
       .act (some 107) (.call (.func 25) [(.tmp 106)]) none,
       .act (some 108) (.call (.func 22) [(.tmp 105), (.tmp 107), (.const (.int .i64 60))]) none,
       .act (some 104) (.op (.pure (.move (.tmp 108)))) none,
       .act (some 109) (.op (.pure (.extract (.tmp 104) 0))) none,
       .act (some 110) (.op (.pure (.extract (.tmp 104) 1))) none,
       .act (some 111) (.op (.pure (.extract (.tmp 104) 2))) none,
       .act (some 19) (.op (.pure (.move (.tmp 109)))) none,
       .act (some 20) (.op (.pure (.move (.tmp 110)))) none,
       .act (some 21) (.op (.pure (.move (.tmp 111)))) none])
     (.seq (.steps [
       .act (some 112) (.op (.pure (.move (.tmp 21)))) none,
       .act (some 113) (.op (.pure (.not (.tmp 112)))) none,
       .act (some 114) (.op (.pure (.move (.tmp 113)))) none,
       .act (some 115) (.op (.pure (.move (.tmp 19)))) (some (114, false)),
       .act (some 116) (.op (.pure (.bin .neq (.tmp 115) (.const (.int .i64 0))))) (some (114, false)),
       .act (some 117) (.op (.pure (.pick (.tmp 114) (.const (.bool true)) (.tmp 116)))) none,
       .act (some 118) (.op (.pure (.move (.tmp 117)))) none,
       .act (some 119) (.op (.pure (.move (.tmp 20)))) (some (118, false)),
       .act (some 120) (.op (.pure (.move (.tmp 1)))) (some (118, false)),
       .act (some 121) (.op (.pure (.move (.tmp 18)))) (some (118, false)),
       .act (some 122) (.op (.pure (.idxSl 1 (.tmp 120) (.tmp 121)))) (some (118, false)),
       .act (some 123) (.op (.read (.load1 (.tmp 122)))) (some (118, false)),
       .act (some 124) (.op (.pure (.bin .and (.tmp 123) (.const (w64 16777215#64))))) (some (118, false)),
       .act (some 125) (.op (.pure (.bin .neq (.tmp 119) (.tmp 124)))) (some (118, false)),
       .act (some 126) (.op (.pure (.pick (.tmp 118) (.const (.bool true)) (.tmp 125)))) none])
     (.cond (.tmp 126)
      (.seq (.steps [
        .act (some 6) (.op (.pure (.move (.const (.bool false))))) none])
      .ret)
      .skip))))
    (.steps [
      .act (some 102) (.op (.pure (.move (.tmp 18)))) none,
      .act (some 103) (.op (.pure (.bin .add (.tmp 102) (.const (.int .i64 1))))) none,
      .act (some 18) (.op (.pure (.move (.tmp 103)))) none]))))))
  (.seq (.steps [
    .act (some 128) (.op (.pure (.move (.tmp 8)))) none,
    .act (some 129) (.op (.read (.loadN 2 (.tmp 7)))) none,
    .act (some 130) (.call (.func 25) [(.tmp 129)]) none,
    .act (some 131) (.call (.func 22) [(.tmp 128), (.tmp 130), (.const (.int .i64 90))]) none,
    .act (some 127) (.op (.pure (.move (.tmp 131)))) none,
    .act (some 132) (.op (.pure (.extract (.tmp 127) 0))) none,
    .act (some 133) (.op (.pure (.extract (.tmp 127) 1))) none,
    .act (some 134) (.op (.pure (.extract (.tmp 127) 2))) none,
    .act (some 22) (.op (.pure (.move (.tmp 132)))) none,
    .act (some 23) (.op (.pure (.move (.tmp 133)))) none,
    .act (some 24) (.op (.pure (.move (.tmp 134)))) none])
  (.seq (.steps [
    .act (some 135) (.op (.pure (.move (.tmp 24)))) none,
    .act (some 136) (.op (.pure (.move (.tmp 135)))) none,
    .act (some 137) (.op (.pure (.move (.tmp 22)))) (some (136, true)),
    .act (some 138) (.op (.pure (.bin .eql (.tmp 137) (.const (.int .i64 13))))) (some (136, true)),
    .act (some 139) (.op (.pure (.pick (.tmp 136) (.tmp 138) (.const (.bool false))))) none,
    .act (some 140) (.op (.pure (.move (.tmp 139)))) none,
    .act (some 141) (.op (.pure (.move (.tmp 23)))) (some (140, true)),
    .act (some 142) (.op (.pure (.bin .eql (.tmp 141) (.const (w64 0#64))))) (some (140, true)),
    .act (some 143) (.op (.pure (.pick (.tmp 140) (.tmp 142) (.const (.bool false))))) none,
    .act (some 144) (.op (.pure (.move (.tmp 143)))) none,
    .act (some 145) (.op (.read (.loadN 2 (.tmp 7)))) (some (144, true)),
    .act (some 146) (.op (.pure (.move (.tmp 8)))) (some (144, true)),
    .act (some 147) (.call (.func 19) [(.tmp 145), (.tmp 146)]) (some (144, true)),
    .act (some 148) (.op (.pure (.bin .eql (.tmp 147) (.const (.int .i64 0))))) (some (144, true)),
    .act (some 149) (.op (.pure (.pick (.tmp 144) (.tmp 148) (.const (.bool false))))) none,
    .act (some 150) (.op (.pure (.move (.tmp 149)))) none,
    .act (some 151) (.op (.read (.loadN 2 (.tmp 7)))) (some (150, true)),
    .act (some 152) (.op (.pure (.move (.tmp 8)))) (some (150, true)),
    .act (some 153) (.call (.func 20) [(.tmp 151), (.tmp 152)]) (some (150, true)),
    .act (some 154) (.op (.pure (.pick (.tmp 150) (.tmp 153) (.const (.bool false))))) none,
    .act (some 155) (.op (.pure (.move (.tmp 154)))) none,
    .act (some 156) (.op (.pure (.move (.tmp 8)))) (some (155, true)),
    .act (some 157) (.call (.func 26) [(.tmp 156)]) (some (155, true)),
    .act (some 158) (.op (.pure (.bin .eql (.tmp 157) (.const (.int .i64 (-1)))))) (some (155, true)),
    .act (some 159) (.op (.pure (.pick (.tmp 155) (.tmp 158) (.const (.bool false))))) none,
    .act (some 160) (.op (.pure (.move (.tmp 159)))) none,
    .act (some 161) (.call (.func 21) []) (some (160, true)),
    .act (some 162) (.op (.pure (.pick (.tmp 160) (.tmp 161) (.const (.bool false))))) none,
    .act (some 6) (.op (.pure (.move (.tmp 162)))) none])
  .ret))))))))))) }
theorem c4 : compFn Try.prog (mkPlan Try.prog) [(6, [1, 2, 7, 8, 10]), (13, [1, 2, 7, 8, 10, 14]), (19, [1, 7, 8, 10, 18])] true 4 = some L4 := by kernel_rfl
/-- sluiceway/sluicewaylaw14.CrqNobody -/
def L5 : LFun := { n := 208, pop := true, res := [.tmp 4], code :=
  (.seq (.steps [
    .act (some 2) (.op (.new (.box (.tmp 0)))) none,
    .act (some 4) (.op (.pure (.move (.const (.bool false))))) none])
  (.seq (.steps [
    .act (some 21) (.call (.func 9) [(.const (.int .i64 8))]) none,
    .act (some 20) (.op (.pure (.move (.tmp 21)))) none,
    .act (some 22) (.op (.pure (.extract (.tmp 20) 0))) none,
    .act (some 23) (.op (.pure (.extract (.tmp 20) 1))) none,
    .act (some 5) (.op (.pure (.move (.tmp 22)))) none,
    .act (some 6) (.op (.pure (.move (.tmp 23)))) none])
  (.seq (.seq (.steps [
    .act (some 24) (.op (.pure (.move (.tmp 6)))) none,
    .act (some 25) (.op (.pure (.bin .neq (.tmp 24) (.const (.int .i64 0))))) none])
  (.cond (.tmp 25)
   (.seq (.steps [
     .act (some 4) (.op (.pure (.move (.const (.bool false))))) none])
   .ret)
   .skip))
  (.seq (.steps [
    .act (some 7) (.op (.pure (.move (.const (.pointer none))))) none])
  (.seq (.steps [
    .act (some 27) (.op (.pure (.move (.tmp 7)))) none,
    .act (some 28) (.call (.func 18) [(.tmp 27)]) none,
    .act (some 26) (.op (.pure (.move (.tmp 28)))) none,
    .act (some 29) (.op (.pure (.extract (.tmp 26) 0))) none,
    .act (some 30) (.op (.pure (.extract (.tmp 26) 1))) none,
    .act (some 8) (.op (.pure (.move (.tmp 29)))) none,
    .act (some 9) (.op (.pure (.move (.tmp 30)))) none])
  (.seq (.steps [
    .act (some 32) (.op (.pure (.build [(.bool false), (.int .i64 0), (.int .i64 0), (.int .i64 0), (w64 0#64), (.int .i64 0), (w64 0#64), (w64 0#64), (w64 0#64), (w64 0#64), (w64 0#64), (.int .i64 0), (.int .i64 0), (w64 0#64)] []))) none,
    .act (some 33) (.op (.new (.box (.tmp 32)))) none,
    .act (some 34) (.call (.func 18) [(.tmp 33)]) none,
    .act (some 31) (.op (.pure (.move (.tmp 34)))) none,
    .act (some 35) (.op (.pure (.extract (.tmp 31) 0))) none,
    .act (some 36) (.op (.pure (.extract (.tmp 31) 1))) none,
    .act (some 10) (.op (.pure (.move (.tmp 35)))) none,
    .act (some 11) (.op (.pure (.move (.tmp 36)))) none])
  (.seq (.seq (.steps [
    .act (some 37) (.op (.pure (.move (.tmp 8)))) none,
    .act (some 38) (.op (.pure (.bin .neq (.tmp 37) (.const (.int .i64 1))))) none,
    .act (some 39) (.op (.pure (.move (.tmp 38)))) none,
    .act (some 40) (.op (.pure (.move (.tmp 10)))) (some (39, false)),
    .act (some 41) (.op (.pure (.bin .neq (.tmp 40) (.const (.int .i64 1))))) (some (39, false)),
    .act (some 42) (.op (.pure (.pick (.tmp 39) (.const (.bool true)) (.tmp 41)))) none,
    .act (some 43) (.op (.pure (.move (.tmp 42)))) none,
    .act (some 44) (.op (.pure (.move (.tmp 9)))) (some (43, false)),
    .act (some 45) (.op (.pure (.move (.tmp 11)))) (some (43, false)),
    .act (some 46) (.op (.pure (.bin .add (.tmp 44) (.tmp 45)))) (some (43, false)),
    .act (some 47) (.op (.pure (.bin .neq (.tmp 46) (.const (w64 0#64))))) (some (43, false)),
    .act (some 48) (.op (.pure (.pick (.tmp 43) (.const (.bool true)) (.tmp 47)))) none,
    .act (some 49) (.op (.pure (.move (.tmp 48)))) none,
    .act (some 50) (.op (.pure (.move (.tmp 7)))) (some (49, false)),
    .act (some 51) (.op (.pure (.move (.tmp 5)))) (some (49, false)),
    .act (some 52) (.call (.func 15) [(.tmp 50), (.tmp 51)]) (some (49, false)),
    .act (some 53) (.op (.pure (.not (.tmp 52)))) (some (49, false)),
    .act (some 54) (.op (.pure (.pick (.tmp 49) (.const (.bool true)) (.tmp 53)))) none,
    .act (some 55) (.op (.pure (.move (.tmp 54)))) none,
    .act (some 56) (.op (.pure (.move (.tmp 7)))) (some (55, false)),
    .act (some 57) (.call (.func 27) [(.tmp 56)]) (some (55, false)),
    .act (some 58) (.op (.pure (.not (.tmp 57)))) (some (55, false)),
    .act (some 59) (.op (.pure (.pick (.tmp 55) (.const (.bool true)) (.tmp 58)))) none,
    .act (some 60) (.op (.pure (.move (.tmp 59)))) none,
    .act (some 61) (.op (.pure (.move (.tmp 7)))) (some (60, false)),
    .act (some 62) (.call (.func 16) [(.tmp 61)]) (some (60, false)),
    .act (some 63) (.op (.pure (.bin .neq (.tmp 62) (.const (.int .i64 9))))) (some (60, false)),
    .act (some 64) (.op (.pure (.pick (.tmp 60) (.const (.bool true)) (.tmp 63)))) none,
    .act (some 65) (.op (.pure (.move (.tmp 64)))) none,
    .act (some 66) (.op (.pure (.move (.tmp 5)))) (some (65, false)),
    .act (some 67) (.call (.func 28) [(.tmp 66)]) (some (65, false)),
    .act (some 68) (.op (.pure (.bin .neq (.tmp 67) (.const (.int .i64 0))))) (some (65, false)),
    .act (some 69) (.op (.pure (.pick (.tmp 65) (.const (.bool true)) (.tmp 68)))) none])
  (.cond (.tmp 69)
   (.seq (.steps [
     .act (some 4) (.op (.pure (.move (.const (.bool false))))) none])
   .ret)
   .skip))
  (.seq (.steps [
    .act (some 70) (.op (.pure (.fieldAddr 0 (.tmp 2)))) none,
    .act (some 71) (.op (.read (.load1 (.tmp 70)))) none,
    .act (some 72) (.op (.pure (.bin .geq (.tmp 71) (.const (.int .i64 0))))) none,
    .act (some 73) (.op (.pure (.move (.tmp 72)))) none,
    .act (some 74) (.op (.pure (.fieldAddr 0 (.tmp 2)))) (some (73, true)),
    .act (some 75) (.op (.read (.load1 (.tmp 74)))) (some (73, true)),
    .act (some 76) (.op (.pure (.bin .leq (.tmp 75) (.const (.int .i64 65536))))) (some (73, true)),
    .act (some 77) (.op (.pure (.pick (.tmp 73) (.tmp 76) (.const (.bool false))))) none,
    .act (some 78) (.op (.pure (.move (.tmp 77)))) none,
    .act (some 79) (.op (.pure (.fieldAddr 0 (.tmp 2)))) (some (78, true)),
    .act (some 80) (.op (.read (.load1 (.tmp 79)))) (some (78, true)),
    .act (some 81) (.op (.pure (.bin .rem (.tmp 80) (.const (.int .i64 2))))) (some (78, true)),
    .act (some 82) (.op (.pure (.bin .eql (.tmp 81) (.const (.int .i64 0))))) (some (78, true)),
    .act (some 83) (.op (.pure (.pick (.tmp 78) (.tmp 82) (.const (.bool false))))) none,
    .act (some 84) (.op (.pure (.move (.tmp 83)))) none,
    .act (some 85) (.op (.pure (.fieldAddr 1 (.tmp 2)))) (some (84, true)),
    .act (some 86) (.op (.read (.load1 (.tmp 85)))) (some (84, true)),
    .act (some 87) (.op (.pure (.bin .geq (.tmp 86) (.const (.int .i64 1))))) (some (84, true)),
    .act (some 88) (.op (.pure (.pick (.tmp 84) (.tmp 87) (.const (.bool false))))) none,
    .act (some 89) (.op (.pure (.move (.tmp 88)))) none,
    .act (some 90) (.op (.pure (.fieldAddr 1 (.tmp 2)))) (some (89, true)),
    .act (some 91) (.op (.read (.load1 (.tmp 90)))) (some (89, true)),
    .act (some 92) (.op (.pure (.bin .leq (.tmp 91) (.const (.int .i64 1024))))) (some (89, true)),
    .act (some 93) (.op (.pure (.pick (.tmp 89) (.tmp 92) (.const (.bool false))))) none,
    .act (some 94) (.op (.pure (.move (.tmp 93)))) none,
    .act (some 95) (.op (.pure (.fieldAddr 1 (.tmp 2)))) (some (94, true)),
    .act (some 96) (.op (.read (.load1 (.tmp 95)))) (some (94, true)),
    .act (some 97) (.op (.pure (.fieldAddr 1 (.tmp 2)))) (some (94, true)),
    .act (some 98) (.op (.read (.load1 (.tmp 97)))) (some (94, true)),
    .act (some 99) (.op (.pure (.bin .sub (.tmp 98) (.const (.int .i64 1))))) (some (94, true)),
    .act (some 100) (.op (.pure (.bin .and (.tmp 96) (.tmp 99)))) (some (94, true)),
    .act (some 101) (.op (.pure (.bin .eql (.tmp 100) (.const (.int .i64 0))))) (some (94, true)),
    .act (some 102) (.op (.pure (.pick (.tmp 94) (.tmp 101) (.const (.bool false))))) none,
    .act (some 12) (.op (.pure (.move (.tmp 102)))) none])
  (.seq (.steps [
    .act (some 103) (.op (.read (.loadN 2 (.tmp 2)))) none,
    .act (some 104) (.op (.pure (.move (.tmp 1)))) none,
    .act (some 106) (.op (.read (.loadN 2 (.tmp 2)))) none,
    .act (some 105) (.call (.func 23) [(.tmp 103), (.tmp 104)]) none,
    .again 106 (.loadN 2 (.tmp 2)) none,
    .act (some 107) (.call (.func 25) [(.tmp 106)]) none,
    .act (some 13) (.op (.pure (.move (.tmp 105)))) none,
    .act (some 14) (.op (.pure (.move (.tmp 107)))) none])
  (.seq (.steps [
    .act (some 108) (.op (.pure (.move (.tmp 12)))) none,
    .act (some 109) (.op (.pure (.move (.tmp 108)))) none,
    .act (some 110) (.op (.pure (.move (.tmp 1)))) (some (109, true)),
    .act (some 111) (.op (.pure (.bin .lss (.tmp 110) (.const (w64 4611686018427387904#64))))) (some (109, true)),
    .act (some 112) (.op (.pure (.pick (.tmp 109) (.tmp 111) (.const (.bool false))))) none,
    .act (some 15) (.op (.pure (.move (.tmp 112)))) none])
  (.seq (.steps [
    .act (some 114) (.op (.pure (.move (.tmp 13)))) none,
    .act (some 115) (.call (.func 18) [(.tmp 114)]) none,
    .act (some 113) (.op (.pure (.move (.tmp 115)))) none,
    .act (some 116) (.op (.pure (.extract (.tmp 113) 0))) none,
    .act (some 117) (.op (.pure (.extract (.tmp 113) 1))) none,
    .act (some 16) (.op (.pure (.move (.tmp 116)))) none,
    .act (some 17) (.op (.pure (.move (.tmp 117)))) none])
  (.seq (.steps [
    .act (some 119) (.op (.pure (.move (.tmp 14)))) none,
    .act (some 120) (.call (.func 18) [(.tmp 119)]) none,
    .act (some 118) (.op (.pure (.move (.tmp 120)))) none,
    .act (some 121) (.op (.pure (.extract (.tmp 118) 0))) none,
    .act (some 122) (.op (.pure (.extract (.tmp 118) 1))) none,
    .act (some 18) (.op (.pure (.move (.tmp 121)))) none,
    .act (some 19) (.op (.pure (.move (.tmp 122)))) none])
  (.seq (.seq (.steps [
    .act (some 123) (.op (.read (.loadN 2 (.tmp 2)))) none,
    .act (some 124) (.call (.func 29) [(.tmp 123)]) none,
    .act (some 125) (.op (.pure (.move (.tmp 12)))) none,
    .act (some 126) (.op (.pure (.eqB true (.tmp 124) (.tmp 125)))) none,
    .act (some 127) (.op (.pure (.move (.tmp 126)))) none,
    .act (some 128) (.op (.pure (.move (.tmp 13)))) (some (127, false)),
    .act (some 129) (.call (.func 27) [(.tmp 128)]) (some (127, false)),
    .act (some 130) (.op (.pure (.move (.tmp 15)))) (some (127, false)),
    .act (some 131) (.op (.pure (.eqB false (.tmp 129) (.tmp 130)))) (some (127, false)),
    .act (some 132) (.op (.pure (.pick (.tmp 127) (.const (.bool true)) (.tmp 131)))) none,
    .act (some 133) (.op (.pure (.move (.tmp 132)))) none,
    .act (some 134) (.op (.pure (.move (.tmp 16)))) (some (133, false)),
    .act (some 135) (.op (.pure (.bin .eql (.tmp 134) (.const (.int .i64 2))))) (some (133, false)),
    .act (some 136) (.op (.pure (.move (.tmp 15)))) (some (133, false)),
    .act (some 137) (.op (.pure (.eqB false (.tmp 135) (.tmp 136)))) (some (133, false)),
    .act (some 138) (.op (.pure (.pick (.tmp 133) (.const (.bool true)) (.tmp 137)))) none,
    .act (some 139) (.op (.pure (.move (.tmp 138)))) none,
    .act (some 140) (.op (.pure (.move (.tmp 14)))) (some (139, false)),
    .act (some 141) (.call (.func 27) [(.tmp 140)]) (some (139, false)),
    .act (some 142) (.op (.pure (.move (.tmp 12)))) (some (139, false)),
    .act (some 143) (.op (.pure (.eqB false (.tmp 141) (.tmp 142)))) (some (139, false)),
    .act (some 144) (.op (.pure (.pick (.tmp 139) (.const (.bool true)) (.tmp 143)))) none,
    .act (some 145) (.op (.pure (.move (.tmp 144)))) none,
    .act (some 146) (.op (.pure (.move (.tmp 18)))) (some (145, false)),
    .act (some 147) (.op (.pure (.bin .eql (.tmp 146) (.const (.int .i64 2))))) (some (145, false)),
    .act (some 148) (.op (.pure (.move (.tmp 12)))) (some (145, false)),
    .act (some 149) (.op (.pure (.eqB false (.tmp 147) (.tmp 148)))) (some (145, false)),
    .act (some 150) (.op (.pure (.pick (.tmp 145) (.const (.bool true)) (.tmp 149)))) none,
    .act (some 151) (.op (.pure (.move (.tmp 150)))) none,
    .act (some 152) (.op (.read (.loadN 2 (.tmp 2)))) (some (151, false)),
    .act (some 153) (.call (.func 30) [(.tmp 152)]) (some (151, false)),
    .act (some 154) (.op (.pure (.bin .geq (.tmp 153) (.const (.int .i64 0))))) (some (151, false)),
    .act (some 155) (.op (.pure (.move (.tmp 12)))) (some (151, false)),
    .act (some 156) (.op (.pure (.eqB true (.tmp 154) (.tmp 155)))) (some (151, false)),
    .act (some 157) (.op (.pure (.pick (.tmp 151) (.const (.bool true)) (.tmp 156)))) none])
  (.cond (.tmp 157)
   (.seq (.steps [
     .act (some 4) (.op (.pure (.move (.const (.bool false))))) none])
   .ret)
   .skip))
  (.seq (.seq (.steps [
    .act (some 158) (.op (.pure (.move (.tmp 12)))) none,
    .act (some 159) (.op (.pure (.not (.tmp 158)))) none])
  (.cond (.tmp 159)
   (.seq (.steps [
     .act (some 160) (.op (.read (.loadN 2 (.tmp 2)))) none,
     .act (some 161) (.op (.pure (.move (.tmp 5)))) none,
     .act (some 162) (.call (.func 11) [(.tmp 160), (.tmp 161)]) none,
     .act (some 163) (.op (.pure (.bin .eql (.tmp 162) (.const (.int .i64 2))))) none,
     .act (some 164) (.op (.pure (.move (.tmp 163)))) none,
     .act (some 165) (.op (.pure (.move (.tmp 14)))) (some (164, true)),
     .act (some 166) (.op (.pure (.move (.tmp 5)))) (some (164, true)),
     .act (some 167) (.call (.func 15) [(.tmp 165), (.tmp 166)]) (some (164, true)),
     .act (some 168) (.op (.pure (.pick (.tmp 164) (.tmp 167) (.const (.bool false))))) none,
     .act (some 169) (.op (.pure (.move (.tmp 168)))) none,
     .act (some 170) (.op (.pure (.move (.tmp 5)))) (some (169, true)),
     .act (some 171) (.call (.func 28) [(.tmp 170)]) (some (169, true)),
     .act (some 172) (.op (.pure (.bin .eql (.tmp 171) (.const (.int .i64 0))))) (some (169, true)),
     .act (some 173) (.op (.pure (.pick (.tmp 169) (.tmp 172) (.const (.bool false))))) none,
     .act (some 174) (.op (.pure (.move (.tmp 173)))) none,
     .act (some 175) (.op (.read (.loadN 2 (.tmp 2)))) (some (174, true)),
     .act (some 176) (.op (.pure (.move (.tmp 5)))) (some (174, true)),
     .act (some 177) (.call (.func 20) [(.tmp 175), (.tmp 176)]) (some (174, true)),
     .act (some 178) (.op (.pure (.pick (.tmp 174) (.tmp 177) (.const (.bool false))))) none,
     .act (some 179) (.op (.pure (.move (.tmp 178)))) none,
     .act (some 180) (.op (.read (.loadN 2 (.tmp 2)))) (some (179, true)),
     .act (some 181) (.op (.pure (.move (.tmp 5)))) (some (179, true)),
     .act (some 182) (.call (.func 19) [(.tmp 180), (.tmp 181)]) (some (179, true)),
     .act (some 183) (.op (.pure (.bin .eql (.tmp 182) (.const (.int .i64 0))))) (some (179, true)),
     .act (some 184) (.op (.pure (.pick (.tmp 179) (.tmp 183) (.const (.bool false))))) none,
     .act (some 185) (.op (.pure (.move (.tmp 184)))) none,
     .act (some 186) (.call (.func 21) []) (some (185, true)),
     .act (some 187) (.op (.pure (.pick (.tmp 185) (.tmp 186) (.const (.bool false))))) none,
     .act (some 4) (.op (.pure (.move (.tmp 187)))) none])
   .ret)
   .skip))
  (.seq (.steps [
    .act (some 188) (.op (.read (.loadN 2 (.tmp 2)))) none,
    .act (some 189) (.call (.func 11) [(.tmp 188), (.const (.pointer none))]) none,
    .act (some 190) (.op (.pure (.bin .eql (.tmp 189) (.const (.int .i64 1))))) none,
    .act (some 191) (.op (.pure (.move (.tmp 190)))) none,
    .act (some 192) (.op (.pure (.move (.tmp 14)))) (some (191, true)),
    .act (some 193) (.call (.func 15) [(.tmp 192), (.const (.pointer none))]) (some (191, true)),
    .act (some 194) (.op (.pure (.not (.tmp 193)))) (some (191, true)),
    .act (some 195) (.op (.pure (.pick (.tmp 191) (.tmp 194) (.const (.bool false))))) none,
    .act (some 196) (.op (.pure (.move (.tmp 195)))) none,
    .act (some 197) (.op (.pure (.move (.tmp 14)))) (some (196, true)),
    .act (some 198) (.call (.func 16) [(.tmp 197)]) (some (196, true)),
    .act (some 199) (.op (.pure (.bin .eql (.tmp 198) (.const (.int .i64 0))))) (some (196, true)),
    .act (some 200) (.op (.pure (.pick (.tmp 196) (.tmp 199) (.const (.bool false))))) none,
    .act (some 201) (.op (.pure (.move (.tmp 200)))) none,
    .act (some 202) (.op (.read (.loadN 2 (.tmp 2)))) (some (201, true)),
    .act (some 203) (.call (.func 20) [(.tmp 202), (.const (.pointer none))]) (some (201, true)),
    .act (some 204) (.op (.pure (.pick (.tmp 201) (.tmp 203) (.const (.bool false))))) none,
    .act (some 205) (.op (.pure (.move (.tmp 204)))) none,
    .act (some 206) (.call (.func 21) []) (some (205, true)),
    .act (some 207) (.op (.pure (.pick (.tmp 205) (.tmp 206) (.const (.bool false))))) none,
    .act (some 4) (.op (.pure (.move (.tmp 207)))) none])
  .ret))))))))))))))) }
theorem c5 : compFn Try.prog (mkPlan Try.prog) [] true 5 = some L5 := by kernel_rfl
/-- sluiceway/sluicewaylaw14.CrqAlone -/
def L6 : LFun := { n := 173, pop := true, res := [.tmp 6], code :=
  (.seq (.steps [
    .act (some 6) (.op (.pure (.move (.const (.bool false))))) none])
  (.seq (.steps [
    .act (some 24) (.op (.pure (.move (.tmp 0)))) none,
    .act (some 25) (.call (.func 8) [(.tmp 24)]) none,
    .act (some 26) (.op (.pure (.build [(.int .i64 0), (.int .i64 0)] [(0, 1, (.const (.int .i64 0))), (1, 1, (.tmp 25))]))) none,
    .act (some 7) (.op (.new (.alloc [(.int .i64 0), (.int .i64 0)]))) none,
    .act none (.op (.eff (.store 2 (.tmp 7) (.tmp 26)))) none])
  (.seq (.steps [
    .act (some 28) (.op (.pure (.fieldAddr 1 (.tmp 7)))) none,
    .act (some 29) (.op (.read (.load1 (.tmp 28)))) none,
    .act (some 30) (.op (.pure (.bin .mul (.const (.int .i64 2)) (.tmp 29)))) none,
    .act (some 31) (.op (.pure (.bin .add (.const (.int .i64 4)) (.tmp 30)))) none,
    .act (some 32) (.call (.func 9) [(.tmp 31)]) none,
    .act (some 27) (.op (.pure (.move (.tmp 32)))) none,
    .act (some 33) (.op (.pure (.extract (.tmp 27) 0))) none,
    .act (some 34) (.op (.pure (.extract (.tmp 27) 1))) none,
    .act (some 8) (.op (.pure (.move (.tmp 33)))) none,
    .act (some 9) (.op (.pure (.move (.tmp 34)))) none])
  (.seq (.seq (.steps [
    .act (some 35) (.op (.pure (.move (.tmp 9)))) none,
    .act (some 36) (.op (.pure (.bin .neq (.tmp 35) (.const (.int .i64 0))))) none,
    .act (some 37) (.op (.pure (.move (.tmp 36)))) none,
    .act (some 38) (.op (.read (.loadN 2 (.tmp 7)))) (some (37, false)),
    .act (some 39) (.op (.pure (.move (.tmp 8)))) (some (37, false)),
    .act (some 40) (.call (.func 11) [(.tmp 38), (.tmp 39)]) (some (37, false)),
    .act (some 41) (.op (.pure (.bin .neq (.tmp 40) (.const (.int .i64 0))))) (some (37, false)),
    .act (some 42) (.op (.pure (.pick (.tmp 37) (.const (.bool true)) (.tmp 41)))) none])
  (.cond (.tmp 42)
   (.seq (.steps [
     .act (some 6) (.op (.pure (.move (.const (.bool false))))) none])
   .ret)
   .skip))
  (.seq (.steps [
    .act (some 43) (.op (.pure (.build [(.int .i64 0), (.slice none 0 0)] []))) none,
    .act (some 10) (.op (.new (.alloc [(.int .i64 0), (.slice none 0 0)]))) none,
    .act none (.op (.eff (.store 2 (.tmp 10) (.tmp 43)))) none])
  (.seq (.steps [
    .act (some 44) (.op (.pure (.move (.tmp 2)))) none,
    .act (some 45) (.op (.pure (.bin .and (.tmp 44) (.const (.int .i64 63))))) none,
    .act (some 2) (.op (.pure (.move (.tmp 45)))) none])
  (.seq (.steps [
    .act (some 11) (.op (.pure (.move (.const (.bool false))))) none])
  (.seq (.seq (.steps [
    .act (some 12) (.op (.pure (.move (.const (.int .i64 0))))) none])
  (.block 0 (.loop [1, 2, 7, 8, 10, 11, 12] (.seq (.seq (.steps [
      .act (some 46) (.op (.pure (.move (.tmp 12)))) none,
      .act (some 47) (.op (.pure (.move (.tmp 1)))) none,
      .act (some 48) (.op (.pure (.len false (.tmp 47)))) none,
      .act (some 49) (.op (.pure (.bin .lss (.tmp 46) (.tmp 48)))) none,
      .act (some 50) (.op (.pure (.move (.tmp 49)))) none,
      .act (some 51) (.op (.pure (.move (.tmp 12)))) (some (50, true)),
      .act (some 52) (.op (.pure (.bin .lss (.tmp 51) (.const (.int .i64 60))))) (some (50, true)),
      .act (some 53) (.op (.pure (.pick (.tmp 50) (.tmp 52) (.const (.bool false))))) none])
    (.cond (.tmp 53)
     .skip
     (.exit 0)))
    (.seq (.block 1 (.seq (.seq (.steps [
       .act (some 56) (.op (.pure (.move (.tmp 12)))) none,
       .act (some 57) (.op (.pure (.move (.tmp 2)))) none,
       .act (some 58) (.op (.pure (.bin .eql (.tmp 56) (.tmp 57)))) none])
     (.cond (.tmp 58)
      (.seq (.steps [
        .act (some 60) (.op (.pure (.move (.tmp 8)))) none,
        .act (some 61) (.op (.read (.loadN 2 (.tmp 7)))) none,
        .act (some 62) (.call (.func 24) [(.tmp 61)]) none,
        .act (some 63) (.call (.func 22) [(.tmp 60), (.tmp 62), (.const (.int .i64 3))]) none,
        .act (some 59) (.op (.pure (.move (.tmp 63)))) none,
        .act (some 64) (.op (.pure (.extract (.tmp 59) 0))) none,
        .act (some 65) (.op (.pure (.extract (.tmp 59) 1))) none,
        .act (some 66) (.op (.pure (.extract (.tmp 59) 2))) none,
        .act (some 13) (.op (.pure (.move (.tmp 64)))) none,
        .act (some 14) (.op (.pure (.move (.tmp 65)))) none,
        .act (some 15) (.op (.pure (.move (.tmp 66)))) none])
      (.seq (.seq (.steps [
        .act (some 67) (.op (.pure (.move (.tmp 13)))) none,
        .act (some 68) (.op (.pure (.bin .neq (.tmp 67) (.const (.int .i64 0))))) none,
        .act (some 69) (.op (.pure (.move (.tmp 68)))) none,
        .act (some 70) (.op (.pure (.move (.tmp 15)))) (some (69, false)),
        .act (some 71) (.op (.pure (.not (.tmp 70)))) (some (69, false)),
        .act (some 72) (.op (.pure (.pick (.tmp 69) (.const (.bool true)) (.tmp 71)))) none])
      (.cond (.tmp 72)
       (.seq (.steps [
         .act (some 6) (.op (.pure (.move (.const (.bool false))))) none])
       .ret)
       .skip))
      (.steps [
        .act (some 11) (.op (.pure (.move (.const (.bool true))))) none])))
      .skip))
     (.seq (.steps [
       .act (some 73) (.op (.pure (.move (.tmp 1)))) none,
       .act (some 74) (.op (.pure (.move (.tmp 12)))) none,
       .act (some 75) (.op (.pure (.idxSl 3 (.tmp 73) (.tmp 74)))) none,
       .act (some 76) (.op (.pure (.fieldAddr 1 (.tmp 75)))) none,
       .act (some 77) (.op (.read (.load1 (.tmp 76)))) none,
       .act (some 78) (.op (.pure (.bin .and (.tmp 77) (.const (.int .i64 1))))) none,
       .act (some 79) (.op (.pure (.move (.tmp 1)))) none,
       .act (some 80) (.op (.pure (.move (.tmp 12)))) none,
       .act (some 81) (.op (.pure (.idxSl 3 (.tmp 79) (.tmp 80)))) none,
       .act (some 82) (.op (.pure (.fieldAddr 2 (.tmp 81)))) none,
       .act (some 83) (.op (.read (.load1 (.tmp 82)))) none,
       .act (some 84) (.op (.pure (.bin .and (.tmp 83) (.const (w64 65535#64))))) none,
       .act (some 16) (.op (.pure (.move (.tmp 78)))) none,
       .act (some 17) (.op (.pure (.move (.tmp 84)))) none])
     (.seq (.steps [
       .act (some 86) (.op (.pure (.move (.tmp 8)))) none,
       .act (some 87) (.op (.read (.loadN 2 (.tmp 7)))) none,
       .act (some 88) (.op (.pure (.move (.tmp 16)))) none,
       .act (some 89) (.op (.pure (.move (.tmp 17)))) none,
       .act (some 90) (.op (.pure (.move (.tmp 16)))) none,
       .act (some 91) (.op (.pure (.bin .sub (.const (.int .i64 1)) (.tmp 90)))) none,
       .act (some 92) (.op (.pure (.conv .u64 (.tmp 91)))) none,
       .act (some 93) (.op (.pure (.bin .mul (.tmp 89) (.tmp 92)))) none,
       .act (some 94) (.call (.func 13) [(.tmp 87), (.tmp 88), (.tmp 93)]) none,
       .act (some 95) (.call (.func 22) [(.tmp 86), (.tmp 94), (.const (.int .i64 900))]) none,
       .act (some 85) (.op (.pure (.move (.tmp 95)))) none,
       .act (some 96) (.op (.pure (.extract (.tmp 85) 0))) none,
       .act (some 97) (.op (.pure (.extract (.tmp 85) 1))) none,
       .act (some 98) (.op (.pure (.extract (.tmp 85) 2))) none,
       .act (some 18) (.op (.pure (.move (.tmp 96)))) none,
       .act (some 19) (.op (.pure (.move (.tmp 97)))) none,
       .act (some 20) (.op (.pure (.move (.tmp 98)))) none])
     (.seq (.seq (.steps [
       .act (some 99) (.op (.pure (.move (.tmp 20)))) none,
       .act (some 100) (.op (.pure (.not (.tmp 99)))) none,
       .act (some 101) (.op (.pure (.move (.tmp 100)))) none,
       .act (some 102) (.op (.read (.loadN 2 (.tmp 7)))) (some (101, false)),
       .act (some 103) (.op (.pure (.move (.tmp 8)))) (some (101, false)),
       .act (some 105) (.op (.pure (.fieldAddr 1 (.tmp 7)))) (some (101, false)),
       .act (some 106) (.op (.read (.load1 (.tmp 105)))) (some (101, false)),
       .act (some 104) (.call (.func 19) [(.tmp 102), (.tmp 103)]) (some (101, false)),
       .act (some 107) (.op (.pure (.bin .gtr (.tmp 104) (.tmp 106)))) (some (101, false)),
       .act (some 108) (.op (.pure (.pick (.tmp 101) (.const (.bool true)) (.tmp 107)))) none,
       .again 106 (.load1 (.tmp 105)) (some (101, false))])
     (.cond (.tmp 108)
      (.seq (.steps [
        .act (some 6) (.op (.pure (.move (.const (.bool false))))) none])
      .ret)
      .skip))
     (.seq (.seq (.steps [
       .act (some 109) (.op (.pure (.move (.tmp 16)))) none,
       .act (some 110) (.op (.pure (.bin .eql (.tmp 109) (.const (.int .i64 0))))) none,
       .act (some 111) (.op (.pure (.move (.tmp 110)))) none,
       .act (some 112) (.op (.pure (.move (.tmp 18)))) (some (111, true)),
       .act (some 113) (.op (.pure (.bin .eql (.tmp 112) (.const (.int .i64 16))))) (some (111, true)),
       .act (some 114) (.op (.pure (.pick (.tmp 111) (.tmp 113) (.const (.bool false))))) none])
     (.cond (.tmp 114)
      (.seq (.seq (.steps [
        .act (some 115) (.op (.pure (.move (.tmp 11)))) none,
        .act (some 116) (.op (.pure (.not (.tmp 115)))) none,
        .act (some 117) (.op (.pure (.move (.tmp 116)))) none,
        .act (some 118) (.op (.pure (.fieldAddr 1 (.tmp 10)))) (some (117, true)),
        .act (some 119) (.op (.read (.load1 (.tmp 118)))) (some (117, true)),
        .act (some 120) (.op (.pure (.len false (.tmp 119)))) (some (117, true)),
        .act (some 121) (.op (.pure (.fieldAddr 1 (.tmp 7)))) (some (117, true)),
        .act (some 122) (.op (.read (.load1 (.tmp 121)))) (some (117, true)),
        .act (some 123) (.op (.pure (.bin .lss (.tmp 120) (.tmp 122)))) (some (117, true)),
        .act (some 124) (.op (.pure (.pick (.tmp 117) (.tmp 123) (.const (.bool false))))) none,
        .act (some 125) (.op (.pure (.move (.tmp 124)))) none,
        .act (some 126) (.op (.pure (.move (.tmp 19)))) (some (125, false)),
        .act (some 127) (.op (.pure (.bin .neq (.tmp 126) (.const (w64 0#64))))) (some (125, false)),
        .act (some 128) (.op (.pure (.pick (.tmp 125) (.const (.bool true)) (.tmp 127)))) none])
      (.cond (.tmp 128)
       (.seq (.steps [
         .act (some 6) (.op (.pure (.move (.const (.bool false))))) none])
       .ret)
       .skip))
      (.seq (.steps [
        .act (some 11) (.op (.pure (.move (.const (.bool true))))) none])
      (.exit 1)))
      .skip))
     (.seq (.steps [
       .act (some 130) (.op (.read (.loadN 2 (.tmp 10)))) none,
       .act (some 131) (.op (.pure (.move (.tmp 16)))) none,
       .act (some 132) (.op (.pure (.move (.tmp 17)))) none,
       .act (some 133) (.call (.func 31) [(.tmp 130), (.tmp 131), (.tmp 132)]) none,
       .act (some 129) (.op (.pure (.move (.tmp 133)))) none,
       .act (some 134) (.op (.pure (.extract (.tmp 129) 0))) none,
       .act (some 135) (.op (.pure (.extract (.tmp 129) 1))) none,
       .act (some 136) (.op (.pure (.extract (.tmp 129) 2))) none,
       .act (some 21) (.op (.new (.alloc [(.int .i64 0), (.slice none 0 0)]))) none,
       .act none (.op (.eff (.store 2 (.tmp 21) (.tmp 134)))) none,
       .act (some 22) (.op (.pure (.move (.tmp 135)))) none,
       .act (some 23) (.op (.pure (.move (.tmp 136)))) none])
     (.seq (.seq (.steps [
       .act (some 137) (.op (.pure (.move (.tmp 18)))) none,
       .act (some 138) (.op (.pure (.move (.tmp 22)))) none,
       .act (some 139) (.op (.pure (.bin .neq (.tmp 137) (.tmp 138)))) none,
       .act (some 140) (.op (.pure (.move (.tmp 139)))) none,
       .act (some 141) (.op (.pure (.move (.tmp 19)))) (some (140, false)),
       .act (some 142) (.op (.pure (.move (.tmp 23)))) (some (140, false)),
       .act (some 143) (.op (.pure (.bin .neq (.tmp 141) (.tmp 142)))) (some (140, false)),
       .act (some 144) (.op (.pure (.pick (.tmp 140) (.const (.bool true)) (.tmp 143)))) none,
       .act (some 145) (.op (.pure (.move (.tmp 144)))) none,
       .act (some 146) (.op (.pure (.move (.tmp 16)))) (some (145, false)),
       .act (some 147) (.op (.pure (.bin .eql (.tmp 146) (.const (.int .i64 0))))) (some (145, false)),
       .act (some 148) (.op (.pure (.move (.tmp 147)))) (some (145, false)),
       .act (some 149) (.op (.pure (.move (.tmp 11)))) (some (148, true)),
       .act (some 150) (.op (.pure (.pick (.tmp 148) (.tmp 149) (.const (.bool false))))) (some (145, false)),
       .act (some 151) (.op (.pure (.pick (.tmp 145) (.const (.bool true)) (.tmp 150)))) none])
     (.cond (.tmp 151)
      (.seq (.steps [
        .act (some 6) (.op (.pure (.move (.const (.bool false))))) none])
      .ret)
      .skip))
     (.seq (.steps [
       .act (some 152) (.op (.read (.loadN 2 (.tmp 21)))) none,
       .act none (.op (.eff (.store 2 (.tmp 10) (.tmp 152)))) none])
     (.seq (.steps [
       .act (some 153) (.op (.read (.loadN 2 (.tmp 7)))) none,
       .act (some 154) (.op (.pure (.move (.tmp 8)))) none,
       .act (some 156) (.op (.pure (.fieldAddr 1 (.tmp 10)))) none,
       .act (some 157) (.op (.read (.load1 (.tmp 156)))) none,
       .act (some 158) (.op (.pure (.len false (.tmp 157)))) none,
       .act (some 155) (.call (.func 19) [(.tmp 153), (.tmp 154)]) none,
       .act (some 159) (.op (.pure (.bin .neq (.tmp 155) (.tmp 158)))) none,
       .act (some 160) (.op (.pure (.move (.tmp 159)))) none,
       .act (some 161) (.op (.read (.loadN 2 (.tmp 7)))) (some (160, false)),
       .act (some 162) (.op (.pure (.move (.tmp 8)))) (some (160, false)),
       .act (some 164) (.op (.pure (.move (.tmp 11)))) (some (160, false)),
       .again 157 (.load1 (.tmp 156)) none,
       .act (some 163) (.call (.func 20) [(.tmp 161), (.tmp 162)]) (some (160, false)),
       .act (some 165) (.op (.pure (.eqB true (.tmp 163) (.tmp 164)))) (some (160, false)),
       .act (some 166) (.op (.pure (.pick (.tmp 160) (.const (.bool true)) (.tmp 165)))) none])
     (.cond (.tmp 166)
      (.seq (.steps [
        .act (some 6) (.op (.pure (.move (.const (.bool false))))) none])
      .ret)
      .skip)))))))))))
    (.steps [
      .act (some 54) (.op (.pure (.move (.tmp 12)))) none,
      .act (some 55) (.op (.pure (.bin .add (.tmp 54) (.const (.int .i64 1))))) none,
      .act (some 12) (.op (.pure (.move (.tmp 55)))) none]))))))
  (.seq (.steps [
    .act (some 167) (.op (.pure (.move (.tmp 8)))) none,
    .act (some 168) (.call (.func 26) [(.tmp 167)]) none,
    .act (some 169) (.op (.pure (.bin .eql (.tmp 168) (.const (.int .i64 (-1)))))) none,
    .act (some 170) (.op (.pure (.move (.tmp 169)))) none,
    .act (some 171) (.call (.func 21) []) (some (170, true)),
    .act (some 172) (.op (.pure (.pick (.tmp 170) (.tmp 171) (.const (.bool false))))) none,
    .act (some 6) (.op (.pure (.move (.tmp 172)))) none])
  .ret))))))))) }
theorem c6 : compFn Try.prog (mkPlan Try.prog) [(9, [1, 2, 7, 8, 10, 11, 12])] true 6 = some L6 := by kernel_rfl
/-- sluiceway/sluicewaylaw14.CrqOrders -/
def L7 : LFun := { n := 196, pop := true, res := [.tmp 6], code :=
  (.seq (.steps [
    .act (some 6) (.op (.pure (.move (.const (.bool false))))) none])
  (.seq (.steps [
    .act (some 25) (.op (.pure (.move (.tmp 0)))) none,
    .act (some 26) (.call (.func 8) [(.tmp 25)]) none,
    .act (some 27) (.op (.pure (.build [(.int .i64 0), (.int .i64 0)] [(0, 1, (.const (.int .i64 0))), (1, 1, (.tmp 26))]))) none,
    .act (some 7) (.op (.new (.alloc [(.int .i64 0), (.int .i64 0)]))) none,
    .act none (.op (.eff (.store 2 (.tmp 7) (.tmp 27)))) none])
  (.seq (.steps [
    .act (some 29) (.op (.pure (.fieldAddr 1 (.tmp 7)))) none,
    .act (some 30) (.op (.read (.load1 (.tmp 29)))) none,
    .act (some 31) (.op (.pure (.bin .mul (.const (.int .i64 2)) (.tmp 30)))) none,
    .act (some 32) (.op (.pure (.bin .add (.const (.int .i64 4)) (.tmp 31)))) none,
    .act (some 33) (.call (.func 9) [(.tmp 32)]) none,
    .act (some 28) (.op (.pure (.move (.tmp 33)))) none,
    .act (some 34) (.op (.pure (.extract (.tmp 28) 0))) none,
    .act (some 35) (.op (.pure (.extract (.tmp 28) 1))) none,
    .act (some 8) (.op (.pure (.move (.tmp 34)))) none,
    .act (some 9) (.op (.pure (.move (.tmp 35)))) none])
  (.seq (.seq (.steps [
    .act (some 36) (.op (.pure (.move (.tmp 9)))) none,
    .act (some 37) (.op (.pure (.bin .neq (.tmp 36) (.const (.int .i64 0))))) none,
    .act (some 38) (.op (.pure (.move (.tmp 37)))) none,
    .act (some 39) (.op (.read (.loadN 2 (.tmp 7)))) (some (38, false)),
    .act (some 40) (.op (.pure (.move (.tmp 8)))) (some (38, false)),
    .act (some 41) (.call (.func 11) [(.tmp 39), (.tmp 40)]) (some (38, false)),
    .act (some 42) (.op (.pure (.bin .neq (.tmp 41) (.const (.int .i64 0))))) (some (38, false)),
    .act (some 43) (.op (.pure (.pick (.tmp 38) (.const (.bool true)) (.tmp 42)))) none])
  (.cond (.tmp 43)
   (.seq (.steps [
     .act (some 6) (.op (.pure (.move (.const (.bool false))))) none])
   .ret)
   .skip))
  (.seq (.steps [
    .act (some 44) (.call (.func 32) []) none,
    .act (some 10) (.op (.pure (.move (.tmp 44)))) none])
  (.seq (.steps [
    .act (some 11) (.op (.new (.alloc [(.pointer none), (.pointer none), (.pointer none), (.pointer none)]))) none])
  (.seq (.steps [
    .act (some 12) (.op (.new (.alloc [(.int .i64 0), (.int .i64 0), (.int .i64 0), (.int .i64 0)]))) none])
  (.seq (.steps [
    .act (some 13) (.op (.pure (.move (.const (.int .i64 0))))) none])
  (.seq (.seq (.steps [
    .act (some 14) (.op (.pure (.move (.const (.int .i64 0))))) none])
  (.block 0 (.loop [1, 2, 7, 8, 10, 11, 12, 13, 14] (.seq (.seq (.steps [
      .act (some 45) (.op (.pure (.move (.tmp 14)))) none,
      .act (some 46) (.op (.pure (.move (.tmp 2)))) none,
      .act (some 47) (.op (.pure (.len false (.tmp 46)))) none,
      .act (some 48) (.op (.pure (.bin .lss (.tmp 45) (.tmp 47)))) none,
      .act (some 49) (.op (.pure (.move (.tmp 48)))) none,
      .act (some 50) (.op (.pure (.move (.tmp 14)))) (some (49, true)),
      .act (some 51) (.op (.pure (.bin .lss (.tmp 50) (.const (.int .i64 250))))) (some (49, true)),
      .act (some 52) (.op (.pure (.pick (.tmp 49) (.tmp 51) (.const (.bool false))))) none])
    (.cond (.tmp 52)
     .skip
     (.exit 0)))
    (.seq (.block 1 (.seq (.steps [
       .act (some 55) (.op (.pure (.move (.tmp 2)))) none,
       .act (some 56) (.op (.pure (.move (.tmp 14)))) none,
       .act (some 57) (.op (.pure (.idxSl 1 (.tmp 55) (.tmp 56)))) none,
       .act (some 58) (.op (.read (.load1 (.tmp 57)))) none,
       .act (some 59) (.op (.pure (.bin .and (.tmp 58) (.const (.int .i64 3))))) none,
       .act (some 15) (.op (.pure (.move (.tmp 59)))) none])
     (.seq (.seq (.steps [
       .act (some 60) (.op (.pure (.move (.tmp 15)))) none,
       .act (some 61) (.op (.pure (.idxArr 4 1 (.tmp 11) (.tmp 60)))) none,
       .act (some 62) (.op (.read (.load1 (.tmp 61)))) none,
       .act (some 63) (.op (.pure (.eqNil .p false (.tmp 62) (.const (.pointer none))))) none])
     (.cond (.tmp 63)
      (.seq (.seq (.steps [
        .act (some 64) (.op (.pure (.move (.tmp 13)))) none,
        .act (some 65) (.op (.pure (.move (.tmp 1)))) none,
        .act (some 66) (.op (.pure (.len false (.tmp 65)))) none,
        .act (some 67) (.op (.pure (.bin .geq (.tmp 64) (.tmp 66)))) none,
        .act (some 68) (.op (.pure (.move (.tmp 67)))) none,
        .act (some 69) (.op (.pure (.move (.tmp 13)))) (some (68, false)),
        .act (some 70) (.op (.pure (.bin .geq (.tmp 69) (.const (.int .i64 8))))) (some (68, false)),
        .act (some 71) (.op (.pure (.pick (.tmp 68) (.const (.bool true)) (.tmp 70)))) none])
      (.cond (.tmp 71)
       (.exit 1)
       .skip))
      (.seq (.steps [
        .act (some 72) (.op (.pure (.move (.tmp 1)))) none,
        .act (some 73) (.op (.pure (.move (.tmp 13)))) none,
        .act (some 74) (.op (.pure (.idxSl 3 (.tmp 72) (.tmp 73)))) none,
        .act (some 75) (.op (.pure (.fieldAddr 1 (.tmp 74)))) none,
        .act (some 76) (.op (.read (.load1 (.tmp 75)))) none,
        .act (some 77) (.op (.pure (.bin .and (.tmp 76) (.const (.int .i64 1))))) none,
        .act (some 78) (.op (.pure (.move (.tmp 1)))) none,
        .act (some 79) (.op (.pure (.move (.tmp 13)))) none,
        .act (some 80) (.op (.pure (.idxSl 3 (.tmp 78) (.tmp 79)))) none,
        .act (some 81) (.op (.pure (.fieldAddr 2 (.tmp 80)))) none,
        .act (some 82) (.op (.read (.load1 (.tmp 81)))) none,
        .act (some 83) (.op (.pure (.bin .and (.tmp 82) (.const (w64 65535#64))))) none,
        .act (some 16) (.op (.pure (.move (.tmp 77)))) none,
        .act (some 17) (.op (.pure (.move (.tmp 83)))) none])
      (.seq (.steps [
        .act (some 84) (.op (.pure (.move (.tmp 15)))) none,
        .act (some 85) (.op (.read (.loadN 2 (.tmp 7)))) none,
        .act (some 86) (.op (.pure (.move (.tmp 16)))) none,
        .act (some 87) (.op (.pure (.move (.tmp 17)))) none,
        .act (some 88) (.op (.pure (.move (.tmp 16)))) none,
        .act (some 89) (.op (.pure (.bin .sub (.const (.int .i64 1)) (.tmp 88)))) none,
        .act (some 90) (.op (.pure (.conv .u64 (.tmp 89)))) none,
        .act (some 91) (.op (.pure (.bin .mul (.tmp 87) (.tmp 90)))) none,
        .act (some 92) (.call (.func 13) [(.tmp 85), (.tmp 86), (.tmp 91)]) none,
        .act (some 93) (.op (.pure (.idxArr 4 1 (.tmp 11) (.tmp 84)))) none,
        .act none (.op (.eff (.store 1 (.tmp 93) (.tmp 92)))) none])
      (.seq (.steps [
        .act (some 95) (.op (.pure (.move (.tmp 15)))) none,
        .act (some 96) (.op (.pure (.move (.tmp 10)))) none,
        .act (some 97) (.op (.pure (.move (.tmp 15)))) none,
        .act (some 98) (.op (.pure (.move (.tmp 16)))) none,
        .act (some 99) (.op (.pure (.move (.tmp 17)))) none,
        .act (some 100) (.call (.func 33) [(.tmp 96), (.tmp 97), (.tmp 98), (.tmp 99)]) none,
        .act (some 94) (.op (.pure (.move (.tmp 100)))) none,
        .act (some 101) (.op (.pure (.extract (.tmp 94) 0))) none,
        .act (some 102) (.op (.pure (.extract (.tmp 94) 1))) none,
        .act (some 103) (.op (.pure (.idxArr 4 1 (.tmp 12) (.tmp 95)))) none,
        .act none (.op (.eff (.store 1 (.tmp 103) (.tmp 101)))) none])
      (.steps [
        .act (some 104) (.op (.pure (.move (.tmp 13)))) none,
        .act (some 105) (.op (.pure (.bin .add (.tmp 104) (.const (.int .i64 1))))) none,
        .act (some 13) (.op (.pure (.move (.tmp 105)))) none])))))
      .skip))
     (.seq (.steps [
       .act (some 106) (.op (.pure (.move (.tmp 15)))) none,
       .act (some 107) (.op (.pure (.idxArr 4 1 (.tmp 11) (.tmp 106)))) none,
       .act (some 108) (.op (.read (.load1 (.tmp 107)))) none,
       .act (some 109) (.op (.pure (.move (.tmp 8)))) none,
       .act (some 110) (.call (.func 15) [(.tmp 108), (.tmp 109)]) none])
     (.cond (.tmp 110)
      (.seq (.steps [
        .act (some 112) (.op (.pure (.move (.tmp 15)))) none,
        .act (some 113) (.op (.pure (.idxArr 4 1 (.tmp 11) (.tmp 112)))) none,
        .act (some 114) (.op (.read (.load1 (.tmp 113)))) none,
        .act (some 115) (.call (.func 18) [(.tmp 114)]) none,
        .act (some 111) (.op (.pure (.move (.tmp 115)))) none,
        .act (some 116) (.op (.pure (.extract (.tmp 111) 0))) none,
        .act (some 117) (.op (.pure (.extract (.tmp 111) 1))) none,
        .act (some 18) (.op (.pure (.move (.tmp 116)))) none,
        .act (some 19) (.op (.pure (.move (.tmp 117)))) none])
      (.seq (.steps [
        .act (some 118) (.op (.pure (.move (.tmp 10)))) none,
        .act (some 119) (.op (.pure (.move (.tmp 15)))) none,
        .act (some 120) (.op (.pure (.idxArr 4 1 (.tmp 12) (.tmp 119)))) none,
        .act (some 121) (.op (.read (.load1 (.tmp 120)))) none,
        .act (some 122) (.op (.pure (.move (.tmp 18)))) none,
        .act (some 123) (.op (.pure (.move (.tmp 19)))) none,
        .act (some 124) (.call (.func 34) [(.tmp 118), (.tmp 121), (.tmp 122), (.tmp 123)]) none])
      (.steps [
        .act (some 125) (.op (.pure (.move (.tmp 15)))) none,
        .act (some 126) (.op (.pure (.idxArr 4 1 (.tmp 11) (.tmp 125)))) none,
        .act none (.op (.eff (.store 1 (.tmp 126) (.const (.pointer none))))) none])))
      .skip)))))
    (.steps [
      .act (some 53) (.op (.pure (.move (.tmp 14)))) none,
      .act (some 54) (.op (.pure (.bin .add (.tmp 53) (.const (.int .i64 1))))) none,
      .act (some 14) (.op (.pure (.move (.tmp 54)))) none]))))))
  (.seq (.steps [
    .act (some 127) (.op (.pure (.move (.tmp 10)))) none,
    .act (some 128) (.call (.func 35) [(.tmp 127)]) none,
    .act (some 20) (.op (.pure (.move (.tmp 128)))) none])
  (.seq (.seq (.steps [
    .act (some 21) (.op (.pure (.move (.const (.int .i64 0))))) none])
  (.block 2 (.loop [8, 20, 21] (.seq (.seq (.steps [
      .act (some 129) (.op (.pure (.move (.tmp 21)))) none,
      .act (some 130) (.op (.pure (.move (.tmp 20)))) none,
      .act (some 131) (.op (.pure (.len false (.tmp 130)))) none,
      .act (some 132) (.op (.pure (.bin .lss (.tmp 129) (.tmp 131)))) none])
    (.cond (.tmp 132)
     .skip
     (.exit 2)))
    (.seq (.block 3 (.seq (.steps [
       .act (some 22) (.op (.pure (.move (.const (.int .i64 0))))) none])
     (.block 4 (.loop [8, 20, 21, 22] (.seq (.seq (.steps [
         .act (some 135) (.op (.pure (.move (.tmp 22)))) none,
         .act (some 136) (.op (.pure (.move (.tmp 20)))) none,
         .act (some 137) (.op (.pure (.len false (.tmp 136)))) none,
         .act (some 138) (.op (.pure (.bin .lss (.tmp 135) (.tmp 137)))) none])
       (.cond (.tmp 138)
        .skip
        (.exit 4)))
       (.seq (.block 5 (.seq (.steps [
          .act (some 141) (.op (.pure (.move (.tmp 20)))) none,
          .act (some 142) (.op (.pure (.move (.tmp 21)))) none,
          .act (some 143) (.op (.pure (.idxSl 8 (.tmp 141) (.tmp 142)))) none,
          .act (some 144) (.op (.pure (.fieldAddr 6 (.tmp 143)))) none,
          .act (some 145) (.op (.read (.load1 (.tmp 144)))) none,
          .act (some 146) (.op (.pure (.bin .eql (.tmp 145) (.const (.int .i64 16))))) none,
          .act (some 147) (.op (.pure (.move (.tmp 146)))) none,
          .act (some 148) (.op (.pure (.move (.tmp 20)))) (some (147, true)),
          .act (some 149) (.op (.pure (.move (.tmp 21)))) (some (147, true)),
          .act (some 150) (.op (.pure (.idxSl 8 (.tmp 148) (.tmp 149)))) (some (147, true)),
          .act (some 151) (.op (.read (.loadN 8 (.tmp 150)))) (some (147, true)),
          .act (some 152) (.op (.pure (.move (.tmp 20)))) (some (147, true)),
          .act (some 153) (.op (.pure (.move (.tmp 22)))) (some (147, true)),
          .act (some 154) (.op (.pure (.idxSl 8 (.tmp 152) (.tmp 153)))) (some (147, true)),
          .act (some 155) (.op (.read (.loadN 8 (.tmp 154)))) (some (147, true)),
          .act (some 156) (.call (.func 36) [(.tmp 151), (.tmp 155)]) (some (147, true)),
          .act (some 157) (.op (.pure (.pick (.tmp 147) (.tmp 156) (.const (.bool false))))) none,
          .act (some 158) (.op (.pure (.move (.tmp 157)))) none,
          .act (some 159) (.op (.pure (.move (.tmp 20)))) (some (158, true)),
          .act (some 160) (.op (.pure (.move (.tmp 22)))) (some (158, true)),
          .act (some 161) (.op (.pure (.idxSl 8 (.tmp 159) (.tmp 160)))) (some (158, true)),
          .act (some 162) (.op (.pure (.fieldAddr 1 (.tmp 161)))) (some (158, true)),
          .act (some 163) (.op (.read (.load1 (.tmp 162)))) (some (158, true)),
          .act (some 164) (.op (.pure (.bin .eql (.tmp 163) (.const (.int .i64 0))))) (some (158, true)),
          .act (some 165) (.op (.pure (.pick (.tmp 158) (.tmp 164) (.const (.bool false))))) none,
          .act (some 166) (.op (.pure (.move (.tmp 165)))) none,
          .act (some 167) (.op (.pure (.move (.tmp 20)))) (some (166, true)),
          .act (some 168) (.op (.pure (.move (.tmp 22)))) (some (166, true)),
          .act (some 169) (.op (.pure (.idxSl 8 (.tmp 167) (.tmp 168)))) (some (166, true)),
          .act (some 170) (.op (.pure (.fieldAddr 5 (.tmp 169)))) (some (166, true)),
          .act (some 171) (.op (.read (.load1 (.tmp 170)))) (some (166, true)),
          .act (some 172) (.op (.pure (.pick (.tmp 166) (.tmp 171) (.const (.bool false))))) none,
          .act (some 173) (.op (.pure (.move (.tmp 172)))) none,
          .act (some 174) (.op (.pure (.move (.tmp 20)))) (some (173, true)),
          .act (some 175) (.op (.pure (.move (.tmp 22)))) (some (173, true)),
          .act (some 176) (.op (.pure (.idxSl 8 (.tmp 174) (.tmp 175)))) (some (173, true)),
          .act (some 177) (.op (.pure (.fieldAddr 6 (.tmp 176)))) (some (173, true)),
          .act (some 178) (.op (.read (.load1 (.tmp 177)))) (some (173, true)),
          .act (some 179) (.op (.pure (.bin .neq (.tmp 178) (.const (.int .i64 16))))) (some (173, true)),
          .act (some 180) (.op (.pure (.pick (.tmp 173) (.tmp 179) (.const (.bool false))))) none])
        (.cond (.tmp 180)
         (.seq (.steps [
           .act (some 6) (.op (.pure (.move (.const (.bool false))))) none])
         .ret)
         .skip)))
       (.steps [
         .act (some 139) (.op (.pure (.move (.tmp 22)))) none,
         .act (some 140) (.op (.pure (.bin .add (.tmp 139) (.const (.int .i64 1))))) none,
         .act (some 22) (.op (.pure (.move (.tmp 140)))) none])))))))
    (.steps [
      .act (some 133) (.op (.pure (.move (.tmp 21)))) none,
      .act (some 134) (.op (.pure (.bin .add (.tmp 133) (.const (.int .i64 1))))) none,
      .act (some 21) (.op (.pure (.move (.tmp 134)))) none]))))))
  (.seq (.steps [
    .act (some 182) (.op (.pure (.move (.tmp 20)))) none,
    .act (some 183) (.call (.func 38) [(.tmp 182)]) none,
    .act (some 184) (.call (.func 37) [(.tmp 183), (.const (.int .i64 0)), (.const (.int .i64 0))]) none,
    .act (some 181) (.op (.pure (.move (.tmp 184)))) none,
    .act (some 185) (.op (.pure (.extract (.tmp 181) 0))) none,
    .act (some 186) (.op (.pure (.extract (.tmp 181) 1))) none,
    .act (some 23) (.op (.pure (.move (.tmp 185)))) none,
    .act (some 24) (.op (.pure (.move (.tmp 186)))) none])
  (.seq (.steps [
    .act (some 187) (.op (.pure (.move (.tmp 24)))) none,
    .act (some 188) (.op (.pure (.move (.tmp 187)))) none,
    .act (some 189) (.op (.pure (.move (.tmp 8)))) (some (188, true)),
    .act (some 190) (.call (.func 26) [(.tmp 189)]) (some (188, true)),
    .act (some 191) (.op (.pure (.bin .eql (.tmp 190) (.const (.int .i64 (-1)))))) (some (188, true)),
    .act (some 192) (.op (.pure (.pick (.tmp 188) (.tmp 191) (.const (.bool false))))) none,
    .act (some 193) (.op (.pure (.move (.tmp 192)))) none,
    .act (some 194) (.call (.func 21) []) (some (193, true)),
    .act (some 195) (.op (.pure (.pick (.tmp 193) (.tmp 194) (.const (.bool false))))) none,
    .act (some 6) (.op (.pure (.move (.tmp 195)))) none])
  .ret))))))))))))) }
theorem c7 : compFn Try.prog (mkPlan Try.prog) [(10, [1, 2, 7, 8, 10, 11, 12, 13, 14]), (25, [8, 20, 21]), (28, [8, 20, 21, 22])] true 7 = some L7 := by kernel_rfl
/-- sluiceway/sluicewaylaw07.Size -/
def L8 : LFun := { n := 7, pop := true, res := [.tmp 2], code :=
  (.seq (.steps [
    .act (some 2) (.op (.pure (.move (.const (.int .i64 0))))) none])
  (.seq (.steps [
    .act (some 3) (.op (.pure (.move (.tmp 0)))) none,
    .act (some 4) (.op (.pure (.bin .and (.tmp 3) (.const (.int .i64 3))))) none,
    .act (some 5) (.op (.pure (.conv .u64 (.tmp 4)))) none,
    .act (some 6) (.op (.pure (.bin .shl (.const (.int .i64 1)) (.tmp 5)))) none,
    .act (some 2) (.op (.pure (.move (.tmp 6)))) none])
  .ret)) }
theorem c8 : compFn Try.prog (mkPlan Try.prog) [] true 8 = some L8 := by kernel_rfl
/-- sluiceway/mem.New -/
def L9 : LFun := { n := 16, pop := false, res := [.tmp 2, .tmp 3], code :=
  (.seq (.steps [
    .act (some 2) (.op (.pure (.move (.const (.pointer none))))) none,
    .act (some 3) (.op (.pure (.move (.const (.int .i64 0))))) none])
  (.seq (.seq (.steps [
    .act (some 4) (.op (.pure (.move (.tmp 0)))) none,
    .act (some 5) (.op (.pure (.bin .lss (.tmp 4) (.const (.int .i64 1))))) none,
    .act (some 6) (.op (.pure (.move (.tmp 5)))) none,
    .act (some 7) (.op (.pure (.move (.tmp 0)))) (some (6, false)),
    .act (some 8) (.op (.pure (.bin .gtr (.tmp 7) (.const (.int .i64 65536))))) (some (6, false)),
    .act (some 9) (.op (.pure (.pick (.tmp 6) (.const (.bool true)) (.tmp 8)))) none])
  (.cond (.tmp 9)
   (.seq (.steps [
     .act (some 2) (.op (.pure (.move (.const (.pointer none))))) none,
     .act (some 3) (.op (.pure (.move (.const (.int .i64 2))))) none])
   .ret)
   .skip))
  (.seq (.steps [
    .act (some 10) (.op (.pure (.move (.tmp 0)))) none,
    .act (some 11) (.op (.new (.makeSlice 1 8 [(w64 0#64)] (.tmp 10) (.tmp 10)))) none,
    .act (some 12) (.op (.pure (.move (.tmp 0)))) none,
    .act (some 13) (.op (.new (.makeSlice 1 1 [(.bool false)] (.tmp 12) (.tmp 12)))) none,
    .act (some 14) (.op (.pure (.build [(.slice none 0 0), (.slice none 0 0), (.int .i64 0), (.int .i64 0), (.int .i64 0), (.int .i64 0), (.int .i64 0), (.int .i64 0), (.int .i64 0), (.bool false)] [(0, 1, (.tmp 11)), (1, 1, (.tmp 13)), (8, 1, (.const (.int .i64 (-1))))]))) none,
    .act (some 15) (.op (.new (.box (.tmp 14)))) none,
    .act (some 2) (.op (.pure (.move (.tmp 15)))) none,
    .act (some 3) (.op (.pure (.move (.const (.int .i64 0))))) none])
  .ret))) }
theorem c9 : compFn Try.prog (mkPlan Try.prog) [] false 9 = some L9 := by kernel_rfl
/-- sluiceway/sluicewayref02.New -/
def L10 : LFun := { n := 16, pop := false, res := [.loadN 10 2, .tmp 3], code :=
  (.seq (.steps [
    .act (some 2) (.op (.new (.alloc [(.slice none 0 0), (.slice none 0 0), (.int .i64 0), (.int .i64 0), (.int .i64 0), (.int .i64 0), (.int .i64 0), (.int .i64 0), (.int .i64 0), (.bool false)]))) none,
    .act (some 3) (.op (.pure (.move (.const (.int .i64 0))))) none])
  (.seq (.seq (.steps [
    .act (some 4) (.op (.pure (.move (.tmp 0)))) none,
    .act (some 5) (.op (.pure (.bin .lss (.tmp 4) (.const (.int .i64 1))))) none,
    .act (some 6) (.op (.pure (.move (.tmp 5)))) none,
    .act (some 7) (.op (.pure (.move (.tmp 0)))) (some (6, false)),
    .act (some 8) (.op (.pure (.bin .gtr (.tmp 7) (.const (.int .i64 65536))))) (some (6, false)),
    .act (some 9) (.op (.pure (.pick (.tmp 6) (.const (.bool true)) (.tmp 8)))) none])
  (.cond (.tmp 9)
   (.seq (.steps [
     .act (some 10) (.op (.pure (.build [(.slice none 0 0), (.slice none 0 0), (.int .i64 0), (.int .i64 0), (.int .i64 0), (.int .i64 0), (.int .i64 0), (.int .i64 0), (.int .i64 0), (.bool false)] []))) none,
     .act none (.op (.eff (.store 10 (.tmp 2) (.tmp 10)))) none,
     .act (some 3) (.op (.pure (.move (.const (.int .i64 2))))) none])
   .ret)
   .skip))
  (.seq (.steps [
    .act (some 11) (.op (.pure (.move (.tmp 0)))) none,
    .act (some 12) (.op (.new (.makeSlice 1 8 [(w64 0#64)] (.tmp 11) (.tmp 11)))) none,
    .act (some 13) (.op (.pure (.move (.tmp 0)))) none,
    .act (some 14) (.op (.new (.makeSlice 1 1 [(.bool false)] (.tmp 13) (.tmp 13)))) none,
    .act (some 15) (.op (.pure (.build [(.slice none 0 0), (.slice none 0 0), (.int .i64 0), (.int .i64 0), (.int .i64 0), (.int .i64 0), (.int .i64 0), (.int .i64 0), (.int .i64 0), (.bool false)] [(0, 1, (.tmp 12)), (1, 1, (.tmp 14)), (8, 1, (.const (.int .i64 (-1))))]))) none,
    .act none (.op (.eff (.store 10 (.tmp 2) (.tmp 15)))) none,
    .act (some 3) (.op (.pure (.move (.const (.int .i64 0))))) none])
  .ret))) }
theorem c10 : compFn Try.prog (mkPlan Try.prog) [] false 10 = some L10 := by kernel_rfl
/-- (sluiceway/crq.Ring).Setup -/
def L11 : LFun := { n := 55, pop := true, res := [.tmp 4], code :=
  (.seq (.steps [
    .act (some 2) (.op (.new (.box (.tmp 0)))) none,
    .act (some 4) (.op (.pure (.move (.const (.int .i64 0))))) none])
  (.seq (.block 0 (.seq (.steps [
     .act (some 8) (.op (.pure (.move (.tmp 1)))) none,
     .act (some 9) (.call (.func 39) [(.tmp 8)]) none,
     .act (some 10) (.op (.pure (.bin .eql (.tmp 9) (.const (.int .i64 0))))) none,
     .act (some 7) (.op (.pure (.move (.tmp 10)))) none])
   (.cond (.tmp 7)
    (.seq (.steps [
      .act (some 4) (.op (.pure (.move (.const (.int .i64 1))))) none])
    .ret)
    (.seq (.steps [
      .act (some 12) (.op (.read (.loadN 2 (.tmp 2)))) none,
      .act (some 13) (.call (.func 29) [(.tmp 12)]) none,
      .act (some 14) (.op (.pure (.not (.tmp 13)))) none,
      .act (some 15) (.op (.pure (.move (.tmp 14)))) none,
      .act (some 16) (.op (.read (.loadN 2 (.tmp 2)))) (some (15, false)),
      .act (some 18) (.op (.pure (.move (.tmp 1)))) (some (15, false)),
      .act (some 20) (.op (.pure (.fieldAddr 0 (.tmp 2)))) (some (15, false)),
      .act (some 21) (.op (.read (.load1 (.tmp 20)))) (some (15, false)),
      .act (some 17) (.call (.func 12) [(.tmp 16)]) (some (15, false)),
      .again 21 (.load1 (.tmp 20)) (some (15, false)),
      .act (some 19) (.call (.func 39) [(.tmp 18)]) (some (15, false)),
      .act (some 22) (.op (.pure (.bin .sub (.tmp 19) (.tmp 21)))) (some (15, false)),
      .act (some 23) (.op (.pure (.bin .gtr (.tmp 17) (.tmp 22)))) (some (15, false)),
      .act (some 24) (.op (.pure (.pick (.tmp 15) (.const (.bool true)) (.tmp 23)))) none,
      .act (some 11) (.op (.pure (.move (.tmp 24)))) none,
      .again 21 (.load1 (.tmp 20)) (some (15, false))])
    (.cond (.tmp 11)
     (.seq (.steps [
       .act (some 4) (.op (.pure (.move (.const (.int .i64 2))))) none])
     .ret)
     .skip)))))
  (.seq (.seq (.steps [
    .act (some 25) (.op (.pure (.move (.const (.int .i64 0))))) none])
  (.block 1 (.loop [1, 2, 25] (.seq (.steps [
      .act (some 26) (.op (.pure (.bin .lss (.tmp 25) (.const (.int .i64 4))))) none])
    (.seq (.cond (.tmp 26)
     .skip
     (.exit 1))
    (.seq (.block 2 (.seq (.steps [
       .act (some 27) (.op (.pure (.move (.tmp 25)))) none,
       .act (some 5) (.op (.pure (.move (.tmp 27)))) none])
     (.steps [
       .act (some 28) (.op (.pure (.move (.tmp 1)))) none,
       .act (some 29) (.op (.pure (.fieldAddr 0 (.tmp 2)))) none,
       .act (some 30) (.op (.read (.load1 (.tmp 29)))) none,
       .act (some 31) (.op (.pure (.move (.tmp 5)))) none,
       .act (some 32) (.op (.pure (.bin .add (.tmp 30) (.tmp 31)))) none,
       .act (some 33) (.call (.func 40) [(.tmp 28), (.tmp 32), (.const (w64 0#64))]) none])))
    (.steps [
      .act (some 34) (.op (.pure (.bin .add (.tmp 25) (.const (.int .i64 1))))) none,
      .act (some 25) (.op (.pure (.move (.tmp 34)))) none])))))))
  (.seq (.seq (.steps [
    .act (some 35) (.op (.pure (.fieldAddr 1 (.tmp 2)))) none,
    .act (some 36) (.op (.read (.load1 (.tmp 35)))) none,
    .act (some 37) (.op (.pure (.conv .u64 (.tmp 36)))) none,
    .act (some 38) (.op (.pure (.move (.const (w64 0#64))))) none])
  (.block 3 (.loop [1, 2, 37, 38] (.seq (.steps [
      .act (some 39) (.op (.pure (.bin .lss (.tmp 38) (.tmp 37)))) none])
    (.seq (.cond (.tmp 39)
     .skip
     (.exit 3))
    (.seq (.block 4 (.seq (.steps [
       .act (some 40) (.op (.pure (.move (.tmp 38)))) none,
       .act (some 6) (.op (.pure (.move (.tmp 40)))) none])
     (.seq (.steps [
       .act (some 41) (.op (.pure (.move (.tmp 1)))) none,
       .act (some 42) (.op (.read (.loadN 2 (.tmp 2)))) none,
       .act (some 43) (.op (.pure (.move (.tmp 6)))) none,
       .act (some 44) (.call (.func 41) [(.tmp 42), (.tmp 43)]) none,
       .act (some 45) (.op (.pure (.move (.tmp 6)))) none,
       .act (some 46) (.call (.func 42) [(.tmp 45), (.const (w64 1#64))]) none,
       .act (some 47) (.call (.func 40) [(.tmp 41), (.tmp 44), (.tmp 46)]) none])
     (.steps [
       .act (some 48) (.op (.pure (.move (.tmp 1)))) none,
       .act (some 49) (.op (.read (.loadN 2 (.tmp 2)))) none,
       .act (some 50) (.op (.pure (.move (.tmp 6)))) none,
       .act (some 51) (.call (.func 41) [(.tmp 49), (.tmp 50)]) none,
       .act (some 52) (.op (.pure (.bin .add (.tmp 51) (.const (.int .i64 1))))) none,
       .act (some 53) (.call (.func 40) [(.tmp 48), (.tmp 52), (.const (w64 0#64))]) none]))))
    (.steps [
      .act (some 54) (.op (.pure (.bin .add (.tmp 38) (.const (w64 1#64))))) none,
      .act (some 38) (.op (.pure (.move (.tmp 54)))) none])))))))
  (.seq (.steps [
    .act (some 4) (.op (.pure (.move (.const (.int .i64 0))))) none])
  .ret))))) }
theorem c11 : compFn Try.prog (mkPlan Try.prog) [(6, [1, 2, 25]), (11, [1, 2, 37, 38])] true 11 = some L11 := by kernel_rfl
/-- (sluiceway/crq.Ring).Words -/
def L12 : LFun := { n := 10, pop := true, res := [.tmp 2], code :=
  (.seq (.steps [
    .act (some 1) (.op (.new (.box (.tmp 0)))) none,
    .act (some 2) (.op (.pure (.move (.const (.int .i64 0))))) none])
  (.seq (.seq (.steps [
    .act (some 3) (.op (.read (.loadN 2 (.tmp 1)))) none,
    .act (some 4) (.call (.func 29) [(.tmp 3)]) none,
    .act (some 5) (.op (.pure (.not (.tmp 4)))) none])
  (.cond (.tmp 5)
   (.seq (.steps [
     .act (some 2) (.op (.pure (.move (.const (.int .i64 0))))) none])
   .ret)
   .skip))
  (.seq (.steps [
    .act (some 6) (.op (.pure (.fieldAddr 1 (.tmp 1)))) none,
    .act (some 7) (.op (.read (.load1 (.tmp 6)))) none,
    .act (some 8) (.op (.pure (.bin .mul (.const (.int .i64 2)) (.tmp 7)))) none,
    .act (some 9) (.op (.pure (.bin .add (.const (.int .i64 4)) (.tmp 8)))) none,
    .act (some 2) (.op (.pure (.move (.tmp 9)))) none])
  .ret))) }
theorem c12 : compFn Try.prog (mkPlan Try.prog) [] true 12 = some L12 := by kernel_rfl
/-- sluiceway/sluicewaylaw14.Begin -/
def L13 : LFun := { n := 19, pop := false, res := [.tmp 6], code :=
  (.seq (.steps [
    .act (some 3) (.op (.new (.box (.tmp 0)))) none,
    .act (some 6) (.op (.pure (.move (.const (.pointer none))))) none])
  (.seq (.seq (.steps [
    .act (some 7) (.op (.pure (.move (.tmp 1)))) none])
  (.block 0 (.seq (.steps [
     .act (some 9) (.op (.pure (.bin .eql (.tmp 7) (.const (.int .i64 0))))) none,
     .act (some 8) (.op (.pure (.move (.tmp 9)))) none])
   (.cond (.tmp 8)
    (.seq (.steps [
      .act (some 10) (.op (.read (.loadN 2 (.tmp 3)))) none,
      .act (some 11) (.op (.pure (.move (.tmp 2)))) none,
      .act (some 12) (.call (.func 23) [(.tmp 10), (.tmp 11)]) none,
      .act (some 6) (.op (.pure (.move (.tmp 12)))) none])
    .ret)
    (.seq (.steps [
      .act (some 14) (.op (.pure (.bin .eql (.tmp 7) (.const (.int .i64 1))))) none,
      .act (some 13) (.op (.pure (.move (.tmp 14)))) none])
    (.cond (.tmp 13)
     (.seq (.steps [
       .act (some 15) (.op (.read (.loadN 2 (.tmp 3)))) none,
       .act (some 16) (.call (.func 25) [(.tmp 15)]) none,
       .act (some 6) (.op (.pure (.move (.tmp 16)))) none])
     .ret)
     .skip))))))
  (.seq (.steps [
    .act (some 17) (.op (.read (.loadN 2 (.tmp 3)))) none,
    .act (some 18) (.call (.func 24) [(.tmp 17)]) none,
    .act (some 6) (.op (.pure (.move (.tmp 18)))) none])
  .ret))) }
theorem c13 : compFn Try.prog (mkPlan Try.prog) [] false 13 = some L13 := by kernel_rfl
/-- (sluiceway/sluicewayref14.Op).Step -/
def L14 : LFun := { n := 41, pop := false, res := [.loadN 12 4, .loadN 10 5], code :=
  (.seq (.steps [
    .act (some 2) (.op (.new (.box (.tmp 0)))) none,
    .act (some 3) (.op (.new (.box (.tmp 1)))) none,
    .act (some 4) (.op (.new (.alloc [(.int .i64 0), (.int .i64 0), (.int .i64 0), (w64 0#64), (.int .i64 0), (w64 0#64), (w64 0#64), (w64 0#64), (w64 0#64), (.int .i64 0), (.int .i64 0), (w64 0#64)]))) none,
    .act (some 5) (.op (.new (.alloc [(.slice none 0 0), (.slice none 0 0), (.int .i64 0), (.int .i64 0), (.int .i64 0), (.int .i64 0), (.int .i64 0), (.int .i64 0), (.int .i64 0), (.bool false)]))) none])
  (.seq (.seq (.steps [
    .act (some 9) (.op (.pure (.fieldAddr 4 (.tmp 2)))) none,
    .act (some 10) (.op (.read (.load1 (.tmp 9)))) none,
    .act (some 11) (.op (.pure (.bin .geq (.tmp 10) (.const (.int .i64 9))))) none])
  (.cond (.tmp 11)
   (.seq (.steps [
     .act (some 12) (.op (.read (.loadN 12 (.tmp 2)))) none,
     .act (some 13) (.op (.read (.loadN 10 (.tmp 3)))) none,
     .act none (.op (.eff (.store 12 (.tmp 4) (.tmp 12)))) none,
     .again 13 (.loadN 10 (.tmp 3)) none,
     .act none (.op (.eff (.store 10 (.tmp 5) (.tmp 13)))) none])
   .ret)
   .skip))
  (.seq (.steps [
    .act (some 15) (.op (.read (.loadN 10 (.tmp 3)))) none,
    .act (some 16) (.op (.read (.loadN 12 (.tmp 2)))) none,
    .act (some 6) (.op (.new (.alloc [(.slice none 0 0), (.slice none 0 0), (.int .i64 0), (.int .i64 0), (.int .i64 0), (.int .i64 0), (.int .i64 0), (.int .i64 0), (.int .i64 0), (.bool false)]))) none,
    .act (some 17) (.call (.func 44) [(.tmp 16)]) none,
    .again 15 (.loadN 10 (.tmp 3)) none,
    .act (some 18) (.call (.func 43) [(.tmp 15), (.tmp 17)]) none,
    .act (some 14) (.op (.pure (.move (.tmp 18)))) none,
    .act (some 19) (.op (.pure (.extract (.tmp 14) 0))) none,
    .act (some 20) (.op (.pure (.extract (.tmp 14) 1))) none,
    .act (some 21) (.op (.pure (.extract (.tmp 14) 2))) none,
    .act none (.op (.eff (.store 10 (.tmp 6) (.tmp 19)))) none,
    .act (some 7) (.op (.pure (.move (.tmp 20)))) none,
    .act (some 8) (.op (.pure (.move (.tmp 21)))) none])
  (.seq (.seq (.steps [
    .act (some 22) (.op (.pure (.fieldAddr 2 (.tmp 2)))) none,
    .act (some 23) (.op (.read (.load1 (.tmp 22)))) none])
  (.block 0 (.seq (.steps [
     .act (some 25) (.op (.pure (.bin .eql (.tmp 23) (.const (.int .i64 0))))) none,
     .act (some 24) (.op (.pure (.move (.tmp 25)))) none])
   (.cond (.tmp 24)
    (.seq (.steps [
      .act (some 26) (.op (.read (.loadN 12 (.tmp 2)))) none,
      .act (some 27) (.op (.pure (.move (.tmp 7)))) none,
      .act (some 28) (.op (.pure (.move (.tmp 8)))) none,
      .act (some 30) (.op (.read (.loadN 10 (.tmp 6)))) none,
      .act (some 29) (.call (.func 45) [(.tmp 26), (.tmp 27), (.tmp 28)]) none,
      .again 30 (.loadN 10 (.tmp 6)) none,
      .act none (.op (.eff (.store 12 (.tmp 4) (.tmp 29)))) none,
      .again 30 (.loadN 10 (.tmp 6)) none,
      .act none (.op (.eff (.store 10 (.tmp 5) (.tmp 30)))) none])
    .ret)
    (.seq (.steps [
      .act (some 32) (.op (.pure (.bin .eql (.tmp 23) (.const (.int .i64 1))))) none,
      .act (some 31) (.op (.pure (.move (.tmp 32)))) none])
    (.cond (.tmp 31)
     (.seq (.steps [
       .act (some 33) (.op (.read (.loadN 12 (.tmp 2)))) none,
       .act (some 34) (.op (.pure (.move (.tmp 7)))) none,
       .act (some 35) (.op (.pure (.move (.tmp 8)))) none,
       .act (some 37) (.op (.read (.loadN 10 (.tmp 6)))) none,
       .act (some 36) (.call (.func 46) [(.tmp 33), (.tmp 34), (.tmp 35)]) none,
       .again 37 (.loadN 10 (.tmp 6)) none,
       .act none (.op (.eff (.store 12 (.tmp 4) (.tmp 36)))) none,
       .again 37 (.loadN 10 (.tmp 6)) none,
       .act none (.op (.eff (.store 10 (.tmp 5) (.tmp 37)))) none])
     .ret)
     .skip))))))
  (.seq (.steps [
    .act (some 38) (.op (.read (.loadN 12 (.tmp 2)))) none,
    .act (some 40) (.op (.read (.loadN 10 (.tmp 6)))) none,
    .act (some 39) (.call (.func 47) [(.tmp 38), (.const (.int .i64 0)), (.const (w64 0#64))]) none,
    .again 40 (.loadN 10 (.tmp 6)) none,
    .act none (.op (.eff (.store 12 (.tmp 4) (.tmp 39)))) none,
    .again 40 (.loadN 10 (.tmp 6)) none,
    .act none (.op (.eff (.store 10 (.tmp 5) (.tmp 40)))) none])
  .ret))))) }
theorem c14 : compFn Try.prog (mkPlan Try.prog) [] false 14 = some L14 := by kernel_rfl
/-- (*sluiceway/crq.Op).Step -/
def L15 : LFun := { n := 29, pop := true, res := [.tmp 4], code :=
  (.seq (.steps [
    .act (some 4) (.op (.pure (.move (.const (.bool false))))) none])
  (.seq (.seq (.steps [
    .act (some 6) (.op (.pure (.move (.tmp 0)))) none,
    .act (some 7) (.call (.func 27) [(.tmp 6)]) none,
    .act (some 8) (.op (.pure (.move (.tmp 7)))) none,
    .act (some 9) (.op (.pure (.move (.tmp 1)))) (some (8, false)),
    .act (some 10) (.call (.func 39) [(.tmp 9)]) (some (8, false)),
    .act (some 11) (.op (.pure (.bin .eql (.tmp 10) (.const (.int .i64 0))))) (some (8, false)),
    .act (some 12) (.op (.pure (.pick (.tmp 8) (.const (.bool true)) (.tmp 11)))) none])
  (.cond (.tmp 12)
   (.seq (.steps [
     .act (some 13) (.op (.pure (.move (.tmp 0)))) none,
     .act (some 14) (.call (.func 27) [(.tmp 13)]) none,
     .act (some 4) (.op (.pure (.move (.tmp 14)))) none])
   .ret)
   .skip))
  (.seq (.steps [
    .act (some 5) (.op (.pure (.move (.func 48)))) none])
  (.seq (.seq (.steps [
    .act (some 15) (.op (.pure (.move (.tmp 0)))) none,
    .act (some 16) (.op (.pure (.nilCheck (.tmp 15)))) none,
    .act (some 17) (.op (.pure (.fieldAddr 3 (.tmp 16)))) none,
    .act (some 18) (.op (.read (.load1 (.tmp 17)))) none])
  (.block 0 (.seq (.steps [
     .act (some 20) (.op (.pure (.bin .eql (.tmp 18) (.const (.int .i64 0))))) none,
     .act (some 19) (.op (.pure (.move (.tmp 20)))) none])
   (.cond (.tmp 19)
    (.steps [
      .act (some 5) (.op (.pure (.move (.func 49)))) none])
    (.seq (.steps [
      .act (some 22) (.op (.pure (.bin .eql (.tmp 18) (.const (.int .i64 1))))) none,
      .act (some 21) (.op (.pure (.move (.tmp 22)))) none])
    (.cond (.tmp 21)
     (.steps [
       .act (some 5) (.op (.pure (.move (.func 50)))) none])
     .skip))))))
  (.seq (.steps [
    .act (some 23) (.op (.pure (.move (.tmp 5)))) none,
    .act (some 24) (.op (.pure (.move (.tmp 0)))) none,
    .act (some 25) (.op (.pure (.move (.tmp 1)))) none,
    .act (some 26) (.call (.tmp 23) [(.tmp 24), (.tmp 25)]) none])
  (.seq (.steps [
    .act (some 27) (.op (.pure (.move (.tmp 0)))) none,
    .act (some 28) (.call (.func 27) [(.tmp 27)]) none,
    .act (some 4) (.op (.pure (.move (.tmp 28)))) none])
  .ret)))))) }
theorem c15 : compFn Try.prog (mkPlan Try.prog) [] true 15 = some L15 := by kernel_rfl
/-- (*sluiceway/crq.Op).At -/
def L16 : LFun := { n := 9, pop := true, res := [.tmp 2], code :=
  (.seq (.steps [
    .act (some 2) (.op (.pure (.move (.const (.int .i64 0))))) none])
  (.seq (.seq (.steps [
    .act (some 3) (.op (.pure (.move (.tmp 0)))) none,
    .act (some 4) (.call (.func 51) [(.tmp 3)]) none])
  (.cond (.tmp 4)
   (.seq (.steps [
     .act (some 2) (.op (.pure (.move (.const (.int .i64 9))))) none])
   .ret)
   .skip))
  (.seq (.steps [
    .act (some 5) (.op (.pure (.move (.tmp 0)))) none,
    .act (some 6) (.op (.pure (.nilCheck (.tmp 5)))) none,
    .act (some 7) (.op (.pure (.fieldAddr 5 (.tmp 6)))) none,
    .act (some 8) (.op (.read (.load1 (.tmp 7)))) none,
    .act (some 2) (.op (.pure (.move (.tmp 8)))) none])
  .ret))) }
theorem c16 : compFn Try.prog (mkPlan Try.prog) [] true 16 = some L16 := by kernel_rfl
/-- (*sluiceway/mem.Mem).Peek -/
def L17 : LFun := { n := 37, pop := false, res := [.tmp 6], code :=
  (.seq (.steps [
    .act (some 6) (.op (.pure (.move (.const (.slice none 0 0))))) none])
  (.seq (.seq (.steps [
    .act (some 7) (.op (.pure (.move (.tmp 1)))) none,
    .act (some 8) (.op (.pure (.bin .lss (.tmp 7) (.const (.int .i64 0))))) none,
    .act (some 9) (.op (.pure (.move (.tmp 8)))) none,
    .act (some 10) (.op (.pure (.move (.tmp 2)))) (some (9, false)),
    .act (some 11) (.op (.pure (.bin .lss (.tmp 10) (.const (.int .i64 1))))) (some (9, false)),
    .act (some 12) (.op (.pure (.pick (.tmp 9) (.const (.bool true)) (.tmp 11)))) none,
    .act (some 13) (.op (.pure (.move (.tmp 12)))) none,
    .act (some 14) (.op (.pure (.move (.tmp 1)))) (some (13, false)),
    .act (some 15) (.op (.pure (.move (.tmp 0)))) (some (13, false)),
    .act (some 16) (.call (.func 39) [(.tmp 15)]) (some (13, false)),
    .act (some 17) (.op (.pure (.bin .geq (.tmp 14) (.tmp 16)))) (some (13, false)),
    .act (some 18) (.op (.pure (.pick (.tmp 13) (.const (.bool true)) (.tmp 17)))) none])
  (.cond (.tmp 18)
   (.seq (.steps [
     .act (some 6) (.op (.pure (.move (.const (.slice none 0 0))))) none])
   .ret)
   .skip))
  (.seq (.steps [
    .act (some 19) (.op (.pure (.move (.tmp 0)))) none,
    .act (some 20) (.op (.pure (.nilCheck (.tmp 19)))) none,
    .act (some 21) (.op (.pure (.fieldAddr 0 (.tmp 20)))) none,
    .act (some 22) (.op (.read (.load1 (.tmp 21)))) none,
    .act (some 23) (.op (.pure (.move (.tmp 1)))) none,
    .act (some 24) (.op (.pure (.move (.tmp 1)))) none,
    .act (some 25) (.op (.pure (.move (.tmp 2)))) none,
    .act (some 26) (.op (.pure (.move (.tmp 0)))) none,
    .act (some 27) (.op (.pure (.nilCheck (.tmp 26)))) none,
    .act (some 28) (.op (.pure (.fieldAddr 0 (.tmp 27)))) none,
    .act (some 29) (.op (.read (.load1 (.tmp 28)))) none,
    .act (some 30) (.op (.pure (.len false (.tmp 29)))) none,
    .act (some 31) (.op (.pure (.move (.tmp 1)))) none,
    .act (some 32) (.op (.pure (.bin .sub (.tmp 30) (.tmp 31)))) none,
    .act (some 33) (.op (.pure (.minmax false [(.tmp 25), (.tmp 32)]))) none,
    .act (some 34) (.op (.pure (.bin .add (.tmp 24) (.tmp 33)))) none,
    .act (some 35) (.op (.read (.slSl 1 (.tmp 22) (some (.tmp 23)) (some (.tmp 34)) none))) none,
    .act (some 36) (.call (.func 52) [(.tmp 35)]) none,
    .act (some 6) (.op (.pure (.move (.tmp 36)))) none])
  .ret))) }
theorem c17 : compFn Try.prog (mkPlan Try.prog) [] false 17 = some L17 := by kernel_rfl
/-- (*sluiceway/crq.Op).Result -/
def L18 : LFun := { n := 21, pop := true, res := [.tmp 2, .tmp 3], code :=
  (.seq (.steps [
    .act (some 2) (.op (.pure (.move (.const (.int .i64 0))))) none,
    .act (some 3) (.op (.pure (.move (.const (w64 0#64))))) none])
  (.seq (.block 0 (.seq (.steps [
     .act (some 5) (.op (.pure (.move (.tmp 0)))) none,
     .act (some 6) (.call (.func 51) [(.tmp 5)]) none,
     .act (some 4) (.op (.pure (.move (.tmp 6)))) none])
   (.cond (.tmp 4)
    (.seq (.steps [
      .act (some 2) (.op (.pure (.move (.const (.int .i64 1))))) none,
      .act (some 3) (.op (.pure (.move (.const (w64 0#64))))) none])
    .ret)
    (.seq (.steps [
      .act (some 8) (.op (.pure (.move (.tmp 0)))) none,
      .act (some 9) (.op (.pure (.nilCheck (.tmp 8)))) none,
      .act (some 10) (.op (.pure (.fieldAddr 5 (.tmp 9)))) none,
      .act (some 11) (.op (.read (.load1 (.tmp 10)))) none,
      .act (some 12) (.op (.pure (.bin .neq (.tmp 11) (.const (.int .i64 9))))) none,
      .act (some 7) (.op (.pure (.move (.tmp 12)))) none])
    (.cond (.tmp 7)
     (.seq (.steps [
       .act (some 2) (.op (.pure (.move (.const (.int .i64 0))))) none,
       .act (some 3) (.op (.pure (.move (.const (w64 0#64))))) none])
     .ret)
     .skip)))))
  (.seq (.steps [
    .act (some 13) (.op (.pure (.move (.tmp 0)))) none,
    .act (some 14) (.op (.pure (.nilCheck (.tmp 13)))) none,
    .act (some 15) (.op (.pure (.fieldAddr 12 (.tmp 14)))) none,
    .act (some 16) (.op (.read (.load1 (.tmp 15)))) none,
    .act (some 17) (.op (.pure (.move (.tmp 0)))) none,
    .act (some 18) (.op (.pure (.nilCheck (.tmp 17)))) none,
    .act (some 19) (.op (.pure (.fieldAddr 13 (.tmp 18)))) none,
    .act (some 20) (.op (.read (.load1 (.tmp 19)))) none,
    .act (some 2) (.op (.pure (.move (.tmp 16)))) none,
    .act (some 3) (.op (.pure (.move (.tmp 20)))) none])
  .ret))) }
theorem c18 : compFn Try.prog (mkPlan Try.prog) [] true 18 = some L18 := by kernel_rfl
/-- (sluiceway/crq.Ring).Kept -/
def L19 : LFun := { n := 47, pop := true, res := [.tmp 4], code :=
  (.seq (.steps [
    .act (some 2) (.op (.new (.box (.tmp 0)))) none,
    .act (some 4) (.op (.pure (.move (.const (.int .i64 0))))) none])
  (.seq (.steps [
    .act (some 5) (.op (.pure (.move (.const (.int .i64 0))))) none])
  (.seq (.seq (.steps [
    .act (some 9) (.op (.read (.loadN 2 (.tmp 2)))) none,
    .act (some 10) (.call (.func 12) [(.tmp 9)]) none,
    .act (some 11) (.op (.pure (.bin .quo (.tmp 10) (.const (.int .i64 2))))) none,
    .act (some 12) (.op (.pure (.move (.const (.int .i64 0))))) none])
  (.block 0 (.loop [1, 2, 5, 11, 12] (.seq (.steps [
      .act (some 13) (.op (.pure (.bin .lss (.tmp 12) (.tmp 11)))) none])
    (.seq (.cond (.tmp 13)
     .skip
     (.exit 0))
    (.seq (.block 1 (.seq (.steps [
       .act (some 14) (.op (.pure (.move (.tmp 12)))) none,
       .act (some 6) (.op (.pure (.move (.tmp 14)))) none])
     (.seq (.steps [
       .act (some 15) (.op (.pure (.fieldAddr 0 (.tmp 2)))) none,
       .act (some 16) (.op (.read (.load1 (.tmp 15)))) none,
       .act (some 17) (.op (.pure (.bin .add (.tmp 16) (.const (.int .i64 4))))) none,
       .act (some 18) (.op (.pure (.move (.tmp 6)))) none,
       .act (some 19) (.op (.pure (.bin .mul (.const (.int .i64 2)) (.tmp 18)))) none,
       .act (some 20) (.op (.pure (.bin .add (.tmp 17) (.tmp 19)))) none,
       .act (some 21) (.op (.pure (.bin .add (.tmp 20) (.const (.int .i64 1))))) none,
       .act (some 7) (.op (.pure (.move (.tmp 21)))) none])
     (.seq (.steps [
       .act (some 22) (.op (.pure (.move (.tmp 1)))) none,
       .act (some 23) (.op (.pure (.move (.tmp 7)))) none,
       .act (some 24) (.call (.func 17) [(.tmp 22), (.tmp 23), (.const (.int .i64 1))]) none,
       .act (some 8) (.op (.pure (.move (.tmp 24)))) none])
     (.seq (.steps [
       .act (some 25) (.op (.pure (.move (.tmp 8)))) none,
       .act (some 26) (.op (.pure (.len false (.tmp 25)))) none,
       .act (some 27) (.op (.pure (.bin .eql (.tmp 26) (.const (.int .i64 1))))) none,
       .act (some 28) (.op (.pure (.move (.tmp 27)))) none,
       .act (some 29) (.op (.pure (.move (.tmp 8)))) (some (28, true)),
       .act (some 30) (.op (.pure (.idxSl 1 (.tmp 29) (.const (.int .i64 0))))) (some (28, true)),
       .act (some 31) (.op (.read (.load1 (.tmp 30)))) (some (28, true)),
       .act (some 32) (.op (.pure (.bin .neq (.tmp 31) (.const (w64 0#64))))) (some (28, true)),
       .act (some 33) (.op (.pure (.pick (.tmp 28) (.tmp 32) (.const (.bool false))))) none,
       .act (some 34) (.op (.pure (.move (.tmp 33)))) none,
       .act (some 35) (.op (.pure (.move (.tmp 7)))) (some (34, true)),
       .act (some 36) (.op (.pure (.fieldAddr 0 (.tmp 2)))) (some (34, true)),
       .act (some 37) (.op (.read (.load1 (.tmp 36)))) (some (34, true)),
       .act (some 38) (.op (.read (.loadN 2 (.tmp 2)))) (some (34, true)),
       .act (some 39) (.call (.func 12) [(.tmp 38)]) (some (34, true)),
       .act (some 40) (.op (.pure (.bin .add (.tmp 37) (.tmp 39)))) (some (34, true)),
       .act (some 41) (.op (.pure (.bin .lss (.tmp 35) (.tmp 40)))) (some (34, true)),
       .act (some 42) (.op (.pure (.pick (.tmp 34) (.tmp 41) (.const (.bool false))))) none,
       .again 37 (.load1 (.tmp 36)) (some (34, true))])
     (.cond (.tmp 42)
      (.steps [
        .act (some 43) (.op (.pure (.move (.tmp 5)))) none,
        .act (some 44) (.op (.pure (.bin .add (.tmp 43) (.const (.int .i64 1))))) none,
        .act (some 5) (.op (.pure (.move (.tmp 44)))) none])
      .skip))))))
    (.steps [
      .act (some 45) (.op (.pure (.bin .add (.tmp 12) (.const (.int .i64 1))))) none,
      .act (some 12) (.op (.pure (.move (.tmp 45)))) none])))))))
  (.seq (.steps [
    .act (some 46) (.op (.pure (.move (.tmp 5)))) none,
    .act (some 4) (.op (.pure (.move (.tmp 46)))) none])
  .ret)))) }
theorem c19 : compFn Try.prog (mkPlan Try.prog) [(3, [1, 2, 5, 11, 12])] true 19 = some L19 := by kernel_rfl
/-- (sluiceway/crq.Ring).Closed -/
def L20 : LFun := { n := 24, pop := true, res := [.tmp 4], code :=
  (.seq (.steps [
    .act (some 2) (.op (.new (.box (.tmp 0)))) none,
    .act (some 4) (.op (.pure (.move (.const (.bool false))))) none])
  (.seq (.seq (.steps [
    .act (some 6) (.op (.read (.loadN 2 (.tmp 2)))) none,
    .act (some 7) (.call (.func 29) [(.tmp 6)]) none,
    .act (some 8) (.op (.pure (.not (.tmp 7)))) none])
  (.cond (.tmp 8)
   (.seq (.steps [
     .act (some 4) (.op (.pure (.move (.const (.bool true))))) none])
   .ret)
   .skip))
  (.seq (.steps [
    .act (some 9) (.op (.pure (.move (.tmp 1)))) none,
    .act (some 10) (.op (.pure (.fieldAddr 0 (.tmp 2)))) none,
    .act (some 11) (.op (.read (.load1 (.tmp 10)))) none,
    .act (some 12) (.op (.pure (.bin .add (.tmp 11) (.const (.int .i64 1))))) none,
    .act (some 13) (.call (.func 17) [(.tmp 9), (.tmp 12), (.const (.int .i64 1))]) none,
    .act (some 5) (.op (.pure (.move (.tmp 13)))) none])
  (.seq (.steps [
    .act (some 14) (.op (.pure (.move (.tmp 5)))) none,
    .act (some 15) (.op (.pure (.len false (.tmp 14)))) none,
    .act (some 16) (.op (.pure (.bin .eql (.tmp 15) (.const (.int .i64 0))))) none,
    .act (some 17) (.op (.pure (.move (.tmp 16)))) none,
    .act (some 18) (.op (.pure (.move (.tmp 5)))) (some (17, false)),
    .act (some 19) (.op (.pure (.idxSl 1 (.tmp 18) (.const (.int .i64 0))))) (some (17, false)),
    .act (some 20) (.op (.read (.load1 (.tmp 19)))) (some (17, false)),
    .act (some 21) (.op (.pure (.bin .and (.tmp 20) (.const (w64 9223372036854775808#64))))) (some (17, false)),
    .act (some 22) (.op (.pure (.bin .neq (.tmp 21) (.const (w64 0#64))))) (some (17, false)),
    .act (some 23) (.op (.pure (.pick (.tmp 17) (.const (.bool true)) (.tmp 22)))) none,
    .act (some 4) (.op (.pure (.move (.tmp 23)))) none])
  .ret)))) }
theorem c20 : compFn Try.prog (mkPlan Try.prog) [] true 20 = some L20 := by kernel_rfl
/-- sluiceway/sluicewaylaw14.one -/
def L21 : LFun := { n := 112, pop := true, res := [.tmp 0], code :=
  (.seq (.steps [
    .act (some 0) (.op (.pure (.move (.const (.bool false))))) none])
  (.seq (.steps [
    .act (some 16) (.op (.pure (.build [(.int .i64 0), (.int .i64 0)] [(0, 1, (.const (.int .i64 2))), (1, 1, (.const (.int .i64 2)))]))) none,
    .act (some 1) (.op (.new (.alloc [(.int .i64 0), (.int .i64 0)]))) none,
    .act none (.op (.eff (.store 2 (.tmp 1) (.tmp 16)))) none])
  (.seq (.steps [
    .act (some 18) (.call (.func 9) [(.const (.int .i64 10))]) none,
    .act (some 17) (.op (.pure (.move (.tmp 18)))) none,
    .act (some 19) (.op (.pure (.extract (.tmp 17) 0))) none,
    .act (some 20) (.op (.pure (.extract (.tmp 17) 1))) none,
    .act (some 2) (.op (.pure (.move (.tmp 19)))) none,
    .act (some 3) (.op (.pure (.move (.tmp 20)))) none])
  (.seq (.seq (.steps [
    .act (some 21) (.op (.pure (.move (.tmp 3)))) none,
    .act (some 22) (.op (.pure (.bin .neq (.tmp 21) (.const (.int .i64 0))))) none,
    .act (some 23) (.op (.pure (.move (.tmp 22)))) none,
    .act (some 24) (.op (.read (.loadN 2 (.tmp 1)))) (some (23, false)),
    .act (some 25) (.op (.pure (.move (.tmp 2)))) (some (23, false)),
    .act (some 26) (.call (.func 11) [(.tmp 24), (.tmp 25)]) (some (23, false)),
    .act (some 27) (.op (.pure (.bin .neq (.tmp 26) (.const (.int .i64 0))))) (some (23, false)),
    .act (some 28) (.op (.pure (.pick (.tmp 23) (.const (.bool true)) (.tmp 27)))) none])
  (.cond (.tmp 28)
   (.seq (.steps [
     .act (some 0) (.op (.pure (.move (.const (.bool false))))) none])
   .ret)
   .skip))
  (.seq (.steps [
    .act (some 30) (.op (.pure (.move (.tmp 2)))) none,
    .act (some 31) (.op (.read (.loadN 2 (.tmp 1)))) none,
    .act (some 32) (.call (.func 23) [(.tmp 31), (.const (w64 1#64))]) none,
    .act (some 33) (.call (.func 22) [(.tmp 30), (.tmp 32), (.const (.int .i64 60))]) none,
    .act (some 29) (.op (.pure (.move (.tmp 33)))) none,
    .act (some 34) (.op (.pure (.extract (.tmp 29) 0))) none,
    .act (some 35) (.op (.pure (.extract (.tmp 29) 1))) none,
    .act (some 36) (.op (.pure (.extract (.tmp 29) 2))) none,
    .act (some 4) (.op (.pure (.move (.tmp 34)))) none,
    .act (some 5) (.op (.pure (.move (.tmp 35)))) none,
    .act (some 6) (.op (.pure (.move (.tmp 36)))) none])
  (.seq (.steps [
    .act (some 38) (.op (.pure (.move (.tmp 2)))) none,
    .act (some 39) (.op (.read (.loadN 2 (.tmp 1)))) none,
    .act (some 40) (.call (.func 23) [(.tmp 39), (.const (w64 2#64))]) none,
    .act (some 41) (.call (.func 22) [(.tmp 38), (.tmp 40), (.const (.int .i64 60))]) none,
    .act (some 37) (.op (.pure (.move (.tmp 41)))) none,
    .act (some 42) (.op (.pure (.extract (.tmp 37) 0))) none,
    .act (some 43) (.op (.pure (.extract (.tmp 37) 1))) none,
    .act (some 44) (.op (.pure (.extract (.tmp 37) 2))) none,
    .act (some 7) (.op (.pure (.move (.tmp 42)))) none,
    .act (some 8) (.op (.pure (.move (.tmp 43)))) none,
    .act (some 9) (.op (.pure (.move (.tmp 44)))) none])
  (.seq (.steps [
    .act (some 46) (.op (.pure (.move (.tmp 2)))) none,
    .act (some 47) (.op (.read (.loadN 2 (.tmp 1)))) none,
    .act (some 48) (.call (.func 23) [(.tmp 47), (.const (w64 3#64))]) none,
    .act (some 49) (.call (.func 22) [(.tmp 46), (.tmp 48), (.const (.int .i64 99))]) none,
    .act (some 45) (.op (.pure (.move (.tmp 49)))) none,
    .act (some 50) (.op (.pure (.extract (.tmp 45) 0))) none,
    .act (some 51) (.op (.pure (.extract (.tmp 45) 1))) none,
    .act (some 52) (.op (.pure (.extract (.tmp 45) 2))) none,
    .act (some 10) (.op (.pure (.move (.tmp 50)))) none,
    .act (some 11) (.op (.pure (.move (.tmp 51)))) none,
    .act (some 12) (.op (.pure (.move (.tmp 52)))) none])
  (.seq (.steps [
    .act (some 54) (.op (.pure (.move (.tmp 2)))) none,
    .act (some 55) (.op (.read (.loadN 2 (.tmp 1)))) none,
    .act (some 56) (.call (.func 25) [(.tmp 55)]) none,
    .act (some 57) (.call (.func 22) [(.tmp 54), (.tmp 56), (.const (.int .i64 60))]) none,
    .act (some 53) (.op (.pure (.move (.tmp 57)))) none,
    .act (some 58) (.op (.pure (.extract (.tmp 53) 0))) none,
    .act (some 59) (.op (.pure (.extract (.tmp 53) 1))) none,
    .act (some 60) (.op (.pure (.extract (.tmp 53) 2))) none,
    .act (some 13) (.op (.pure (.move (.tmp 58)))) none,
    .act (some 14) (.op (.pure (.move (.tmp 59)))) none,
    .act (some 15) (.op (.pure (.move (.tmp 60)))) none])
  (.seq (.steps [
    .act (some 61) (.op (.pure (.move (.tmp 6)))) none,
    .act (some 62) (.op (.pure (.move (.tmp 61)))) none,
    .act (some 63) (.op (.pure (.move (.tmp 9)))) (some (62, true)),
    .act (some 64) (.op (.pure (.pick (.tmp 62) (.tmp 63) (.const (.bool false))))) none,
    .act (some 65) (.op (.pure (.move (.tmp 64)))) none,
    .act (some 66) (.op (.pure (.move (.tmp 12)))) (some (65, true)),
    .act (some 67) (.op (.pure (.pick (.tmp 65) (.tmp 66) (.const (.bool false))))) none,
    .act (some 68) (.op (.pure (.move (.tmp 67)))) none,
    .act (some 69) (.op (.pure (.move (.tmp 15)))) (some (68, true)),
    .act (some 70) (.op (.pure (.pick (.tmp 68) (.tmp 69) (.const (.bool false))))) none,
    .act (some 71) (.op (.pure (.move (.tmp 70)))) none,
    .act (some 72) (.op (.pure (.move (.tmp 4)))) (some (71, true)),
    .act (some 73) (.op (.pure (.bin .eql (.tmp 72) (.const (.int .i64 0))))) (some (71, true)),
    .act (some 74) (.op (.pure (.pick (.tmp 71) (.tmp 73) (.const (.bool false))))) none,
    .act (some 75) (.op (.pure (.move (.tmp 74)))) none,
    .act (some 76) (.op (.pure (.move (.tmp 7)))) (some (75, true)),
    .act (some 77) (.op (.pure (.bin .eql (.tmp 76) (.const (.int .i64 0))))) (some (75, true)),
    .act (some 78) (.op (.pure (.pick (.tmp 75) (.tmp 77) (.const (.bool false))))) none,
    .act (some 79) (.op (.pure (.move (.tmp 78)))) none,
    .act (some 80) (.op (.pure (.move (.tmp 10)))) (some (79, true)),
    .act (some 81) (.op (.pure (.bin .eql (.tmp 80) (.const (.int .i64 16))))) (some (79, true)),
    .act (some 82) (.op (.pure (.pick (.tmp 79) (.tmp 81) (.const (.bool false))))) none,
    .act (some 83) (.op (.pure (.move (.tmp 82)))) none,
    .act (some 84) (.op (.pure (.move (.tmp 13)))) (some (83, true)),
    .act (some 85) (.op (.pure (.bin .eql (.tmp 84) (.const (.int .i64 0))))) (some (83, true)),
    .act (some 86) (.op (.pure (.pick (.tmp 83) (.tmp 85) (.const (.bool false))))) none,
    .act (some 87) (.op (.pure (.move (.tmp 86)))) none,
    .act (some 88) (.op (.pure (.move (.tmp 14)))) (some (87, true)),
    .act (some 89) (.op (.pure (.bin .eql (.tmp 88) (.const (w64 1#64))))) (some (87, true)),
    .act (some 90) (.op (.pure (.pick (.tmp 87) (.tmp 89) (.const (.bool false))))) none,
    .act (some 91) (.op (.pure (.move (.tmp 90)))) none,
    .act (some 92) (.op (.read (.loadN 2 (.tmp 1)))) (some (91, true)),
    .act (some 93) (.op (.pure (.move (.tmp 2)))) (some (91, true)),
    .act (some 94) (.call (.func 20) [(.tmp 92), (.tmp 93)]) (some (91, true)),
    .act (some 95) (.op (.pure (.pick (.tmp 91) (.tmp 94) (.const (.bool false))))) none,
    .act (some 96) (.op (.pure (.move (.tmp 95)))) none,
    .act (some 97) (.op (.read (.loadN 2 (.tmp 1)))) (some (96, true)),
    .act (some 98) (.op (.pure (.move (.tmp 2)))) (some (96, true)),
    .act (some 99) (.call (.func 19) [(.tmp 97), (.tmp 98)]) (some (96, true)),
    .act (some 100) (.op (.pure (.bin .eql (.tmp 99) (.const (.int .i64 1))))) (some (96, true)),
    .act (some 101) (.op (.pure (.pick (.tmp 96) (.tmp 100) (.const (.bool false))))) none,
    .act (some 102) (.op (.pure (.move (.tmp 101)))) none,
    .act (some 103) (.op (.read (.loadN 2 (.tmp 1)))) (some (102, true)),
    .act (some 104) (.call (.func 12) [(.tmp 103)]) (some (102, true)),
    .act (some 105) (.op (.pure (.bin .eql (.tmp 104) (.const (.int .i64 8))))) (some (102, true)),
    .act (some 106) (.op (.pure (.pick (.tmp 102) (.tmp 105) (.const (.bool false))))) none,
    .act (some 107) (.op (.pure (.move (.tmp 106)))) none,
    .act (some 108) (.op (.read (.loadN 2 (.tmp 1)))) (some (107, true)),
    .act (some 109) (.call (.func 30) [(.tmp 108)]) (some (107, true)),
    .act (some 110) (.op (.pure (.bin .eql (.tmp 109) (.const (.int .i64 4))))) (some (107, true)),
    .act (some 111) (.op (.pure (.pick (.tmp 107) (.tmp 110) (.const (.bool false))))) none,
    .act (some 0) (.op (.pure (.move (.tmp 111)))) none])
  .ret))))))))) }
theorem c21 : compFn Try.prog (mkPlan Try.prog) [] true 21 = some L21 := by kernel_rfl
/-- sluiceway/sluicewaylaw14.Run -/
def L22 : LFun := { n := 34, pop := true, res := [.tmp 6, .tmp 7, .tmp 8], code :=
  (.seq (.steps [
    .act (some 6) (.op (.pure (.move (.const (.int .i64 0))))) none,
    .act (some 7) (.op (.pure (.move (.const (w64 0#64))))) none,
    .act (some 8) (.op (.pure (.move (.const (.bool false))))) none])
  (.seq (.seq (.steps [
    .act (some 9) (.op (.pure (.move (.const (.int .i64 0))))) none])
  (.block 0 (.loop [0, 1, 2, 9] (.seq (.seq (.steps [
      .act (some 12) (.op (.pure (.move (.tmp 9)))) none,
      .act (some 13) (.op (.pure (.move (.tmp 2)))) none,
      .act (some 14) (.op (.pure (.bin .lss (.tmp 12) (.tmp 13)))) none,
      .act (some 15) (.op (.pure (.move (.tmp 14)))) none,
      .act (some 16) (.op (.pure (.move (.tmp 1)))) (some (15, true)),
      .act (some 17) (.call (.func 27) [(.tmp 16)]) (some (15, true)),
      .act (some 18) (.op (.pure (.not (.tmp 17)))) (some (15, true)),
      .act (some 19) (.op (.pure (.pick (.tmp 15) (.tmp 18) (.const (.bool false))))) none])
    (.cond (.tmp 19)
     .skip
     (.exit 0)))
    (.seq (.block 1 (.steps [
       .act (some 22) (.op (.pure (.move (.tmp 1)))) none,
       .act (some 23) (.op (.pure (.move (.tmp 0)))) none,
       .act (some 24) (.call (.func 15) [(.tmp 22), (.tmp 23)]) none]))
    (.steps [
      .act (some 20) (.op (.pure (.move (.tmp 9)))) none,
      .act (some 21) (.op (.pure (.bin .add (.tmp 20) (.const (.int .i64 1))))) none,
      .act (some 9) (.op (.pure (.move (.tmp 21)))) none]))))))
  (.seq (.steps [
    .act (some 26) (.op (.pure (.move (.tmp 1)))) none,
    .act (some 27) (.call (.func 18) [(.tmp 26)]) none,
    .act (some 25) (.op (.pure (.move (.tmp 27)))) none,
    .act (some 28) (.op (.pure (.extract (.tmp 25) 0))) none,
    .act (some 29) (.op (.pure (.extract (.tmp 25) 1))) none,
    .act (some 10) (.op (.pure (.move (.tmp 28)))) none,
    .act (some 11) (.op (.pure (.move (.tmp 29)))) none])
  (.seq (.steps [
    .act (some 30) (.op (.pure (.move (.tmp 10)))) none,
    .act (some 31) (.op (.pure (.move (.tmp 11)))) none,
    .act (some 32) (.op (.pure (.move (.tmp 1)))) none,
    .act (some 33) (.call (.func 27) [(.tmp 32)]) none,
    .act (some 6) (.op (.pure (.move (.tmp 30)))) none,
    .act (some 7) (.op (.pure (.move (.tmp 31)))) none,
    .act (some 8) (.op (.pure (.move (.tmp 33)))) none])
  .ret)))) }
theorem c22 : compFn Try.prog (mkPlan Try.prog) [(2, [0, 1, 2, 9])] true 22 = some L22 := by kernel_rfl
/-- sluiceway/crq.Put -/
def L23 : LFun := { n := 8, pop := false, res := [.tmp 4], code :=
  (.seq (.steps [
    .act (some 2) (.op (.new (.box (.tmp 0)))) none,
    .act (some 4) (.op (.pure (.move (.const (.pointer none))))) none])
  (.seq (.steps [
    .act (some 5) (.op (.read (.loadN 2 (.tmp 2)))) none,
    .act (some 6) (.op (.pure (.move (.tmp 1)))) none,
    .act (some 7) (.call (.func 53) [(.tmp 5), (.const (.int .i64 0)), (.tmp 6)]) none,
    .act (some 4) (.op (.pure (.move (.tmp 7)))) none])
  .ret)) }
theorem c23 : compFn Try.prog (mkPlan Try.prog) [] false 23 = some L23 := by kernel_rfl
/-- sluiceway/crq.Close -/
def L24 : LFun := { n := 5, pop := false, res := [.tmp 2], code :=
  (.seq (.steps [
    .act (some 1) (.op (.new (.box (.tmp 0)))) none,
    .act (some 2) (.op (.pure (.move (.const (.pointer none))))) none])
  (.seq (.steps [
    .act (some 3) (.op (.read (.loadN 2 (.tmp 1)))) none,
    .act (some 4) (.call (.func 53) [(.tmp 3), (.const (.int .i64 2)), (.const (w64 0#64))]) none,
    .act (some 2) (.op (.pure (.move (.tmp 4)))) none])
  .ret)) }
theorem c24 : compFn Try.prog (mkPlan Try.prog) [] false 24 = some L24 := by kernel_rfl
/-- sluiceway/crq.Take -/
def L25 : LFun := { n := 5, pop := false, res := [.tmp 2], code :=
  (.seq (.steps [
    .act (some 1) (.op (.new (.box (.tmp 0)))) none,
    .act (some 2) (.op (.pure (.move (.const (.pointer none))))) none])
  (.seq (.steps [
    .act (some 3) (.op (.read (.loadN 2 (.tmp 1)))) none,
    .act (some 4) (.call (.func 53) [(.tmp 3), (.const (.int .i64 1)), (.const (w64 0#64))]) none,
    .act (some 2) (.op (.pure (.move (.tmp 4)))) none])
  .ret)) }
theorem c25 : compFn Try.prog (mkPlan Try.prog) [] false 25 = some L25 := by kernel_rfl
/-- (*sluiceway/mem.Mem).Trap -/
def L26 : LFun := { n := 9, pop := true, res := [.tmp 2], code :=
  (.seq (.steps [
    .act (some 2) (.op (.pure (.move (.const (.int .i64 0))))) none])
  (.seq (.seq (.steps [
    .act (some 3) (.op (.pure (.move (.tmp 0)))) none,
    .act (some 4) (.call (.func 54) [(.tmp 3)]) none])
  (.cond (.tmp 4)
   (.seq (.steps [
     .act (some 2) (.op (.pure (.move (.const (.int .i64 (-1)))))) none])
   .ret)
   .skip))
  (.seq (.steps [
    .act (some 5) (.op (.pure (.move (.tmp 0)))) none,
    .act (some 6) (.op (.pure (.nilCheck (.tmp 5)))) none,
    .act (some 7) (.op (.pure (.fieldAddr 8 (.tmp 6)))) none,
    .act (some 8) (.op (.read (.load1 (.tmp 7)))) none,
    .act (some 2) (.op (.pure (.move (.tmp 8)))) none])
  .ret))) }
theorem c26 : compFn Try.prog (mkPlan Try.prog) [] true 26 = some L26 := by kernel_rfl
/-- (*sluiceway/crq.Op).Done -/
def L27 : LFun := { n := 12, pop := true, res := [.tmp 2], code :=
  (.seq (.steps [
    .act (some 2) (.op (.pure (.move (.const (.bool false))))) none])
  (.seq (.steps [
    .act (some 3) (.op (.pure (.move (.tmp 0)))) none,
    .act (some 4) (.call (.func 51) [(.tmp 3)]) none,
    .act (some 5) (.op (.pure (.move (.tmp 4)))) none,
    .act (some 6) (.op (.pure (.move (.tmp 0)))) (some (5, false)),
    .act (some 7) (.op (.pure (.nilCheck (.tmp 6)))) (some (5, false)),
    .act (some 8) (.op (.pure (.fieldAddr 5 (.tmp 7)))) (some (5, false)),
    .act (some 9) (.op (.read (.load1 (.tmp 8)))) (some (5, false)),
    .act (some 10) (.op (.pure (.bin .eql (.tmp 9) (.const (.int .i64 9))))) (some (5, false)),
    .act (some 11) (.op (.pure (.pick (.tmp 5) (.const (.bool true)) (.tmp 10)))) none,
    .act (some 2) (.op (.pure (.move (.tmp 11)))) none])
  .ret)) }
theorem c27 : compFn Try.prog (mkPlan Try.prog) [] true 27 = some L27 := by kernel_rfl
/-- (*sluiceway/mem.Mem).Steps -/
def L28 : LFun := { n := 15, pop := true, res := [.tmp 2], code :=
  (.seq (.steps [
    .act (some 2) (.op (.pure (.move (.const (.int .i64 0))))) none])
  (.seq (.steps [
    .act (some 3) (.op (.pure (.move (.const (.int .i64 0))))) none])
  (.seq (.seq (.steps [
    .act (some 5) (.op (.pure (.move (.const (.int .i64 0))))) none])
  (.block 0 (.loop [0, 3, 5] (.seq (.steps [
      .act (some 6) (.op (.pure (.bin .lss (.tmp 5) (.const (.int .i64 6))))) none])
    (.seq (.cond (.tmp 6)
     .skip
     (.exit 0))
    (.seq (.block 1 (.seq (.steps [
       .act (some 7) (.op (.pure (.move (.tmp 5)))) none,
       .act (some 4) (.op (.pure (.move (.tmp 7)))) none])
     (.steps [
       .act (some 8) (.op (.pure (.move (.tmp 3)))) none,
       .act (some 9) (.op (.pure (.move (.tmp 0)))) none,
       .act (some 10) (.op (.pure (.move (.tmp 4)))) none,
       .act (some 11) (.call (.func 55) [(.tmp 9), (.tmp 10)]) none,
       .act (some 12) (.op (.pure (.bin .add (.tmp 8) (.tmp 11)))) none,
       .act (some 3) (.op (.pure (.move (.tmp 12)))) none])))
    (.steps [
      .act (some 13) (.op (.pure (.bin .add (.tmp 5) (.const (.int .i64 1))))) none,
      .act (some 5) (.op (.pure (.move (.tmp 13)))) none])))))))
  (.seq (.steps [
    .act (some 14) (.op (.pure (.move (.tmp 3)))) none,
    .act (some 2) (.op (.pure (.move (.tmp 14)))) none])
  .ret)))) }
theorem c28 : compFn Try.prog (mkPlan Try.prog) [(3, [0, 3, 5])] true 28 = some L28 := by kernel_rfl
/-- (sluiceway/crq.Ring).Right -/
def L29 : LFun := { n := 33, pop := true, res := [.tmp 2], code :=
  (.seq (.steps [
    .act (some 1) (.op (.new (.box (.tmp 0)))) none,
    .act (some 2) (.op (.pure (.move (.const (.bool false))))) none])
  (.seq (.steps [
    .act (some 3) (.op (.pure (.fieldAddr 0 (.tmp 1)))) none,
    .act (some 4) (.op (.read (.load1 (.tmp 3)))) none,
    .act (some 5) (.op (.pure (.bin .geq (.tmp 4) (.const (.int .i64 0))))) none,
    .act (some 6) (.op (.pure (.move (.tmp 5)))) none,
    .act (some 7) (.op (.pure (.fieldAddr 0 (.tmp 1)))) (some (6, true)),
    .act (some 8) (.op (.read (.load1 (.tmp 7)))) (some (6, true)),
    .act (some 9) (.op (.pure (.bin .leq (.tmp 8) (.const (.int .i64 65536))))) (some (6, true)),
    .act (some 10) (.op (.pure (.pick (.tmp 6) (.tmp 9) (.const (.bool false))))) none,
    .act (some 11) (.op (.pure (.move (.tmp 10)))) none,
    .act (some 12) (.op (.pure (.fieldAddr 0 (.tmp 1)))) (some (11, true)),
    .act (some 13) (.op (.read (.load1 (.tmp 12)))) (some (11, true)),
    .act (some 14) (.op (.pure (.bin .rem (.tmp 13) (.const (.int .i64 2))))) (some (11, true)),
    .act (some 15) (.op (.pure (.bin .eql (.tmp 14) (.const (.int .i64 0))))) (some (11, true)),
    .act (some 16) (.op (.pure (.pick (.tmp 11) (.tmp 15) (.const (.bool false))))) none,
    .act (some 17) (.op (.pure (.move (.tmp 16)))) none,
    .act (some 18) (.op (.pure (.fieldAddr 1 (.tmp 1)))) (some (17, true)),
    .act (some 19) (.op (.read (.load1 (.tmp 18)))) (some (17, true)),
    .act (some 20) (.op (.pure (.bin .geq (.tmp 19) (.const (.int .i64 1))))) (some (17, true)),
    .act (some 21) (.op (.pure (.pick (.tmp 17) (.tmp 20) (.const (.bool false))))) none,
    .act (some 22) (.op (.pure (.move (.tmp 21)))) none,
    .act (some 23) (.op (.pure (.fieldAddr 1 (.tmp 1)))) (some (22, true)),
    .act (some 24) (.op (.read (.load1 (.tmp 23)))) (some (22, true)),
    .act (some 25) (.op (.pure (.bin .leq (.tmp 24) (.const (.int .i64 1024))))) (some (22, true)),
    .act (some 26) (.op (.pure (.pick (.tmp 22) (.tmp 25) (.const (.bool false))))) none,
    .act (some 27) (.op (.pure (.move (.tmp 26)))) none,
    .act (some 28) (.op (.pure (.fieldAddr 1 (.tmp 1)))) (some (27, true)),
    .act (some 29) (.op (.read (.load1 (.tmp 28)))) (some (27, true)),
    .act (some 30) (.op (.pure (.conv .u64 (.tmp 29)))) (some (27, true)),
    .act (some 31) (.call (.func 56) [(.tmp 30)]) (some (27, true)),
    .act (some 32) (.op (.pure (.pick (.tmp 27) (.tmp 31) (.const (.bool false))))) none,
    .act (some 2) (.op (.pure (.move (.tmp 32)))) none])
  .ret)) }
theorem c29 : compFn Try.prog (mkPlan Try.prog) [] true 29 = some L29 := by kernel_rfl
/-- (sluiceway/crq.Ring).Next -/
def L30 : LFun := { n := 9, pop := true, res := [.tmp 2], code :=
  (.seq (.steps [
    .act (some 1) (.op (.new (.box (.tmp 0)))) none,
    .act (some 2) (.op (.pure (.move (.const (.int .i64 0))))) none])
  (.seq (.seq (.steps [
    .act (some 3) (.op (.read (.loadN 2 (.tmp 1)))) none,
    .act (some 4) (.call (.func 29) [(.tmp 3)]) none,
    .act (some 5) (.op (.pure (.not (.tmp 4)))) none])
  (.cond (.tmp 5)
   (.seq (.steps [
     .act (some 2) (.op (.pure (.move (.const (.int .i64 (-1)))))) none])
   .ret)
   .skip))
  (.seq (.steps [
    .act (some 6) (.op (.pure (.fieldAddr 0 (.tmp 1)))) none,
    .act (some 7) (.op (.read (.load1 (.tmp 6)))) none,
    .act (some 8) (.op (.pure (.bin .add (.tmp 7) (.const (.int .i64 2))))) none,
    .act (some 2) (.op (.pure (.move (.tmp 8)))) none])
  .ret))) }
theorem c30 : compFn Try.prog (mkPlan Try.prog) [] true 30 = some L30 := by kernel_rfl
/-- (sluiceway/spec.Fifo).Do -/
def L31 : LFun := { n := 43, pop := false, res := [.loadN 2 6, .tmp 7, .tmp 8], code :=
  (.seq (.steps [
    .act (some 3) (.op (.new (.box (.tmp 0)))) none,
    .act (some 6) (.op (.new (.alloc [(.int .i64 0), (.slice none 0 0)]))) none,
    .act (some 7) (.op (.pure (.move (.const (.int .i64 0))))) none,
    .act (some 8) (.op (.pure (.move (.const (w64 0#64))))) none])
  (.seq (.block 0 (.seq (.steps [
     .act (some 10) (.op (.pure (.move (.tmp 1)))) none,
     .act (some 11) (.op (.pure (.bin .eql (.tmp 10) (.const (.int .i64 0))))) none,
     .act (some 12) (.op (.pure (.move (.tmp 11)))) none,
     .act (some 13) (.op (.read (.loadN 2 (.tmp 3)))) (some (12, true)),
     .act (some 14) (.call (.func 57) [(.tmp 13)]) (some (12, true)),
     .act (some 15) (.op (.pure (.pick (.tmp 12) (.tmp 14) (.const (.bool false))))) none,
     .act (some 9) (.op (.pure (.move (.tmp 15)))) none])
   (.cond (.tmp 9)
    (.seq (.steps [
      .act (some 16) (.op (.read (.loadN 2 (.tmp 3)))) none,
      .act none (.op (.eff (.store 2 (.tmp 6) (.tmp 16)))) none,
      .act (some 7) (.op (.pure (.move (.const (.int .i64 15))))) none,
      .act (some 8) (.op (.pure (.move (.const (w64 0#64))))) none])
    .ret)
    (.seq (.steps [
      .act (some 18) (.op (.pure (.move (.tmp 1)))) none,
      .act (some 19) (.op (.pure (.bin .eql (.tmp 18) (.const (.int .i64 0))))) none,
      .act (some 17) (.op (.pure (.move (.tmp 19)))) none])
    (.cond (.tmp 17)
     (.seq (.steps [
       .act (some 20) (.op (.read (.loadN 2 (.tmp 3)))) none,
       .act (some 21) (.op (.pure (.move (.tmp 2)))) none,
       .act (some 22) (.call (.func 58) [(.tmp 20), (.tmp 21)]) none,
       .act none (.op (.eff (.store 2 (.tmp 6) (.tmp 22)))) none,
       .act (some 7) (.op (.pure (.move (.const (.int .i64 0))))) none,
       .act (some 8) (.op (.pure (.move (.const (w64 0#64))))) none])
     .ret)
     (.seq (.steps [
       .act (some 24) (.op (.pure (.move (.tmp 1)))) none,
       .act (some 25) (.op (.pure (.bin .eql (.tmp 24) (.const (.int .i64 1))))) none,
       .act (some 26) (.op (.pure (.move (.tmp 25)))) none,
       .act (some 27) (.op (.pure (.fieldAddr 1 (.tmp 3)))) (some (26, true)),
       .act (some 28) (.op (.read (.load1 (.tmp 27)))) (some (26, true)),
       .act (some 29) (.op (.pure (.len false (.tmp 28)))) (some (26, true)),
       .act (some 30) (.op (.pure (.bin .eql (.tmp 29) (.const (.int .i64 0))))) (some (26, true)),
       .act (some 31) (.op (.pure (.pick (.tmp 26) (.tmp 30) (.const (.bool false))))) none,
       .act (some 23) (.op (.pure (.move (.tmp 31)))) none])
     (.cond (.tmp 23)
      (.seq (.steps [
        .act (some 32) (.op (.read (.loadN 2 (.tmp 3)))) none,
        .act none (.op (.eff (.store 2 (.tmp 6) (.tmp 32)))) none,
        .act (some 7) (.op (.pure (.move (.const (.int .i64 13))))) none,
        .act (some 8) (.op (.pure (.move (.const (w64 0#64))))) none])
      .ret)
      (.seq (.steps [
        .act (some 34) (.op (.pure (.move (.tmp 1)))) none,
        .act (some 35) (.op (.pure (.bin .eql (.tmp 34) (.const (.int .i64 1))))) none,
        .act (some 33) (.op (.pure (.move (.tmp 35)))) none])
      (.cond (.tmp 33)
       (.seq (.steps [
         .act (some 36) (.op (.read (.loadN 2 (.tmp 3)))) none,
         .act (some 38) (.op (.pure (.fieldAddr 1 (.tmp 3)))) none,
         .act (some 39) (.op (.read (.load1 (.tmp 38)))) none,
         .act (some 40) (.op (.pure (.idxSl 1 (.tmp 39) (.const (.int .i64 0))))) none,
         .act (some 41) (.op (.read (.load1 (.tmp 40)))) none,
         .act (some 37) (.call (.func 59) [(.tmp 36)]) none,
         .again 41 (.load1 (.tmp 40)) none,
         .again 39 (.load1 (.tmp 38)) none,
         .act none (.op (.eff (.store 2 (.tmp 6) (.tmp 37)))) none,
         .act (some 7) (.op (.pure (.move (.const (.int .i64 0))))) none,
         .act (some 8) (.op (.pure (.move (.tmp 41)))) none,
         .again 41 (.load1 (.tmp 40)) none,
         .again 39 (.load1 (.tmp 38)) none])
       .ret)
       .skip)))))))))
  (.seq (.steps [
    .act (some 42) (.op (.read (.loadN 2 (.tmp 3)))) none,
    .act none (.op (.eff (.store 2 (.tmp 6) (.tmp 42)))) none,
    .act (some 7) (.op (.pure (.move (.const (.int .i64 2))))) none,
    .act (some 8) (.op (.pure (.move (.const (w64 0#64))))) none])
  .ret))) }
theorem c31 : compFn Try.prog (mkPlan Try.prog) [] false 31 = some L31 := by kernel_rfl
/-- sluiceway/hist.New -/
def L32 : LFun := { n := 4, pop := false, res := [.tmp 0], code :=
  (.seq (.steps [
    .act (some 0) (.op (.pure (.move (.const (.pointer none))))) none])
  (.seq (.steps [
    .act (some 1) (.op (.new (.makeMap))) none,
    .act (some 2) (.op (.pure (.build [(.slice none 0 0), (.map none), (.int .i64 0)] [(1, 1, (.tmp 1))]))) none,
    .act (some 3) (.op (.new (.box (.tmp 2)))) none,
    .act (some 0) (.op (.pure (.move (.tmp 3)))) none])
  .ret)) }
theorem c32 : compFn Try.prog (mkPlan Try.prog) [] false 32 = some L32 := by kernel_rfl
/-- (*sluiceway/hist.Log).Begin -/
def L33 : LFun := { n := 69, pop := true, res := [.tmp 8, .tmp 9], code :=
  (.seq (.steps [
    .act (some 8) (.op (.pure (.move (.const (.int .i64 0))))) none,
    .act (some 9) (.op (.pure (.move (.const (.int .i64 0))))) none])
  (.seq (.steps [
    .act (some 14) (.op (.pure (.move (.tmp 0)))) none,
    .act (some 15) (.op (.pure (.move (.tmp 1)))) none,
    .act (some 16) (.call (.func 60) [(.tmp 14), (.tmp 15)]) none,
    .act (some 13) (.op (.pure (.move (.tmp 16)))) none,
    .act (some 17) (.op (.pure (.extract (.tmp 13) 0))) none,
    .act (some 18) (.op (.pure (.extract (.tmp 13) 1))) none,
    .act (some 10) (.op (.pure (.move (.tmp 17)))) none,
    .act (some 11) (.op (.pure (.move (.tmp 18)))) none])
  (.seq (.block 0 (.seq (.steps [
     .act (some 20) (.op (.pure (.move (.tmp 0)))) none,
     .act (some 21) (.call (.func 61) [(.tmp 20)]) none,
     .act (some 19) (.op (.pure (.move (.tmp 21)))) none])
   (.cond (.tmp 19)
    (.seq (.steps [
      .act (some 8) (.op (.pure (.move (.const (.int .i64 0))))) none,
      .act (some 9) (.op (.pure (.move (.const (.int .i64 1))))) none])
    .ret)
    (.seq (.steps [
      .act (some 23) (.op (.pure (.move (.tmp 1)))) none,
      .act (some 24) (.op (.pure (.bin .lss (.tmp 23) (.const (.int .i64 0))))) none,
      .act (some 25) (.op (.pure (.move (.tmp 24)))) none,
      .act (some 26) (.op (.pure (.move (.tmp 1)))) (some (25, false)),
      .act (some 27) (.op (.pure (.bin .geq (.tmp 26) (.const (.int .i64 64))))) (some (25, false)),
      .act (some 28) (.op (.pure (.pick (.tmp 25) (.const (.bool true)) (.tmp 27)))) none,
      .act (some 22) (.op (.pure (.move (.tmp 28)))) none])
    (.cond (.tmp 22)
     (.seq (.steps [
       .act (some 8) (.op (.pure (.move (.const (.int .i64 0))))) none,
       .act (some 9) (.op (.pure (.move (.const (.int .i64 2))))) none])
     .ret)
     (.seq (.steps [
       .act (some 30) (.op (.pure (.move (.tmp 11)))) none,
       .act (some 29) (.op (.pure (.move (.tmp 30)))) none])
     (.cond (.tmp 29)
      (.seq (.steps [
        .act (some 8) (.op (.pure (.move (.const (.int .i64 0))))) none,
        .act (some 9) (.op (.pure (.move (.const (.int .i64 16))))) none])
      .ret)
      (.seq (.steps [
        .act (some 32) (.op (.pure (.move (.tmp 0)))) none,
        .act (some 33) (.op (.pure (.nilCheck (.tmp 32)))) none,
        .act (some 34) (.op (.pure (.fieldAddr 0 (.tmp 33)))) none,
        .act (some 35) (.op (.read (.load1 (.tmp 34)))) none,
        .act (some 36) (.op (.pure (.len false (.tmp 35)))) none,
        .act (some 37) (.op (.pure (.bin .geq (.tmp 36) (.const (.int .i64 1024))))) none,
        .act (some 31) (.op (.pure (.move (.tmp 37)))) none])
      (.cond (.tmp 31)
       (.seq (.steps [
         .act (some 8) (.op (.pure (.move (.const (.int .i64 0))))) none,
         .act (some 9) (.op (.pure (.move (.const (.int .i64 15))))) none])
       .ret)
       .skip)))))))))
  (.seq (.steps [
    .act (some 38) (.op (.pure (.move (.tmp 0)))) none,
    .act (some 39) (.op (.pure (.nilCheck (.tmp 38)))) none,
    .act (some 40) (.op (.pure (.fieldAddr 0 (.tmp 39)))) none,
    .act (some 41) (.op (.read (.load1 (.tmp 40)))) none,
    .act (some 42) (.op (.pure (.len false (.tmp 41)))) none,
    .act (some 12) (.op (.pure (.move (.tmp 42)))) none])
  (.seq (.steps [
    .act (some 43) (.op (.pure (.move (.tmp 0)))) none,
    .act (some 44) (.op (.pure (.move (.tmp 0)))) none,
    .act (some 45) (.op (.pure (.nilCheck (.tmp 44)))) none,
    .act (some 46) (.op (.pure (.fieldAddr 0 (.tmp 45)))) none,
    .act (some 47) (.op (.read (.load1 (.tmp 46)))) none,
    .act (some 48) (.op (.pure (.move (.tmp 1)))) none,
    .act (some 49) (.op (.pure (.move (.tmp 2)))) none,
    .act (some 50) (.op (.pure (.move (.tmp 3)))) none,
    .act (some 51) (.op (.pure (.move (.tmp 0)))) none,
    .act (some 52) (.op (.pure (.nilCheck (.tmp 51)))) none,
    .act (some 53) (.op (.pure (.fieldAddr 2 (.tmp 52)))) none,
    .act (some 54) (.op (.read (.load1 (.tmp 53)))) none,
    .act (some 55) (.op (.pure (.build [(.int .i64 0), (.int .i64 0), (w64 0#64), (.int .i64 0), (.int .i64 0), (.bool false), (.int .i64 0), (w64 0#64)] [(0, 1, (.tmp 48)), (1, 1, (.tmp 49)), (2, 1, (.tmp 50)), (3, 1, (.tmp 54))]))) none,
    .act (some 56) (.op (.new (.mkSlice 8 1 [(.int .i64 0), (.int .i64 0), (w64 0#64), (.int .i64 0), (.int .i64 0), (.bool false), (.int .i64 0), (w64 0#64)] [(0, 8, (.tmp 55))]))) none,
    .act (some 57) (.op (.eff (.append 8 64 (.tmp 47) (.tmp 56)))) none,
    .act (some 58) (.op (.pure (.nilCheck (.tmp 43)))) none,
    .act (some 59) (.op (.pure (.fieldAddr 0 (.tmp 58)))) none,
    .act none (.op (.eff (.store 1 (.tmp 59) (.tmp 57)))) none])
  (.seq (.steps [
    .act (some 60) (.op (.pure (.move (.tmp 0)))) none,
    .act (some 61) (.op (.pure (.nilCheck (.tmp 60)))) none,
    .act (some 62) (.op (.pure (.fieldAddr 1 (.tmp 61)))) none,
    .act (some 63) (.op (.read (.load1 (.tmp 62)))) none,
    .act (some 64) (.op (.pure (.move (.tmp 1)))) none,
    .act (some 65) (.op (.pure (.move (.tmp 12)))) none,
    .act none (.op (.eff (.mapUpdate false (.tmp 63) (.tmp 64) (.tmp 65)))) none])
  (.seq (.steps [
    .act (some 66) (.op (.pure (.move (.tmp 0)))) none,
    .act (some 67) (.call (.func 62) [(.tmp 66)]) none])
  (.seq (.steps [
    .act (some 68) (.op (.pure (.move (.tmp 12)))) none,
    .act (some 8) (.op (.pure (.move (.tmp 68)))) none,
    .act (some 9) (.op (.pure (.move (.const (.int .i64 0))))) none])
  .ret)))))))) }
theorem c33 : compFn Try.prog (mkPlan Try.prog) [] true 33 = some L33 := by kernel_rfl
/-- (*sluiceway/hist.Log).End -/
def L34 : LFun := { n := 68, pop := true, res := [.tmp 8], code :=
  (.seq (.steps [
    .act (some 8) (.op (.pure (.move (.const (.int .i64 0))))) none])
  (.seq (.block 0 (.seq (.steps [
     .act (some 11) (.op (.pure (.move (.tmp 0)))) none,
     .act (some 12) (.call (.func 61) [(.tmp 11)]) none,
     .act (some 10) (.op (.pure (.move (.tmp 12)))) none])
   (.cond (.tmp 10)
    (.seq (.steps [
      .act (some 8) (.op (.pure (.move (.const (.int .i64 1))))) none])
    .ret)
    (.seq (.steps [
      .act (some 14) (.op (.pure (.move (.tmp 1)))) none,
      .act (some 15) (.op (.pure (.bin .lss (.tmp 14) (.const (.int .i64 0))))) none,
      .act (some 16) (.op (.pure (.move (.tmp 15)))) none,
      .act (some 17) (.op (.pure (.move (.tmp 1)))) (some (16, false)),
      .act (some 18) (.op (.pure (.move (.tmp 0)))) (some (16, false)),
      .act (some 19) (.op (.pure (.nilCheck (.tmp 18)))) (some (16, false)),
      .act (some 20) (.op (.pure (.fieldAddr 0 (.tmp 19)))) (some (16, false)),
      .act (some 21) (.op (.read (.load1 (.tmp 20)))) (some (16, false)),
      .act (some 22) (.op (.pure (.len false (.tmp 21)))) (some (16, false)),
      .act (some 23) (.op (.pure (.bin .geq (.tmp 17) (.tmp 22)))) (some (16, false)),
      .act (some 24) (.op (.pure (.pick (.tmp 16) (.const (.bool true)) (.tmp 23)))) none,
      .act (some 13) (.op (.pure (.move (.tmp 24)))) none])
    (.cond (.tmp 13)
     (.seq (.steps [
       .act (some 8) (.op (.pure (.move (.const (.int .i64 13))))) none])
     .ret)
     (.seq (.steps [
       .act (some 26) (.op (.pure (.move (.tmp 0)))) none,
       .act (some 27) (.op (.pure (.nilCheck (.tmp 26)))) none,
       .act (some 28) (.op (.pure (.fieldAddr 0 (.tmp 27)))) none,
       .act (some 29) (.op (.read (.load1 (.tmp 28)))) none,
       .act (some 30) (.op (.pure (.move (.tmp 1)))) none,
       .act (some 31) (.op (.pure (.idxSl 8 (.tmp 29) (.tmp 30)))) none,
       .act (some 32) (.op (.pure (.fieldAddr 5 (.tmp 31)))) none,
       .act (some 33) (.op (.read (.load1 (.tmp 32)))) none,
       .act (some 25) (.op (.pure (.move (.tmp 33)))) none])
     (.cond (.tmp 25)
      (.seq (.steps [
        .act (some 8) (.op (.pure (.move (.const (.int .i64 16))))) none])
      .ret)
      .skip)))))))
  (.seq (.steps [
    .act (some 34) (.op (.pure (.move (.tmp 0)))) none,
    .act (some 35) (.op (.pure (.nilCheck (.tmp 34)))) none,
    .act (some 36) (.op (.pure (.fieldAddr 0 (.tmp 35)))) none,
    .act (some 37) (.op (.read (.load1 (.tmp 36)))) none,
    .act (some 38) (.op (.pure (.move (.tmp 1)))) none,
    .act (some 39) (.op (.pure (.idxSl 8 (.tmp 37) (.tmp 38)))) none,
    .act (some 9) (.op (.pure (.move (.tmp 39)))) none])
  (.seq (.steps [
    .act (some 40) (.op (.pure (.move (.tmp 9)))) none,
    .act (some 41) (.op (.pure (.move (.tmp 9)))) none,
    .act (some 42) (.op (.pure (.move (.tmp 9)))) none,
    .act (some 43) (.op (.pure (.move (.tmp 9)))) none,
    .act (some 44) (.op (.pure (.move (.tmp 0)))) none,
    .act (some 45) (.op (.pure (.nilCheck (.tmp 44)))) none,
    .act (some 46) (.op (.pure (.fieldAddr 2 (.tmp 45)))) none,
    .act (some 47) (.op (.read (.load1 (.tmp 46)))) none,
    .act (some 48) (.op (.pure (.move (.tmp 2)))) none,
    .act (some 49) (.op (.pure (.move (.tmp 3)))) none,
    .act (some 50) (.op (.pure (.nilCheck (.tmp 40)))) none,
    .act (some 51) (.op (.pure (.fieldAddr 5 (.tmp 50)))) none,
    .act none (.op (.eff (.store 1 (.tmp 51) (.const (.bool true))))) none,
    .act (some 52) (.op (.pure (.nilCheck (.tmp 41)))) none,
    .act (some 53) (.op (.pure (.fieldAddr 4 (.tmp 52)))) none,
    .act none (.op (.eff (.store 1 (.tmp 53) (.tmp 47)))) none,
    .act (some 54) (.op (.pure (.nilCheck (.tmp 42)))) none,
    .act (some 55) (.op (.pure (.fieldAddr 6 (.tmp 54)))) none,
    .act none (.op (.eff (.store 1 (.tmp 55) (.tmp 48)))) none,
    .act (some 56) (.op (.pure (.nilCheck (.tmp 43)))) none,
    .act (some 57) (.op (.pure (.fieldAddr 7 (.tmp 56)))) none,
    .act none (.op (.eff (.store 1 (.tmp 57) (.tmp 49)))) none])
  (.seq (.steps [
    .act (some 58) (.op (.pure (.move (.tmp 0)))) none,
    .act (some 59) (.op (.pure (.nilCheck (.tmp 58)))) none,
    .act (some 60) (.op (.pure (.fieldAddr 1 (.tmp 59)))) none,
    .act (some 61) (.op (.read (.load1 (.tmp 60)))) none,
    .act (some 62) (.op (.pure (.move (.tmp 9)))) none,
    .act (some 63) (.op (.pure (.nilCheck (.tmp 62)))) none,
    .act (some 64) (.op (.pure (.fieldAddr 0 (.tmp 63)))) none,
    .act (some 65) (.op (.read (.load1 (.tmp 64)))) none,
    .act none (.op (.eff (.delete false (.tmp 61) (.tmp 65)))) none])
  (.seq (.steps [
    .act (some 66) (.op (.pure (.move (.tmp 0)))) none,
    .act (some 67) (.call (.func 62) [(.tmp 66)]) none])
  (.seq (.steps [
    .act (some 8) (.op (.pure (.move (.const (.int .i64 0))))) none])
  .ret))))))) }
theorem c34 : compFn Try.prog (mkPlan Try.prog) [] true 34 = some L34 := by kernel_rfl
/-- (*sluiceway/hist.Log).Calls -/
def L35 : LFun := { n := 10, pop := false, res := [.tmp 2], code :=
  (.seq (.steps [
    .act (some 2) (.op (.pure (.move (.const (.slice none 0 0))))) none])
  (.seq (.seq (.steps [
    .act (some 3) (.op (.pure (.move (.tmp 0)))) none,
    .act (some 4) (.call (.func 61) [(.tmp 3)]) none])
  (.cond (.tmp 4)
   (.seq (.steps [
     .act (some 2) (.op (.pure (.move (.const (.slice none 0 0))))) none])
   .ret)
   .skip))
  (.seq (.steps [
    .act (some 5) (.op (.pure (.move (.tmp 0)))) none,
    .act (some 6) (.op (.pure (.nilCheck (.tmp 5)))) none,
    .act (some 7) (.op (.pure (.fieldAddr 0 (.tmp 6)))) none,
    .act (some 8) (.op (.read (.load1 (.tmp 7)))) none,
    .act (some 9) (.call (.func 63) [(.tmp 8)]) none,
    .act (some 2) (.op (.pure (.move (.tmp 9)))) none])
  .ret))) }
theorem c35 : compFn Try.prog (mkPlan Try.prog) [] false 35 = some L35 := by kernel_rfl
/-- sluiceway/hist.Ahead -/
def L36 : LFun := { n := 14, pop := true, res := [.tmp 4], code :=
  (.seq (.steps [
    .act (some 2) (.op (.new (.box (.tmp 0)))) none,
    .act (some 3) (.op (.new (.box (.tmp 1)))) none,
    .act (some 4) (.op (.pure (.move (.const (.bool false))))) none])
  (.seq (.steps [
    .act (some 5) (.op (.pure (.fieldAddr 5 (.tmp 2)))) none,
    .act (some 6) (.op (.read (.load1 (.tmp 5)))) none,
    .act (some 7) (.op (.pure (.move (.tmp 6)))) none,
    .act (some 8) (.op (.pure (.fieldAddr 4 (.tmp 2)))) (some (7, true)),
    .act (some 9) (.op (.read (.load1 (.tmp 8)))) (some (7, true)),
    .act (some 10) (.op (.pure (.fieldAddr 3 (.tmp 3)))) (some (7, true)),
    .act (some 11) (.op (.read (.load1 (.tmp 10)))) (some (7, true)),
    .act (some 12) (.op (.pure (.bin .lss (.tmp 9) (.tmp 11)))) (some (7, true)),
    .act (some 13) (.op (.pure (.pick (.tmp 7) (.tmp 12) (.const (.bool false))))) none,
    .act (some 4) (.op (.pure (.move (.tmp 13)))) none])
  .ret)) }
theorem c36 : compFn Try.prog (mkPlan Try.prog) [] true 36 = some L36 := by kernel_rfl
/-- sluiceway/lin.Fifo -/
def L37 : LFun := { n := 17, pop := false, res := [.tmp 6, .tmp 7], code :=
  (.seq (.steps [
    .act (some 6) (.op (.pure (.move (.const (.slice none 0 0))))) none,
    .act (some 7) (.op (.pure (.move (.const (.bool false))))) none])
  (.seq (.steps [
    .act (some 8) (.op (.pure (.move (.tmp 0)))) none,
    .act (some 9) (.op (.pure (.move (.tmp 1)))) none,
    .act (some 10) (.op (.pure (.build [(.int .i64 0), (.slice none 0 0)] [(0, 1, (.tmp 9))]))) none,
    .act (some 11) (.op (.pure (.move (.tmp 0)))) none,
    .act (some 12) (.op (.pure (.move (.tmp 2)))) none,
    .act (some 13) (.call (.func 65) [(.tmp 11), (.tmp 12)]) none,
    .act (some 14) (.call (.func 64) [(.tmp 8), (.tmp 10), (.tmp 13), (.func 66)]) none,
    .act (some 15) (.op (.pure (.extract (.tmp 14) 0))) none,
    .act (some 16) (.op (.pure (.extract (.tmp 14) 1))) none,
    .act (some 6) (.op (.pure (.move (.tmp 15)))) none,
    .act (some 7) (.op (.pure (.move (.tmp 16)))) none])
  .ret)) }
theorem c37 : compFn Try.prog (mkPlan Try.prog) [] false 37 = some L37 := by kernel_rfl
/-- sluiceway/sluicewaylaw14.Open -/
def L38 : LFun := { n := 25, pop := false, res := [.tmp 2], code :=
  (.seq (.steps [
    .act (some 2) (.op (.pure (.move (.const (.slice none 0 0))))) none])
  (.seq (.steps [
    .act (some 3) (.op (.pure (.move (.const (.slice none 0 0))))) none])
  (.seq (.seq (.steps [
    .act (some 4) (.op (.pure (.move (.const (.int .i64 0))))) none])
  (.block 0 (.loop [0, 3, 4] (.seq (.seq (.steps [
      .act (some 5) (.op (.pure (.move (.tmp 4)))) none,
      .act (some 6) (.op (.pure (.move (.tmp 0)))) none,
      .act (some 7) (.op (.pure (.len false (.tmp 6)))) none,
      .act (some 8) (.op (.pure (.bin .lss (.tmp 5) (.tmp 7)))) none])
    (.cond (.tmp 8)
     .skip
     (.exit 0)))
    (.seq (.block 1 (.seq (.steps [
       .act (some 11) (.op (.pure (.move (.tmp 0)))) none,
       .act (some 12) (.op (.pure (.move (.tmp 4)))) none,
       .act (some 13) (.op (.pure (.idxSl 8 (.tmp 11) (.tmp 12)))) none,
       .act (some 14) (.op (.pure (.fieldAddr 6 (.tmp 13)))) none,
       .act (some 15) (.op (.read (.load1 (.tmp 14)))) none,
       .act (some 16) (.op (.pure (.bin .neq (.tmp 15) (.const (.int .i64 16))))) none])
     (.cond (.tmp 16)
      (.steps [
        .act (some 17) (.op (.pure (.move (.tmp 3)))) none,
        .act (some 18) (.op (.pure (.move (.tmp 0)))) none,
        .act (some 19) (.op (.pure (.move (.tmp 4)))) none,
        .act (some 20) (.op (.pure (.idxSl 8 (.tmp 18) (.tmp 19)))) none,
        .act (some 21) (.op (.read (.loadN 8 (.tmp 20)))) none,
        .act (some 22) (.op (.new (.mkSlice 8 1 [(.int .i64 0), (.int .i64 0), (w64 0#64), (.int .i64 0), (.int .i64 0), (.bool false), (.int .i64 0), (w64 0#64)] [(0, 8, (.tmp 21))]))) none,
        .act (some 23) (.op (.eff (.append 8 64 (.tmp 17) (.tmp 22)))) none,
        .act (some 3) (.op (.pure (.move (.tmp 23)))) none])
      .skip)))
    (.steps [
      .act (some 9) (.op (.pure (.move (.tmp 4)))) none,
      .act (some 10) (.op (.pure (.bin .add (.tmp 9) (.const (.int .i64 1))))) none,
      .act (some 4) (.op (.pure (.move (.tmp 10)))) none]))))))
  (.seq (.steps [
    .act (some 24) (.op (.pure (.move (.tmp 3)))) none,
    .act (some 2) (.op (.pure (.move (.tmp 24)))) none])
  .ret)))) }
theorem c38 : compFn Try.prog (mkPlan Try.prog) [(3, [0, 3, 4])] false 38 = some L38 := by kernel_rfl
/-- (*sluiceway/mem.Mem).Len -/
def L39 : LFun := { n := 10, pop := true, res := [.tmp 2], code :=
  (.seq (.steps [
    .act (some 2) (.op (.pure (.move (.const (.int .i64 0))))) none])
  (.seq (.seq (.steps [
    .act (some 3) (.op (.pure (.move (.tmp 0)))) none,
    .act (some 4) (.op (.pure (.eqNil .p false (.tmp 3) (.const (.pointer none))))) none])
  (.cond (.tmp 4)
   (.seq (.steps [
     .act (some 2) (.op (.pure (.move (.const (.int .i64 0))))) none])
   .ret)
   .skip))
  (.seq (.steps [
    .act (some 5) (.op (.pure (.move (.tmp 0)))) none,
    .act (some 6) (.op (.pure (.nilCheck (.tmp 5)))) none,
    .act (some 7) (.op (.pure (.fieldAddr 0 (.tmp 6)))) none,
    .act (some 8) (.op (.read (.load1 (.tmp 7)))) none,
    .act (some 9) (.op (.pure (.len false (.tmp 8)))) none,
    .act (some 2) (.op (.pure (.move (.tmp 9)))) none])
  .ret))) }
theorem c39 : compFn Try.prog (mkPlan Try.prog) [] true 39 = some L39 := by kernel_rfl
/-- (*sluiceway/mem.Mem).Store -/
def L40 : LFun := { n := 10, pop := true, res := [], code :=
  (.seq (.steps [
    .act (some 5) (.op (.new (.box (.tmp 2)))) none])
  (.steps [
    .act (some 6) (.op (.pure (.move (.tmp 0)))) none,
    .act (some 7) (.op (.pure (.move (.tmp 1)))) none,
    .act (some 8) (.op (.pure (.mkFunc 68 [] [(.tmp 5)]))) none,
    .act (some 9) (.call (.func 67) [(.tmp 6), (.const (.int .i64 1)), (.tmp 7), (.tmp 8)]) none])) }
theorem c40 : compFn Try.prog (mkPlan Try.prog) [] true 40 = some L40 := by kernel_rfl
/-- (sluiceway/crq.Ring).cell -/
def L41 : LFun := { n := 16, pop := true, res := [.tmp 4], code :=
  (.seq (.steps [
    .act (some 2) (.op (.new (.box (.tmp 0)))) none,
    .act (some 4) (.op (.pure (.move (.const (.int .i64 0))))) none])
  (.seq (.steps [
    .act (some 5) (.op (.pure (.fieldAddr 0 (.tmp 2)))) none,
    .act (some 6) (.op (.read (.load1 (.tmp 5)))) none,
    .act (some 7) (.op (.pure (.bin .add (.tmp 6) (.const (.int .i64 4))))) none,
    .act (some 8) (.op (.pure (.move (.tmp 1)))) none,
    .act (some 9) (.op (.pure (.fieldAddr 1 (.tmp 2)))) none,
    .act (some 10) (.op (.read (.load1 (.tmp 9)))) none,
    .act (some 11) (.op (.pure (.conv .u64 (.tmp 10)))) none,
    .act (some 12) (.call (.func 69) [(.tmp 8), (.tmp 11)]) none,
    .act (some 13) (.op (.pure (.conv .i64 (.tmp 12)))) none,
    .act (some 14) (.op (.pure (.bin .mul (.const (.int .i64 2)) (.tmp 13)))) none,
    .act (some 15) (.op (.pure (.bin .add (.tmp 7) (.tmp 14)))) none,
    .act (some 4) (.op (.pure (.move (.tmp 15)))) none,
    .again 6 (.load1 (.tmp 5)) none])
  .ret)) }
theorem c41 : compFn Try.prog (mkPlan Try.prog) [] true 41 = some L41 := by kernel_rfl
/-- sluiceway/crq.state -/
def L42 : LFun := { n := 10, pop := true, res := [.tmp 4], code :=
  (.seq (.steps [
    .act (some 4) (.op (.pure (.move (.const (w64 0#64))))) none])
  (.seq (.steps [
    .act (some 5) (.op (.pure (.move (.tmp 0)))) none,
    .act (some 6) (.op (.pure (.bin .shl (.tmp 5) (.const (w64 1#64))))) none,
    .act (some 7) (.op (.pure (.move (.tmp 1)))) none,
    .act (some 8) (.op (.pure (.bin .and (.tmp 7) (.const (w64 1#64))))) none,
    .act (some 9) (.op (.pure (.bin .or (.tmp 6) (.tmp 8)))) none,
    .act (some 4) (.op (.pure (.move (.tmp 9)))) none])
  .ret)) }
theorem c42 : compFn Try.prog (mkPlan Try.prog) [] true 42 = some L42 := by kernel_rfl
/-- (sluiceway/sluicewayref02.Mem).Step -/
def L43 : LFun := { n := 167, pop := false, res := [.loadN 10 4, .tmp 5, .tmp 6], code :=
  (.seq (.steps [
    .act (some 2) (.op (.new (.box (.tmp 0)))) none,
    .act (some 3) (.op (.new (.box (.tmp 1)))) none,
    .act (some 4) (.op (.new (.alloc [(.slice none 0 0), (.slice none 0 0), (.int .i64 0), (.int .i64 0), (.int .i64 0), (.int .i64 0), (.int .i64 0), (.int .i64 0), (.int .i64 0), (.bool false)]))) none,
    .act (some 5) (.op (.pure (.move (.const (w64 0#64))))) none,
    .act (some 6) (.op (.pure (.move (.const (.bool false))))) none])
  (.seq (.seq (.steps [
    .act (some 13) (.op (.pure (.fieldAddr 0 (.tmp 3)))) none,
    .act (some 14) (.op (.read (.load1 (.tmp 13)))) none,
    .act (some 15) (.op (.pure (.bin .lss (.tmp 14) (.const (.int .i64 0))))) none,
    .act (some 16) (.op (.pure (.move (.tmp 15)))) none,
    .act (some 17) (.op (.pure (.fieldAddr 0 (.tmp 3)))) (some (16, false)),
    .act (some 18) (.op (.read (.load1 (.tmp 17)))) (some (16, false)),
    .act (some 19) (.op (.pure (.bin .gtr (.tmp 18) (.const (.int .i64 5))))) (some (16, false)),
    .act (some 20) (.op (.pure (.pick (.tmp 16) (.const (.bool true)) (.tmp 19)))) none])
  (.cond (.tmp 20)
   (.seq (.steps [
     .act (some 21) (.op (.read (.loadN 10 (.tmp 2)))) none,
     .act none (.op (.eff (.store 10 (.tmp 4) (.tmp 21)))) none,
     .act (some 5) (.op (.pure (.move (.const (w64 0#64))))) none,
     .act (some 6) (.op (.pure (.move (.const (.bool false))))) none])
   .ret)
   .skip))
  (.seq (.steps [
    .act (some 22) (.op (.pure (.fieldAddr 0 (.tmp 3)))) none,
    .act (some 23) (.op (.read (.load1 (.tmp 22)))) none,
    .act (some 24) (.op (.pure (.fieldAddr 2 (.tmp 2)))) none,
    .act (some 25) (.op (.pure (.idxArr 6 1 (.tmp 24) (.tmp 23)))) none,
    .act (some 26) (.op (.read (.load1 (.tmp 25)))) none,
    .act (some 27) (.op (.pure (.bin .add (.tmp 26) (.const (.int .i64 1))))) none,
    .act (some 28) (.op (.pure (.fieldAddr 2 (.tmp 2)))) none,
    .act (some 29) (.op (.pure (.idxArr 6 1 (.tmp 28) (.tmp 23)))) none,
    .act none (.op (.eff (.store 1 (.tmp 29) (.tmp 27)))) none])
  (.seq (.steps [
    .act (some 30) (.op (.pure (.fieldAddr 1 (.tmp 3)))) none,
    .act (some 31) (.op (.read (.load1 (.tmp 30)))) none,
    .act (some 7) (.op (.pure (.move (.tmp 31)))) none])
  (.seq (.steps [
    .act (some 32) (.op (.read (.loadN 10 (.tmp 2)))) none,
    .act (some 33) (.op (.pure (.fieldAddr 1 (.tmp 3)))) none,
    .act (some 34) (.op (.read (.load1 (.tmp 33)))) none,
    .act (some 35) (.call (.func 70) [(.tmp 32), (.tmp 34)]) none,
    .act (some 36) (.op (.pure (.move (.tmp 35)))) none,
    .act (some 37) (.op (.pure (.fieldAddr 0 (.tmp 3)))) (some (36, false)),
    .act (some 38) (.op (.read (.load1 (.tmp 37)))) (some (36, false)),
    .act (some 39) (.op (.pure (.bin .eql (.tmp 38) (.const (.int .i64 5))))) (some (36, false)),
    .act (some 40) (.op (.pure (.move (.tmp 39)))) (some (36, false)),
    .act (some 41) (.op (.pure (.fieldAddr 1 (.tmp 3)))) (some (40, true)),
    .act (some 42) (.op (.read (.load1 (.tmp 41)))) (some (40, true)),
    .act (some 43) (.op (.pure (.bin .rem (.tmp 42) (.const (.int .i64 2))))) (some (40, true)),
    .act (some 44) (.op (.pure (.bin .neq (.tmp 43) (.const (.int .i64 0))))) (some (40, true)),
    .act (some 45) (.op (.pure (.pick (.tmp 40) (.tmp 44) (.const (.bool false))))) (some (36, false)),
    .act (some 46) (.op (.pure (.pick (.tmp 36) (.const (.bool true)) (.tmp 45)))) none,
    .act (some 8) (.op (.pure (.move (.tmp 46)))) none])
  (.seq (.seq (.steps [
    .act (some 47) (.op (.pure (.move (.tmp 8)))) none,
    .act (some 48) (.op (.pure (.not (.tmp 47)))) none,
    .act (some 49) (.op (.pure (.move (.tmp 48)))) none,
    .act (some 50) (.op (.pure (.fieldAddr 0 (.tmp 3)))) (some (49, true)),
    .act (some 51) (.op (.read (.load1 (.tmp 50)))) (some (49, true)),
    .act (some 52) (.op (.pure (.bin .eql (.tmp 51) (.const (.int .i64 5))))) (some (49, true)),
    .act (some 53) (.op (.pure (.pick (.tmp 49) (.tmp 52) (.const (.bool false))))) none,
    .act (some 54) (.op (.pure (.move (.tmp 53)))) none,
    .act (some 55) (.op (.read (.loadN 10 (.tmp 2)))) (some (54, true)),
    .act (some 56) (.op (.pure (.fieldAddr 1 (.tmp 3)))) (some (54, true)),
    .act (some 57) (.op (.read (.load1 (.tmp 56)))) (some (54, true)),
    .act (some 58) (.op (.pure (.bin .add (.tmp 57) (.const (.int .i64 1))))) (some (54, true)),
    .act (some 59) (.call (.func 70) [(.tmp 55), (.tmp 58)]) (some (54, true)),
    .act (some 60) (.op (.pure (.pick (.tmp 54) (.tmp 59) (.const (.bool false))))) none])
  (.cond (.tmp 60)
   (.seq (.steps [
     .act (some 8) (.op (.pure (.move (.const (.bool true))))) none])
   (.steps [
     .act (some 61) (.op (.pure (.fieldAddr 1 (.tmp 3)))) none,
     .act (some 62) (.op (.read (.load1 (.tmp 61)))) none,
     .act (some 63) (.op (.pure (.bin .add (.tmp 62) (.const (.int .i64 1))))) none,
     .act (some 7) (.op (.pure (.move (.tmp 63)))) none]))
   .skip))
  (.seq (.seq (.steps [
    .act (some 64) (.op (.pure (.move (.tmp 8)))) none])
  (.cond (.tmp 64)
   (.seq (.seq (.steps [
     .act (some 65) (.op (.pure (.fieldAddr 9 (.tmp 2)))) none,
     .act (some 66) (.op (.read (.load1 (.tmp 65)))) none,
     .act (some 67) (.op (.pure (.not (.tmp 66)))) none])
   (.cond (.tmp 67)
    (.seq (.steps [
      .act (some 68) (.op (.pure (.move (.tmp 7)))) none,
      .act (some 69) (.op (.pure (.fieldAddr 8 (.tmp 2)))) none,
      .act none (.op (.eff (.store 1 (.tmp 69) (.tmp 68)))) none])
    (.steps [
      .act (some 70) (.op (.pure (.fieldAddr 9 (.tmp 2)))) none,
      .act none (.op (.eff (.store 1 (.tmp 70) (.const (.bool true))))) none]))
    .skip))
   (.seq (.steps [
     .act (some 71) (.op (.read (.loadN 10 (.tmp 2)))) none,
     .act none (.op (.eff (.store 10 (.tmp 4) (.tmp 71)))) none,
     .act (some 5) (.op (.pure (.move (.const (w64 0#64))))) none,
     .act (some 6) (.op (.pure (.move (.const (.bool false))))) none])
   .ret))
   .skip))
  (.seq (.steps [
    .act (some 72) (.op (.pure (.fieldAddr 0 (.tmp 2)))) none,
    .act (some 73) (.op (.read (.load1 (.tmp 72)))) none,
    .act (some 74) (.op (.pure (.fieldAddr 1 (.tmp 3)))) none,
    .act (some 75) (.op (.read (.load1 (.tmp 74)))) none,
    .act (some 76) (.op (.pure (.idxSl 1 (.tmp 73) (.tmp 75)))) none,
    .act (some 77) (.op (.read (.load1 (.tmp 76)))) none,
    .act (some 9) (.op (.pure (.move (.tmp 77)))) none])
  (.seq (.steps [
    .act (some 78) (.op (.pure (.move (.tmp 9)))) none,
    .act (some 10) (.op (.pure (.move (.tmp 78)))) none])
  (.seq (.steps [
    .act (some 11) (.op (.pure (.move (.const (w64 0#64))))) none])
  (.seq (.steps [
    .act (some 12) (.op (.pure (.move (.const (.bool false))))) none])
  (.seq (.seq (.steps [
    .act (some 79) (.op (.pure (.fieldAddr 0 (.tmp 3)))) none,
    .act (some 80) (.op (.read (.load1 (.tmp 79)))) none])
  (.block 0 (.seq (.steps [
     .act (some 104) (.op (.pure (.bin .eql (.tmp 80) (.const (.int .i64 0))))) none,
     .act (some 103) (.op (.pure (.move (.tmp 104)))) none])
   (.cond (.tmp 103)
    (.steps [
      .act (some 105) (.op (.pure (.move (.tmp 9)))) none,
      .act (some 11) (.op (.pure (.move (.tmp 105)))) none])
    (.seq (.steps [
      .act (some 107) (.op (.pure (.bin .eql (.tmp 80) (.const (.int .i64 1))))) none,
      .act (some 106) (.op (.pure (.move (.tmp 107)))) none])
    (.cond (.tmp 106)
     (.steps [
       .act (some 108) (.op (.pure (.fieldAddr 2 (.tmp 3)))) none,
       .act (some 109) (.op (.pure (.idxArr 4 1 (.tmp 108) (.const (.int .i64 0))))) none,
       .act (some 110) (.op (.read (.load1 (.tmp 109)))) none,
       .act (some 10) (.op (.pure (.move (.tmp 110)))) none])
     (.seq (.steps [
       .act (some 112) (.op (.pure (.bin .eql (.tmp 80) (.const (.int .i64 2))))) none,
       .act (some 111) (.op (.pure (.move (.tmp 112)))) none])
     (.cond (.tmp 111)
      (.seq (.steps [
        .act (some 113) (.op (.pure (.move (.tmp 9)))) none,
        .act (some 114) (.op (.pure (.fieldAddr 2 (.tmp 3)))) none,
        .act (some 115) (.op (.pure (.idxArr 4 1 (.tmp 114) (.const (.int .i64 0))))) none,
        .act (some 116) (.op (.read (.load1 (.tmp 115)))) none,
        .act (some 117) (.op (.pure (.bin .eql (.tmp 113) (.tmp 116)))) none,
        .act (some 12) (.op (.pure (.move (.tmp 117)))) none])
      (.seq (.steps [
        .act (some 118) (.op (.pure (.move (.tmp 12)))) none])
      (.cond (.tmp 118)
       (.steps [
         .act (some 119) (.op (.pure (.fieldAddr 2 (.tmp 3)))) none,
         .act (some 120) (.op (.pure (.idxArr 4 1 (.tmp 119) (.const (.int .i64 1))))) none,
         .act (some 121) (.op (.read (.load1 (.tmp 120)))) none,
         .act (some 10) (.op (.pure (.move (.tmp 121)))) none])
       .skip)))
      (.seq (.steps [
        .act (some 123) (.op (.pure (.bin .eql (.tmp 80) (.const (.int .i64 3))))) none,
        .act (some 122) (.op (.pure (.move (.tmp 123)))) none])
      (.cond (.tmp 122)
       (.seq (.steps [
         .act (some 124) (.op (.pure (.move (.tmp 9)))) none,
         .act (some 11) (.op (.pure (.move (.tmp 124)))) none])
       (.steps [
         .act (some 125) (.op (.pure (.move (.tmp 9)))) none,
         .act (some 126) (.op (.pure (.fieldAddr 2 (.tmp 3)))) none,
         .act (some 127) (.op (.pure (.idxArr 4 1 (.tmp 126) (.const (.int .i64 0))))) none,
         .act (some 128) (.op (.read (.load1 (.tmp 127)))) none,
         .act (some 129) (.op (.pure (.bin .add (.tmp 125) (.tmp 128)))) none,
         .act (some 10) (.op (.pure (.move (.tmp 129)))) none]))
       (.seq (.steps [
         .act (some 131) (.op (.pure (.bin .eql (.tmp 80) (.const (.int .i64 4))))) none,
         .act (some 130) (.op (.pure (.move (.tmp 131)))) none])
       (.cond (.tmp 130)
        (.seq (.steps [
          .act (some 132) (.op (.pure (.move (.tmp 9)))) none,
          .act (some 11) (.op (.pure (.move (.tmp 132)))) none])
        (.steps [
          .act (some 133) (.op (.pure (.move (.tmp 9)))) none,
          .act (some 134) (.op (.pure (.fieldAddr 2 (.tmp 3)))) none,
          .act (some 135) (.op (.pure (.idxArr 4 1 (.tmp 134) (.const (.int .i64 0))))) none,
          .act (some 136) (.op (.read (.load1 (.tmp 135)))) none,
          .act (some 137) (.op (.pure (.bin .or (.tmp 133) (.tmp 136)))) none,
          .act (some 10) (.op (.pure (.move (.tmp 137)))) none]))
        (.seq (.steps [
          .act (some 81) (.op (.pure (.move (.tmp 9)))) none,
          .act (some 82) (.op (.pure (.fieldAddr 2 (.tmp 3)))) none,
          .act (some 83) (.op (.pure (.idxArr 4 1 (.tmp 82) (.const (.int .i64 0))))) none,
          .act (some 84) (.op (.read (.load1 (.tmp 83)))) none,
          .act (some 85) (.op (.pure (.bin .eql (.tmp 81) (.tmp 84)))) none,
          .act (some 86) (.op (.pure (.move (.tmp 85)))) none,
          .act (some 87) (.op (.pure (.fieldAddr 0 (.tmp 2)))) (some (86, true)),
          .act (some 88) (.op (.read (.load1 (.tmp 87)))) (some (86, true)),
          .act (some 89) (.op (.pure (.fieldAddr 1 (.tmp 3)))) (some (86, true)),
          .act (some 90) (.op (.read (.load1 (.tmp 89)))) (some (86, true)),
          .act (some 91) (.op (.pure (.bin .add (.tmp 90) (.const (.int .i64 1))))) (some (86, true)),
          .act (some 92) (.op (.pure (.idxSl 1 (.tmp 88) (.tmp 91)))) (some (86, true)),
          .act (some 93) (.op (.read (.load1 (.tmp 92)))) (some (86, true)),
          .act (some 94) (.op (.pure (.fieldAddr 2 (.tmp 3)))) (some (86, true)),
          .act (some 95) (.op (.pure (.idxArr 4 1 (.tmp 94) (.const (.int .i64 1))))) (some (86, true)),
          .act (some 96) (.op (.read (.load1 (.tmp 95)))) (some (86, true)),
          .act (some 97) (.op (.pure (.bin .eql (.tmp 93) (.tmp 96)))) (some (86, true)),
          .act (some 98) (.op (.pure (.pick (.tmp 86) (.tmp 97) (.const (.bool false))))) none,
          .act (some 12) (.op (.pure (.move (.tmp 98)))) none])
        (.seq (.steps [
          .act (some 99) (.op (.pure (.move (.tmp 12)))) none])
        (.cond (.tmp 99)
         (.steps [
           .act (some 100) (.op (.pure (.fieldAddr 2 (.tmp 3)))) none,
           .act (some 101) (.op (.pure (.idxArr 4 1 (.tmp 100) (.const (.int .i64 2))))) none,
           .act (some 102) (.op (.read (.load1 (.tmp 101)))) none,
           .act (some 10) (.op (.pure (.move (.tmp 102)))) none])
         .skip)))))))))))))))
  (.seq (.steps [
    .act (some 138) (.op (.new (.mkSlice 1 0 [] []))) none,
    .act (some 139) (.op (.pure (.fieldAddr 0 (.tmp 2)))) none,
    .act (some 140) (.op (.read (.load1 (.tmp 139)))) none,
    .act (some 141) (.op (.eff (.append 1 8 (.tmp 138) (.tmp 140)))) none,
    .act (some 142) (.op (.pure (.fieldAddr 0 (.tmp 2)))) none,
    .act none (.op (.eff (.store 1 (.tmp 142) (.tmp 141)))) none])
  (.seq (.steps [
    .act (some 143) (.op (.pure (.fieldAddr 0 (.tmp 2)))) none,
    .act (some 144) (.op (.read (.load1 (.tmp 143)))) none,
    .act (some 145) (.op (.pure (.fieldAddr 1 (.tmp 3)))) none,
    .act (some 146) (.op (.read (.load1 (.tmp 145)))) none,
    .act (some 147) (.op (.pure (.move (.tmp 10)))) none,
    .act (some 148) (.op (.pure (.idxSl 1 (.tmp 144) (.tmp 146)))) none,
    .act none (.op (.eff (.store 1 (.tmp 148) (.tmp 147)))) none])
  (.seq (.seq (.steps [
    .act (some 149) (.op (.pure (.fieldAddr 0 (.tmp 3)))) none,
    .act (some 150) (.op (.read (.load1 (.tmp 149)))) none,
    .act (some 151) (.op (.pure (.bin .eql (.tmp 150) (.const (.int .i64 5))))) none,
    .act (some 152) (.op (.pure (.move (.tmp 151)))) none,
    .act (some 153) (.op (.pure (.move (.tmp 12)))) (some (152, true)),
    .act (some 154) (.op (.pure (.pick (.tmp 152) (.tmp 153) (.const (.bool false))))) none])
  (.cond (.tmp 154)
   (.steps [
     .act (some 155) (.op (.pure (.fieldAddr 0 (.tmp 2)))) none,
     .act (some 156) (.op (.read (.load1 (.tmp 155)))) none,
     .act (some 157) (.op (.pure (.fieldAddr 1 (.tmp 3)))) none,
     .act (some 158) (.op (.read (.load1 (.tmp 157)))) none,
     .act (some 159) (.op (.pure (.bin .add (.tmp 158) (.const (.int .i64 1))))) none,
     .act (some 160) (.op (.pure (.fieldAddr 2 (.tmp 3)))) none,
     .act (some 161) (.op (.pure (.idxArr 4 1 (.tmp 160) (.const (.int .i64 3))))) none,
     .act (some 162) (.op (.read (.load1 (.tmp 161)))) none,
     .act (some 163) (.op (.pure (.idxSl 1 (.tmp 156) (.tmp 159)))) none,
     .act none (.op (.eff (.store 1 (.tmp 163) (.tmp 162)))) none])
   .skip))
  (.seq (.steps [
    .act (some 164) (.op (.read (.loadN 10 (.tmp 2)))) none,
    .act (some 165) (.op (.pure (.move (.tmp 11)))) none,
    .act (some 166) (.op (.pure (.move (.tmp 12)))) none,
    .act none (.op (.eff (.store 10 (.tmp 4) (.tmp 164)))) none,
    .act (some 5) (.op (.pure (.move (.tmp 165)))) none,
    .act (some 6) (.op (.pure (.move (.tmp 166)))) none])
  .ret)))))))))))))))) }
theorem c43 : compFn Try.prog (mkPlan Try.prog) [] false 43 = some L43 := by kernel_rfl
end Go.Proofs.Ytopjhhcncjleaaa
