/- The statement VySteps: the walk. -/
import Derived.Test.YtgipbamdefjenaaS1
import Derived.Test.YtgipbamdefjenaaV10
namespace Go.Proofs.Ytgipbamdefjenaa
open Go Go.LK
set_option linter.unusedSimpArgs false
set_option linter.unusedVariables false
set_option maxRecDepth 100000 in
def vsF : LCode :=
  (.seq (.seq (.steps [
    .act (some 23) (.op (.pure (.move (.const (.int .i64 0))))) none])
  (.block 8 (.loop [13, 14, 21, 23] (.seq (.seq (.steps [
      .act (some 193) (.op (.pure (.move (.tmp 23)))) none,
      .act (some 194) (.op (.pure (.move (.tmp 13)))) none,
      .act (some 195) (.op (.pure (.len false (.tmp 194)))) none,
      .act (some 196) (.op (.pure (.bin .lss (.tmp 193) (.tmp 195)))) none])
    (.cond (.tmp 196)
     .skip
     (.exit 8)))
    (.seq (.block 9 (.seq (.steps [
       .act (some 200) (.op (.pure (.move (.tmp 13)))) none,
       .act (some 201) (.op (.pure (.move (.tmp 23)))) none,
       .act (some 202) (.op (.pure (.idxSl 1 (.tmp 200) (.tmp 201)))) none,
       .act (some 203) (.op (.read (.load1 (.tmp 202)))) none,
       .act (some 204) (.call (.func 15) [(.tmp 203)]) none,
       .act (some 199) (.op (.pure (.move (.tmp 204)))) none,
       .act (some 205) (.op (.pure (.extract (.tmp 199) 0))) none,
       .act (some 206) (.op (.pure (.extract (.tmp 199) 1))) none,
       .act (some 24) (.op (.pure (.move (.tmp 205)))) none,
       .act (some 25) (.op (.pure (.move (.tmp 206)))) none])
     (.seq (.steps [
       .act (some 207) (.op (.pure (.move (.tmp 14)))) none,
       .act (some 208) (.op (.pure (.move (.tmp 23)))) none,
       .act (some 209) (.op (.pure (.idxSl 7 (.tmp 207) (.tmp 208)))) none,
       .act (some 210) (.op (.pure (.fieldAddr 4 (.tmp 209)))) none,
       .act (some 211) (.op (.read (.load1 (.tmp 210)))) none,
       .act (some 212) (.op (.pure (.bin .geq (.tmp 211) (.const (.int .i64 5))))) none,
       .act (some 213) (.op (.pure (.move (.tmp 212)))) none,
       .act (some 214) (.op (.pure (.move (.tmp 24)))) (some (213, true)),
       .act (some 215) (.op (.pure (.move (.tmp 14)))) (some (213, true)),
       .act (some 216) (.op (.pure (.move (.tmp 23)))) (some (213, true)),
       .act (some 217) (.op (.pure (.idxSl 7 (.tmp 215) (.tmp 216)))) (some (213, true)),
       .act (some 218) (.op (.pure (.fieldAddr 6 (.tmp 217)))) (some (213, true)),
       .act (some 219) (.op (.read (.load1 (.tmp 218)))) (some (213, true)),
       .act (some 220) (.op (.pure (.bin .neq (.tmp 214) (.tmp 219)))) (some (213, true)),
       .act (some 221) (.op (.pure (.move (.tmp 220)))) (some (213, true)),
       .act (some 222) (.op (.pure (.move (.tmp 25)))) (some (221, false)),
       .act (some 223) (.op (.pure (.move (.tmp 14)))) (some (221, false)),
       .act (some 224) (.op (.pure (.move (.tmp 23)))) (some (221, false)),
       .act (some 225) (.op (.pure (.idxSl 7 (.tmp 223) (.tmp 224)))) (some (221, false)),
       .act (some 226) (.op (.pure (.fieldAddr 3 (.tmp 225)))) (some (221, false)),
       .act (some 227) (.op (.read (.load1 (.tmp 226)))) (some (221, false)),
       .act (some 228) (.op (.pure (.bin .neq (.tmp 222) (.tmp 227)))) (some (221, false)),
       .act (some 229) (.op (.pure (.pick (.tmp 221) (.const (.bool true)) (.tmp 228)))) (some (213, true)),
       .act (some 230) (.op (.pure (.pick (.tmp 213) (.tmp 229) (.const (.bool false))))) none,
       .act (some 231) (.op (.pure (.move (.tmp 230)))) none,
       .act (some 232) (.op (.pure (.move (.tmp 14)))) (some (231, false)),
       .act (some 233) (.op (.pure (.move (.tmp 23)))) (some (231, false)),
       .act (some 234) (.op (.pure (.idxSl 7 (.tmp 232) (.tmp 233)))) (some (231, false)),
       .act (some 235) (.op (.pure (.fieldAddr 4 (.tmp 234)))) (some (231, false)),
       .act (some 236) (.op (.read (.load1 (.tmp 235)))) (some (231, false)),
       .act (some 237) (.op (.pure (.bin .lss (.tmp 236) (.const (.int .i64 5))))) (some (231, false)),
       .act (some 238) (.op (.pure (.move (.tmp 237)))) (some (231, false)),
       .act (some 239) (.op (.pure (.move (.tmp 24)))) (some (238, true)),
       .act (some 240) (.op (.pure (.bin .neq (.tmp 239) (.const (.int .i64 0))))) (some (238, true)),
       .act (some 241) (.op (.pure (.move (.tmp 240)))) (some (238, true)),
       .act (some 242) (.op (.pure (.move (.tmp 25)))) (some (241, false)),
       .act (some 243) (.op (.pure (.bin .neq (.tmp 242) (.const (w64 0#64))))) (some (241, false)),
       .act (some 244) (.op (.pure (.pick (.tmp 241) (.const (.bool true)) (.tmp 243)))) (some (238, true)),
       .act (some 245) (.op (.pure (.pick (.tmp 238) (.tmp 244) (.const (.bool false))))) (some (231, false)),
       .act (some 246) (.op (.pure (.pick (.tmp 231) (.const (.bool true)) (.tmp 245)))) none])
     (.cond (.tmp 246)
      (.seq (.steps [
        .act (some 6) (.op (.pure (.move (.const (.bool false))))) none])
      .ret)
      .skip))))
    (.steps [
      .act (some 197) (.op (.pure (.move (.tmp 23)))) none,
      .act (some 198) (.op (.pure (.bin .add (.tmp 197) (.const (.int .i64 1))))) none,
      .act (some 23) (.op (.pure (.move (.tmp 198)))) none]))))))
  (.seq (.steps [
    .act (some 247) (.op (.pure (.move (.tmp 21)))) none,
    .act (some 248) (.op (.pure (.len false (.tmp 247)))) none,
    .act (some 249) (.op (.pure (.bin .eql (.tmp 248) (.const (.int .i64 40))))) none,
    .act (some 250) (.op (.pure (.move (.tmp 249)))) none,
    .act (some 251) (.call (.func 18) []) (some (250, true)),
    .act (some 252) (.op (.pure (.pick (.tmp 250) (.tmp 251) (.const (.bool false))))) none,
    .act (some 6) (.op (.pure (.move (.tmp 252)))) none])
  .ret))
def vsE : LCode :=
  (.seq (.steps [
    .act (some 175) (.op (.pure (.move (.tmp 8)))) none,
    .act (some 176) (.call (.func 26) [(.tmp 175), (.const (.int .i64 0)), (.const (.int .i64 40))]) none,
    .act (some 21) (.op (.pure (.move (.tmp 176)))) none])
  (.seq (.seq (.steps [
    .act (some 22) (.op (.pure (.move (.const (.int .i64 0))))) none])
  (.block 6 (.loop [10, 13, 14, 21, 22] (.seq (.seq (.steps [
      .act (some 177) (.op (.pure (.move (.tmp 22)))) none,
      .act (some 178) (.op (.pure (.move (.tmp 21)))) none,
      .act (some 179) (.op (.pure (.len false (.tmp 178)))) none,
      .act (some 180) (.op (.pure (.bin .lss (.tmp 177) (.tmp 179)))) none])
    (.cond (.tmp 180)
     .skip
     (.exit 6)))
    (.seq (.block 7 (.seq (.steps [
       .act (some 183) (.op (.pure (.move (.tmp 21)))) none,
       .act (some 184) (.op (.pure (.move (.tmp 22)))) none,
       .act (some 185) (.op (.pure (.idxSl 1 (.tmp 183) (.tmp 184)))) none,
       .act (some 186) (.op (.read (.load1 (.tmp 185)))) none,
       .act (some 187) (.op (.pure (.fieldAddr 0 (.tmp 10)))) none,
       .act (some 188) (.op (.read (.load1 (.tmp 187)))) none,
       .act (some 189) (.op (.pure (.move (.tmp 22)))) none,
       .act (some 190) (.op (.pure (.idxSl 1 (.tmp 188) (.tmp 189)))) none,
       .act (some 191) (.op (.read (.load1 (.tmp 190)))) none,
       .act (some 192) (.op (.pure (.bin .neq (.tmp 186) (.tmp 191)))) none])
     (.cond (.tmp 192)
      (.seq (.steps [
        .act (some 6) (.op (.pure (.move (.const (.bool false))))) none])
      .ret)
      .skip)))
    (.steps [
      .act (some 181) (.op (.pure (.move (.tmp 22)))) none,
      .act (some 182) (.op (.pure (.bin .add (.tmp 181) (.const (.int .i64 1))))) none,
      .act (some 22) (.op (.pure (.move (.tmp 182)))) none]))))))
  vsF))
def vsP : LCode :=
  (.seq (.seq (.steps [
    .act (some 17) (.op (.pure (.move (.const (.int .i64 0))))) none])
  (.block 4 (.loop [2, 8, 10, 13, 14, 17] (.seq (.seq (.steps [
      .act (some 113) (.op (.pure (.move (.tmp 17)))) none,
      .act (some 114) (.op (.pure (.move (.tmp 2)))) none,
      .act (some 115) (.op (.pure (.len false (.tmp 114)))) none,
      .act (some 116) (.op (.pure (.bin .lss (.tmp 113) (.tmp 115)))) none,
      .act (some 117) (.op (.pure (.move (.tmp 116)))) none,
      .act (some 118) (.op (.pure (.move (.tmp 17)))) (some (117, true)),
      .act (some 119) (.op (.pure (.bin .lss (.tmp 118) (.const (.int .i64 200))))) (some (117, true)),
      .act (some 120) (.op (.pure (.pick (.tmp 117) (.tmp 119) (.const (.bool false))))) none,
      .act (some 121) (.op (.pure (.move (.tmp 120)))) none,
      .act (some 122) (.op (.pure (.move (.tmp 13)))) (some (121, true)),
      .act (some 123) (.op (.pure (.len false (.tmp 122)))) (some (121, true)),
      .act (some 124) (.op (.pure (.bin .gtr (.tmp 123) (.const (.int .i64 0))))) (some (121, true)),
      .act (some 125) (.op (.pure (.pick (.tmp 121) (.tmp 124) (.const (.bool false))))) none])
    (.cond (.tmp 125)
     .skip
     (.exit 4)))
    (.seq (.block 5 (.seq (.steps [
       .act (some 128) (.op (.pure (.move (.tmp 2)))) none,
       .act (some 129) (.op (.pure (.move (.tmp 17)))) none,
       .act (some 130) (.op (.pure (.idxSl 1 (.tmp 128) (.tmp 129)))) none,
       .act (some 131) (.op (.read (.load1 (.tmp 130)))) none,
       .act (some 132) (.op (.pure (.move (.tmp 13)))) none,
       .act (some 133) (.op (.pure (.len false (.tmp 132)))) none,
       .act (some 134) (.op (.pure (.bin .rem (.tmp 131) (.tmp 133)))) none,
       .act (some 135) (.op (.pure (.move (.tmp 13)))) none,
       .act (some 136) (.op (.pure (.len false (.tmp 135)))) none,
       .act (some 137) (.op (.pure (.bin .add (.tmp 134) (.tmp 136)))) none,
       .act (some 138) (.op (.pure (.move (.tmp 13)))) none,
       .act (some 139) (.op (.pure (.len false (.tmp 138)))) none,
       .act (some 140) (.op (.pure (.bin .rem (.tmp 137) (.tmp 139)))) none,
       .act (some 18) (.op (.pure (.move (.tmp 140)))) none])
     (.seq (.steps [
       .act (some 142) (.op (.pure (.move (.tmp 14)))) none,
       .act (some 143) (.op (.pure (.move (.tmp 18)))) none,
       .act (some 144) (.op (.pure (.idxSl 7 (.tmp 142) (.tmp 143)))) none,
       .act (some 145) (.op (.read (.loadN 7 (.tmp 144)))) none,
       .act (some 146) (.op (.read (.loadN 10 (.tmp 10)))) none,
       .act (some 19) (.op (.new (.alloc [(.int .i64 0), (.int .i64 0), (.bool false), (w64 0#64), (.int .i64 0), (w64 0#64), (.int .i64 0)]))) none,
       .act (some 20) (.op (.new (.alloc [(.slice none 0 0), (.slice none 0 0), (.int .i64 0), (.int .i64 0), (.int .i64 0), (.int .i64 0), (.int .i64 0), (.int .i64 0), (.int .i64 0), (.bool false)]))) none,
       .act (some 147) (.call (.func 25) [(.tmp 145), (.tmp 146)]) none,
       .act (some 141) (.op (.pure (.move (.tmp 147)))) none,
       .act (some 148) (.op (.pure (.extract (.tmp 141) 0))) none,
       .act (some 149) (.op (.pure (.extract (.tmp 141) 1))) none,
       .act none (.op (.eff (.store 7 (.tmp 19) (.tmp 148)))) none,
       .act none (.op (.eff (.store 10 (.tmp 20) (.tmp 149)))) none])
     (.seq (.seq (.steps [
       .act (some 150) (.op (.pure (.move (.tmp 13)))) none,
       .act (some 151) (.op (.pure (.move (.tmp 18)))) none,
       .act (some 152) (.op (.pure (.idxSl 1 (.tmp 150) (.tmp 151)))) none,
       .act (some 153) (.op (.read (.load1 (.tmp 152)))) none,
       .act (some 154) (.op (.pure (.move (.tmp 8)))) none,
       .act (some 156) (.op (.pure (.fieldAddr 4 (.tmp 19)))) none,
       .act (some 157) (.op (.read (.load1 (.tmp 156)))) none,
       .act (some 158) (.op (.pure (.bin .geq (.tmp 157) (.const (.int .i64 5))))) none,
       .act (some 155) (.call (.func 13) [(.tmp 153), (.tmp 154)]) none,
       .act (some 159) (.op (.pure (.eqB true (.tmp 155) (.tmp 158)))) none,
       .act (some 160) (.op (.pure (.move (.tmp 159)))) none,
       .act (some 161) (.op (.pure (.move (.tmp 13)))) (some (160, false)),
       .act (some 162) (.op (.pure (.move (.tmp 18)))) (some (160, false)),
       .act (some 163) (.op (.pure (.idxSl 1 (.tmp 161) (.tmp 162)))) (some (160, false)),
       .act (some 164) (.op (.read (.load1 (.tmp 163)))) (some (160, false)),
       .act (some 166) (.op (.pure (.fieldAddr 4 (.tmp 19)))) (some (160, false)),
       .act (some 167) (.op (.read (.load1 (.tmp 166)))) (some (160, false)),
       .again 157 (.load1 (.tmp 156)) none,
       .act (some 165) (.call (.func 19) [(.tmp 164)]) (some (160, false)),
       .act (some 168) (.op (.pure (.bin .neq (.tmp 165) (.tmp 167)))) (some (160, false)),
       .act (some 169) (.op (.pure (.pick (.tmp 160) (.const (.bool true)) (.tmp 168)))) none,
       .again 167 (.load1 (.tmp 166)) (some (160, false))])
     (.cond (.tmp 169)
      (.seq (.steps [
        .act (some 6) (.op (.pure (.move (.const (.bool false))))) none])
      .ret)
      .skip))
     (.steps [
       .act (some 170) (.op (.pure (.move (.tmp 14)))) none,
       .act (some 171) (.op (.pure (.move (.tmp 18)))) none,
       .act (some 172) (.op (.read (.loadN 7 (.tmp 19)))) none,
       .act (some 173) (.op (.read (.loadN 10 (.tmp 20)))) none,
       .act (some 174) (.op (.pure (.idxSl 7 (.tmp 170) (.tmp 171)))) none,
       .act none (.op (.eff (.store 7 (.tmp 174) (.tmp 172)))) none,
       .again 173 (.loadN 10 (.tmp 20)) none,
       .act none (.op (.eff (.store 10 (.tmp 10) (.tmp 173)))) none])))))
    (.steps [
      .act (some 126) (.op (.pure (.move (.tmp 17)))) none,
      .act (some 127) (.op (.pure (.bin .add (.tmp 126) (.const (.int .i64 1))))) none,
      .act (some 17) (.op (.pure (.move (.tmp 127)))) none]))))))
  vsE)
def vsL : LCode :=
  (.seq (.steps [
    .act (some 13) (.op (.pure (.move (.const (.slice none 0 0))))) none])
  (.seq (.steps [
    .act (some 14) (.op (.pure (.move (.const (.slice none 0 0))))) none])
  (.seq (.seq (.steps [
    .act (some 15) (.op (.pure (.move (.const (.int .i64 0))))) none])
  (.block 2 (.loop [1, 2, 7, 8, 10, 13, 14, 15] (.seq (.seq (.steps [
      .act (some 72) (.op (.pure (.move (.tmp 15)))) none,
      .act (some 73) (.op (.pure (.move (.tmp 1)))) none,
      .act (some 74) (.op (.pure (.len false (.tmp 73)))) none,
      .act (some 75) (.op (.pure (.bin .lss (.tmp 72) (.tmp 74)))) none,
      .act (some 76) (.op (.pure (.move (.tmp 75)))) none,
      .act (some 77) (.op (.pure (.move (.tmp 15)))) (some (76, true)),
      .act (some 78) (.op (.pure (.bin .lss (.tmp 77) (.const (.int .i64 12))))) (some (76, true)),
      .act (some 79) (.op (.pure (.pick (.tmp 76) (.tmp 78) (.const (.bool false))))) none])
    (.cond (.tmp 79)
     .skip
     (.exit 2)))
    (.seq (.block 3 (.seq (.steps [
       .act (some 82) (.op (.pure (.move (.tmp 13)))) none,
       .act (some 83) (.op (.read (.loadN 2 (.tmp 7)))) none,
       .act (some 84) (.op (.pure (.move (.tmp 1)))) none,
       .act (some 85) (.op (.pure (.move (.tmp 15)))) none,
       .act (some 86) (.op (.pure (.idxSl 3 (.tmp 84) (.tmp 85)))) none,
       .act (some 87) (.op (.read (.loadN 3 (.tmp 86)))) none,
       .act (some 88) (.call (.func 24) [(.tmp 83), (.tmp 87)]) none,
       .act (some 89) (.op (.new (.mkSlice 1 1 [(.pointer none)] [(0, 1, (.tmp 88))]))) none,
       .act (some 90) (.op (.eff (.append 1 8 (.tmp 82) (.tmp 89)))) none,
       .act (some 13) (.op (.pure (.move (.tmp 90)))) none])
     (.seq (.steps [
       .act (some 91) (.op (.pure (.fieldAddr 1 (.tmp 7)))) none,
       .act (some 92) (.op (.read (.load1 (.tmp 91)))) none,
       .act (some 93) (.op (.pure (.move (.tmp 1)))) none,
       .act (some 94) (.op (.pure (.move (.tmp 15)))) none,
       .act (some 95) (.op (.pure (.idxSl 3 (.tmp 93) (.tmp 94)))) none,
       .act (some 96) (.op (.pure (.fieldAddr 1 (.tmp 95)))) none,
       .act (some 97) (.op (.read (.load1 (.tmp 96)))) none,
       .act (some 98) (.op (.pure (.bin .and (.tmp 97) (.const (.int .i64 1))))) none,
       .act (some 99) (.op (.pure (.bin .eql (.tmp 98) (.const (.int .i64 1))))) none,
       .act (some 100) (.op (.pure (.move (.tmp 1)))) none,
       .act (some 101) (.op (.pure (.move (.tmp 15)))) none,
       .act (some 102) (.op (.pure (.idxSl 3 (.tmp 100) (.tmp 101)))) none,
       .act (some 103) (.op (.pure (.fieldAddr 2 (.tmp 102)))) none,
       .act (some 104) (.op (.read (.load1 (.tmp 103)))) none,
       .act (some 105) (.op (.pure (.build [(.int .i64 0), (.int .i64 0), (.bool false), (w64 0#64), (.int .i64 0), (w64 0#64), (.int .i64 0)] [(0, 1, (.const (.int .i64 1))), (1, 1, (.tmp 92)), (2, 1, (.tmp 99)), (3, 1, (.tmp 104))]))) none,
       .act (some 16) (.op (.new (.alloc [(.int .i64 0), (.int .i64 0), (.bool false), (w64 0#64), (.int .i64 0), (w64 0#64), (.int .i64 0)]))) none,
       .act none (.op (.eff (.store 7 (.tmp 16) (.tmp 105)))) none])
     (.seq (.seq (.steps [
       .act (some 106) (.op (.pure (.fieldAddr 2 (.tmp 16)))) none,
       .act (some 107) (.op (.read (.load1 (.tmp 106)))) none])
     (.cond (.tmp 107)
      (.steps [
        .act (some 108) (.op (.pure (.fieldAddr 3 (.tmp 16)))) none,
        .act none (.op (.eff (.store 1 (.tmp 108) (.const (w64 0#64))))) none])
      .skip))
     (.steps [
       .act (some 109) (.op (.pure (.move (.tmp 14)))) none,
       .act (some 110) (.op (.read (.loadN 7 (.tmp 16)))) none,
       .act (some 111) (.op (.new (.mkSlice 7 1 [(.int .i64 0), (.int .i64 0), (.bool false), (w64 0#64), (.int .i64 0), (w64 0#64), (.int .i64 0)] [(0, 7, (.tmp 110))]))) none,
       .act (some 112) (.op (.eff (.append 7 56 (.tmp 109) (.tmp 111)))) none,
       .act (some 14) (.op (.pure (.move (.tmp 112)))) none])))))
    (.steps [
      .act (some 80) (.op (.pure (.move (.tmp 15)))) none,
      .act (some 81) (.op (.pure (.bin .add (.tmp 80) (.const (.int .i64 1))))) none,
      .act (some 15) (.op (.pure (.move (.tmp 81)))) none]))))))
  vsP)))
def VS : LCode :=
  (.seq (.steps [
    .act (some 6) (.op (.pure (.move (.const (.bool false))))) none])
  (.seq (.steps [
    .act (some 26) (.op (.pure (.move (.tmp 0)))) none,
    .act (some 27) (.call (.func 22) [(.tmp 26)]) none,
    .act (some 28) (.op (.pure (.build [(.int .i64 0), (.int .i64 0)] [(0, 1, (.const (.int .i64 1))), (1, 1, (.tmp 27))]))) none,
    .act (some 7) (.op (.new (.alloc [(.int .i64 0), (.int .i64 0)]))) none,
    .act none (.op (.eff (.store 2 (.tmp 7) (.tmp 28)))) none])
  (.seq (.steps [
    .act (some 30) (.call (.func 8) [(.const (.int .i64 40))]) none,
    .act (some 29) (.op (.pure (.move (.tmp 30)))) none,
    .act (some 31) (.op (.pure (.extract (.tmp 29) 0))) none,
    .act (some 32) (.op (.pure (.extract (.tmp 29) 1))) none,
    .act (some 8) (.op (.pure (.move (.tmp 31)))) none,
    .act (some 9) (.op (.pure (.move (.tmp 32)))) none])
  (.seq (.steps [
    .act (some 34) (.call (.func 23) [(.const (.int .i64 40))]) none,
    .act (some 33) (.op (.pure (.move (.tmp 34)))) none,
    .act (some 35) (.op (.pure (.extract (.tmp 33) 0))) none,
    .act (some 36) (.op (.pure (.extract (.tmp 33) 1))) none,
    .act (some 10) (.op (.new (.alloc [(.slice none 0 0), (.slice none 0 0), (.int .i64 0), (.int .i64 0), (.int .i64 0), (.int .i64 0), (.int .i64 0), (.int .i64 0), (.int .i64 0), (.bool false)]))) none,
    .act none (.op (.eff (.store 10 (.tmp 10) (.tmp 35)))) none,
    .act (some 11) (.op (.pure (.move (.tmp 36)))) none])
  (.seq (.seq (.steps [
    .act (some 37) (.op (.pure (.move (.tmp 9)))) none,
    .act (some 38) (.op (.pure (.bin .neq (.tmp 37) (.const (.int .i64 0))))) none,
    .act (some 39) (.op (.pure (.move (.tmp 38)))) none,
    .act (some 40) (.op (.pure (.move (.tmp 11)))) (some (39, false)),
    .act (some 41) (.op (.pure (.bin .neq (.tmp 40) (.const (.int .i64 0))))) (some (39, false)),
    .act (some 42) (.op (.pure (.pick (.tmp 39) (.const (.bool true)) (.tmp 41)))) none,
    .act (some 43) (.op (.pure (.move (.tmp 42)))) none,
    .act (some 44) (.op (.read (.loadN 2 (.tmp 7)))) (some (43, false)),
    .act (some 45) (.op (.pure (.move (.tmp 8)))) (some (43, false)),
    .act (some 46) (.call (.func 10) [(.tmp 44), (.tmp 45)]) (some (43, false)),
    .act (some 47) (.op (.pure (.bin .neq (.tmp 46) (.const (.int .i64 0))))) (some (43, false)),
    .act (some 48) (.op (.pure (.pick (.tmp 43) (.const (.bool true)) (.tmp 47)))) none,
    .act (some 49) (.op (.pure (.move (.tmp 48)))) none,
    .act (some 50) (.op (.read (.loadN 2 (.tmp 7)))) (some (49, false)),
    .act (some 52) (.op (.pure (.fieldAddr 1 (.tmp 7)))) (some (49, false)),
    .act (some 53) (.op (.read (.load1 (.tmp 52)))) (some (49, false)),
    .act (some 54) (.op (.pure (.bin .mul (.const (.int .i64 2)) (.tmp 53)))) (some (49, false)),
    .act (some 55) (.op (.pure (.bin .add (.const (.int .i64 2)) (.tmp 54)))) (some (49, false)),
    .act (some 51) (.call (.func 9) [(.tmp 50)]) (some (49, false)),
    .act (some 56) (.op (.pure (.bin .neq (.tmp 51) (.tmp 55)))) (some (49, false)),
    .act (some 57) (.op (.pure (.pick (.tmp 49) (.const (.bool true)) (.tmp 56)))) none,
    .again 53 (.load1 (.tmp 52)) (some (49, false))])
  (.cond (.tmp 57)
   (.seq (.steps [
     .act (some 6) (.op (.pure (.move (.const (.bool false))))) none])
   .ret)
   .skip))
  (.seq (.seq (.steps [
    .act (some 12) (.op (.pure (.move (.const (.int .i64 0))))) none])
  (.block 0 (.loop [1, 2, 7, 8, 10, 12] (.seq (.seq (.steps [
      .act (some 58) (.op (.pure (.move (.tmp 12)))) none,
      .act (some 59) (.op (.pure (.fieldAddr 1 (.tmp 7)))) none,
      .act (some 60) (.op (.read (.load1 (.tmp 59)))) none,
      .act (some 61) (.op (.pure (.bin .lss (.tmp 58) (.tmp 60)))) none])
    (.cond (.tmp 61)
     .skip
     (.exit 0)))
    (.seq (.block 1 (.steps [
       .act (some 64) (.op (.pure (.fieldAddr 0 (.tmp 10)))) none,
       .act (some 65) (.op (.read (.load1 (.tmp 64)))) none,
       .act (some 66) (.op (.pure (.move (.tmp 12)))) none,
       .act (some 67) (.op (.pure (.bin .mul (.const (.int .i64 2)) (.tmp 66)))) none,
       .act (some 68) (.op (.pure (.bin .add (.const (.int .i64 3)) (.tmp 67)))) none,
       .act (some 69) (.op (.pure (.move (.tmp 12)))) none,
       .act (some 70) (.op (.pure (.conv .u64 (.tmp 69)))) none,
       .act (some 71) (.op (.pure (.idxSl 1 (.tmp 65) (.tmp 68)))) none,
       .act none (.op (.eff (.store 1 (.tmp 71) (.tmp 70)))) none]))
    (.steps [
      .act (some 62) (.op (.pure (.move (.tmp 12)))) none,
      .act (some 63) (.op (.pure (.bin .add (.tmp 62) (.const (.int .i64 1))))) none,
      .act (some 12) (.op (.pure (.move (.tmp 63)))) none]))))))
  vsL))))))

theorem vrow0 (x : VOp) : ∃ c, vrw x = .row false 0 c := ⟨_, rfl⟩
theorem vdc7 (x : VOp) : x.dc.length = 7 := rfl
abbrev VSI (H : LHeap) (lo b pw pb bx : Nat) := SI vrw VOp.dc 7 H lo b pw pb bx 40
section
variable {H K : LHeap} {lo b pw pb bx s : Nat} {m mr : MV} {w : List (BitVec 64)} {aw ab ao ap aq : Option Addr} {L : List (Nat × VOp)} {e : Env} {Q : LExit → Env → LHeap → Prop}
set_option maxHeartbeats 1000000 in
theorem vsF_ev (h : VSI H lo b pw pb bx K m mr w aw ab ao ap L) (e13 : LK.look e 13 = .slice ap L.length L.length) (e14 : LK.look e 14 = .slice ao L.length L.length) (e21 : LK.look e 21 = .slice aq 40 40)
    (hL : ∀ (j p : Nat) (x : VOp), L[j]? = some (p, x) → VOk s x) (hn : L.length ≤ 12)
    (hQ : ∀ e' H', LK.look e' 6 = .bool true → Q .ret e' H') : XW (callE T) H.length vsF e K Q := by
  unfold vsF
  simp -dsimp only [go_sem, Nat.reduceEqDiff, Nat.reduceAdd, Nat.reduceSub, Nat.reduceMul, Nat.reduceLeDiff, Nat.reduceLT, Nat.reduceBEq, Int.reduceLT, Int.reduceLE, Int.reduceGT, Int.reduceGE, Int.reduceEq, Int.reduceNe, Int.reduceBEq, Int.reduceBNe, Int.reduceAdd, Int.reduceSub, Int.reduceMul, Int.reduceToNat, Int.reduceNeg, ↓reduceIte, ↓reduceDIte]
  refine LT_of (fun i : Nat => [(13, .slice ap L.length L.length), (14, .slice ao L.length L.length), (21, .slice aq 40 40), (23, i64 i)]) (fun _ => K) (fun i => i ≤ L.length) (fun i => L.length - i) 0 (by simp [restrict, LK.look, e13, e14, e21]) rfl (by omega) ?_
  intro i hi
  by_cases c1 : i < L.length
  · have c1' : (i : Int) < L.length := by omega
    have i0 : 0 ≤ (i : Int) := by omega
    have w1 : IntKind.i64.wrap ((i : Int) + 1) = ((i + 1 : Nat) : Int) := by rw [wrap_i64] <;> omega
    obtain ⟨⟨p, x⟩, hx⟩ : ∃ z, L[i]? = some z := ⟨_, List.getElem?_eq_getElem c1⟩
    obtain ⟨bp, bo, ea, eo, g1, g2, g3, g4, g5⟩ := h.read vdc7 (by decide) hx
    have g1 := g1 []; have g4 := g4 []
    have g30 := g3 [] 4 (by decide); have g31 := g3 [] 6 (by decide); have g32 := g3 [] 3 (by decide)
    simp only [List.append_nil] at g1 g30 g31 g32 g4
    have ok := hL i p x hx
    rw [ea, eo]
    simp -dsimp only [go_sem, Nat.reduceEqDiff, Nat.reduceAdd, Nat.reduceSub, Nat.reduceMul, Nat.reduceLeDiff, Nat.reduceLT, Nat.reduceBEq, Int.reduceLT, Int.reduceLE, Int.reduceGT, Int.reduceGE, Int.reduceEq, Int.reduceNe, Int.reduceBEq, Int.reduceBNe, Int.reduceAdd, Int.reduceSub, Int.reduceMul, Int.reduceToNat, Int.reduceNeg, ↓reduceIte, ↓reduceDIte, c1', i0, g1]
    refine CT_val (vres_ev g4) ?_
    by_cases h5 : x.at_ = 5
    · rw [if_pos h5]
      have q5 : (5 : Int) ≤ x.at_ := by omega
      have q6 : ¬ x.at_ < 5 := by omega
      simp -dsimp only [go_sem, Nat.reduceEqDiff, Nat.reduceAdd, Nat.reduceSub, Nat.reduceMul, Nat.reduceLeDiff, Nat.reduceLT, Nat.reduceBEq, Int.reduceLT, Int.reduceLE, Int.reduceGT, Int.reduceGE, Int.reduceEq, Int.reduceNe, Int.reduceBEq, Int.reduceBNe, Int.reduceAdd, Int.reduceSub, Int.reduceMul, Int.reduceToNat, Int.reduceNeg, ↓reduceIte, ↓reduceDIte, c1', i0, g30, g31, g32, q5, q6, w1]
      exact ⟨i + 1, rfl, by omega, by omega⟩
    · rw [if_neg h5]
      have := ok.a5
      have q5 : ¬ (5 : Int) ≤ x.at_ := by omega
      have q6 : x.at_ < 5 := by omega
      simp -dsimp only [go_sem, Nat.reduceEqDiff, Nat.reduceAdd, Nat.reduceSub, Nat.reduceMul, Nat.reduceLeDiff, Nat.reduceLT, Nat.reduceBEq, Int.reduceLT, Int.reduceLE, Int.reduceGT, Int.reduceGE, Int.reduceEq, Int.reduceNe, Int.reduceBEq, Int.reduceBNe, Int.reduceAdd, Int.reduceSub, Int.reduceMul, Int.reduceToNat, Int.reduceNeg, ↓reduceIte, ↓reduceDIte, c1', i0, g30, g31, g32, q5, q6, w1]
      exact ⟨i + 1, rfl, by omega, by omega⟩
  · have c1' : ¬ (i : Int) < L.length := by omega
    simp -dsimp only [go_sem, Nat.reduceEqDiff, Nat.reduceAdd, Nat.reduceSub, Nat.reduceMul, Nat.reduceLeDiff, Nat.reduceLT, Nat.reduceBEq, Int.reduceLT, Int.reduceLE, Int.reduceGT, Int.reduceGE, Int.reduceEq, Int.reduceNe, Int.reduceBEq, Int.reduceBNe, Int.reduceAdd, Int.reduceSub, Int.reduceMul, Int.reduceToNat, Int.reduceNeg, ↓reduceIte, ↓reduceDIte, c1']
    refine CT_val (one_ev _ _) ?_
    simp -dsimp only [go_sem, Nat.reduceEqDiff, Nat.reduceAdd, Nat.reduceSub, Nat.reduceMul, Nat.reduceLeDiff, Nat.reduceLT, Nat.reduceBEq, Int.reduceLT, Int.reduceLE, Int.reduceGT, Int.reduceGE, Int.reduceEq, Int.reduceNe, Int.reduceBEq, Int.reduceBNe, Int.reduceAdd, Int.reduceSub, Int.reduceMul, Int.reduceToNat, Int.reduceNeg, ↓reduceIte, ↓reduceDIte]
    exact hQ _ _ rfl
set_option maxHeartbeats 1000000 in
theorem vsE_ev (h : VSI H lo b pw pb bx K m mr w aw ab ao ap L) (e8 : LK.look e 8 = ptr b) (e10 : LK.look e 10 = ptr bx) (e13 : LK.look e 13 = .slice ap L.length L.length) (e14 : LK.look e 14 = .slice ao L.length L.length)
    (hL : ∀ (j p : Nat) (x : VOp), L[j]? = some (p, x) → VOk s x) (hn : L.length ≤ 12)
    (hQ : ∀ e' H', LK.look e' 6 = .bool true → Q .ret e' H') : XW (callE T) H.length vsE e K Q := by
  unfold vsE
  have hKl : H.length ≤ K.length := by
    obtain ⟨t, rfl⟩ := h.keep
    simp
  simp -dsimp only [go_sem, Nat.reduceEqDiff, Nat.reduceAdd, Nat.reduceSub, Nat.reduceMul, Nat.reduceLeDiff, Nat.reduceLT, Nat.reduceBEq, Int.reduceLT, Int.reduceLE, Int.reduceGT, Int.reduceGE, Int.reduceEq, Int.reduceNe, Int.reduceBEq, Int.reduceBNe, Int.reduceAdd, Int.reduceSub, Int.reduceMul, Int.reduceToNat, Int.reduceNeg, ↓reduceIte, ↓reduceDIte, e8]
  refine CT_of (peek_ev hKl h.mem (by decide)) ?_
  rintro _ _ ⟨aq, t, rfl, rfl, own⟩
  have okm := h.cl.ok
  rw [h.wl] at okm
  have hpk : m.peek 0 40 = w := by
    have := okm.peek_all
    rw [h.cl.ws] at this
    exact this
  rw [hpk] at own ⊢
  rw [h.wl]
  have h' := h.app t
  generalize K ++ t = K' at own h' ⊢
  clear h hKl
  simp -dsimp only [go_sem, Nat.reduceEqDiff, Nat.reduceAdd, Nat.reduceSub, Nat.reduceMul, Nat.reduceLeDiff, Nat.reduceLT, Nat.reduceBEq, Int.reduceLT, Int.reduceLE, Int.reduceGT, Int.reduceGE, Int.reduceEq, Int.reduceNe, Int.reduceBEq, Int.reduceBNe, Int.reduceAdd, Int.reduceSub, Int.reduceMul, Int.reduceToNat, Int.reduceNeg, ↓reduceIte, ↓reduceDIte, e8]
  refine LT_of (fun i : Nat => [(10, ptr bx), (13, .slice ap L.length L.length), (14, .slice ao L.length L.length), (21, .slice aq 40 40), (22, i64 i)]) (fun _ => K') (fun i => i ≤ 40) (fun i => 40 - i) 0 (by simp [restrict, LK.look, e10, e13, e14]) rfl (by omega) ?_
  intro i hi
  by_cases c1 : i < 40
  · have c1' : (i : Int) < 40 := by omega
    have i0 : 0 ≤ (i : Int) := by omega
    have w1 : IntKind.i64.wrap ((i : Int) + 1) = ((i + 1 : Nat) : Int) := by rw [wrap_i64] <;> omega
    have hwl := h'.wl
    have hlen : (w.map w64).length = 40 := by simp [hwl]
    obtain ⟨b1, o1, rfl, _, g1⟩ := own.sl.all (by omega)
    have r2 := h'.ref.ws
    rw [h'.clr.ws] at r2
    obtain ⟨b2, o2, e2, _, g2⟩ := r2.all (by omega)
    have hb := h'.box
    rw [e2] at hb
    have hv : (w.map w64)[i]? = some (w64 (w.getD i 0)) := by
      rw [List.getElem?_map, List.getD, List.getElem?_eq_getElem (by omega)]; rfl
    have g1 := g1 [] i _ hv
    have g2 := g2 [] i _ hv
    rw [List.append_nil] at g1 g2
    simp -dsimp only [go_sem, Nat.reduceEqDiff, Nat.reduceAdd, Nat.reduceSub, Nat.reduceMul, Nat.reduceLeDiff, Nat.reduceLT, Nat.reduceBEq, Int.reduceLT, Int.reduceLE, Int.reduceGT, Int.reduceGE, Int.reduceEq, Int.reduceNe, Int.reduceBEq, Int.reduceBNe, Int.reduceAdd, Int.reduceSub, Int.reduceMul, Int.reduceToNat, Int.reduceNeg, ↓reduceIte, ↓reduceDIte, c1', i0, g1, g2, lget_at hb, w1]
    exact ⟨i + 1, rfl, by omega, by omega⟩
  · have c1' : ¬ (i : Int) < 40 := by omega
    simp -dsimp only [go_sem, Nat.reduceEqDiff, Nat.reduceAdd, Nat.reduceSub, Nat.reduceMul, Nat.reduceLeDiff, Nat.reduceLT, Nat.reduceBEq, Int.reduceLT, Int.reduceLE, Int.reduceGT, Int.reduceGE, Int.reduceEq, Int.reduceNe, Int.reduceBEq, Int.reduceBNe, Int.reduceAdd, Int.reduceSub, Int.reduceMul, Int.reduceToNat, Int.reduceNeg, ↓reduceIte, ↓reduceDIte, c1']
    refine vsF_ev (aq := aq) h' ?_ ?_ ?_ hL hn hQ
    all_goals rfl
theorem pick_in (a : Int) {n : Nat} (hn : 0 < n) (h2 : n ≤ 1000) : ∃ j : Nat, j < n ∧ Int.tmod (IntKind.i64.wrap (Int.tmod a n + n)) n = j := by
  have h1 := Int.tmod_lt_of_pos a (show (0 : Int) < n by omega)
  have h3 : -(n : Int) < Int.tmod a n := by
    have := Int.lt_tmod_of_pos a (show (0 : Int) < n by omega)
    omega
  rw [wrap_i64 (by omega) (by omega)]
  have h4 : 0 ≤ Int.tmod (Int.tmod a n + n) n := Int.tmod_nonneg _ (by omega)
  have h5 := Int.tmod_lt_of_pos (Int.tmod a n + n) (show (0 : Int) < n by omega)
  exact ⟨(Int.tmod (Int.tmod a n + n) n).toNat, by omega, by omega⟩
structure PS where
  i : Nat
  K : LHeap
  m : MV
  mr : MV
  w : List (BitVec 64)
  aw : Option Addr
  L : List (Nat × VOp)
structure PI (H : LHeap) (lo b pw pb bx s n : Nat) (ab ao ap : Option Addr) (q : PS) : Prop where
  hi : q.i ≤ 200
  si : VSI H lo b pw pb bx q.K q.m q.mr q.w q.aw ab ao ap q.L
  ok : ∀ (j p : Nat) (x : VOp), q.L[j]? = some (p, x) → VOk s x
  len : q.L.length = n
set_option maxHeartbeats 1000000 in
theorem vsP_ev {a2 : Option Addr} {P : List Int} (h : VSI H lo b pw pb bx K m mr w aw ab ao ap L) (hs : s = 2 ∨ s = 4 ∨ s = 8) (hp : Sl 1 H a2 (P.map i64)) (e2 : LK.look e 2 = .slice a2 P.length P.length) (e8 : LK.look e 8 = ptr b) (e10 : LK.look e 10 = ptr bx) (e13 : LK.look e 13 = .slice ap L.length L.length) (e14 : LK.look e 14 = .slice ao L.length L.length)
    (hL : ∀ (j p : Nat) (x : VOp), L[j]? = some (p, x) → VOk s x) (hn : L.length ≤ 12)
    (hQ : ∀ e' H', LK.look e' 6 = .bool true → Q .ret e' H') : XW (callE T) H.length vsP e K Q := by
  unfold vsP
  simp -dsimp only [go_sem, Nat.reduceEqDiff, Nat.reduceAdd, Nat.reduceSub, Nat.reduceMul, Nat.reduceLeDiff, Nat.reduceLT, Nat.reduceBEq, Int.reduceLT, Int.reduceLE, Int.reduceGT, Int.reduceGE, Int.reduceEq, Int.reduceNe, Int.reduceBEq, Int.reduceBNe, Int.reduceAdd, Int.reduceSub, Int.reduceMul, Int.reduceToNat, Int.reduceNeg, ↓reduceIte, ↓reduceDIte]
  refine LT_of (fun q : PS => [(2, .slice a2 P.length P.length), (8, ptr b), (10, ptr bx), (13, .slice ap L.length L.length), (14, .slice ao L.length L.length), (17, i64 q.i)]) (fun q => q.K) (PI H lo b pw pb bx s L.length ab ao ap) (fun q => 200 - q.i)
    ⟨0, K, m, mr, w, aw, L⟩ (by simp [restrict, LK.look, e2, e8, e10, e13, e14]) rfl ⟨by simp, h, hL, rfl⟩ ?_
  clear h hL
  rintro ⟨i, K, m, mr, w, aw, L'⟩ ⟨hi, h, hL, hLn⟩
  simp only at hi h hL hLn ⊢
  rw [← hLn]
  have fin : ∀ e', LK.look e' 8 = ptr b → LK.look e' 10 = ptr bx → LK.look e' 13 = .slice ap L'.length L'.length → LK.look e' 14 = .slice ao L'.length L'.length → XW (callE T) H.length vsE e' K Q :=
    fun e' e8 e10 e13 e14 => vsE_ev h e8 e10 e13 e14 hL (by omega) hQ
  by_cases c1 : i < P.length
  · have c1' : (i : Int) < P.length := by omega
    by_cases c2 : i < 200
    · have c2' : (i : Int) < 200 := by omega
      by_cases c3 : 0 < L'.length
      · have c3' : (0 : Int) < L'.length := by omega
        have i0 : 0 ≤ (i : Int) := by omega
        have w1 : IntKind.i64.wrap ((i : Int) + 1) = ((i + 1 : Nat) : Int) := by rw [wrap_i64] <;> omega
        have n0 : ¬ (L'.length : Int) = 0 := by omega
        obtain ⟨t0, ht0⟩ := h.keep
        have hp' := hp.app t0
        rw [← ht0] at hp'
        obtain ⟨b2, o2, rfl, _, gp⟩ := hp'.all (by simp; omega)
        have gp := gp [] i _ (show (P.map i64)[i]? = some (i64 P[i]) by simp [c1])
        rw [List.append_nil] at gp
        obtain ⟨j, hj, hje⟩ := pick_in P[i] c3 (by omega)
        have j0 : 0 ≤ (j : Int) := by omega
        have j1 : (j : Int) < L'.length := by omega
        obtain ⟨⟨p, x⟩, hx⟩ : ∃ z, L'[j]? = some z := ⟨_, List.getElem?_eq_getElem hj⟩
        obtain ⟨bp, bo, ea, eo, g1, g2, g3, g4, g5⟩ := h.read vdc7 (by decide) hx
        have ok := hL j p x hx
        have hb := h.box
        have g1' := g1 []; have g2' := g2 []
        rw [List.append_nil] at g1' g2'
        rw [ea, eo]
        have hb10 : lcells K bx 0 10 = some (refC aw ab 40 mr) := lcells_of hb rfl
        have hKl : H.length ≤ K.length := by rw [ht0]; simp
        have hrr : x.r.right = true := by
          rw [ok.r]
          rcases hs with rfl | rfl | rfl <;> decide
        simp -dsimp only [go_sem, Nat.reduceEqDiff, Nat.reduceAdd, Nat.reduceSub, Nat.reduceMul, Nat.reduceLeDiff, Nat.reduceLT, Nat.reduceBEq, Int.reduceLT, Int.reduceLE, Int.reduceGT, Int.reduceGE, Int.reduceEq, Int.reduceNe, Int.reduceBEq, Int.reduceBNe, Int.reduceAdd, Int.reduceSub, Int.reduceMul, Int.reduceToNat, Int.reduceNeg, ↓reduceIte, ↓reduceDIte, c1', c2', c3', i0, gp, n0, hje, j0, j1, g2', hb10]
        refine CT_of (dstep_ev (by simp; omega) (h.ref.app _) hrr ok.a0 ok.a5 ok.c) ?_
        rintro _ _ ⟨aw', t1, rfl, rfl, sl1, q1⟩
        obtain ⟨ex, ok', w', cl', clr', hw'⟩ := vturn hs ok h.cl h.clr h.wl
        have hst := fun t => vstep_ev (lim := H.length) (g4 t) (h.app t).mem (by have := h.lb.l1; omega) (by have := h.lb.l2; omega) (by have := h.lb.l3; omega) hrr
        rw [← ex] at *
        generalize hx' : (x.step m).1 = x' at *
        generalize (x.step m).2 = m' at *
        generalize (x.step mr).2 = mr' at *
        have hd5 : decide (5 ≤ x'.at_) = (x'.at_ == 5) := by
          have := ok'.a5
          rw [Bool.eq_iff_iff]; simp; omega
        have fr : aw' = aw ∨ Fresh K.length aw' := q1.imp id fun o => o.fresh.mono (by simp)
        have hle1 : H.length ≤ K.length + 1 := by omega
        simp -dsimp only [go_sem, Nat.reduceEqDiff, Nat.reduceAdd, Nat.reduceSub, Nat.reduceMul, Nat.reduceLeDiff, Nat.reduceLT, Nat.reduceBEq, Int.reduceLT, Int.reduceLE, Int.reduceGT, Int.reduceGE, Int.reduceEq, Int.reduceNe, Int.reduceBEq, Int.reduceBNe, Int.reduceAdd, Int.reduceSub, Int.reduceMul, Int.reduceToNat, Int.reduceNeg, ↓reduceIte, ↓reduceDIte, Nat.add_assoc, g1, j0, j1, hle1]
        have sl2 : Sl 1 (K ++ LObj.row false 0 x'.dc :: xrow aw' ab 40 mr' :: t1) aw' (mr'.w.map w64) := sl1.boxed (by decide) (by simp [unbox_app, unbox_cons, unboxO_box])
        obtain ⟨bo', c, ea', b1, b2, b3, b4, b5, b6, b7, b8, b10, b9⟩ := h.turn (x' := x') vrow0 vdc7 (by decide) sl2 fr hx cl' clr' hw'
        rw [eo] at ea'
        cases ea'
        refine CT_of (hst _) ?_
        rintro _ _ ⟨rfl, rfl⟩
        rw [hd5]
        have zl : (memPut ((K ++ (LObj.row false 0 x'.dc :: xrow aw' ab 40 mr' :: t1)).set p (vrw x')) b pw pb m').length = K.length + (t1.length + 2) := by
          rw [memPut_len]; simp
        have z1 := b8 K.length (Nat.le_refl _)
        have z2 := b8 (K.length + 1) (by omega)
        rw [get_app0] at z1
        rw [get_app] at z2
        simp only [List.getElem?_cons_zero, List.getElem?_cons_succ] at z1 z2
        generalize memPut ((K ++ (LObj.row false 0 x'.dc :: xrow aw' ab 40 mr' :: t1)).set p (vrw x')) b pw pb m' = Z at *
        have p1 := b6 []; have p2 := b7 []; have p3 := b1 []; have p4 := b9 []
        rw [List.append_nil] at p1 p2 p3 p4
        have pp := p1.sl
        rw [ea] at pp
        obtain ⟨_, _, q3, _, gq⟩ := pp.all (by simp; omega)
        cases q3
        have gq := gq [] j (ptr p) (by simp [hx])
        rw [List.append_nil, Nat.zero_add] at gq
        simp -dsimp only [go_sem, Nat.reduceEqDiff, Nat.reduceAdd, Nat.reduceSub, Nat.reduceMul, Nat.reduceLeDiff, Nat.reduceLT, Nat.reduceBEq, Int.reduceLT, Int.reduceLE, Int.reduceGT, Int.reduceGE, Int.reduceEq, Int.reduceNe, Int.reduceBEq, Int.reduceBNe, Int.reduceAdd, Int.reduceSub, Int.reduceMul, Int.reduceToNat, Int.reduceNeg, ↓reduceIte, ↓reduceDIte, lget_at z1, gq, j0, j1]
        refine CT_val (vat_ev p2) ?_
        have ne0 : ∀ a : Int, (a != a) = false := fun a => by simp
        have z17 : lcells Z K.length 0 7 = some x'.dc := lcells_of z1 rfl
        have z210 : lcells Z (K.length + 1) 0 10 = some (refC aw' ab 40 mr') := lcells_of z2 rfl
        have hcl : j * 7 + 7 ≤ c.length := by
          rw [b2]; omega
        have hne : bo ≠ K.length + 1 := by
          rintro rfl
          rw [z2] at p3
          cases p3
        have hbx : H.length ≤ bx := h.lb.h4
        simp -dsimp only [go_sem, Nat.reduceEqDiff, Nat.reduceAdd, Nat.reduceSub, Nat.reduceMul, Nat.reduceLeDiff, Nat.reduceLT, Nat.reduceBEq, Int.reduceLT, Int.reduceLE, Int.reduceGT, Int.reduceGE, Int.reduceEq, Int.reduceNe, Int.reduceBEq, Int.reduceBNe, Int.reduceAdd, Int.reduceSub, Int.reduceMul, Int.reduceToNat, Int.reduceNeg, ↓reduceIte, ↓reduceDIte, lget_at z1, ne0, z17, z210, j0, j1, p3, hcl, lcells_set_ne hne, get_set_ne b3, b10, hbx, w1]
        refine ⟨⟨i + 1, _, m', mr', w', aw', L'.set j (p, x')⟩, rfl, rfl, ⟨by simp only; omega, ?_, ?_, by simp⟩, by simp only; omega⟩
        · rw [ea, eo] at p4
          exact p4
        · intro i2 p2 y hy
          simp only at hy
          by_cases e : j = i2
          · subst e
            rw [List.getElem?_set_self hj] at hy
            cases hy
            exact ok'
          · rw [List.getElem?_set_ne e] at hy
            exact hL i2 p2 y hy
      · have c3' : ¬ (0 : Int) < L'.length := by omega
        simp -dsimp only [go_sem, Nat.reduceEqDiff, Nat.reduceAdd, Nat.reduceSub, Nat.reduceMul, Nat.reduceLeDiff, Nat.reduceLT, Nat.reduceBEq, Int.reduceLT, Int.reduceLE, Int.reduceGT, Int.reduceGE, Int.reduceEq, Int.reduceNe, Int.reduceBEq, Int.reduceBNe, Int.reduceAdd, Int.reduceSub, Int.reduceMul, Int.reduceToNat, Int.reduceNeg, ↓reduceIte, ↓reduceDIte, c1', c2', c3']
        exact fin _ rfl rfl rfl rfl
    · have c2' : ¬ (i : Int) < 200 := by omega
      simp -dsimp only [go_sem, Nat.reduceEqDiff, Nat.reduceAdd, Nat.reduceSub, Nat.reduceMul, Nat.reduceLeDiff, Nat.reduceLT, Nat.reduceBEq, Int.reduceLT, Int.reduceLE, Int.reduceGT, Int.reduceGE, Int.reduceEq, Int.reduceNe, Int.reduceBEq, Int.reduceBNe, Int.reduceAdd, Int.reduceSub, Int.reduceMul, Int.reduceToNat, Int.reduceNeg, ↓reduceIte, ↓reduceDIte, c1', c2']
      exact fin _ rfl rfl rfl rfl
  · have c1' : ¬ (i : Int) < P.length := by omega
    simp -dsimp only [go_sem, Nat.reduceEqDiff, Nat.reduceAdd, Nat.reduceSub, Nat.reduceMul, Nat.reduceLeDiff, Nat.reduceLT, Nat.reduceBEq, Int.reduceLT, Int.reduceLE, Int.reduceGT, Int.reduceGE, Int.reduceEq, Int.reduceNe, Int.reduceBEq, Int.reduceBNe, Int.reduceAdd, Int.reduceSub, Int.reduceMul, Int.reduceToNat, Int.reduceNeg, ↓reduceIte, ↓reduceDIte, c1']
    exact fin _ rfl rfl rfl rfl
structure LS where
  K : LHeap
  ap : Option Addr
  ao : Option Addr
  L : List (Nat × VOp)
structure LI (H1 : LHeap) (s : Nat) (q : LS) : Prop where
  hi : q.L.length ≤ 12
  bi : BI vrw VOp.dc 7 H1 q.K q.ap q.ao q.L
  ok : ∀ (j p : Nat) (x : VOp), q.L[j]? = some (p, x) → VOk s x
theorem vok_op {s : Nat} (c : Ask) (d : Int) : VOk s (c.op ⟨1, s⟩ d) := by
  unfold Ask.op
  split <;> exact ⟨rfl, by simp, by simp, fun _ => rfl⟩
set_option maxHeartbeats 1000000 in
theorem vsL_ev {a1 a2 : Option Addr} {l : List Ask} {P : List Int} {H1 : LHeap} (hs : s = 2 ∨ s = 4 ∨ s = 8) (hl : Sl 3 H a1 (l.flatMap Ask.cells)) (hp : Sl 1 H a2 (P.map i64))
    (keep : ∃ t, H1 = H ++ t) (hrr : H1[H.length]? = some (rro ⟨1, s⟩)) (h2 : lo ≤ H1.length) (mem : MemAt H1 b pw pb m) (lb : Lay lo b pw pb bx H.length) (cl : Clean m w) (clr : Clean mr w) (wl : w.length = 40) (ref : RefAt H1 aw ab 40 mr) (fw : Off4 b pw pb bx aw) (fb : Off4 b pw pb bx ab) (box : H1[bx]? = some (xrow aw ab 40 mr))
    (e1 : LK.look e 1 = .slice a1 l.length l.length) (e2 : LK.look e 2 = .slice a2 P.length P.length) (e7 : LK.look e 7 = ptr H.length) (e8 : LK.look e 8 = ptr b) (e10 : LK.look e 10 = ptr bx)
    (hQ : ∀ e' H', LK.look e' 6 = .bool true → Q .ret e' H') : XW (callE T) H.length vsL e H1 Q := by
  unfold vsL
  simp -dsimp only [go_sem, Nat.reduceEqDiff, Nat.reduceAdd, Nat.reduceSub, Nat.reduceMul, Nat.reduceLeDiff, Nat.reduceLT, Nat.reduceBEq, Int.reduceLT, Int.reduceLE, Int.reduceGT, Int.reduceGE, Int.reduceEq, Int.reduceNe, Int.reduceBEq, Int.reduceBNe, Int.reduceAdd, Int.reduceSub, Int.reduceMul, Int.reduceToNat, Int.reduceNeg, ↓reduceIte, ↓reduceDIte]
  refine LT_of (fun q : LS => [(1, .slice a1 l.length l.length), (2, .slice a2 P.length P.length), (7, ptr H.length), (8, ptr b), (10, ptr bx), (13, .slice q.ap q.L.length q.L.length), (14, .slice q.ao q.L.length q.L.length), (15, i64 q.L.length)]) (fun q => q.K) (LI H1 s) (fun q => 12 - q.L.length)
    ⟨H1, none, none, []⟩ (by simp [restrict, LK.look, e1, e2, e7, e8, e10]) rfl ⟨by simp, BI.nil, fun j p x g => by simp at g⟩ ?_
  rintro ⟨K, ap, ao, L⟩ ⟨hi, bi, hL⟩
  simp only at hi bi hL ⊢
  have fin : ∀ e', LK.look e' 2 = .slice a2 P.length P.length → LK.look e' 8 = ptr b → LK.look e' 10 = ptr bx → LK.look e' 13 = .slice ap L.length L.length → LK.look e' 14 = .slice ao L.length L.length → XW (callE T) H.length vsP e' K Q :=
    fun e' e2 e8 e10 e13 e14 => vsP_ev (bi.all keep h2 mem lb cl clr wl ref fw fb box) hs hp e2 e8 e10 e13 e14 hL hi hQ
  have hr : (RV.mk 1 s).right = true := by rcases hs with rfl | rfl | rfl <;> decide
  by_cases c1 : L.length < l.length
  · have c1' : (L.length : Int) < l.length := by omega
    by_cases c2 : L.length < 12
    · have c2' : (L.length : Int) < 12 := by omega
      have i0 : 0 ≤ (L.length : Int) := by omega
      have w1 : IntKind.i64.wrap ((L.length : Int) + 1) = ((L.length + 1 : Nat) : Int) := by rw [wrap_i64] <;> omega
      obtain ⟨t0, ht0⟩ := keep
      obtain ⟨t1, ht1⟩ := bi.keep
      have hl' := (hl.app t0).app t1
      rw [← ht0, ← ht1] at hl'
      obtain ⟨ba, oa, rfl, _, hgc, hgl⟩ := hl'.rowsAt (f := Ask.cells) Ask.len (by omega) (by omega)
      have gc : ∀ t, lcells (K ++ t) ba (oa + L.length * 3) 3 = some (Ask.cells l[L.length]) := fun t => hgc t _ _ (List.getElem?_eq_getElem c1)
      have gl1 : ∀ t, lget (K ++ t) ba (oa + L.length * 3 + 1) = some (i64 (l[L.length].kind)) := fun t => hgl t _ _ 1 (List.getElem?_eq_getElem c1) (by omega)
      have gl2 : ∀ t, lget (K ++ t) ba (oa + L.length * 3 + 2) = some (w64 (l[L.length].arg)) := fun t => hgl t _ _ 2 (List.getElem?_eq_getElem c1) (by omega)
      generalize hask : l[L.length] = ask at gc gl1 gl2
      simp only [Ask.cells] at gc
      have gc0 := gc []
      rw [List.append_nil] at gc0
      have hrK : K[H.length]? = some (rro ⟨1, s⟩) := by rw [ht1]; exact get_old hrr t1
      have hr2 : lcells K H.length 0 2 = some [i64 1, i64 s] := lcells_of hrK rfl
      obtain ⟨d, hd, d0, d1⟩ := andK ask.kind 1 (by decide)
      have d1 : d ≤ 1 := d1
      have hHK : H.length ≤ K.length := by rw [ht1, ht0]; simp
      simp -dsimp only [go_sem, Nat.reduceEqDiff, Nat.reduceAdd, Nat.reduceSub, Nat.reduceMul, Nat.reduceLeDiff, Nat.reduceLT, Nat.reduceBEq, Int.reduceLT, Int.reduceLE, Int.reduceGT, Int.reduceGE, Int.reduceEq, Int.reduceNe, Int.reduceBEq, Int.reduceBNe, Int.reduceAdd, Int.reduceSub, Int.reduceMul, Int.reduceToNat, Int.reduceNeg, ↓reduceIte, ↓reduceDIte, c1', c2', i0, gc0, hr2]
      refine CT_of (abegin_ev (r := ⟨1, s⟩) (c := ask) hHK hr hd) ?_
      rintro _ _ ⟨u1, u2, u3, u4, rfl, rfl⟩
      obtain ⟨ap', K1, r1, r2, ⟨t3, r3⟩, r4⟩ := bi.push vrow0 vdc7 (by decide) (by decide) (lim := H.length) (q := K.length + 4) (n := L.length) (bytes := 56) (t := [u1, u2, u3, u4, vrw (Ask.op ⟨1, s⟩ ask d), .row false 1 [ptr (K.length + 4)]]) rfl (by omega) (by omega) (by rw [ht0]; simp) (by omega) (by rw [get_app]; rfl)
      have hl2 := (hl.app t0).app t3
      rw [← ht0, ← r3] at hl2
      have hr1 : K1[H.length]? = some (rro ⟨1, s⟩) := by rw [r3]; exact get_old hrr t3
      obtain ⟨ba', oa', eb, _, _, hgl2⟩ := hl2.rowsAt (f := Ask.cells) Ask.len (by omega) (by omega)
      cases eb
      have k1 := hgl2 [] _ _ 1 (List.getElem?_eq_getElem c1) (by omega)
      have k2 := hgl2 [] _ _ 2 (List.getElem?_eq_getElem c1) (by omega)
      rw [List.append_nil, hask] at k1 k2
      simp only [Ask.cells, List.getElem?_cons_zero, List.getElem?_cons_succ] at k1 k2
      have hd01 : d = 0 ∨ d = 1 := by omega
      rcases hd01 with rfl | rfl
      · simp -dsimp only [go_sem, Nat.reduceEqDiff, Nat.reduceAdd, Nat.reduceSub, Nat.reduceMul, Nat.reduceLeDiff, Nat.reduceLT, Nat.reduceBEq, Int.reduceLT, Int.reduceLE, Int.reduceGT, Int.reduceGE, Int.reduceEq, Int.reduceNe, Int.reduceBEq, Int.reduceBNe, Int.reduceAdd, Int.reduceSub, Int.reduceMul, Int.reduceToNat, Int.reduceNeg, ↓reduceIte, ↓reduceDIte, Nat.add_assoc, r1]
        simp -dsimp only [go_sem, Nat.reduceEqDiff, Nat.reduceAdd, Nat.reduceSub, Nat.reduceMul, Nat.reduceLeDiff, Nat.reduceLT, Nat.reduceBEq, Int.reduceLT, Int.reduceLE, Int.reduceGT, Int.reduceGE, Int.reduceEq, Int.reduceNe, Int.reduceBEq, Int.reduceBNe, Int.reduceAdd, Int.reduceSub, Int.reduceMul, Int.reduceToNat, Int.reduceNeg, ↓reduceIte, ↓reduceDIte, lget_at hr1, k1, k2, c1', i0, hd, r2]
        obtain ⟨ao', K2, r5, r6⟩ := r4 [.row false 0 [i64 1, i64 s, .bool false, w64 ask.arg, i64 0, w64 0#64, i64 0], .row false 7 [i64 1, i64 s, .bool false, w64 ask.arg, i64 0, w64 0#64, i64 0]]
        have r5 : lappend H.length (K1 ++ [.row false 0 [i64 1, i64 s, .bool false, w64 ask.arg, i64 0, w64 0#64, i64 0], .row false 7 [i64 1, i64 s, .bool false, w64 ask.arg, i64 0, w64 0#64, i64 0]]) 7 56 (.slice ao L.length L.length) [i64 1, i64 s, .bool false, w64 ask.arg, i64 0, w64 0#64, i64 0] 1 = some (.slice ao' (L.length + 1) (L.length + 1), K2) := r5
        simp -dsimp only [go_sem, Nat.reduceEqDiff, Nat.reduceAdd, Nat.reduceSub, Nat.reduceMul, Nat.reduceLeDiff, Nat.reduceLT, Nat.reduceBEq, Int.reduceLT, Int.reduceLE, Int.reduceGT, Int.reduceGE, Int.reduceEq, Int.reduceNe, Int.reduceBEq, Int.reduceBNe, Int.reduceAdd, Int.reduceSub, Int.reduceMul, Int.reduceToNat, Int.reduceNeg, ↓reduceIte, ↓reduceDIte, r5, w1]
        refine ⟨⟨K2, ap', ao', L ++ [(K.length + 4, ask.op ⟨1, s⟩ 0)]⟩, by simp, rfl, ⟨by simp; omega, r6, ?_⟩, by simp; omega⟩
        intro j p y hy
        simp only at hy
        rcases Nat.lt_or_ge j L.length with hj | hj
        · rw [List.getElem?_append_left hj] at hy
          exact hL j p y hy
        · rw [List.getElem?_append_right hj] at hy
          have e : j - L.length = 0 := by
            have := (List.getElem?_eq_some_iff.1 hy).1
            simpa using this
          rw [e] at hy
          cases hy
          exact vok_op _ _
      · simp -dsimp only [go_sem, Nat.reduceEqDiff, Nat.reduceAdd, Nat.reduceSub, Nat.reduceMul, Nat.reduceLeDiff, Nat.reduceLT, Nat.reduceBEq, Int.reduceLT, Int.reduceLE, Int.reduceGT, Int.reduceGE, Int.reduceEq, Int.reduceNe, Int.reduceBEq, Int.reduceBNe, Int.reduceAdd, Int.reduceSub, Int.reduceMul, Int.reduceToNat, Int.reduceNeg, ↓reduceIte, ↓reduceDIte, Nat.add_assoc, r1]
        simp -dsimp only [go_sem, Nat.reduceEqDiff, Nat.reduceAdd, Nat.reduceSub, Nat.reduceMul, Nat.reduceLeDiff, Nat.reduceLT, Nat.reduceBEq, Int.reduceLT, Int.reduceLE, Int.reduceGT, Int.reduceGE, Int.reduceEq, Int.reduceNe, Int.reduceBEq, Int.reduceBNe, Int.reduceAdd, Int.reduceSub, Int.reduceMul, Int.reduceToNat, Int.reduceNeg, ↓reduceIte, ↓reduceDIte, lget_at hr1, k1, k2, c1', i0, hd, r2]
        obtain ⟨ao', K2, r5, r6⟩ := r4 [.row false 0 [i64 1, i64 s, .bool true, w64 0#64, i64 0, w64 0#64, i64 0], .row false 7 [i64 1, i64 s, .bool true, w64 0#64, i64 0, w64 0#64, i64 0]]
        have r5 : lappend H.length (K1 ++ [.row false 0 [i64 1, i64 s, .bool true, w64 0#64, i64 0, w64 0#64, i64 0], .row false 7 [i64 1, i64 s, .bool true, w64 0#64, i64 0, w64 0#64, i64 0]]) 7 56 (.slice ao L.length L.length) [i64 1, i64 s, .bool true, w64 0#64, i64 0, w64 0#64, i64 0] 1 = some (.slice ao' (L.length + 1) (L.length + 1), K2) := r5
        simp -dsimp only [go_sem, Nat.reduceEqDiff, Nat.reduceAdd, Nat.reduceSub, Nat.reduceMul, Nat.reduceLeDiff, Nat.reduceLT, Nat.reduceBEq, Int.reduceLT, Int.reduceLE, Int.reduceGT, Int.reduceGE, Int.reduceEq, Int.reduceNe, Int.reduceBEq, Int.reduceBNe, Int.reduceAdd, Int.reduceSub, Int.reduceMul, Int.reduceToNat, Int.reduceNeg, ↓reduceIte, ↓reduceDIte, r5, w1]
        refine ⟨⟨K2, ap', ao', L ++ [(K.length + 4, ask.op ⟨1, s⟩ 1)]⟩, by simp, rfl, ⟨by simp; omega, r6, ?_⟩, by simp; omega⟩
        intro j p y hy
        simp only at hy
        rcases Nat.lt_or_ge j L.length with hj | hj
        · rw [List.getElem?_append_left hj] at hy
          exact hL j p y hy
        · rw [List.getElem?_append_right hj] at hy
          have e : j - L.length = 0 := by
            have := (List.getElem?_eq_some_iff.1 hy).1
            simpa using this
          rw [e] at hy
          cases hy
          exact vok_op _ _
    · have c2' : ¬ (L.length : Int) < 12 := by omega
      simp -dsimp only [go_sem, Nat.reduceEqDiff, Nat.reduceAdd, Nat.reduceSub, Nat.reduceMul, Nat.reduceLeDiff, Nat.reduceLT, Nat.reduceBEq, Int.reduceLT, Int.reduceLE, Int.reduceGT, Int.reduceGE, Int.reduceEq, Int.reduceNe, Int.reduceBEq, Int.reduceBNe, Int.reduceAdd, Int.reduceSub, Int.reduceMul, Int.reduceToNat, Int.reduceNeg, ↓reduceIte, ↓reduceDIte, c1', c2']
      exact fin _ rfl rfl rfl rfl rfl
  · have c1' : ¬ (L.length : Int) < l.length := by omega
    simp -dsimp only [go_sem, Nat.reduceEqDiff, Nat.reduceAdd, Nat.reduceSub, Nat.reduceMul, Nat.reduceLeDiff, Nat.reduceLT, Nat.reduceBEq, Int.reduceLT, Int.reduceLE, Int.reduceGT, Int.reduceGE, Int.reduceEq, Int.reduceNe, Int.reduceBEq, Int.reduceBNe, Int.reduceAdd, Int.reduceSub, Int.reduceMul, Int.reduceToNat, Int.reduceNeg, ↓reduceIte, ↓reduceDIte, c1']
    exact fin _ rfl rfl rfl rfl rfl
end
end Go.Proofs.Ytgipbamdefjenaa
