/- The statement CrqSteps: the walk. -/
import Derived.Test.YtopjhhcncjleaaaS3
import Derived.Test.YtopjhhcncjleaaaV5
namespace Go.Proofs.Ytopjhhcncjleaaa
open Go Go.LK
set_option linter.unusedSimpArgs false
set_option linter.unusedVariables false
set_option maxRecDepth 100000 in
def csF : LCode :=
  (.seq (.seq (.steps [
    .act (some 25) (.op (.pure (.move (.const (.int .i64 0))))) none])
  (.block 8 (.loop [7, 8, 10, 13, 14, 22, 23, 25] (.seq (.seq (.steps [
      .act (some 221) (.op (.pure (.move (.tmp 25)))) none,
      .act (some 222) (.op (.pure (.move (.tmp 13)))) none,
      .act (some 223) (.op (.pure (.len false (.tmp 222)))) none,
      .act (some 224) (.op (.pure (.bin .lss (.tmp 221) (.tmp 223)))) none])
    (.cond (.tmp 224)
     .skip
     (.exit 8)))
    (.seq (.block 9 (.seq (.steps [
       .act (some 228) (.op (.pure (.move (.tmp 13)))) none,
       .act (some 229) (.op (.pure (.move (.tmp 25)))) none,
       .act (some 230) (.op (.pure (.idxSl 1 (.tmp 228) (.tmp 229)))) none,
       .act (some 231) (.op (.read (.load1 (.tmp 230)))) none,
       .act (some 232) (.call (.func 18) [(.tmp 231)]) none,
       .act (some 227) (.op (.pure (.move (.tmp 232)))) none,
       .act (some 233) (.op (.pure (.extract (.tmp 227) 0))) none,
       .act (some 234) (.op (.pure (.extract (.tmp 227) 1))) none,
       .act (some 26) (.op (.pure (.move (.tmp 233)))) none,
       .act (some 27) (.op (.pure (.move (.tmp 234)))) none])
     (.seq (.steps [
       .act (some 235) (.op (.pure (.move (.tmp 14)))) none,
       .act (some 236) (.op (.pure (.move (.tmp 25)))) none,
       .act (some 237) (.op (.pure (.idxSl 12 (.tmp 235) (.tmp 236)))) none,
       .act (some 238) (.op (.pure (.fieldAddr 4 (.tmp 237)))) none,
       .act (some 239) (.op (.read (.load1 (.tmp 238)))) none,
       .act (some 240) (.op (.pure (.bin .geq (.tmp 239) (.const (.int .i64 9))))) none,
       .act (some 241) (.op (.pure (.move (.tmp 240)))) none,
       .act (some 242) (.op (.pure (.move (.tmp 26)))) (some (241, true)),
       .act (some 243) (.op (.pure (.move (.tmp 14)))) (some (241, true)),
       .act (some 244) (.op (.pure (.move (.tmp 25)))) (some (241, true)),
       .act (some 245) (.op (.pure (.idxSl 12 (.tmp 243) (.tmp 244)))) (some (241, true)),
       .act (some 246) (.op (.pure (.fieldAddr 10 (.tmp 245)))) (some (241, true)),
       .act (some 247) (.op (.read (.load1 (.tmp 246)))) (some (241, true)),
       .act (some 248) (.op (.pure (.bin .neq (.tmp 242) (.tmp 247)))) (some (241, true)),
       .act (some 249) (.op (.pure (.move (.tmp 248)))) (some (241, true)),
       .act (some 250) (.op (.pure (.move (.tmp 27)))) (some (249, false)),
       .act (some 251) (.op (.pure (.move (.tmp 14)))) (some (249, false)),
       .act (some 252) (.op (.pure (.move (.tmp 25)))) (some (249, false)),
       .act (some 253) (.op (.pure (.idxSl 12 (.tmp 251) (.tmp 252)))) (some (249, false)),
       .act (some 254) (.op (.pure (.fieldAddr 11 (.tmp 253)))) (some (249, false)),
       .act (some 255) (.op (.read (.load1 (.tmp 254)))) (some (249, false)),
       .act (some 256) (.op (.pure (.bin .neq (.tmp 250) (.tmp 255)))) (some (249, false)),
       .act (some 257) (.op (.pure (.pick (.tmp 249) (.const (.bool true)) (.tmp 256)))) (some (241, true)),
       .act (some 258) (.op (.pure (.pick (.tmp 241) (.tmp 257) (.const (.bool false))))) none,
       .act (some 259) (.op (.pure (.move (.tmp 258)))) none,
       .act (some 260) (.op (.pure (.move (.tmp 14)))) (some (259, false)),
       .act (some 261) (.op (.pure (.move (.tmp 25)))) (some (259, false)),
       .act (some 262) (.op (.pure (.idxSl 12 (.tmp 260) (.tmp 261)))) (some (259, false)),
       .act (some 263) (.op (.pure (.fieldAddr 4 (.tmp 262)))) (some (259, false)),
       .act (some 264) (.op (.read (.load1 (.tmp 263)))) (some (259, false)),
       .act (some 265) (.op (.pure (.bin .lss (.tmp 264) (.const (.int .i64 9))))) (some (259, false)),
       .act (some 266) (.op (.pure (.move (.tmp 265)))) (some (259, false)),
       .act (some 267) (.op (.pure (.move (.tmp 26)))) (some (266, true)),
       .act (some 268) (.op (.pure (.bin .neq (.tmp 267) (.const (.int .i64 0))))) (some (266, true)),
       .act (some 269) (.op (.pure (.move (.tmp 268)))) (some (266, true)),
       .act (some 270) (.op (.pure (.move (.tmp 27)))) (some (269, false)),
       .act (some 271) (.op (.pure (.bin .neq (.tmp 270) (.const (w64 0#64))))) (some (269, false)),
       .act (some 272) (.op (.pure (.pick (.tmp 269) (.const (.bool true)) (.tmp 271)))) (some (266, true)),
       .act (some 273) (.op (.pure (.pick (.tmp 266) (.tmp 272) (.const (.bool false))))) (some (259, false)),
       .act (some 274) (.op (.pure (.pick (.tmp 259) (.const (.bool true)) (.tmp 273)))) none])
     (.cond (.tmp 274)
      (.seq (.steps [
        .act (some 6) (.op (.pure (.move (.const (.bool false))))) none])
      .ret)
      .skip))))
    (.steps [
      .act (some 225) (.op (.pure (.move (.tmp 25)))) none,
      .act (some 226) (.op (.pure (.bin .add (.tmp 225) (.const (.int .i64 1))))) none,
      .act (some 25) (.op (.pure (.move (.tmp 226)))) none]))))))
  (.seq (.steps [
    .act (some 275) (.op (.pure (.move (.tmp 22)))) none,
    .act (some 276) (.op (.pure (.len false (.tmp 275)))) none,
    .act (some 277) (.op (.pure (.bin .eql (.tmp 276) (.const (.int .i64 22))))) none,
    .act (some 278) (.op (.pure (.move (.tmp 277)))) none,
    .act (some 279) (.op (.read (.loadN 2 (.tmp 7)))) (some (278, true)),
    .act (some 280) (.op (.pure (.move (.tmp 8)))) (some (278, true)),
    .act (some 282) (.op (.pure (.move (.tmp 23)))) (some (278, true)),
    .act (some 281) (.call (.func 19) [(.tmp 279), (.tmp 280)]) (some (278, true)),
    .act (some 283) (.op (.pure (.bin .eql (.tmp 281) (.tmp 282)))) (some (278, true)),
    .act (some 284) (.op (.pure (.pick (.tmp 278) (.tmp 283) (.const (.bool false))))) none,
    .act (some 285) (.op (.pure (.move (.tmp 284)))) none,
    .act (some 286) (.op (.read (.loadN 2 (.tmp 7)))) (some (285, true)),
    .act (some 287) (.op (.pure (.move (.tmp 8)))) (some (285, true)),
    .act (some 289) (.op (.pure (.fieldAddr 0 (.tmp 10)))) (some (285, true)),
    .act (some 290) (.op (.read (.load1 (.tmp 289)))) (some (285, true)),
    .act (some 291) (.op (.pure (.idxSl 1 (.tmp 290) (.const (.int .i64 3))))) (some (285, true)),
    .act (some 292) (.op (.read (.load1 (.tmp 291)))) (some (285, true)),
    .act (some 293) (.op (.pure (.bin .geq (.tmp 292) (.const (w64 9223372036854775808#64))))) (some (285, true)),
    .act (some 288) (.call (.func 20) [(.tmp 286), (.tmp 287)]) (some (285, true)),
    .act (some 294) (.op (.pure (.eqB false (.tmp 288) (.tmp 293)))) (some (285, true)),
    .act (some 295) (.op (.pure (.pick (.tmp 285) (.tmp 294) (.const (.bool false))))) none,
    .act (some 296) (.op (.pure (.move (.tmp 295)))) none,
    .again 292 (.load1 (.tmp 291)) (some (285, true)),
    .again 290 (.load1 (.tmp 289)) (some (285, true)),
    .act (some 297) (.call (.func 21) []) (some (296, true)),
    .act (some 298) (.op (.pure (.pick (.tmp 296) (.tmp 297) (.const (.bool false))))) none,
    .act (some 6) (.op (.pure (.move (.tmp 298)))) none])
  .ret))
def csE : LCode :=
  (.seq (.steps [
    .act (some 179) (.op (.pure (.move (.tmp 8)))) none,
    .act (some 180) (.call (.func 17) [(.tmp 179), (.const (.int .i64 0)), (.const (.int .i64 22))]) none,
    .act (some 22) (.op (.pure (.move (.tmp 180)))) none])
  (.seq (.steps [
    .act (some 23) (.op (.pure (.move (.const (.int .i64 0))))) none])
  (.seq (.seq (.steps [
    .act (some 24) (.op (.pure (.move (.const (.int .i64 0))))) none])
  (.block 6 (.loop [7, 8, 10, 13, 14, 22, 23, 24] (.seq (.seq (.steps [
      .act (some 181) (.op (.pure (.move (.tmp 24)))) none,
      .act (some 182) (.op (.pure (.move (.tmp 22)))) none,
      .act (some 183) (.op (.pure (.len false (.tmp 182)))) none,
      .act (some 184) (.op (.pure (.bin .lss (.tmp 181) (.tmp 183)))) none])
    (.cond (.tmp 184)
     .skip
     (.exit 6)))
    (.seq (.block 7 (.seq (.seq (.steps [
       .act (some 187) (.op (.pure (.move (.tmp 22)))) none,
       .act (some 188) (.op (.pure (.move (.tmp 24)))) none,
       .act (some 189) (.op (.pure (.idxSl 1 (.tmp 187) (.tmp 188)))) none,
       .act (some 190) (.op (.read (.load1 (.tmp 189)))) none,
       .act (some 191) (.op (.pure (.fieldAddr 0 (.tmp 10)))) none,
       .act (some 192) (.op (.read (.load1 (.tmp 191)))) none,
       .act (some 193) (.op (.pure (.move (.tmp 24)))) none,
       .act (some 194) (.op (.pure (.idxSl 1 (.tmp 192) (.tmp 193)))) none,
       .act (some 195) (.op (.read (.load1 (.tmp 194)))) none,
       .act (some 196) (.op (.pure (.bin .neq (.tmp 190) (.tmp 195)))) none])
     (.cond (.tmp 196)
      (.seq (.steps [
        .act (some 6) (.op (.pure (.move (.const (.bool false))))) none])
      .ret)
      .skip))
     (.seq (.steps [
       .act (some 197) (.op (.pure (.move (.tmp 24)))) none,
       .act (some 198) (.op (.pure (.bin .geq (.tmp 197) (.const (.int .i64 6))))) none,
       .act (some 199) (.op (.pure (.move (.tmp 198)))) none,
       .act (some 200) (.op (.pure (.move (.tmp 24)))) (some (199, true)),
       .act (some 201) (.op (.pure (.bin .rem (.tmp 200) (.const (.int .i64 2))))) (some (199, true)),
       .act (some 202) (.op (.pure (.bin .eql (.tmp 201) (.const (.int .i64 1))))) (some (199, true)),
       .act (some 203) (.op (.pure (.pick (.tmp 199) (.tmp 202) (.const (.bool false))))) none,
       .act (some 204) (.op (.pure (.move (.tmp 203)))) none,
       .act (some 205) (.op (.pure (.move (.tmp 24)))) (some (204, true)),
       .act (some 206) (.op (.pure (.fieldAddr 1 (.tmp 7)))) (some (204, true)),
       .act (some 207) (.op (.read (.load1 (.tmp 206)))) (some (204, true)),
       .act (some 208) (.op (.pure (.bin .mul (.const (.int .i64 2)) (.tmp 207)))) (some (204, true)),
       .act (some 209) (.op (.pure (.bin .add (.const (.int .i64 6)) (.tmp 208)))) (some (204, true)),
       .act (some 210) (.op (.pure (.bin .lss (.tmp 205) (.tmp 209)))) (some (204, true)),
       .act (some 211) (.op (.pure (.pick (.tmp 204) (.tmp 210) (.const (.bool false))))) none,
       .act (some 212) (.op (.pure (.move (.tmp 211)))) none,
       .act (some 213) (.op (.pure (.move (.tmp 22)))) (some (212, true)),
       .act (some 214) (.op (.pure (.move (.tmp 24)))) (some (212, true)),
       .act (some 215) (.op (.pure (.idxSl 1 (.tmp 213) (.tmp 214)))) (some (212, true)),
       .act (some 216) (.op (.read (.load1 (.tmp 215)))) (some (212, true)),
       .act (some 217) (.op (.pure (.bin .neq (.tmp 216) (.const (w64 0#64))))) (some (212, true)),
       .act (some 218) (.op (.pure (.pick (.tmp 212) (.tmp 217) (.const (.bool false))))) none])
     (.cond (.tmp 218)
      (.steps [
        .act (some 219) (.op (.pure (.move (.tmp 23)))) none,
        .act (some 220) (.op (.pure (.bin .add (.tmp 219) (.const (.int .i64 1))))) none,
        .act (some 23) (.op (.pure (.move (.tmp 220)))) none])
      .skip))))
    (.steps [
      .act (some 185) (.op (.pure (.move (.tmp 24)))) none,
      .act (some 186) (.op (.pure (.bin .add (.tmp 185) (.const (.int .i64 1))))) none,
      .act (some 24) (.op (.pure (.move (.tmp 186)))) none]))))))
  csF)))
def csP : LCode :=
  (.seq (.seq (.steps [
    .act (some 18) (.op (.pure (.move (.const (.int .i64 0))))) none])
  (.block 4 (.loop [2, 7, 8, 10, 13, 14, 18] (.seq (.seq (.steps [
      .act (some 117) (.op (.pure (.move (.tmp 18)))) none,
      .act (some 118) (.op (.pure (.move (.tmp 2)))) none,
      .act (some 119) (.op (.pure (.len false (.tmp 118)))) none,
      .act (some 120) (.op (.pure (.bin .lss (.tmp 117) (.tmp 119)))) none,
      .act (some 121) (.op (.pure (.move (.tmp 120)))) none,
      .act (some 122) (.op (.pure (.move (.tmp 18)))) (some (121, true)),
      .act (some 123) (.op (.pure (.bin .lss (.tmp 122) (.const (.int .i64 250))))) (some (121, true)),
      .act (some 124) (.op (.pure (.pick (.tmp 121) (.tmp 123) (.const (.bool false))))) none,
      .act (some 125) (.op (.pure (.move (.tmp 124)))) none,
      .act (some 126) (.op (.pure (.move (.tmp 13)))) (some (125, true)),
      .act (some 127) (.op (.pure (.len false (.tmp 126)))) (some (125, true)),
      .act (some 128) (.op (.pure (.bin .gtr (.tmp 127) (.const (.int .i64 0))))) (some (125, true)),
      .act (some 129) (.op (.pure (.pick (.tmp 125) (.tmp 128) (.const (.bool false))))) none])
    (.cond (.tmp 129)
     .skip
     (.exit 4)))
    (.seq (.block 5 (.seq (.steps [
       .act (some 132) (.op (.pure (.move (.tmp 2)))) none,
       .act (some 133) (.op (.pure (.move (.tmp 18)))) none,
       .act (some 134) (.op (.pure (.idxSl 1 (.tmp 132) (.tmp 133)))) none,
       .act (some 135) (.op (.read (.load1 (.tmp 134)))) none,
       .act (some 136) (.op (.pure (.move (.tmp 13)))) none,
       .act (some 137) (.op (.pure (.len false (.tmp 136)))) none,
       .act (some 138) (.op (.pure (.bin .rem (.tmp 135) (.tmp 137)))) none,
       .act (some 139) (.op (.pure (.move (.tmp 13)))) none,
       .act (some 140) (.op (.pure (.len false (.tmp 139)))) none,
       .act (some 141) (.op (.pure (.bin .add (.tmp 138) (.tmp 140)))) none,
       .act (some 142) (.op (.pure (.move (.tmp 13)))) none,
       .act (some 143) (.op (.pure (.len false (.tmp 142)))) none,
       .act (some 144) (.op (.pure (.bin .rem (.tmp 141) (.tmp 143)))) none,
       .act (some 19) (.op (.pure (.move (.tmp 144)))) none])
     (.seq (.steps [
       .act (some 146) (.op (.pure (.move (.tmp 14)))) none,
       .act (some 147) (.op (.pure (.move (.tmp 19)))) none,
       .act (some 148) (.op (.pure (.idxSl 12 (.tmp 146) (.tmp 147)))) none,
       .act (some 149) (.op (.read (.loadN 12 (.tmp 148)))) none,
       .act (some 150) (.op (.read (.loadN 10 (.tmp 10)))) none,
       .act (some 20) (.op (.new (.alloc [(.int .i64 0), (.int .i64 0), (.int .i64 0), (w64 0#64), (.int .i64 0), (w64 0#64), (w64 0#64), (w64 0#64), (w64 0#64), (.int .i64 0), (.int .i64 0), (w64 0#64)]))) none,
       .act (some 21) (.op (.new (.alloc [(.slice none 0 0), (.slice none 0 0), (.int .i64 0), (.int .i64 0), (.int .i64 0), (.int .i64 0), (.int .i64 0), (.int .i64 0), (.int .i64 0), (.bool false)]))) none,
       .act (some 151) (.call (.func 14) [(.tmp 149), (.tmp 150)]) none,
       .act (some 145) (.op (.pure (.move (.tmp 151)))) none,
       .act (some 152) (.op (.pure (.extract (.tmp 145) 0))) none,
       .act (some 153) (.op (.pure (.extract (.tmp 145) 1))) none,
       .act none (.op (.eff (.store 12 (.tmp 20) (.tmp 152)))) none,
       .act none (.op (.eff (.store 10 (.tmp 21) (.tmp 153)))) none])
     (.seq (.seq (.steps [
       .act (some 154) (.op (.pure (.move (.tmp 13)))) none,
       .act (some 155) (.op (.pure (.move (.tmp 19)))) none,
       .act (some 156) (.op (.pure (.idxSl 1 (.tmp 154) (.tmp 155)))) none,
       .act (some 157) (.op (.read (.load1 (.tmp 156)))) none,
       .act (some 158) (.op (.pure (.move (.tmp 8)))) none,
       .act (some 160) (.op (.pure (.fieldAddr 4 (.tmp 20)))) none,
       .act (some 161) (.op (.read (.load1 (.tmp 160)))) none,
       .act (some 162) (.op (.pure (.bin .geq (.tmp 161) (.const (.int .i64 9))))) none,
       .act (some 159) (.call (.func 15) [(.tmp 157), (.tmp 158)]) none,
       .act (some 163) (.op (.pure (.eqB true (.tmp 159) (.tmp 162)))) none,
       .act (some 164) (.op (.pure (.move (.tmp 163)))) none,
       .act (some 165) (.op (.pure (.move (.tmp 13)))) (some (164, false)),
       .act (some 166) (.op (.pure (.move (.tmp 19)))) (some (164, false)),
       .act (some 167) (.op (.pure (.idxSl 1 (.tmp 165) (.tmp 166)))) (some (164, false)),
       .act (some 168) (.op (.read (.load1 (.tmp 167)))) (some (164, false)),
       .act (some 170) (.op (.pure (.fieldAddr 4 (.tmp 20)))) (some (164, false)),
       .act (some 171) (.op (.read (.load1 (.tmp 170)))) (some (164, false)),
       .again 161 (.load1 (.tmp 160)) none,
       .act (some 169) (.call (.func 16) [(.tmp 168)]) (some (164, false)),
       .act (some 172) (.op (.pure (.bin .neq (.tmp 169) (.tmp 171)))) (some (164, false)),
       .act (some 173) (.op (.pure (.pick (.tmp 164) (.const (.bool true)) (.tmp 172)))) none,
       .again 171 (.load1 (.tmp 170)) (some (164, false))])
     (.cond (.tmp 173)
      (.seq (.steps [
        .act (some 6) (.op (.pure (.move (.const (.bool false))))) none])
      .ret)
      .skip))
     (.steps [
       .act (some 174) (.op (.pure (.move (.tmp 14)))) none,
       .act (some 175) (.op (.pure (.move (.tmp 19)))) none,
       .act (some 176) (.op (.read (.loadN 12 (.tmp 20)))) none,
       .act (some 177) (.op (.read (.loadN 10 (.tmp 21)))) none,
       .act (some 178) (.op (.pure (.idxSl 12 (.tmp 174) (.tmp 175)))) none,
       .act none (.op (.eff (.store 12 (.tmp 178) (.tmp 176)))) none,
       .again 177 (.loadN 10 (.tmp 21)) none,
       .act none (.op (.eff (.store 10 (.tmp 10) (.tmp 177)))) none])))))
    (.steps [
      .act (some 130) (.op (.pure (.move (.tmp 18)))) none,
      .act (some 131) (.op (.pure (.bin .add (.tmp 130) (.const (.int .i64 1))))) none,
      .act (some 18) (.op (.pure (.move (.tmp 131)))) none]))))))
  csE)
def csL : LCode :=
  (.seq (.steps [
    .act (some 13) (.op (.pure (.move (.const (.slice none 0 0))))) none])
  (.seq (.steps [
    .act (some 14) (.op (.pure (.move (.const (.slice none 0 0))))) none])
  (.seq (.seq (.steps [
    .act (some 15) (.op (.pure (.move (.const (.int .i64 0))))) none])
  (.block 2 (.loop [1, 2, 7, 8, 10, 13, 14, 15] (.seq (.seq (.steps [
      .act (some 76) (.op (.pure (.move (.tmp 15)))) none,
      .act (some 77) (.op (.pure (.move (.tmp 1)))) none,
      .act (some 78) (.op (.pure (.len false (.tmp 77)))) none,
      .act (some 79) (.op (.pure (.bin .lss (.tmp 76) (.tmp 78)))) none,
      .act (some 80) (.op (.pure (.move (.tmp 79)))) none,
      .act (some 81) (.op (.pure (.move (.tmp 15)))) (some (80, true)),
      .act (some 82) (.op (.pure (.bin .lss (.tmp 81) (.const (.int .i64 12))))) (some (80, true)),
      .act (some 83) (.op (.pure (.pick (.tmp 80) (.tmp 82) (.const (.bool false))))) none])
    (.cond (.tmp 83)
     .skip
     (.exit 2)))
    (.seq (.block 3 (.seq (.steps [
       .act (some 86) (.op (.pure (.move (.tmp 1)))) none,
       .act (some 87) (.op (.pure (.move (.tmp 15)))) none,
       .act (some 88) (.op (.pure (.idxSl 3 (.tmp 86) (.tmp 87)))) none,
       .act (some 89) (.op (.pure (.fieldAddr 1 (.tmp 88)))) none,
       .act (some 90) (.op (.read (.load1 (.tmp 89)))) none,
       .act (some 91) (.op (.pure (.bin .rem (.tmp 90) (.const (.int .i64 3))))) none,
       .act (some 92) (.op (.pure (.bin .add (.tmp 91) (.const (.int .i64 3))))) none,
       .act (some 93) (.op (.pure (.bin .rem (.tmp 92) (.const (.int .i64 3))))) none,
       .act (some 16) (.op (.pure (.move (.tmp 93)))) none])
     (.seq (.steps [
       .act (some 94) (.op (.pure (.move (.tmp 1)))) none,
       .act (some 95) (.op (.pure (.move (.tmp 15)))) none,
       .act (some 96) (.op (.pure (.idxSl 3 (.tmp 94) (.tmp 95)))) none,
       .act (some 97) (.op (.pure (.fieldAddr 2 (.tmp 96)))) none,
       .act (some 98) (.op (.read (.load1 (.tmp 97)))) none,
       .act (some 99) (.op (.pure (.bin .and (.tmp 98) (.const (w64 65535#64))))) none,
       .act (some 17) (.op (.pure (.move (.tmp 99)))) none])
     (.seq (.seq (.steps [
       .act (some 100) (.op (.pure (.move (.tmp 16)))) none,
       .act (some 101) (.op (.pure (.bin .neq (.tmp 100) (.const (.int .i64 0))))) none])
     (.cond (.tmp 101)
      (.steps [
        .act (some 17) (.op (.pure (.move (.const (w64 0#64))))) none])
      .skip))
     (.seq (.steps [
       .act (some 102) (.op (.pure (.move (.tmp 13)))) none,
       .act (some 103) (.op (.read (.loadN 2 (.tmp 7)))) none,
       .act (some 104) (.op (.pure (.move (.tmp 16)))) none,
       .act (some 105) (.op (.pure (.move (.tmp 17)))) none,
       .act (some 106) (.call (.func 13) [(.tmp 103), (.tmp 104), (.tmp 105)]) none,
       .act (some 107) (.op (.new (.mkSlice 1 1 [(.pointer none)] [(0, 1, (.tmp 106))]))) none,
       .act (some 108) (.op (.eff (.append 1 8 (.tmp 102) (.tmp 107)))) none,
       .act (some 13) (.op (.pure (.move (.tmp 108)))) none])
     (.steps [
       .act (some 109) (.op (.pure (.move (.tmp 14)))) none,
       .act (some 110) (.op (.pure (.fieldAddr 1 (.tmp 7)))) none,
       .act (some 111) (.op (.read (.load1 (.tmp 110)))) none,
       .act (some 112) (.op (.pure (.move (.tmp 16)))) none,
       .act (some 113) (.op (.pure (.move (.tmp 17)))) none,
       .act (some 114) (.op (.pure (.build [(.int .i64 0), (.int .i64 0), (.int .i64 0), (w64 0#64), (.int .i64 0), (w64 0#64), (w64 0#64), (w64 0#64), (w64 0#64), (.int .i64 0), (.int .i64 0), (w64 0#64)] [(0, 1, (.const (.int .i64 2))), (1, 1, (.tmp 111)), (2, 1, (.tmp 112)), (3, 1, (.tmp 113))]))) none,
       .act (some 115) (.op (.new (.mkSlice 12 1 [(.int .i64 0), (.int .i64 0), (.int .i64 0), (w64 0#64), (.int .i64 0), (w64 0#64), (w64 0#64), (w64 0#64), (w64 0#64), (.int .i64 0), (.int .i64 0), (w64 0#64)] [(0, 12, (.tmp 114))]))) none,
       .act (some 116) (.op (.eff (.append 12 96 (.tmp 109) (.tmp 115)))) none,
       .act (some 14) (.op (.pure (.move (.tmp 116)))) none]))))))
    (.steps [
      .act (some 84) (.op (.pure (.move (.tmp 15)))) none,
      .act (some 85) (.op (.pure (.bin .add (.tmp 84) (.const (.int .i64 1))))) none,
      .act (some 15) (.op (.pure (.move (.tmp 85)))) none]))))))
  csP)))
def CS : LCode :=
  (.seq (.steps [
    .act (some 6) (.op (.pure (.move (.const (.bool false))))) none])
  (.seq (.steps [
    .act (some 28) (.op (.pure (.move (.tmp 0)))) none,
    .act (some 29) (.call (.func 8) [(.tmp 28)]) none,
    .act (some 30) (.op (.pure (.build [(.int .i64 0), (.int .i64 0)] [(0, 1, (.const (.int .i64 2))), (1, 1, (.tmp 29))]))) none,
    .act (some 7) (.op (.new (.alloc [(.int .i64 0), (.int .i64 0)]))) none,
    .act none (.op (.eff (.store 2 (.tmp 7) (.tmp 30)))) none])
  (.seq (.steps [
    .act (some 32) (.call (.func 9) [(.const (.int .i64 22))]) none,
    .act (some 31) (.op (.pure (.move (.tmp 32)))) none,
    .act (some 33) (.op (.pure (.extract (.tmp 31) 0))) none,
    .act (some 34) (.op (.pure (.extract (.tmp 31) 1))) none,
    .act (some 8) (.op (.pure (.move (.tmp 33)))) none,
    .act (some 9) (.op (.pure (.move (.tmp 34)))) none])
  (.seq (.steps [
    .act (some 36) (.call (.func 10) [(.const (.int .i64 22))]) none,
    .act (some 35) (.op (.pure (.move (.tmp 36)))) none,
    .act (some 37) (.op (.pure (.extract (.tmp 35) 0))) none,
    .act (some 38) (.op (.pure (.extract (.tmp 35) 1))) none,
    .act (some 10) (.op (.new (.alloc [(.slice none 0 0), (.slice none 0 0), (.int .i64 0), (.int .i64 0), (.int .i64 0), (.int .i64 0), (.int .i64 0), (.int .i64 0), (.int .i64 0), (.bool false)]))) none,
    .act none (.op (.eff (.store 10 (.tmp 10) (.tmp 37)))) none,
    .act (some 11) (.op (.pure (.move (.tmp 38)))) none])
  (.seq (.seq (.steps [
    .act (some 39) (.op (.pure (.move (.tmp 9)))) none,
    .act (some 40) (.op (.pure (.bin .neq (.tmp 39) (.const (.int .i64 0))))) none,
    .act (some 41) (.op (.pure (.move (.tmp 40)))) none,
    .act (some 42) (.op (.pure (.move (.tmp 11)))) (some (41, false)),
    .act (some 43) (.op (.pure (.bin .neq (.tmp 42) (.const (.int .i64 0))))) (some (41, false)),
    .act (some 44) (.op (.pure (.pick (.tmp 41) (.const (.bool true)) (.tmp 43)))) none,
    .act (some 45) (.op (.pure (.move (.tmp 44)))) none,
    .act (some 46) (.op (.read (.loadN 2 (.tmp 7)))) (some (45, false)),
    .act (some 47) (.op (.pure (.move (.tmp 8)))) (some (45, false)),
    .act (some 48) (.call (.func 11) [(.tmp 46), (.tmp 47)]) (some (45, false)),
    .act (some 49) (.op (.pure (.bin .neq (.tmp 48) (.const (.int .i64 0))))) (some (45, false)),
    .act (some 50) (.op (.pure (.pick (.tmp 45) (.const (.bool true)) (.tmp 49)))) none,
    .act (some 51) (.op (.pure (.move (.tmp 50)))) none,
    .act (some 52) (.op (.read (.loadN 2 (.tmp 7)))) (some (51, false)),
    .act (some 54) (.op (.pure (.fieldAddr 1 (.tmp 7)))) (some (51, false)),
    .act (some 55) (.op (.read (.load1 (.tmp 54)))) (some (51, false)),
    .act (some 56) (.op (.pure (.bin .mul (.const (.int .i64 2)) (.tmp 55)))) (some (51, false)),
    .act (some 57) (.op (.pure (.bin .add (.const (.int .i64 4)) (.tmp 56)))) (some (51, false)),
    .act (some 53) (.call (.func 12) [(.tmp 52)]) (some (51, false)),
    .act (some 58) (.op (.pure (.bin .neq (.tmp 53) (.tmp 57)))) (some (51, false)),
    .act (some 59) (.op (.pure (.pick (.tmp 51) (.const (.bool true)) (.tmp 58)))) none,
    .again 55 (.load1 (.tmp 54)) (some (51, false))])
  (.cond (.tmp 59)
   (.seq (.steps [
     .act (some 6) (.op (.pure (.move (.const (.bool false))))) none])
   .ret)
   .skip))
  (.seq (.seq (.steps [
    .act (some 12) (.op (.pure (.move (.const (.int .i64 0))))) none])
  (.block 0 (.loop [1, 2, 7, 8, 10, 12] (.seq (.seq (.steps [
      .act (some 60) (.op (.pure (.move (.tmp 12)))) none,
      .act (some 61) (.op (.pure (.fieldAddr 1 (.tmp 7)))) none,
      .act (some 62) (.op (.read (.load1 (.tmp 61)))) none,
      .act (some 63) (.op (.pure (.bin .lss (.tmp 60) (.tmp 62)))) none])
    (.cond (.tmp 63)
     .skip
     (.exit 0)))
    (.seq (.block 1 (.steps [
       .act (some 66) (.op (.pure (.fieldAddr 0 (.tmp 10)))) none,
       .act (some 67) (.op (.read (.load1 (.tmp 66)))) none,
       .act (some 68) (.op (.pure (.move (.tmp 12)))) none,
       .act (some 69) (.op (.pure (.bin .mul (.const (.int .i64 2)) (.tmp 68)))) none,
       .act (some 70) (.op (.pure (.bin .add (.const (.int .i64 6)) (.tmp 69)))) none,
       .act (some 71) (.op (.pure (.move (.tmp 12)))) none,
       .act (some 72) (.op (.pure (.conv .u64 (.tmp 71)))) none,
       .act (some 73) (.op (.pure (.bin .mul (.const (w64 2#64)) (.tmp 72)))) none,
       .act (some 74) (.op (.pure (.bin .add (.tmp 73) (.const (w64 1#64))))) none,
       .act (some 75) (.op (.pure (.idxSl 1 (.tmp 67) (.tmp 70)))) none,
       .act none (.op (.eff (.store 1 (.tmp 75) (.tmp 74)))) none]))
    (.steps [
      .act (some 64) (.op (.pure (.move (.tmp 12)))) none,
      .act (some 65) (.op (.pure (.bin .add (.tmp 64) (.const (.int .i64 1))))) none,
      .act (some 12) (.op (.pure (.move (.tmp 65)))) none]))))))
  csL))))))

structure Ask where
  th : Int
  kind : Int
  arg : BitVec 64
def Ask.cells (c : Ask) : List Value := [.int .i64 c.th, .int .i64 c.kind, w64 c.arg]
theorem Ask.len (c : Ask) : c.cells.length = 3 := rfl
def Ask.Ok (c : Ask) : Prop := (-9223372036854775808 ≤ c.th ∧ c.th ≤ 9223372036854775807) ∧ (-9223372036854775808 ≤ c.kind ∧ c.kind ≤ 9223372036854775807)
theorem Ask.row (r : List Value) (h_0 : Row2 CellIs [.int .i64, .int .i64, .int .u64] r) : ∃ x, r = Ask.cells x ∧ Ask.Ok x := by
  obtain ⟨_, _, rfl, k0, h_1⟩ := row_cons h_0
  obtain ⟨x0, rfl, y0⟩ := is_i64 k0
  obtain ⟨_, _, rfl, k1, h_2⟩ := row_cons h_1
  obtain ⟨x1, rfl, y1⟩ := is_i64 k1
  obtain ⟨_, _, rfl, k2, h_3⟩ := row_cons h_2
  obtain ⟨x2, rfl⟩ := is_u64 k2
  obtain rfl := row_nil h_3
  exact ⟨⟨x0, x1, x2⟩, rfl, ⟨y0, y1⟩⟩

theorem crow0 (z : COp × DOp) : ∃ c, crw z.1 = .row false 0 c := ⟨_, rfl⟩
theorem cdc12 (z : COp × DOp) : z.2.dc.length = 12 := rfl
abbrev CSI (B : LHeap) (lo b pw pb bx : Nat) := SI (fun z : COp × DOp => crw z.1) (fun z => z.2.dc) 12 B lo b pw pb bx 22
/-- What holds of each operation. -/
structure COk (s : Nat) (z : COp × DOp) : Prop where
  r : z.1.r = ⟨2, s⟩
  rel : Rel z.1 z.2
theorem rights {s : Nat} (hs : s = 1 ∨ s = 2 ∨ s = 4 ∨ s = 8) : (RV.mk 2 s).right = true := by
  rcases hs with rfl | rfl | rfl | rfl <;> decide
theorem use_in {s : Nat} {x : COp} {y : DOp} (hs : s = 1 ∨ s = 2 ∨ s = 4 ∨ s = 8) (hr : x.r = ⟨2, s⟩) (h : Rel x y) (h9 : x.at_ ≠ 9) : 0 ≤ x.use.a ∧ x.use.a < 22 ∧ (x.use.k = 5 → x.use.a + 1 < 22 ∧ x.use.a.tmod 2 = 0) := by
  obtain ⟨c1, c2, c3⟩ := cell_in (p := x.p) (show x.r.right = true by rw [hr]; exact rights hs)
  have k := h.k
  have at_ := h.at_
  rw [hr] at c1 c2 c3
  unfold COp.use
  rw [hr]
  simp only at c2 ⊢
  rcases k with k | k | k
  · rw [if_pos k]
    repeat' split
    all_goals (simp only; refine ⟨by omega, by omega, fun q => ?_⟩)
    all_goals first | (exact absurd q (by decide)) | (exact ⟨by omega, c3⟩)
  · rw [if_neg (by omega), if_pos k]
    have g : x.at_ = 0 ∨ x.at_ = 1 ∨ x.at_ = 2 ∨ x.at_ = 3 ∨ x.at_ = 5 ∨ x.at_ = 6 ∨ x.at_ = 7 ∨ x.at_ = 8 := by omega
    repeat' split
    all_goals first | omega | (simp only; refine ⟨by omega, by omega, fun q => ?_⟩)
    all_goals first | (exact absurd q (by decide)) | (exact ⟨by omega, c3⟩)
  · rw [if_neg (by omega), if_neg (by omega)]
    exact ⟨by simp only; omega, by simp only; omega, fun q => absurd q (by decide)⟩
theorem next_r (x : COp) (told : BitVec 64) (ok : Bool) : (x.next told ok).r = x.r := by
  have key : ∀ (c : Prop) [Decidable c] (a b : COp), a.r = x.r → b.r = x.r → (if c then a else b).r = x.r := by
    intro c _ a b h1 h2
    split
    · exact h1
    · exact h2
  unfold COp.next COp.fin
  repeat' (first | rfl | (refine key _ _ _ ?_ ?_))
theorem cturn {s : Nat} {x : COp} {y : DOp} {m mr : MV} {w : List (BitVec 64)} (hs : s = 1 ∨ s = 2 ∨ s = 4 ∨ s = 8) (hr : x.r = ⟨2, s⟩) (h : Rel x y) (c : Clean m w) (cr : Clean mr w) (hw : w.length = 22) :
    (x.step m).1 = (x.step mr).1 ∧ (x.step m).1.r = ⟨2, s⟩ ∧ ∃ w', Clean (x.step m).2 w' ∧ Clean (x.step mr).2 w' ∧ w'.length = 22 := by
  by_cases p9 : x.at_ = 9
  · have es : ∀ m, x.step m = (x, m) := fun m => by simp [COp.step, p9]
    rw [es, es]
    exact ⟨rfl, hr, w, c, cr, hw⟩
  · rw [COp.step, COp.step, if_neg p9, if_neg p9]
    obtain ⟨u0, u1, u2⟩ := use_in hs hr h p9
    obtain ⟨e, w', c1, c2, hw'⟩ := step_cln c cr (kind := x.use.k) (v0 := x.use.v0) (v1 := x.use.v1) (v2 := x.use.v2) (v3 := x.use.v3) u0 (by omega) (fun q => by rw [hw]; exact u2 q)
    exact ⟨by rw [e], by rw [next_r]; exact hr, w', c1, c2, by rw [hw', hw]⟩
theorem size_ev (lim : Nat) (H : LHeap) (n : Int) : ∃ s : Nat, (s = 1 ∨ s = 2 ∨ s = 4 ∨ s = 8) ∧ callE T 8 lim [i64 n] H fun v H' => v = i64 s ∧ H' = H := by
  obtain ⟨d, hd, d0, d3⟩ := andK n 3 (by decide)
  have d3 : d ≤ 3 := d3
  have : d = 0 ∨ d = 1 ∨ d = 2 ∨ d = 3 := by omega
  rcases this with rfl | rfl | rfl | rfl
  · refine ⟨1, .inl rfl, ?_⟩
    refine callE_pop rfl (by simp) rfl ?_
    have e2 : lbin .shl (i64 1) (w64 (BitVec.ofInt 64 0)) = some (i64 1) := by rfl
    simp -dsimp only [go_sem, Nat.reduceEqDiff, Nat.reduceAdd, Nat.reduceSub, Nat.reduceMul, Nat.reduceLeDiff, Nat.reduceLT, Nat.reduceBEq, Int.reduceLT, Int.reduceLE, Int.reduceGT, Int.reduceGE, Int.reduceEq, Int.reduceNe, Int.reduceBEq, Int.reduceBNe, Int.reduceAdd, Int.reduceSub, Int.reduceMul, Int.reduceToNat, Int.reduceNeg, ↓reduceIte, ↓reduceDIte, hd, e2]
  · refine ⟨2, .inr (.inl rfl), ?_⟩
    refine callE_pop rfl (by simp) rfl ?_
    have e2 : lbin .shl (i64 1) (w64 (BitVec.ofInt 64 1)) = some (i64 2) := by rfl
    simp -dsimp only [go_sem, Nat.reduceEqDiff, Nat.reduceAdd, Nat.reduceSub, Nat.reduceMul, Nat.reduceLeDiff, Nat.reduceLT, Nat.reduceBEq, Int.reduceLT, Int.reduceLE, Int.reduceGT, Int.reduceGE, Int.reduceEq, Int.reduceNe, Int.reduceBEq, Int.reduceBNe, Int.reduceAdd, Int.reduceSub, Int.reduceMul, Int.reduceToNat, Int.reduceNeg, ↓reduceIte, ↓reduceDIte, hd, e2]
  · refine ⟨4, .inr (.inr (.inl rfl)), ?_⟩
    refine callE_pop rfl (by simp) rfl ?_
    have e2 : lbin .shl (i64 1) (w64 (BitVec.ofInt 64 2)) = some (i64 4) := by rfl
    simp -dsimp only [go_sem, Nat.reduceEqDiff, Nat.reduceAdd, Nat.reduceSub, Nat.reduceMul, Nat.reduceLeDiff, Nat.reduceLT, Nat.reduceBEq, Int.reduceLT, Int.reduceLE, Int.reduceGT, Int.reduceGE, Int.reduceEq, Int.reduceNe, Int.reduceBEq, Int.reduceBNe, Int.reduceAdd, Int.reduceSub, Int.reduceMul, Int.reduceToNat, Int.reduceNeg, ↓reduceIte, ↓reduceDIte, hd, e2]
  · refine ⟨8, .inr (.inr (.inr rfl)), ?_⟩
    refine callE_pop rfl (by simp) rfl ?_
    have e2 : lbin .shl (i64 1) (w64 (BitVec.ofInt 64 3)) = some (i64 8) := by rfl
    simp -dsimp only [go_sem, Nat.reduceEqDiff, Nat.reduceAdd, Nat.reduceSub, Nat.reduceMul, Nat.reduceLeDiff, Nat.reduceLT, Nat.reduceBEq, Int.reduceLT, Int.reduceLE, Int.reduceGT, Int.reduceGE, Int.reduceEq, Int.reduceNe, Int.reduceBEq, Int.reduceBNe, Int.reduceAdd, Int.reduceSub, Int.reduceMul, Int.reduceToNat, Int.reduceNeg, ↓reduceIte, ↓reduceDIte, hd, e2]
section
variable {H B K : LHeap} {lo b pw pb bx s : Nat} {m mr : MV} {w : List (BitVec 64)} {aw ab ao ap aq : Option Addr} {L : List (Nat × (COp × DOp))} {e : Env} {Q : LExit → Env → LHeap → Prop}
theorem CSI.rr (hB : B = H ++ [rro ⟨2, s⟩]) (h : CSI B lo b pw pb bx K m mr w aw ab ao ap L) : K[H.length]? = some (rro ⟨2, s⟩) ∧ H.length < K.length := by
  obtain ⟨t, rfl⟩ := h.keep
  subst hB
  refine ⟨?_, by simp⟩
  rw [List.append_assoc, get_app0]; rfl
set_option maxHeartbeats 1000000 in
theorem csF_ev (hB : B = H ++ [rro ⟨2, s⟩]) (hs : s = 1 ∨ s = 2 ∨ s = 4 ∨ s = 8) (h : CSI B lo b pw pb bx K m mr w aw ab ao ap L) (e7 : LK.look e 7 = ptr H.length) (e8 : LK.look e 8 = ptr b) (e10 : LK.look e 10 = ptr bx) (e13 : LK.look e 13 = .slice ap L.length L.length) (e14 : LK.look e 14 = .slice ao L.length L.length) (e22 : LK.look e 22 = .slice aq 22 22) (e23 : LK.look e 23 = i64 (keptN 2 s w))
    (hL : ∀ (j p : Nat) (z : COp × DOp), L[j]? = some (p, z) → COk s z) (hn : L.length ≤ 12)
    (hQ : ∀ e' H', LK.look e' 6 = .bool true → Q .ret e' H') : XW (callE T) H.length csF e K Q := by
  unfold csF
  simp -dsimp only [go_sem, Nat.reduceEqDiff, Nat.reduceAdd, Nat.reduceSub, Nat.reduceMul, Nat.reduceLeDiff, Nat.reduceLT, Nat.reduceBEq, Int.reduceLT, Int.reduceLE, Int.reduceGT, Int.reduceGE, Int.reduceEq, Int.reduceNe, Int.reduceBEq, Int.reduceBNe, Int.reduceAdd, Int.reduceSub, Int.reduceMul, Int.reduceToNat, Int.reduceNeg, ↓reduceIte, ↓reduceDIte]
  refine LT_of (fun i : Nat => [(7, ptr H.length), (8, ptr b), (10, ptr bx), (13, .slice ap L.length L.length), (14, .slice ao L.length L.length), (22, .slice aq 22 22), (23, i64 (keptN 2 s w)), (25, i64 i)]) (fun _ => K) (fun i => i ≤ L.length) (fun i => L.length - i) 0 (by simp [restrict, LK.look, e7, e8, e10, e13, e14, e22, e23]) rfl (by omega) ?_
  intro i hi
  by_cases c1 : i < L.length
  · have c1' : (i : Int) < L.length := by omega
    have i0 : 0 ≤ (i : Int) := by omega
    have w1 : IntKind.i64.wrap ((i : Int) + 1) = ((i + 1 : Nat) : Int) := by rw [wrap_i64] <;> omega
    obtain ⟨⟨p, x, y⟩, hx⟩ : ∃ z, L[i]? = some z := ⟨_, List.getElem?_eq_getElem c1⟩
    obtain ⟨bp, bo, ea, eo, g1, g2, g3, g4, g5⟩ := h.read cdc12 (by decide) hx
    have g1 := g1 []; have g4 := g4 []
    have g30 := g3 [] 4 (by decide); have g31 := g3 [] 10 (by decide); have g32 := g3 [] 11 (by decide)
    simp only [List.append_nil] at g1 g30 g31 g32 g4
    have ok := hL i p _ hx
    have hpc := ok.rel.pc
    have hat := ok.rel.at_
    have hdn := ok.rel.dn
    simp only at hpc hat hdn
    rw [ea, eo]
    simp -dsimp only [go_sem, Nat.reduceEqDiff, Nat.reduceAdd, Nat.reduceSub, Nat.reduceMul, Nat.reduceLeDiff, Nat.reduceLT, Nat.reduceBEq, Int.reduceLT, Int.reduceLE, Int.reduceGT, Int.reduceGE, Int.reduceEq, Int.reduceNe, Int.reduceBEq, Int.reduceBNe, Int.reduceAdd, Int.reduceSub, Int.reduceMul, Int.reduceToNat, Int.reduceNeg, ↓reduceIte, ↓reduceDIte, c1', i0, g1]
    refine CT_val (cres_ev g4) ?_
    by_cases h9 : x.at_ = 9
    · rw [if_pos h9]
      have q5 : (9 : Int) ≤ y.pc := by omega
      have q6 : ¬ y.pc < 9 := by omega
      obtain ⟨d1, d2⟩ := hdn h9
      simp -dsimp only [go_sem, Nat.reduceEqDiff, Nat.reduceAdd, Nat.reduceSub, Nat.reduceMul, Nat.reduceLeDiff, Nat.reduceLT, Nat.reduceBEq, Int.reduceLT, Int.reduceLE, Int.reduceGT, Int.reduceGE, Int.reduceEq, Int.reduceNe, Int.reduceBEq, Int.reduceBNe, Int.reduceAdd, Int.reduceSub, Int.reduceMul, Int.reduceToNat, Int.reduceNeg, ↓reduceIte, ↓reduceDIte, c1', i0, g30, g31, g32, q5, q6, w1, d1, d2]
      exact ⟨i + 1, rfl, by omega, by omega⟩
    · rw [if_neg h9]
      have q5 : ¬ (9 : Int) ≤ y.pc := by omega
      have q6 : y.pc < 9 := by omega
      simp -dsimp only [go_sem, Nat.reduceEqDiff, Nat.reduceAdd, Nat.reduceSub, Nat.reduceMul, Nat.reduceLeDiff, Nat.reduceLT, Nat.reduceBEq, Int.reduceLT, Int.reduceLE, Int.reduceGT, Int.reduceGE, Int.reduceEq, Int.reduceNe, Int.reduceBEq, Int.reduceBNe, Int.reduceAdd, Int.reduceSub, Int.reduceMul, Int.reduceToNat, Int.reduceNeg, ↓reduceIte, ↓reduceDIte, c1', i0, g30, g31, g32, q5, q6, w1]
      exact ⟨i + 1, rfl, by omega, by omega⟩
  · have c1' : ¬ (i : Int) < L.length := by omega
    obtain ⟨hrr, _⟩ := CSI.rr hB h
    have hr2 : lcells K H.length 0 2 = some [i64 2, i64 s] := lcells_of hrr rfl
    have hwl := h.wl
    simp -dsimp only [go_sem, Nat.reduceEqDiff, Nat.reduceAdd, Nat.reduceSub, Nat.reduceMul, Nat.reduceLeDiff, Nat.reduceLT, Nat.reduceBEq, Int.reduceLT, Int.reduceLE, Int.reduceGT, Int.reduceGE, Int.reduceEq, Int.reduceNe, Int.reduceBEq, Int.reduceBNe, Int.reduceAdd, Int.reduceSub, Int.reduceMul, Int.reduceToNat, Int.reduceNeg, ↓reduceIte, ↓reduceDIte, c1', hr2]
    refine CT_val (kept_ev (r := ⟨2, s⟩) (a := 2) (s := s) h.mem h.cl (rights hs) rfl rfl (by omega)) ?_
    have r2 := h.ref.ws
    rw [h.clr.ws] at r2
    obtain ⟨b2, o2, e2, _, g2⟩ := r2.all (by simp; omega)
    have hb := h.box
    rw [e2] at hb
    have hv : (w.map w64)[3]? = some (w64 (w.getD 3 0)) := by
      rw [List.getElem?_map, List.getD, List.getElem?_eq_getElem (by omega)]; rfl
    have g2 := g2 [] 3 _ hv
    rw [List.append_nil] at g2
    have ne0 : ∀ a : Int, (a == a) = true := fun a => by simp
    simp -dsimp only [go_sem, Nat.reduceEqDiff, Nat.reduceAdd, Nat.reduceSub, Nat.reduceMul, Nat.reduceLeDiff, Nat.reduceLT, Nat.reduceBEq, Int.reduceLT, Int.reduceLE, Int.reduceGT, Int.reduceGE, Int.reduceEq, Int.reduceNe, Int.reduceBEq, Int.reduceBNe, Int.reduceAdd, Int.reduceSub, Int.reduceMul, Int.reduceToNat, Int.reduceNeg, ↓reduceIte, ↓reduceDIte, ne0, hr2, lget_at hb, g2]
    refine CT_val (closed_ev (r := ⟨2, s⟩) (a := 2) h.mem h.cl (rights hs) rfl (by omega)) ?_
    rw [show 2 + 1 = 3 from rfl, clo_ge]
    have bb : ∀ a : Bool, (a == a) = true := fun a => by cases a <;> rfl
    simp -dsimp only [go_sem, Nat.reduceEqDiff, Nat.reduceAdd, Nat.reduceSub, Nat.reduceMul, Nat.reduceLeDiff, Nat.reduceLT, Nat.reduceBEq, Int.reduceLT, Int.reduceLE, Int.reduceGT, Int.reduceGE, Int.reduceEq, Int.reduceNe, Int.reduceBEq, Int.reduceBNe, Int.reduceAdd, Int.reduceSub, Int.reduceMul, Int.reduceToNat, Int.reduceNeg, ↓reduceIte, ↓reduceDIte, bb, g2, lget_at hb]
    refine CT_val (one_ev _ _) ?_
    simp -dsimp only [go_sem, Nat.reduceEqDiff, Nat.reduceAdd, Nat.reduceSub, Nat.reduceMul, Nat.reduceLeDiff, Nat.reduceLT, Nat.reduceBEq, Int.reduceLT, Int.reduceLE, Int.reduceGT, Int.reduceGE, Int.reduceEq, Int.reduceNe, Int.reduceBEq, Int.reduceBNe, Int.reduceAdd, Int.reduceSub, Int.reduceMul, Int.reduceToNat, Int.reduceNeg, ↓reduceIte, ↓reduceDIte]
    exact hQ _ _ rfl
end
end Go.Proofs.Ytopjhhcncjleaaa
