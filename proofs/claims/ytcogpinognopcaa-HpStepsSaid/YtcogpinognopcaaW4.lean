/- The statement HpSteps: the walk. -/
import Derived.Test.YtcogpinognopcaaW3
namespace Go.Proofs.Ytcogpinognopcaa
open Go Go.LK
set_option linter.unusedSimpArgs false
set_option linter.unusedVariables false
set_option maxRecDepth 100000 in
def spF : LCode :=
  (.seq (.seq (.steps [
    .act (some 26) (.op (.pure (.move (.const (.int .i64 0))))) none])
  (.block 7 (.loop [12, 13, 24, 26] (.seq (.seq (.steps [
      .act (some 248) (.op (.pure (.move (.tmp 26)))) none,
      .act (some 249) (.op (.pure (.move (.tmp 12)))) none,
      .act (some 250) (.op (.pure (.len false (.tmp 249)))) none,
      .act (some 251) (.op (.pure (.bin .lss (.tmp 248) (.tmp 250)))) none])
    (.cond (.tmp 251)
     .skip
     (.exit 7)))
    (.seq (.block 8 (.seq (.steps [
       .act (some 255) (.op (.pure (.move (.tmp 12)))) none,
       .act (some 256) (.op (.pure (.move (.tmp 26)))) none,
       .act (some 257) (.op (.pure (.idxSl 1 (.tmp 255) (.tmp 256)))) none,
       .act (some 258) (.op (.read (.load1 (.tmp 257)))) none,
       .act (some 259) (.call (.func 18) [(.tmp 258)]) none,
       .act (some 254) (.op (.pure (.move (.tmp 259)))) none,
       .act (some 260) (.op (.pure (.extract (.tmp 254) 0))) none,
       .act (some 261) (.op (.pure (.extract (.tmp 254) 1))) none,
       .act (some 27) (.op (.pure (.move (.tmp 260)))) none,
       .act (some 28) (.op (.pure (.move (.tmp 261)))) none])
     (.seq (.steps [
       .act (some 262) (.op (.pure (.move (.tmp 12)))) none,
       .act (some 263) (.op (.pure (.move (.tmp 26)))) none,
       .act (some 264) (.op (.pure (.idxSl 1 (.tmp 262) (.tmp 263)))) none,
       .act (some 265) (.op (.read (.load1 (.tmp 264)))) none,
       .act (some 266) (.call (.func 19) [(.tmp 265)]) none,
       .act (some 29) (.op (.pure (.move (.tmp 266)))) none])
     (.seq (.seq (.steps [
       .act (some 267) (.op (.pure (.move (.tmp 27)))) none,
       .act (some 268) (.op (.pure (.bin .neq (.tmp 267) (.const (.int .i64 0))))) none,
       .act (some 269) (.op (.pure (.move (.tmp 268)))) none,
       .act (some 270) (.op (.pure (.move (.tmp 13)))) (some (269, false)),
       .act (some 271) (.op (.pure (.move (.tmp 26)))) (some (269, false)),
       .act (some 272) (.op (.pure (.idxSl 9 (.tmp 270) (.tmp 271)))) (some (269, false)),
       .act (some 273) (.op (.pure (.fieldAddr 8 (.tmp 272)))) (some (269, false)),
       .act (some 274) (.op (.read (.load1 (.tmp 273)))) (some (269, false)),
       .act (some 275) (.op (.pure (.move (.tmp 274)))) (some (269, false)),
       .act (some 276) (.op (.pure (.move (.tmp 28)))) (some (275, true)),
       .act (some 277) (.op (.pure (.move (.tmp 13)))) (some (275, true)),
       .act (some 278) (.op (.pure (.move (.tmp 26)))) (some (275, true)),
       .act (some 279) (.op (.pure (.idxSl 9 (.tmp 277) (.tmp 278)))) (some (275, true)),
       .act (some 280) (.op (.pure (.fieldAddr 6 (.tmp 279)))) (some (275, true)),
       .act (some 281) (.op (.read (.load1 (.tmp 280)))) (some (275, true)),
       .act (some 282) (.op (.pure (.bin .neq (.tmp 276) (.tmp 281)))) (some (275, true)),
       .act (some 283) (.op (.pure (.pick (.tmp 275) (.tmp 282) (.const (.bool false))))) (some (269, false)),
       .act (some 284) (.op (.pure (.move (.tmp 283)))) (some (269, false)),
       .act (some 285) (.op (.pure (.move (.tmp 13)))) (some (284, true)),
       .act (some 286) (.op (.pure (.move (.tmp 26)))) (some (284, true)),
       .act (some 287) (.op (.pure (.idxSl 9 (.tmp 285) (.tmp 286)))) (some (284, true)),
       .act (some 288) (.op (.pure (.fieldAddr 0 (.tmp 287)))) (some (284, true)),
       .act (some 289) (.op (.read (.load1 (.tmp 288)))) (some (284, true)),
       .act (some 290) (.op (.pure (.bin .neq (.tmp 289) (.const (.int .i64 1))))) (some (284, true)),
       .act (some 291) (.op (.pure (.pick (.tmp 284) (.tmp 290) (.const (.bool false))))) (some (269, false)),
       .act (some 292) (.op (.pure (.pick (.tmp 269) (.const (.bool true)) (.tmp 291)))) none,
       .act (some 293) (.op (.pure (.move (.tmp 292)))) none,
       .act (some 294) (.op (.pure (.move (.tmp 13)))) (some (293, false)),
       .act (some 295) (.op (.pure (.move (.tmp 26)))) (some (293, false)),
       .act (some 296) (.op (.pure (.idxSl 9 (.tmp 294) (.tmp 295)))) (some (293, false)),
       .act (some 297) (.op (.pure (.fieldAddr 8 (.tmp 296)))) (some (293, false)),
       .act (some 298) (.op (.read (.load1 (.tmp 297)))) (some (293, false)),
       .act (some 299) (.op (.pure (.not (.tmp 298)))) (some (293, false)),
       .act (some 300) (.op (.pure (.move (.tmp 299)))) (some (293, false)),
       .act (some 301) (.op (.pure (.move (.tmp 28)))) (some (300, true)),
       .act (some 302) (.op (.pure (.bin .neq (.tmp 301) (.const (w64 0#64))))) (some (300, true)),
       .act (some 303) (.op (.pure (.pick (.tmp 300) (.tmp 302) (.const (.bool false))))) (some (293, false)),
       .act (some 304) (.op (.pure (.pick (.tmp 293) (.const (.bool true)) (.tmp 303)))) none,
       .act (some 305) (.op (.pure (.move (.tmp 304)))) none,
       .act (some 306) (.op (.pure (.move (.tmp 29)))) (some (305, false)),
       .act (some 307) (.op (.pure (.len false (.tmp 306)))) (some (305, false)),
       .act (some 308) (.op (.pure (.move (.tmp 13)))) (some (305, false)),
       .act (some 309) (.op (.pure (.move (.tmp 26)))) (some (305, false)),
       .act (some 310) (.op (.pure (.idxSl 9 (.tmp 308) (.tmp 309)))) (some (305, false)),
       .act (some 311) (.op (.pure (.fieldAddr 7 (.tmp 310)))) (some (305, false)),
       .act (some 312) (.op (.read (.load1 (.tmp 311)))) (some (305, false)),
       .act (some 313) (.op (.pure (.len false (.tmp 312)))) (some (305, false)),
       .act (some 314) (.op (.pure (.bin .neq (.tmp 307) (.tmp 313)))) (some (305, false)),
       .act (some 315) (.op (.pure (.pick (.tmp 305) (.const (.bool true)) (.tmp 314)))) none])
     (.cond (.tmp 315)
      (.seq (.steps [
        .act (some 6) (.op (.pure (.move (.const (.bool false))))) none])
      .ret)
      .skip))
     (.seq (.steps [
       .act (some 30) (.op (.pure (.move (.const (.int .i64 0))))) none])
     (.block 9 (.loop [12, 13, 24, 26, 29, 30] (.seq (.seq (.steps [
         .act (some 316) (.op (.pure (.move (.tmp 30)))) none,
         .act (some 317) (.op (.pure (.move (.tmp 29)))) none,
         .act (some 318) (.op (.pure (.len false (.tmp 317)))) none,
         .act (some 319) (.op (.pure (.bin .lss (.tmp 316) (.tmp 318)))) none])
       (.cond (.tmp 319)
        .skip
        (.exit 9)))
       (.seq (.block 10 (.seq (.steps [
          .act (some 322) (.op (.pure (.move (.tmp 29)))) none,
          .act (some 323) (.op (.pure (.move (.tmp 30)))) none,
          .act (some 324) (.op (.pure (.idxSl 1 (.tmp 322) (.tmp 323)))) none,
          .act (some 325) (.op (.read (.load1 (.tmp 324)))) none,
          .act (some 326) (.op (.pure (.move (.tmp 13)))) none,
          .act (some 327) (.op (.pure (.move (.tmp 26)))) none,
          .act (some 328) (.op (.pure (.idxSl 9 (.tmp 326) (.tmp 327)))) none,
          .act (some 329) (.op (.pure (.fieldAddr 7 (.tmp 328)))) none,
          .act (some 330) (.op (.read (.load1 (.tmp 329)))) none,
          .act (some 331) (.op (.pure (.move (.tmp 30)))) none,
          .act (some 332) (.op (.pure (.idxSl 1 (.tmp 330) (.tmp 331)))) none,
          .act (some 333) (.op (.read (.load1 (.tmp 332)))) none,
          .act (some 334) (.op (.pure (.bin .neq (.tmp 325) (.tmp 333)))) none])
        (.cond (.tmp 334)
         (.seq (.steps [
           .act (some 6) (.op (.pure (.move (.const (.bool false))))) none])
         .ret)
         .skip)))
       (.steps [
         .act (some 320) (.op (.pure (.move (.tmp 30)))) none,
         .act (some 321) (.op (.pure (.bin .add (.tmp 320) (.const (.int .i64 1))))) none,
         .act (some 30) (.op (.pure (.move (.tmp 321)))) none]))))))))))
    (.steps [
      .act (some 252) (.op (.pure (.move (.tmp 26)))) none,
      .act (some 253) (.op (.pure (.bin .add (.tmp 252) (.const (.int .i64 1))))) none,
      .act (some 26) (.op (.pure (.move (.tmp 253)))) none]))))))
  (.seq (.steps [
    .act (some 335) (.op (.pure (.move (.tmp 24)))) none,
    .act (some 336) (.op (.pure (.len false (.tmp 335)))) none,
    .act (some 337) (.op (.pure (.bin .eql (.tmp 336) (.const (.int .i64 12))))) none,
    .act (some 338) (.op (.pure (.move (.tmp 337)))) none,
    .act (some 339) (.call (.func 20) []) (some (338, true)),
    .act (some 340) (.op (.pure (.pick (.tmp 338) (.tmp 339) (.const (.bool false))))) none,
    .act (some 6) (.op (.pure (.move (.tmp 340)))) none])
  .ret))
def spE : LCode :=
  (.seq (.steps [
    .act (some 230) (.op (.pure (.move (.tmp 8)))) none,
    .act (some 231) (.call (.func 17) [(.tmp 230), (.const (.int .i64 0)), (.const (.int .i64 12))]) none,
    .act (some 24) (.op (.pure (.move (.tmp 231)))) none])
  (.seq (.seq (.steps [
    .act (some 25) (.op (.pure (.move (.const (.int .i64 0))))) none])
  (.block 5 (.loop [10, 12, 13, 24, 25] (.seq (.seq (.steps [
      .act (some 232) (.op (.pure (.move (.tmp 25)))) none,
      .act (some 233) (.op (.pure (.move (.tmp 24)))) none,
      .act (some 234) (.op (.pure (.len false (.tmp 233)))) none,
      .act (some 235) (.op (.pure (.bin .lss (.tmp 232) (.tmp 234)))) none])
    (.cond (.tmp 235)
     .skip
     (.exit 5)))
    (.seq (.block 6 (.seq (.steps [
       .act (some 238) (.op (.pure (.move (.tmp 24)))) none,
       .act (some 239) (.op (.pure (.move (.tmp 25)))) none,
       .act (some 240) (.op (.pure (.idxSl 1 (.tmp 238) (.tmp 239)))) none,
       .act (some 241) (.op (.read (.load1 (.tmp 240)))) none,
       .act (some 242) (.op (.pure (.fieldAddr 0 (.tmp 10)))) none,
       .act (some 243) (.op (.read (.load1 (.tmp 242)))) none,
       .act (some 244) (.op (.pure (.move (.tmp 25)))) none,
       .act (some 245) (.op (.pure (.idxSl 1 (.tmp 243) (.tmp 244)))) none,
       .act (some 246) (.op (.read (.load1 (.tmp 245)))) none,
       .act (some 247) (.op (.pure (.bin .neq (.tmp 241) (.tmp 246)))) none])
     (.cond (.tmp 247)
      (.seq (.steps [
        .act (some 6) (.op (.pure (.move (.const (.bool false))))) none])
      .ret)
      .skip)))
    (.steps [
      .act (some 236) (.op (.pure (.move (.tmp 25)))) none,
      .act (some 237) (.op (.pure (.bin .add (.tmp 236) (.const (.int .i64 1))))) none,
      .act (some 25) (.op (.pure (.move (.tmp 237)))) none]))))))
  spF))
def spP : LCode :=
  (.seq (.seq (.steps [
    .act (some 20) (.op (.pure (.move (.const (.int .i64 0))))) none])
  (.block 3 (.loop [2, 8, 10, 12, 13, 20] (.seq (.seq (.steps [
      .act (some 142) (.op (.pure (.move (.tmp 20)))) none,
      .act (some 143) (.op (.pure (.move (.tmp 2)))) none,
      .act (some 144) (.op (.pure (.len false (.tmp 143)))) none,
      .act (some 145) (.op (.pure (.bin .lss (.tmp 142) (.tmp 144)))) none,
      .act (some 146) (.op (.pure (.move (.tmp 145)))) none,
      .act (some 147) (.op (.pure (.move (.tmp 20)))) (some (146, true)),
      .act (some 148) (.op (.pure (.bin .lss (.tmp 147) (.const (.int .i64 200))))) (some (146, true)),
      .act (some 149) (.op (.pure (.pick (.tmp 146) (.tmp 148) (.const (.bool false))))) none,
      .act (some 150) (.op (.pure (.move (.tmp 149)))) none,
      .act (some 151) (.op (.pure (.move (.tmp 12)))) (some (150, true)),
      .act (some 152) (.op (.pure (.len false (.tmp 151)))) (some (150, true)),
      .act (some 153) (.op (.pure (.bin .gtr (.tmp 152) (.const (.int .i64 0))))) (some (150, true)),
      .act (some 154) (.op (.pure (.pick (.tmp 150) (.tmp 153) (.const (.bool false))))) none])
    (.cond (.tmp 154)
     .skip
     (.exit 3)))
    (.seq (.block 4 (.seq (.seq (.steps [
       .act (some 157) (.op (.pure (.move (.tmp 2)))) none,
       .act (some 158) (.op (.pure (.move (.tmp 20)))) none,
       .act (some 159) (.op (.pure (.idxSl 1 (.tmp 157) (.tmp 158)))) none,
       .act (some 160) (.op (.read (.load1 (.tmp 159)))) none,
       .act (some 161) (.op (.pure (.bin .and (.tmp 160) (.const (.int .i64 31))))) none,
       .act (some 162) (.op (.pure (.bin .eql (.tmp 161) (.const (.int .i64 31))))) none])
     (.cond (.tmp 162)
      (.seq (.steps [
        .act (some 163) (.op (.pure (.move (.tmp 8)))) none,
        .act (some 164) (.op (.pure (.move (.tmp 2)))) none,
        .act (some 165) (.op (.pure (.move (.tmp 20)))) none,
        .act (some 166) (.op (.pure (.idxSl 1 (.tmp 164) (.tmp 165)))) none,
        .act (some 167) (.op (.read (.load1 (.tmp 166)))) none,
        .act (some 168) (.op (.pure (.bin .shr (.tmp 167) (.const (w64 5#64))))) none,
        .act (some 169) (.op (.pure (.bin .and (.tmp 168) (.const (.int .i64 3))))) none,
        .act (some 170) (.op (.pure (.move (.tmp 2)))) none,
        .act (some 171) (.op (.pure (.move (.tmp 20)))) none,
        .act (some 172) (.op (.pure (.idxSl 1 (.tmp 170) (.tmp 171)))) none,
        .act (some 173) (.op (.read (.load1 (.tmp 172)))) none,
        .act (some 174) (.op (.pure (.bin .shr (.tmp 173) (.const (w64 7#64))))) none,
        .act (some 175) (.op (.pure (.bin .and (.tmp 174) (.const (.int .i64 7))))) none,
        .act (some 176) (.op (.pure (.conv .u64 (.tmp 175)))) none,
        .act (some 177) (.call (.func 14) [(.tmp 163), (.tmp 169), (.tmp 176)]) none])
      (.seq (.steps [
        .act (some 178) (.op (.pure (.fieldAddr 0 (.tmp 10)))) none,
        .act (some 179) (.op (.read (.load1 (.tmp 178)))) none,
        .act (some 180) (.op (.pure (.move (.tmp 2)))) none,
        .act (some 181) (.op (.pure (.move (.tmp 20)))) none,
        .act (some 182) (.op (.pure (.idxSl 1 (.tmp 180) (.tmp 181)))) none,
        .act (some 183) (.op (.read (.load1 (.tmp 182)))) none,
        .act (some 184) (.op (.pure (.bin .shr (.tmp 183) (.const (w64 5#64))))) none,
        .act (some 185) (.op (.pure (.bin .and (.tmp 184) (.const (.int .i64 3))))) none,
        .act (some 186) (.op (.pure (.move (.tmp 2)))) none,
        .act (some 187) (.op (.pure (.move (.tmp 20)))) none,
        .act (some 188) (.op (.pure (.idxSl 1 (.tmp 186) (.tmp 187)))) none,
        .act (some 189) (.op (.read (.load1 (.tmp 188)))) none,
        .act (some 190) (.op (.pure (.bin .shr (.tmp 189) (.const (w64 7#64))))) none,
        .act (some 191) (.op (.pure (.bin .and (.tmp 190) (.const (.int .i64 7))))) none,
        .act (some 192) (.op (.pure (.conv .u64 (.tmp 191)))) none,
        .act (some 193) (.op (.pure (.idxSl 1 (.tmp 179) (.tmp 185)))) none,
        .act none (.op (.eff (.store 1 (.tmp 193) (.tmp 192)))) none])
      (.exit 4)))
      .skip))
     (.seq (.steps [
       .act (some 194) (.op (.pure (.move (.tmp 2)))) none,
       .act (some 195) (.op (.pure (.move (.tmp 20)))) none,
       .act (some 196) (.op (.pure (.idxSl 1 (.tmp 194) (.tmp 195)))) none,
       .act (some 197) (.op (.read (.load1 (.tmp 196)))) none,
       .act (some 198) (.op (.pure (.move (.tmp 12)))) none,
       .act (some 199) (.op (.pure (.len false (.tmp 198)))) none,
       .act (some 200) (.op (.pure (.bin .rem (.tmp 197) (.tmp 199)))) none,
       .act (some 201) (.op (.pure (.move (.tmp 12)))) none,
       .act (some 202) (.op (.pure (.len false (.tmp 201)))) none,
       .act (some 203) (.op (.pure (.bin .add (.tmp 200) (.tmp 202)))) none,
       .act (some 204) (.op (.pure (.move (.tmp 12)))) none,
       .act (some 205) (.op (.pure (.len false (.tmp 204)))) none,
       .act (some 206) (.op (.pure (.bin .rem (.tmp 203) (.tmp 205)))) none,
       .act (some 21) (.op (.pure (.move (.tmp 206)))) none])
     (.seq (.steps [
       .act (some 208) (.op (.pure (.move (.tmp 13)))) none,
       .act (some 209) (.op (.pure (.move (.tmp 21)))) none,
       .act (some 210) (.op (.pure (.idxSl 9 (.tmp 208) (.tmp 209)))) none,
       .act (some 211) (.op (.read (.loadN 9 (.tmp 210)))) none,
       .act (some 212) (.op (.read (.loadN 10 (.tmp 10)))) none,
       .act (some 22) (.op (.new (.alloc [(.int .i64 0), (.int .i64 0), (.int .i64 0), (.int .i64 0), (.int .i64 0), (.int .i64 0), (w64 0#64), (.slice none 0 0), (.bool false)]))) none,
       .act (some 23) (.op (.new (.alloc [(.slice none 0 0), (.slice none 0 0), (.int .i64 0), (.int .i64 0), (.int .i64 0), (.int .i64 0), (.int .i64 0), (.int .i64 0), (.int .i64 0), (.bool false)]))) none,
       .act (some 213) (.call (.func 15) [(.tmp 211), (.tmp 212)]) none,
       .act (some 207) (.op (.pure (.move (.tmp 213)))) none,
       .act (some 214) (.op (.pure (.extract (.tmp 207) 0))) none,
       .act (some 215) (.op (.pure (.extract (.tmp 207) 1))) none,
       .act none (.op (.eff (.store 9 (.tmp 22) (.tmp 214)))) none,
       .act none (.op (.eff (.store 10 (.tmp 23) (.tmp 215)))) none])
     (.seq (.seq (.steps [
       .act (some 216) (.op (.pure (.move (.tmp 12)))) none,
       .act (some 217) (.op (.pure (.move (.tmp 21)))) none,
       .act (some 218) (.op (.pure (.idxSl 1 (.tmp 216) (.tmp 217)))) none,
       .act (some 219) (.op (.read (.load1 (.tmp 218)))) none,
       .act (some 220) (.op (.pure (.move (.tmp 8)))) none,
       .act (some 222) (.op (.pure (.fieldAddr 8 (.tmp 22)))) none,
       .act (some 223) (.op (.read (.load1 (.tmp 222)))) none,
       .act (some 221) (.call (.func 16) [(.tmp 219), (.tmp 220)]) none,
       .act (some 224) (.op (.pure (.eqB true (.tmp 221) (.tmp 223)))) none,
       .again 223 (.load1 (.tmp 222)) none])
     (.cond (.tmp 224)
      (.seq (.steps [
        .act (some 6) (.op (.pure (.move (.const (.bool false))))) none])
      .ret)
      .skip))
     (.steps [
       .act (some 225) (.op (.pure (.move (.tmp 13)))) none,
       .act (some 226) (.op (.pure (.move (.tmp 21)))) none,
       .act (some 227) (.op (.read (.loadN 9 (.tmp 22)))) none,
       .act (some 228) (.op (.read (.loadN 10 (.tmp 23)))) none,
       .act (some 229) (.op (.pure (.idxSl 9 (.tmp 225) (.tmp 226)))) none,
       .act none (.op (.eff (.store 9 (.tmp 229) (.tmp 227)))) none,
       .again 228 (.loadN 10 (.tmp 23)) none,
       .act none (.op (.eff (.store 10 (.tmp 10) (.tmp 228)))) none]))))))
    (.steps [
      .act (some 155) (.op (.pure (.move (.tmp 20)))) none,
      .act (some 156) (.op (.pure (.bin .add (.tmp 155) (.const (.int .i64 1))))) none,
      .act (some 20) (.op (.pure (.move (.tmp 156)))) none]))))))
  spE)
def spL : LCode :=
  (.seq (.steps [
    .act (some 12) (.op (.pure (.move (.const (.slice none 0 0))))) none])
  (.seq (.steps [
    .act (some 13) (.op (.pure (.move (.const (.slice none 0 0))))) none])
  (.seq (.seq (.steps [
    .act (some 14) (.op (.pure (.move (.const (.int .i64 0))))) none])
  (.block 0 (.loop [1, 2, 7, 8, 10, 12, 13, 14] (.seq (.seq (.steps [
      .act (some 70) (.op (.pure (.move (.tmp 14)))) none,
      .act (some 71) (.op (.pure (.move (.tmp 1)))) none,
      .act (some 72) (.op (.pure (.len false (.tmp 71)))) none,
      .act (some 73) (.op (.pure (.bin .lss (.tmp 70) (.tmp 72)))) none,
      .act (some 74) (.op (.pure (.move (.tmp 73)))) none,
      .act (some 75) (.op (.pure (.move (.tmp 14)))) (some (74, true)),
      .act (some 76) (.op (.pure (.bin .lss (.tmp 75) (.const (.int .i64 12))))) (some (74, true)),
      .act (some 77) (.op (.pure (.pick (.tmp 74) (.tmp 76) (.const (.bool false))))) none])
    (.cond (.tmp 77)
     .skip
     (.exit 0)))
    (.seq (.block 1 (.seq (.steps [
       .act (some 80) (.op (.pure (.move (.tmp 1)))) none,
       .act (some 81) (.op (.pure (.move (.tmp 14)))) none,
       .act (some 82) (.op (.pure (.idxSl 5 (.tmp 80) (.tmp 81)))) none,
       .act (some 83) (.op (.read (.loadN 5 (.tmp 82)))) none,
       .act (some 15) (.op (.new (.alloc [(.int .i64 0), (.int .i64 0), (.int .i64 0), (.int .i64 0), (w64 0#64)]))) none,
       .act none (.op (.eff (.store 5 (.tmp 15) (.tmp 83)))) none])
     (.seq (.steps [
       .act (some 84) (.op (.pure (.fieldAddr 1 (.tmp 15)))) none,
       .act (some 85) (.op (.read (.load1 (.tmp 84)))) none,
       .act (some 86) (.op (.pure (.bin .and (.tmp 85) (.const (.int .i64 3))))) none,
       .act (some 87) (.op (.pure (.fieldAddr 1 (.tmp 7)))) none,
       .act (some 88) (.op (.read (.load1 (.tmp 87)))) none,
       .act (some 89) (.op (.pure (.bin .rem (.tmp 86) (.tmp 88)))) none,
       .act (some 90) (.op (.pure (.fieldAddr 2 (.tmp 15)))) none,
       .act (some 91) (.op (.read (.load1 (.tmp 90)))) none,
       .act (some 92) (.op (.pure (.bin .and (.tmp 91) (.const (.int .i64 1))))) none,
       .act (some 93) (.op (.pure (.fieldAddr 2 (.tmp 7)))) none,
       .act (some 94) (.op (.read (.load1 (.tmp 93)))) none,
       .act (some 95) (.op (.pure (.bin .rem (.tmp 92) (.tmp 94)))) none,
       .act (some 96) (.op (.pure (.fieldAddr 3 (.tmp 15)))) none,
       .act (some 97) (.op (.read (.load1 (.tmp 96)))) none,
       .act (some 98) (.op (.pure (.bin .and (.tmp 97) (.const (.int .i64 3))))) none,
       .act (some 16) (.op (.pure (.move (.tmp 89)))) none,
       .act (some 17) (.op (.pure (.move (.tmp 95)))) none,
       .act (some 18) (.op (.pure (.move (.tmp 98)))) none])
     (.seq (.steps [
       .act (some 99) (.op (.read (.loadN 3 (.tmp 7)))) none,
       .act (some 101) (.op (.pure (.move (.tmp 16)))) none,
       .act (some 102) (.op (.pure (.fieldAddr 2 (.tmp 7)))) none,
       .act (some 103) (.op (.read (.load1 (.tmp 102)))) none,
       .act (some 104) (.op (.pure (.bin .mul (.tmp 101) (.tmp 103)))) none,
       .act (some 105) (.op (.pure (.bin .add (.const (.int .i64 4)) (.tmp 104)))) none,
       .act (some 106) (.op (.pure (.move (.tmp 17)))) none,
       .act (some 107) (.op (.pure (.bin .add (.tmp 105) (.tmp 106)))) none,
       .act (some 108) (.op (.pure (.move (.tmp 18)))) none,
       .act (some 19) (.op (.new (.alloc [(.int .i64 0), (.int .i64 0), (.int .i64 0), (.int .i64 0), (.int .i64 0), (.int .i64 0), (w64 0#64), (.slice none 0 0), (.bool false)]))) none,
       .act (some 100) (.call (.func 10) [(.tmp 99)]) none,
       .act (some 109) (.op (.pure (.build [(.int .i64 0), (.int .i64 0), (.int .i64 0), (.int .i64 0), (.int .i64 0), (.int .i64 0), (w64 0#64), (.slice none 0 0), (.bool false)] [(1, 1, (.const (.int .i64 4))), (2, 1, (.tmp 100)), (3, 1, (.tmp 107)), (4, 1, (.tmp 108))]))) none,
       .again 103 (.load1 (.tmp 102)) none,
       .act none (.op (.eff (.store 9 (.tmp 19) (.tmp 109)))) none])
     (.seq (.seq (.steps [
       .act (some 110) (.op (.pure (.fieldAddr 0 (.tmp 15)))) none,
       .act (some 111) (.op (.read (.load1 (.tmp 110)))) none])
     (.block 2 (.seq (.steps [
        .act (some 119) (.op (.pure (.bin .eql (.tmp 111) (.const (.int .i64 0))))) none,
        .act (some 118) (.op (.pure (.move (.tmp 119)))) none])
      (.cond (.tmp 118)
       (.steps [
         .act (some 120) (.op (.pure (.move (.tmp 12)))) none,
         .act (some 121) (.op (.read (.loadN 3 (.tmp 7)))) none,
         .act (some 122) (.op (.pure (.move (.tmp 16)))) none,
         .act (some 123) (.op (.pure (.move (.tmp 17)))) none,
         .act (some 124) (.op (.pure (.move (.tmp 18)))) none,
         .act (some 125) (.call (.func 11) [(.tmp 121), (.tmp 122), (.tmp 123), (.tmp 124)]) none,
         .act (some 126) (.op (.new (.mkSlice 1 1 [(.pointer none)] [(0, 1, (.tmp 125))]))) none,
         .act (some 127) (.op (.eff (.append 1 8 (.tmp 120) (.tmp 126)))) none,
         .act (some 12) (.op (.pure (.move (.tmp 127)))) none])
       (.seq (.steps [
         .act (some 129) (.op (.pure (.bin .eql (.tmp 111) (.const (.int .i64 1))))) none,
         .act (some 128) (.op (.pure (.move (.tmp 129)))) none])
       (.cond (.tmp 128)
        (.seq (.steps [
          .act (some 130) (.op (.pure (.fieldAddr 0 (.tmp 19)))) none,
          .act none (.op (.eff (.store 1 (.tmp 130) (.const (.int .i64 1))))) none])
        (.steps [
          .act (some 131) (.op (.pure (.move (.tmp 12)))) none,
          .act (some 132) (.op (.read (.loadN 3 (.tmp 7)))) none,
          .act (some 133) (.op (.pure (.move (.tmp 16)))) none,
          .act (some 134) (.op (.pure (.move (.tmp 17)))) none,
          .act (some 135) (.call (.func 12) [(.tmp 132), (.tmp 133), (.tmp 134)]) none,
          .act (some 136) (.op (.new (.mkSlice 1 1 [(.pointer none)] [(0, 1, (.tmp 135))]))) none,
          .act (some 137) (.op (.eff (.append 1 8 (.tmp 131) (.tmp 136)))) none,
          .act (some 12) (.op (.pure (.move (.tmp 137)))) none]))
        (.seq (.steps [
          .act (some 112) (.op (.pure (.fieldAddr 0 (.tmp 19)))) none,
          .act none (.op (.eff (.store 1 (.tmp 112) (.const (.int .i64 2))))) none])
        (.steps [
          .act (some 113) (.op (.pure (.move (.tmp 12)))) none,
          .act (some 114) (.op (.read (.loadN 3 (.tmp 7)))) none,
          .act (some 115) (.call (.func 13) [(.tmp 114)]) none,
          .act (some 116) (.op (.new (.mkSlice 1 1 [(.pointer none)] [(0, 1, (.tmp 115))]))) none,
          .act (some 117) (.op (.eff (.append 1 8 (.tmp 113) (.tmp 116)))) none,
          .act (some 12) (.op (.pure (.move (.tmp 117)))) none]))))))))
     (.steps [
       .act (some 138) (.op (.pure (.move (.tmp 13)))) none,
       .act (some 139) (.op (.read (.loadN 9 (.tmp 19)))) none,
       .act (some 140) (.op (.new (.mkSlice 9 1 [(.int .i64 0), (.int .i64 0), (.int .i64 0), (.int .i64 0), (.int .i64 0), (.int .i64 0), (w64 0#64), (.slice none 0 0), (.bool false)] [(0, 9, (.tmp 139))]))) none,
       .act (some 141) (.op (.eff (.append 9 88 (.tmp 138) (.tmp 140)))) none,
       .act (some 13) (.op (.pure (.move (.tmp 141)))) none]))))))
    (.steps [
      .act (some 78) (.op (.pure (.move (.tmp 14)))) none,
      .act (some 79) (.op (.pure (.bin .add (.tmp 78) (.const (.int .i64 1))))) none,
      .act (some 14) (.op (.pure (.move (.tmp 79)))) none]))))))
  spP)))
def SP : LCode :=
  (.seq (.steps [
    .act (some 3) (.op (.new (.box (.tmp 0)))) none,
    .act (some 6) (.op (.pure (.move (.const (.bool false))))) none])
  (.seq (.steps [
    .act (some 31) (.op (.pure (.idxArr 2 1 (.tmp 3) (.const (.int .i64 0))))) none,
    .act (some 32) (.op (.read (.load1 (.tmp 31)))) none,
    .act (some 33) (.op (.pure (.bin .and (.tmp 32) (.const (.int .i64 3))))) none,
    .act (some 34) (.op (.pure (.bin .add (.const (.int .i64 1)) (.tmp 33)))) none,
    .act (some 35) (.op (.pure (.idxArr 2 1 (.tmp 3) (.const (.int .i64 1))))) none,
    .act (some 36) (.op (.read (.load1 (.tmp 35)))) none,
    .act (some 37) (.op (.pure (.bin .and (.tmp 36) (.const (.int .i64 1))))) none,
    .act (some 38) (.op (.pure (.bin .add (.const (.int .i64 1)) (.tmp 37)))) none,
    .act (some 39) (.op (.pure (.build [(.int .i64 0), (.int .i64 0), (.int .i64 0)] [(0, 1, (.const (.int .i64 4))), (1, 1, (.tmp 34)), (2, 1, (.tmp 38))]))) none,
    .act (some 7) (.op (.new (.alloc [(.int .i64 0), (.int .i64 0), (.int .i64 0)]))) none,
    .act none (.op (.eff (.store 3 (.tmp 7) (.tmp 39)))) none])
  (.seq (.steps [
    .act (some 41) (.call (.func 7) [(.const (.int .i64 12))]) none,
    .act (some 40) (.op (.pure (.move (.tmp 41)))) none,
    .act (some 42) (.op (.pure (.extract (.tmp 40) 0))) none,
    .act (some 43) (.op (.pure (.extract (.tmp 40) 1))) none,
    .act (some 8) (.op (.pure (.move (.tmp 42)))) none,
    .act (some 9) (.op (.pure (.move (.tmp 43)))) none])
  (.seq (.steps [
    .act (some 45) (.call (.func 8) [(.const (.int .i64 12))]) none,
    .act (some 44) (.op (.pure (.move (.tmp 45)))) none,
    .act (some 46) (.op (.pure (.extract (.tmp 44) 0))) none,
    .act (some 47) (.op (.pure (.extract (.tmp 44) 1))) none,
    .act (some 10) (.op (.new (.alloc [(.slice none 0 0), (.slice none 0 0), (.int .i64 0), (.int .i64 0), (.int .i64 0), (.int .i64 0), (.int .i64 0), (.int .i64 0), (.int .i64 0), (.bool false)]))) none,
    .act none (.op (.eff (.store 10 (.tmp 10) (.tmp 46)))) none,
    .act (some 11) (.op (.pure (.move (.tmp 47)))) none])
  (.seq (.seq (.steps [
    .act (some 48) (.op (.pure (.move (.tmp 9)))) none,
    .act (some 49) (.op (.pure (.bin .neq (.tmp 48) (.const (.int .i64 0))))) none,
    .act (some 50) (.op (.pure (.move (.tmp 49)))) none,
    .act (some 51) (.op (.pure (.move (.tmp 11)))) (some (50, false)),
    .act (some 52) (.op (.pure (.bin .neq (.tmp 51) (.const (.int .i64 0))))) (some (50, false)),
    .act (some 53) (.op (.pure (.pick (.tmp 50) (.const (.bool true)) (.tmp 52)))) none,
    .act (some 54) (.op (.pure (.move (.tmp 53)))) none,
    .act (some 55) (.op (.read (.loadN 3 (.tmp 7)))) (some (54, false)),
    .act (some 56) (.op (.pure (.move (.tmp 8)))) (some (54, false)),
    .act (some 57) (.call (.func 9) [(.tmp 55), (.tmp 56)]) (some (54, false)),
    .act (some 58) (.op (.pure (.bin .neq (.tmp 57) (.const (.int .i64 0))))) (some (54, false)),
    .act (some 59) (.op (.pure (.pick (.tmp 54) (.const (.bool true)) (.tmp 58)))) none,
    .act (some 60) (.op (.pure (.move (.tmp 59)))) none,
    .act (some 61) (.op (.read (.loadN 3 (.tmp 7)))) (some (60, false)),
    .act (some 63) (.op (.pure (.fieldAddr 1 (.tmp 7)))) (some (60, false)),
    .act (some 64) (.op (.read (.load1 (.tmp 63)))) (some (60, false)),
    .act (some 65) (.op (.pure (.fieldAddr 2 (.tmp 7)))) (some (60, false)),
    .act (some 66) (.op (.read (.load1 (.tmp 65)))) (some (60, false)),
    .act (some 67) (.op (.pure (.bin .mul (.tmp 64) (.tmp 66)))) (some (60, false)),
    .act (some 62) (.call (.func 10) [(.tmp 61)]) (some (60, false)),
    .act (some 68) (.op (.pure (.bin .neq (.tmp 62) (.tmp 67)))) (some (60, false)),
    .act (some 69) (.op (.pure (.pick (.tmp 60) (.const (.bool true)) (.tmp 68)))) none,
    .again 66 (.load1 (.tmp 65)) (some (60, false)),
    .again 64 (.load1 (.tmp 63)) (some (60, false))])
  (.cond (.tmp 69)
   (.seq (.steps [
     .act (some 6) (.op (.pure (.move (.const (.bool false))))) none])
   .ret)
   .skip))
  spL)))))

section
variable {H K : LHeap} {l0 lo b pw pb bx : Nat} {m mr : MV} {w : List (BitVec 64)} {aw ab ao ap aq : Option Addr} {L : List (Nat × HZ)} {e : Env} {Q : LExit → Env → LHeap → Prop} {g : GV}
abbrev HS12 (H : LHeap) (l0 lo b pw pb bx : Nat) := HS H l0 lo b pw pb bx 12
set_option maxHeartbeats 1000000 in
theorem spF_ev (h : HS12 H l0 lo b pw pb bx K m mr w aw ab ao ap L) (e12 : LK.look e 12 = .slice ap L.length L.length) (e13 : LK.look e 13 = .slice ao L.length L.length) (e24 : LK.look e 24 = .slice aq 12 12)
    (hL : ∀ (j p : Nat) (z : HZ), L[j]? = some (p, z) → Rel g z.x z.y) (hn : L.length ≤ 12)
    (hQ : ∀ e' H', LK.look e' 6 = .bool true → Q .ret e' H') : XW (callE T) H.length spF e K Q := by
  unfold spF
  simp -dsimp only [go_sem, Nat.reduceEqDiff, Nat.reduceAdd, Nat.reduceSub, Nat.reduceMul, Nat.reduceLeDiff, Nat.reduceLT, Nat.reduceBEq, Int.reduceLT, Int.reduceLE, Int.reduceGT, Int.reduceGE, Int.reduceEq, Int.reduceNe, Int.reduceBEq, Int.reduceBNe, Int.reduceAdd, Int.reduceSub, Int.reduceMul, Int.reduceToNat, Int.reduceNeg, ↓reduceIte, ↓reduceDIte]
  refine LT_of (fun i : Nat × LHeap => [(12, .slice ap L.length L.length), (13, .slice ao L.length L.length), (24, .slice aq 12 12), (26, i64 i.1)]) (fun i => K ++ i.2) (fun i => i.1 ≤ L.length) (fun i => L.length - i.1) (0, []) (by simp [restrict, LK.look, e12, e13, e24]) (by simp) (by simp) ?_
  rintro ⟨i, u⟩ hi
  simp only at hi ⊢
  by_cases c1 : i < L.length
  · have c1' : (i : Int) < L.length := by omega
    have i0 : 0 ≤ (i : Int) := by omega
    have w1 : IntKind.i64.wrap ((i : Int) + 1) = ((i + 1 : Nat) : Int) := by rw [wrap_i64] <;> omega
    obtain ⟨⟨p, x, a1, y, a2⟩, hx⟩ : ∃ z, L[i]? = some z := ⟨_, List.getElem?_eq_getElem c1⟩
    obtain ⟨bp, bo, ea, eo, g1, g2, g3, g4⟩ := h.read hx
    have rel := hL i p _ hx
    have own1 := (h.s1 i p _ hx).app u
    have sl2 := (h.s2 i p _ hx).1
    simp only at rel own1 sl2
    have hml := rel.ml.1
    have hxm := rel.met
    have hpp := rel.p
    have hdn := rel.done
    have hcode := rel.code
    have hkk := rel.k2
    rw [ea, eo]
    have hKl : H.length ≤ (K ++ u).length := by
      obtain ⟨t, ht⟩ := h.keep
      rw [ht, List.append_assoc]; simp
    have r0 := fun t => g3 t 0 (by decide); have r6 := fun t => g3 t 6 (by decide); have r7 := fun t => g3 t 7 (by decide); have r8 := fun t => g3 t 8 (by decide)
    simp only [List.getElem?_cons_zero, List.getElem?_cons_succ, Nat.add_zero] at r0 r6 r7 r8
    obtain ⟨xg, xk, xs, xw, xa, xp, xm, xd, xc⟩ := x
    simp only at hxm hdn hcode hpp own1 hKl
    subst hxm hdn hcode
    simp -dsimp only [go_sem, Nat.reduceEqDiff, Nat.reduceAdd, Nat.reduceSub, Nat.reduceMul, Nat.reduceLeDiff, Nat.reduceLT, Nat.reduceBEq, Int.reduceLT, Int.reduceLE, Int.reduceGT, Int.reduceGE, Int.reduceEq, Int.reduceNe, Int.reduceBEq, Int.reduceBNe, Int.reduceAdd, Int.reduceSub, Int.reduceMul, Int.reduceToNat, Int.reduceNeg, ↓reduceIte, ↓reduceDIte, c1', i0, g1]
    refine CT_val (hres_ev (g4 u)) ?_
    obtain ⟨yk, ya, yw, ys, yo, yc, yp, ym, yd⟩ := y
    simp only at r0 r6 r7 r8 hpp hml sl2 own1 hkk g4 ⊢
    cases yd
    · simp -dsimp only [go_sem, Nat.reduceEqDiff, Nat.reduceAdd, Nat.reduceSub, Nat.reduceMul, Nat.reduceLeDiff, Nat.reduceLT, Nat.reduceBEq, Int.reduceLT, Int.reduceLE, Int.reduceGT, Int.reduceGE, Int.reduceEq, Int.reduceNe, Int.reduceBEq, Int.reduceBNe, Int.reduceAdd, Int.reduceSub, Int.reduceMul, Int.reduceToNat, Int.reduceNeg, ↓reduceIte, ↓reduceDIte, c1', i0, g1]
      refine CT_of (hmet_ev hKl (g4 u) own1 rfl (by simp only; omega)) ?_
      rintro _ _ ⟨a', t, rfl, rfl, om⟩
      rw [List.append_assoc] at om
      have bb : ∀ a : Bool, (a == a) = true := fun a => by cases a <;> rfl
      have mk : ∀ x : BitVec 64, (x != x) = false := fun x => by simp
      have mi : ∀ x : Int, (x != x) = false := fun x => by simp
      simp -dsimp only [go_sem, Nat.reduceEqDiff, Nat.reduceAdd, Nat.reduceSub, Nat.reduceMul, Nat.reduceLeDiff, Nat.reduceLT, Nat.reduceBEq, Int.reduceLT, Int.reduceLE, Int.reduceGT, Int.reduceGE, Int.reduceEq, Int.reduceNe, Int.reduceBEq, Int.reduceBNe, Int.reduceAdd, Int.reduceSub, Int.reduceMul, Int.reduceToNat, Int.reduceNeg, ↓reduceIte, ↓reduceDIte, Nat.add_assoc, c1', i0, r0, r6, r7, r8, g1, mk, mi]
      refine LT_of (fun k : Nat => [(12, .slice (some ⟨bp, 0, none⟩) L.length L.length), (13, .slice (some ⟨bo, 0, none⟩) L.length L.length), (24, .slice aq 12 12), (26, i64 i), (29, .slice a' ym.length ym.length), (30, i64 k)]) (fun k => K ++ (u ++ t)) (fun k => k ≤ ym.length) (fun k => ym.length - k) 0 rfl rfl (by simp) ?_
      intro k hk
      by_cases c2 : k < ym.length
      · have c2' : (k : Int) < ym.length := by omega
        have k0 : 0 ≤ (k : Int) := by omega
        have w2 : IntKind.i64.wrap ((k : Int) + 1) = ((k + 1 : Nat) : Int) := by rw [wrap_i64] <;> omega
        obtain ⟨bm, om', rfl, _, gm⟩ := om.sl.all (by simp; omega)
        obtain ⟨b2, o2, e2, _, gy⟩ := (sl2.app (u ++ t)).all (by simp; omega)
        have hv : (ym.map w64)[k]? = some (w64 ym[k]) := by simp [c2]
        have gm1 := gm [] k _ hv
        have gy1 := gy [] k _ hv
        simp only [List.append_nil, List.append_assoc] at gm1 gy1
        subst e2
        simp -dsimp only [go_sem, Nat.reduceEqDiff, Nat.reduceAdd, Nat.reduceSub, Nat.reduceMul, Nat.reduceLeDiff, Nat.reduceLT, Nat.reduceBEq, Int.reduceLT, Int.reduceLE, Int.reduceGT, Int.reduceGE, Int.reduceEq, Int.reduceNe, Int.reduceBEq, Int.reduceBNe, Int.reduceAdd, Int.reduceSub, Int.reduceMul, Int.reduceToNat, Int.reduceNeg, ↓reduceIte, ↓reduceDIte, c2', k0, c1', i0, gm1, gy1, r7, w2, mk]
        exact ⟨k + 1, rfl, by omega, by omega⟩
      · have c2' : ¬ (k : Int) < ym.length := by omega
        simp -dsimp only [go_sem, Nat.reduceEqDiff, Nat.reduceAdd, Nat.reduceSub, Nat.reduceMul, Nat.reduceLeDiff, Nat.reduceLT, Nat.reduceBEq, Int.reduceLT, Int.reduceLE, Int.reduceGT, Int.reduceGE, Int.reduceEq, Int.reduceNe, Int.reduceBEq, Int.reduceBNe, Int.reduceAdd, Int.reduceSub, Int.reduceMul, Int.reduceToNat, Int.reduceNeg, ↓reduceIte, ↓reduceDIte, c2', w1]
        exact ⟨(i + 1, u ++ t), rfl, rfl, by simp only; omega, by simp only; omega⟩
    · by_cases hk1 : yk = 1
      · have hk1' : (yk != 1) = false := by simp [hk1]
        cases hpq : (xp != yp)
        · simp -dsimp only [go_sem, Nat.reduceEqDiff, Nat.reduceAdd, Nat.reduceSub, Nat.reduceMul, Nat.reduceLeDiff, Nat.reduceLT, Nat.reduceBEq, Int.reduceLT, Int.reduceLE, Int.reduceGT, Int.reduceGE, Int.reduceEq, Int.reduceNe, Int.reduceBEq, Int.reduceBNe, Int.reduceAdd, Int.reduceSub, Int.reduceMul, Int.reduceToNat, Int.reduceNeg, ↓reduceIte, ↓reduceDIte, c1', i0, g1]
          refine CT_of (hmet_ev hKl (g4 u) own1 rfl (by simp only; omega)) ?_
          rintro _ _ ⟨a', t, rfl, rfl, om⟩
          rw [List.append_assoc] at om
          have bb : ∀ a : Bool, (a == a) = true := fun a => by cases a <;> rfl
          have mk : ∀ x : BitVec 64, (x != x) = false := fun x => by simp
          have mi : ∀ x : Int, (x != x) = false := fun x => by simp
          simp -dsimp only [go_sem, Nat.reduceEqDiff, Nat.reduceAdd, Nat.reduceSub, Nat.reduceMul, Nat.reduceLeDiff, Nat.reduceLT, Nat.reduceBEq, Int.reduceLT, Int.reduceLE, Int.reduceGT, Int.reduceGE, Int.reduceEq, Int.reduceNe, Int.reduceBEq, Int.reduceBNe, Int.reduceAdd, Int.reduceSub, Int.reduceMul, Int.reduceToNat, Int.reduceNeg, ↓reduceIte, ↓reduceDIte, Nat.add_assoc, c1', i0, r0, r6, r7, r8, hk1',hpq, mk, mi]
          refine LT_of (fun k : Nat => [(12, .slice (some ⟨bp, 0, none⟩) L.length L.length), (13, .slice (some ⟨bo, 0, none⟩) L.length L.length), (24, .slice aq 12 12), (26, i64 i), (29, .slice a' ym.length ym.length), (30, i64 k)]) (fun k => K ++ (u ++ t)) (fun k => k ≤ ym.length) (fun k => ym.length - k) 0 rfl rfl (by simp) ?_
          intro k hk
          by_cases c2 : k < ym.length
          · have c2' : (k : Int) < ym.length := by omega
            have k0 : 0 ≤ (k : Int) := by omega
            have w2 : IntKind.i64.wrap ((k : Int) + 1) = ((k + 1 : Nat) : Int) := by rw [wrap_i64] <;> omega
            obtain ⟨bm, om', rfl, _, gm⟩ := om.sl.all (by simp; omega)
            obtain ⟨b2, o2, e2, _, gy⟩ := (sl2.app (u ++ t)).all (by simp; omega)
            have hv : (ym.map w64)[k]? = some (w64 ym[k]) := by simp [c2]
            have gm1 := gm [] k _ hv
            have gy1 := gy [] k _ hv
            simp only [List.append_nil, List.append_assoc] at gm1 gy1
            subst e2
            simp -dsimp only [go_sem, Nat.reduceEqDiff, Nat.reduceAdd, Nat.reduceSub, Nat.reduceMul, Nat.reduceLeDiff, Nat.reduceLT, Nat.reduceBEq, Int.reduceLT, Int.reduceLE, Int.reduceGT, Int.reduceGE, Int.reduceEq, Int.reduceNe, Int.reduceBEq, Int.reduceBNe, Int.reduceAdd, Int.reduceSub, Int.reduceMul, Int.reduceToNat, Int.reduceNeg, ↓reduceIte, ↓reduceDIte, c2', k0, c1', i0, gm1, gy1, r7, w2, mk]
            exact ⟨k + 1, rfl, by omega, by omega⟩
          · have c2' : ¬ (k : Int) < ym.length := by omega
            simp -dsimp only [go_sem, Nat.reduceEqDiff, Nat.reduceAdd, Nat.reduceSub, Nat.reduceMul, Nat.reduceLeDiff, Nat.reduceLT, Nat.reduceBEq, Int.reduceLT, Int.reduceLE, Int.reduceGT, Int.reduceGE, Int.reduceEq, Int.reduceNe, Int.reduceBEq, Int.reduceBNe, Int.reduceAdd, Int.reduceSub, Int.reduceMul, Int.reduceToNat, Int.reduceNeg, ↓reduceIte, ↓reduceDIte, c2', w1]
            exact ⟨(i + 1, u ++ t), rfl, rfl, by simp only; omega, by simp only; omega⟩
        · simp -dsimp only [go_sem, Nat.reduceEqDiff, Nat.reduceAdd, Nat.reduceSub, Nat.reduceMul, Nat.reduceLeDiff, Nat.reduceLT, Nat.reduceBEq, Int.reduceLT, Int.reduceLE, Int.reduceGT, Int.reduceGE, Int.reduceEq, Int.reduceNe, Int.reduceBEq, Int.reduceBNe, Int.reduceAdd, Int.reduceSub, Int.reduceMul, Int.reduceToNat, Int.reduceNeg, ↓reduceIte, ↓reduceDIte, c1', i0, g1]
          refine CT_of (hmet_ev hKl (g4 u) own1 rfl (by simp only; omega)) ?_
          rintro _ _ ⟨a', t, rfl, rfl, om⟩
          rw [List.append_assoc] at om
          have bb : ∀ a : Bool, (a == a) = true := fun a => by cases a <;> rfl
          have mk : ∀ x : BitVec 64, (x != x) = false := fun x => by simp
          have mi : ∀ x : Int, (x != x) = false := fun x => by simp
          simp -dsimp only [go_sem, Nat.reduceEqDiff, Nat.reduceAdd, Nat.reduceSub, Nat.reduceMul, Nat.reduceLeDiff, Nat.reduceLT, Nat.reduceBEq, Int.reduceLT, Int.reduceLE, Int.reduceGT, Int.reduceGE, Int.reduceEq, Int.reduceNe, Int.reduceBEq, Int.reduceBNe, Int.reduceAdd, Int.reduceSub, Int.reduceMul, Int.reduceToNat, Int.reduceNeg, ↓reduceIte, ↓reduceDIte, Nat.add_assoc, c1', i0, r0, r6, r7, r8, hk1',hpq, mk, mi]
          refine LT_of (fun k : Nat => [(12, .slice (some ⟨bp, 0, none⟩) L.length L.length), (13, .slice (some ⟨bo, 0, none⟩) L.length L.length), (24, .slice aq 12 12), (26, i64 i), (29, .slice a' ym.length ym.length), (30, i64 k)]) (fun k => K ++ (u ++ t)) (fun k => k ≤ ym.length) (fun k => ym.length - k) 0 rfl rfl (by simp) ?_
          intro k hk
          by_cases c2 : k < ym.length
          · have c2' : (k : Int) < ym.length := by omega
            have k0 : 0 ≤ (k : Int) := by omega
            have w2 : IntKind.i64.wrap ((k : Int) + 1) = ((k + 1 : Nat) : Int) := by rw [wrap_i64] <;> omega
            obtain ⟨bm, om', rfl, _, gm⟩ := om.sl.all (by simp; omega)
            obtain ⟨b2, o2, e2, _, gy⟩ := (sl2.app (u ++ t)).all (by simp; omega)
            have hv : (ym.map w64)[k]? = some (w64 ym[k]) := by simp [c2]
            have gm1 := gm [] k _ hv
            have gy1 := gy [] k _ hv
            simp only [List.append_nil, List.append_assoc] at gm1 gy1
            subst e2
            simp -dsimp only [go_sem, Nat.reduceEqDiff, Nat.reduceAdd, Nat.reduceSub, Nat.reduceMul, Nat.reduceLeDiff, Nat.reduceLT, Nat.reduceBEq, Int.reduceLT, Int.reduceLE, Int.reduceGT, Int.reduceGE, Int.reduceEq, Int.reduceNe, Int.reduceBEq, Int.reduceBNe, Int.reduceAdd, Int.reduceSub, Int.reduceMul, Int.reduceToNat, Int.reduceNeg, ↓reduceIte, ↓reduceDIte, c2', k0, c1', i0, gm1, gy1, r7, w2, mk]
            exact ⟨k + 1, rfl, by omega, by omega⟩
          · have c2' : ¬ (k : Int) < ym.length := by omega
            simp -dsimp only [go_sem, Nat.reduceEqDiff, Nat.reduceAdd, Nat.reduceSub, Nat.reduceMul, Nat.reduceLeDiff, Nat.reduceLT, Nat.reduceBEq, Int.reduceLT, Int.reduceLE, Int.reduceGT, Int.reduceGE, Int.reduceEq, Int.reduceNe, Int.reduceBEq, Int.reduceBNe, Int.reduceAdd, Int.reduceSub, Int.reduceMul, Int.reduceToNat, Int.reduceNeg, ↓reduceIte, ↓reduceDIte, c2', w1]
            exact ⟨(i + 1, u ++ t), rfl, rfl, by simp only; omega, by simp only; omega⟩
      · have hpq := hpp hk1
        subst hpq
        simp -dsimp only [go_sem, Nat.reduceEqDiff, Nat.reduceAdd, Nat.reduceSub, Nat.reduceMul, Nat.reduceLeDiff, Nat.reduceLT, Nat.reduceBEq, Int.reduceLT, Int.reduceLE, Int.reduceGT, Int.reduceGE, Int.reduceEq, Int.reduceNe, Int.reduceBEq, Int.reduceBNe, Int.reduceAdd, Int.reduceSub, Int.reduceMul, Int.reduceToNat, Int.reduceNeg, ↓reduceIte, ↓reduceDIte, c1', i0, g1]
        refine CT_of (hmet_ev hKl (g4 u) own1 rfl (by simp only; omega)) ?_
        rintro _ _ ⟨a', t, rfl, rfl, om⟩
        rw [List.append_assoc] at om
        have bb : ∀ a : Bool, (a == a) = true := fun a => by cases a <;> rfl
        have mk : ∀ x : BitVec 64, (x != x) = false := fun x => by simp
        have mi : ∀ x : Int, (x != x) = false := fun x => by simp
        simp -dsimp only [go_sem, Nat.reduceEqDiff, Nat.reduceAdd, Nat.reduceSub, Nat.reduceMul, Nat.reduceLeDiff, Nat.reduceLT, Nat.reduceBEq, Int.reduceLT, Int.reduceLE, Int.reduceGT, Int.reduceGE, Int.reduceEq, Int.reduceNe, Int.reduceBEq, Int.reduceBNe, Int.reduceAdd, Int.reduceSub, Int.reduceMul, Int.reduceToNat, Int.reduceNeg, ↓reduceIte, ↓reduceDIte, Nat.add_assoc, c1', i0, r0, r6, r7, r8, mk, mk, mi]
        refine LT_of (fun k : Nat => [(12, .slice (some ⟨bp, 0, none⟩) L.length L.length), (13, .slice (some ⟨bo, 0, none⟩) L.length L.length), (24, .slice aq 12 12), (26, i64 i), (29, .slice a' ym.length ym.length), (30, i64 k)]) (fun k => K ++ (u ++ t)) (fun k => k ≤ ym.length) (fun k => ym.length - k) 0 rfl rfl (by simp) ?_
        intro k hk
        by_cases c2 : k < ym.length
        · have c2' : (k : Int) < ym.length := by omega
          have k0 : 0 ≤ (k : Int) := by omega
          have w2 : IntKind.i64.wrap ((k : Int) + 1) = ((k + 1 : Nat) : Int) := by rw [wrap_i64] <;> omega
          obtain ⟨bm, om', rfl, _, gm⟩ := om.sl.all (by simp; omega)
          obtain ⟨b2, o2, e2, _, gy⟩ := (sl2.app (u ++ t)).all (by simp; omega)
          have hv : (ym.map w64)[k]? = some (w64 ym[k]) := by simp [c2]
          have gm1 := gm [] k _ hv
          have gy1 := gy [] k _ hv
          simp only [List.append_nil, List.append_assoc] at gm1 gy1
          subst e2
          simp -dsimp only [go_sem, Nat.reduceEqDiff, Nat.reduceAdd, Nat.reduceSub, Nat.reduceMul, Nat.reduceLeDiff, Nat.reduceLT, Nat.reduceBEq, Int.reduceLT, Int.reduceLE, Int.reduceGT, Int.reduceGE, Int.reduceEq, Int.reduceNe, Int.reduceBEq, Int.reduceBNe, Int.reduceAdd, Int.reduceSub, Int.reduceMul, Int.reduceToNat, Int.reduceNeg, ↓reduceIte, ↓reduceDIte, c2', k0, c1', i0, gm1, gy1, r7, w2, mk]
          exact ⟨k + 1, rfl, by omega, by omega⟩
        · have c2' : ¬ (k : Int) < ym.length := by omega
          simp -dsimp only [go_sem, Nat.reduceEqDiff, Nat.reduceAdd, Nat.reduceSub, Nat.reduceMul, Nat.reduceLeDiff, Nat.reduceLT, Nat.reduceBEq, Int.reduceLT, Int.reduceLE, Int.reduceGT, Int.reduceGE, Int.reduceEq, Int.reduceNe, Int.reduceBEq, Int.reduceBNe, Int.reduceAdd, Int.reduceSub, Int.reduceMul, Int.reduceToNat, Int.reduceNeg, ↓reduceIte, ↓reduceDIte, c2', w1]
          exact ⟨(i + 1, u ++ t), rfl, rfl, by simp only; omega, by simp only; omega⟩
  · have c1' : ¬ (i : Int) < L.length := by omega
    simp -dsimp only [go_sem, Nat.reduceEqDiff, Nat.reduceAdd, Nat.reduceSub, Nat.reduceMul, Nat.reduceLeDiff, Nat.reduceLT, Nat.reduceBEq, Int.reduceLT, Int.reduceLE, Int.reduceGT, Int.reduceGE, Int.reduceEq, Int.reduceNe, Int.reduceBEq, Int.reduceBNe, Int.reduceAdd, Int.reduceSub, Int.reduceMul, Int.reduceToNat, Int.reduceNeg, ↓reduceIte, ↓reduceDIte, c1']
    refine CT_val (one_ev _ _) ?_
    simp -dsimp only [go_sem, Nat.reduceEqDiff, Nat.reduceAdd, Nat.reduceSub, Nat.reduceMul, Nat.reduceLeDiff, Nat.reduceLT, Nat.reduceBEq, Int.reduceLT, Int.reduceLE, Int.reduceGT, Int.reduceGE, Int.reduceEq, Int.reduceNe, Int.reduceBEq, Int.reduceBNe, Int.reduceAdd, Int.reduceSub, Int.reduceMul, Int.reduceToNat, Int.reduceNeg, ↓reduceIte, ↓reduceDIte]
    exact hQ _ _ rfl
end
end Go.Proofs.Ytcogpinognopcaa
