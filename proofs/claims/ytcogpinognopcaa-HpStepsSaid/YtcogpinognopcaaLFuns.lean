import Derived.Test.YtcogpinognopcaaLP
import Derived.KernelRfl
import Derived.Test.YtcogpinognopcaaProg
namespace Go.Proofs.Ytcogpinognopcaa
open Go Go.LK Go.Proofs
set_option maxRecDepth 100000
/-- sluiceway/sluicewaylaw10.HpSteps -/
def L3 : LFun := { n := 341, pop := true, res := [.tmp 6], code :=
  (.seq (.steps [
    .act (some 3) (.op (.new (.box (.tmp 0)))) none,
    .act (some 6) (.op (.pure (.move (.const (.bool false))))) none])
  (.seq (.steps [
    .act (some 31) (.op (.pure (.idxArr 2 1 (.tmp 3) (.const (.int .i64 0))))) none,
    .act (some 32) (.op (.read (.load1 (.tmp 31)))) none,
    .act (some 33) (.op (.pure (.bin .and (.tmp 32) (.const (.int .i64 3))))) none,
    .act (some 34) (.op (.pure (.bin .add (.const (.int .i64 1)) (.tmp 33)))) none,
    .act (some 35) (.op (.pure (.idxArr 2 1 (.tmp 3) (.const (.int .i64 1))))) none,
    .act (some 36) (.op (.read (.load1 (.tmp 35)))) none,
    .act (some 37) (.op (.pure (.bin .and (.tmp 36) (.const (.int .i64 1))))) none,
    .act (some 38) (.op (.pure (.bin .add (.const (.int .i64 1)) (.tmp 37)))) none,
    .act (some 39) (.op (.pure (.build [(.int .i64 0), (.int .i64 0), (.int .i64 0)] [(0, 1, (.const (.int .i64 4))), (1, 1, (.tmp 34)), (2, 1, (.tmp 38))]))) none,
    .act (some 7) (.op (.new (.alloc [(.int .i64 0), (.int .i64 0), (.int .i64 0)]))) none,
    .act none (.op (.eff (.store 3 (.tmp 7) (.tmp 39)))) none])
  (.seq (.steps [
    .act (some 41) (.call (.func 7) [(.const (.int .i64 12))]) none,
    .act (some 40) (.op (.pure (.move (.tmp 41)))) none,
    .act (some 42) (.op (.pure (.extract (.tmp 40) 0))) none,
    .act (some 43) (.op (.pure (.extract (.tmp 40) 1))) none,
    .act (some 8) (.op (.pure (.move (.tmp 42)))) none,
    .act (some 9) (.op (.pure (.move (.tmp 43)))) none])
  (.seq (.steps [
    .act (some 45) (.call (.func 8) [(.const (.int .i64 12))]) none,
    .act (some 44) (.op (.pure (.move (.tmp 45)))) none,
    .act (some 46) (.op (.pure (.extract (.tmp 44) 0))) none,
    .act (some 47) (.op (.pure (.extract (.tmp 44) 1))) none,
    .act (some 10) (.op (.new (.alloc [(.slice none 0 0), (.slice none 0 0), (.int .i64 0), (.int .i64 0), (.int .i64 0), (.int .i64 0), (.int .i64 0), (.int .i64 0), (.int .i64 0), (.bool false)]))) none,
    .act none (.op (.eff (.store 10 (.tmp 10) (.tmp 46)))) none,
    .act (some 11) (.op (.pure (.move (.tmp 47)))) none])
  (.seq (.seq (.steps [
    .act (some 48) (.op (.pure (.move (.tmp 9)))) none,
    .act (some 49) (.op (.pure (.bin .neq (.tmp 48) (.const (.int .i64 0))))) none,
    .act (some 50) (.op (.pure (.move (.tmp 49)))) none,
    .act (some 51) (.op (.pure (.move (.tmp 11)))) (some (50, false)),
    .act (some 52) (.op (.pure (.bin .neq (.tmp 51) (.const (.int .i64 0))))) (some (50, false)),
    .act (some 53) (.op (.pure (.pick (.tmp 50) (.const (.bool true)) (.tmp 52)))) none,
    .act (some 54) (.op (.pure (.move (.tmp 53)))) none,
    .act (some 55) (.op (.read (.loadN 3 (.tmp 7)))) (some (54, false)),
    .act (some 56) (.op (.pure (.move (.tmp 8)))) (some (54, false)),
    .act (some 57) (.call (.func 9) [(.tmp 55), (.tmp 56)]) (some (54, false)),
    .act (some 58) (.op (.pure (.bin .neq (.tmp 57) (.const (.int .i64 0))))) (some (54, false)),
    .act (some 59) (.op (.pure (.pick (.tmp 54) (.const (.bool true)) (.tmp 58)))) none,
    .act (some 60) (.op (.pure (.move (.tmp 59)))) none,
    .act (some 61) (.op (.read (.loadN 3 (.tmp 7)))) (some (60, false)),
    .act (some 63) (.op (.pure (.fieldAddr 1 (.tmp 7)))) (some (60, false)),
    .act (some 64) (.op (.read (.load1 (.tmp 63)))) (some (60, false)),
    .act (some 65) (.op (.pure (.fieldAddr 2 (.tmp 7)))) (some (60, false)),
    .act (some 66) (.op (.read (.load1 (.tmp 65)))) (some (60, false)),
    .act (some 67) (.op (.pure (.bin .mul (.tmp 64) (.tmp 66)))) (some (60, false)),
    .act (some 62) (.call (.func 10) [(.tmp 61)]) (some (60, false)),
    .act (some 68) (.op (.pure (.bin .neq (.tmp 62) (.tmp 67)))) (some (60, false)),
    .act (some 69) (.op (.pure (.pick (.tmp 60) (.const (.bool true)) (.tmp 68)))) none,
    .again 66 (.load1 (.tmp 65)) (some (60, false)),
    .again 64 (.load1 (.tmp 63)) (some (60, false))])
  (.cond (.tmp 69)
   (.seq (.steps [
     .act (some 6) (.op (.pure (.move (.const (.bool false))))) none])
   .ret)
   .skip))
  (.seq (.steps [
    .act (some 12) (.op (.pure (.move (.const (.slice none 0 0))))) none])
  (.seq (.steps [
    .act (some 13) (.op (.pure (.move (.const (.slice none 0 0))))) none])
  (.seq (.seq (.steps [
    .act (some 14) (.op (.pure (.move (.const (.int .i64 0))))) none])
  (.block 0 (.loop [1, 2, 7, 8, 10, 12, 13, 14] (.seq (.seq (.steps [
      .act (some 70) (.op (.pure (.move (.tmp 14)))) none,
      .act (some 71) (.op (.pure (.move (.tmp 1)))) none,
      .act (some 72) (.op (.pure (.len false (.tmp 71)))) none,
      .act (some 73) (.op (.pure (.bin .lss (.tmp 70) (.tmp 72)))) none,
      .act (some 74) (.op (.pure (.move (.tmp 73)))) none,
      .act (some 75) (.op (.pure (.move (.tmp 14)))) (some (74, true)),
      .act (some 76) (.op (.pure (.bin .lss (.tmp 75) (.const (.int .i64 12))))) (some (74, true)),
      .act (some 77) (.op (.pure (.pick (.tmp 74) (.tmp 76) (.const (.bool false))))) none])
    (.cond (.tmp 77)
     .skip
     (.exit 0)))
    (.seq (.block 1 (.seq (.steps [
       .act (some 80) (.op (.pure (.move (.tmp 1)))) none,
       .act (some 81) (.op (.pure (.move (.tmp 14)))) none,
       .act (some 82) (.op (.pure (.idxSl 5 (.tmp 80) (.tmp 81)))) none,
       .act (some 83) (.op (.read (.loadN 5 (.tmp 82)))) none,
       .act (some 15) (.op (.new (.alloc [(.int .i64 0), (.int .i64 0), (.int .i64 0), (.int .i64 0), (w64 0#64)]))) none,
       .act none (.op (.eff (.store 5 (.tmp 15) (.tmp 83)))) none])
     (.seq (.steps [
       .act (some 84) (.op (.pure (.fieldAddr 1 (.tmp 15)))) none,
       .act (some 85) (.op (.read (.load1 (.tmp 84)))) none,
       .act (some 86) (.op (.pure (.bin .and (.tmp 85) (.const (.int .i64 3))))) none,
       .act (some 87) (.op (.pure (.fieldAddr 1 (.tmp 7)))) none,
       .act (some 88) (.op (.read (.load1 (.tmp 87)))) none,
       .act (some 89) (.op (.pure (.bin .rem (.tmp 86) (.tmp 88)))) none,
       .act (some 90) (.op (.pure (.fieldAddr 2 (.tmp 15)))) none,
       .act (some 91) (.op (.read (.load1 (.tmp 90)))) none,
       .act (some 92) (.op (.pure (.bin .and (.tmp 91) (.const (.int .i64 1))))) none,
       .act (some 93) (.op (.pure (.fieldAddr 2 (.tmp 7)))) none,
       .act (some 94) (.op (.read (.load1 (.tmp 93)))) none,
       .act (some 95) (.op (.pure (.bin .rem (.tmp 92) (.tmp 94)))) none,
       .act (some 96) (.op (.pure (.fieldAddr 3 (.tmp 15)))) none,
       .act (some 97) (.op (.read (.load1 (.tmp 96)))) none,
       .act (some 98) (.op (.pure (.bin .and (.tmp 97) (.const (.int .i64 3))))) none,
       .act (some 16) (.op (.pure (.move (.tmp 89)))) none,
       .act (some 17) (.op (.pure (.move (.tmp 95)))) none,
       .act (some 18) (.op (.pure (.move (.tmp 98)))) none])
     (.seq (.steps [
       .act (some 99) (.op (.read (.loadN 3 (.tmp 7)))) none,
       .act (some 101) (.op (.pure (.move (.tmp 16)))) none,
       .act (some 102) (.op (.pure (.fieldAddr 2 (.tmp 7)))) none,
       .act (some 103) (.op (.read (.load1 (.tmp 102)))) none,
       .act (some 104) (.op (.pure (.bin .mul (.tmp 101) (.tmp 103)))) none,
       .act (some 105) (.op (.pure (.bin .add (.const (.int .i64 4)) (.tmp 104)))) none,
       .act (some 106) (.op (.pure (.move (.tmp 17)))) none,
       .act (some 107) (.op (.pure (.bin .add (.tmp 105) (.tmp 106)))) none,
       .act (some 108) (.op (.pure (.move (.tmp 18)))) none,
       .act (some 19) (.op (.new (.alloc [(.int .i64 0), (.int .i64 0), (.int .i64 0), (.int .i64 0), (.int .i64 0), (.int .i64 0), (w64 0#64), (.slice none 0 0), (.bool false)]))) none,
       .act (some 100) (.call (.func 10) [(.tmp 99)]) none,
       .act (some 109) (.op (.pure (.build [(.int .i64 0), (.int .i64 0), (.int .i64 0), (.int .i64 0), (.int .i64 0), (.int .i64 0), (w64 0#64), (.slice none 0 0), (.bool false)] [(1, 1, (.const (.int .i64 4))), (2, 1, (.tmp 100)), (3, 1, (.tmp 107)), (4, 1, (.tmp 108))]))) none,
       .again 103 (.load1 (.tmp 102)) none,
       .act none (.op (.eff (.store 9 (.tmp 19) (.tmp 109)))) none])
     (.seq (.seq (.steps [
       .act (some 110) (.op (.pure (.fieldAddr 0 (.tmp 15)))) none,
       .act (some 111) (.op (.read (.load1 (.tmp 110)))) none])
     (.block 2 (.seq (.steps [
        .act (some 119) (.op (.pure (.bin .eql (.tmp 111) (.const (.int .i64 0))))) none,
        .act (some 118) (.op (.pure (.move (.tmp 119)))) none])
      (.cond (.tmp 118)
       (.steps [
         .act (some 120) (.op (.pure (.move (.tmp 12)))) none,
         .act (some 121) (.op (.read (.loadN 3 (.tmp 7)))) none,
         .act (some 122) (.op (.pure (.move (.tmp 16)))) none,
         .act (some 123) (.op (.pure (.move (.tmp 17)))) none,
         .act (some 124) (.op (.pure (.move (.tmp 18)))) none,
         .act (some 125) (.call (.func 11) [(.tmp 121), (.tmp 122), (.tmp 123), (.tmp 124)]) none,
         .act (some 126) (.op (.new (.mkSlice 1 1 [(.pointer none)] [(0, 1, (.tmp 125))]))) none,
         .act (some 127) (.op (.eff (.append 1 8 (.tmp 120) (.tmp 126)))) none,
         .act (some 12) (.op (.pure (.move (.tmp 127)))) none])
       (.seq (.steps [
         .act (some 129) (.op (.pure (.bin .eql (.tmp 111) (.const (.int .i64 1))))) none,
         .act (some 128) (.op (.pure (.move (.tmp 129)))) none])
       (.cond (.tmp 128)
        (.seq (.steps [
          .act (some 130) (.op (.pure (.fieldAddr 0 (.tmp 19)))) none,
          .act none (.op (.eff (.store 1 (.tmp 130) (.const (.int .i64 1))))) none])
        (.steps [
          .act (some 131) (.op (.pure (.move (.tmp 12)))) none,
          .act (some 132) (.op (.read (.loadN 3 (.tmp 7)))) none,
          .act (some 133) (.op (.pure (.move (.tmp 16)))) none,
          .act (some 134) (.op (.pure (.move (.tmp 17)))) none,
          .act (some 135) (.call (.func 12) [(.tmp 132), (.tmp 133), (.tmp 134)]) none,
          .act (some 136) (.op (.new (.mkSlice 1 1 [(.pointer none)] [(0, 1, (.tmp 135))]))) none,
          .act (some 137) (.op (.eff (.append 1 8 (.tmp 131) (.tmp 136)))) none,
          .act (some 12) (.op (.pure (.move (.tmp 137)))) none]))
        (.seq (.steps [
          .act (some 112) (.op (.pure (.fieldAddr 0 (.tmp 19)))) none,
          .act none (.op (.eff (.store 1 (.tmp 112) (.const (.int .i64 2))))) none])
        (.steps [
          .act (some 113) (.op (.pure (.move (.tmp 12)))) none,
          .act (some 114) (.op (.read (.loadN 3 (.tmp 7)))) none,
          .act (some 115) (.call (.func 13) [(.tmp 114)]) none,
          .act (some 116) (.op (.new (.mkSlice 1 1 [(.pointer none)] [(0, 1, (.tmp 115))]))) none,
          .act (some 117) (.op (.eff (.append 1 8 (.tmp 113) (.tmp 116)))) none,
          .act (some 12) (.op (.pure (.move (.tmp 117)))) none]))))))))
     (.steps [
       .act (some 138) (.op (.pure (.move (.tmp 13)))) none,
       .act (some 139) (.op (.read (.loadN 9 (.tmp 19)))) none,
       .act (some 140) (.op (.new (.mkSlice 9 1 [(.int .i64 0), (.int .i64 0), (.int .i64 0), (.int .i64 0), (.int .i64 0), (.int .i64 0), (w64 0#64), (.slice none 0 0), (.bool false)] [(0, 9, (.tmp 139))]))) none,
       .act (some 141) (.op (.eff (.append 9 88 (.tmp 138) (.tmp 140)))) none,
       .act (some 13) (.op (.pure (.move (.tmp 141)))) none]))))))
    (.steps [
      .act (some 78) (.op (.pure (.move (.tmp 14)))) none,
      .act (some 79) (.op (.pure (.bin .add (.tmp 78) (.const (.int .i64 1))))) none,
      .act (some 14) (.op (.pure (.move (.tmp 79)))) none]))))))
  (.seq (.seq (.steps [
    .act (some 20) (.op (.pure (.move (.const (.int .i64 0))))) none])
  (.block 3 (.loop [2, 8, 10, 12, 13, 20] (.seq (.seq (.steps [
      .act (some 142) (.op (.pure (.move (.tmp 20)))) none,
      .act (some 143) (.op (.pure (.move (.tmp 2)))) none,
      .act (some 144) (.op (.pure (.len false (.tmp 143)))) none,
      .act (some 145) (.op (.pure (.bin .lss (.tmp 142) (.tmp 144)))) none,
      .act (some 146) (.op (.pure (.move (.tmp 145)))) none,
      .act (some 147) (.op (.pure (.move (.tmp 20)))) (some (146, true)),
      .act (some 148) (.op (.pure (.bin .lss (.tmp 147) (.const (.int .i64 200))))) (some (146, true)),
      .act (some 149) (.op (.pure (.pick (.tmp 146) (.tmp 148) (.const (.bool false))))) none,
      .act (some 150) (.op (.pure (.move (.tmp 149)))) none,
      .act (some 151) (.op (.pure (.move (.tmp 12)))) (some (150, true)),
      .act (some 152) (.op (.pure (.len false (.tmp 151)))) (some (150, true)),
      .act (some 153) (.op (.pure (.bin .gtr (.tmp 152) (.const (.int .i64 0))))) (some (150, true)),
      .act (some 154) (.op (.pure (.pick (.tmp 150) (.tmp 153) (.const (.bool false))))) none])
    (.cond (.tmp 154)
     .skip
     (.exit 3)))
    (.seq (.block 4 (.seq (.seq (.steps [
       .act (some 157) (.op (.pure (.move (.tmp 2)))) none,
       .act (some 158) (.op (.pure (.move (.tmp 20)))) none,
       .act (some 159) (.op (.pure (.idxSl 1 (.tmp 157) (.tmp 158)))) none,
       .act (some 160) (.op (.read (.load1 (.tmp 159)))) none,
       .act (some 161) (.op (.pure (.bin .and (.tmp 160) (.const (.int .i64 31))))) none,
       .act (some 162) (.op (.pure (.bin .eql (.tmp 161) (.const (.int .i64 31))))) none])
     (.cond (.tmp 162)
      (.seq (.steps [
        .act (some 163) (.op (.pure (.move (.tmp 8)))) none,
        .act (some 164) (.op (.pure (.move (.tmp 2)))) none,
        .act (some 165) (.op (.pure (.move (.tmp 20)))) none,
        .act (some 166) (.op (.pure (.idxSl 1 (.tmp 164) (.tmp 165)))) none,
        .act (some 167) (.op (.read (.load1 (.tmp 166)))) none,
        .act (some 168) (.op (.pure (.bin .shr (.tmp 167) (.const (w64 5#64))))) none,
        .act (some 169) (.op (.pure (.bin .and (.tmp 168) (.const (.int .i64 3))))) none,
        .act (some 170) (.op (.pure (.move (.tmp 2)))) none,
        .act (some 171) (.op (.pure (.move (.tmp 20)))) none,
        .act (some 172) (.op (.pure (.idxSl 1 (.tmp 170) (.tmp 171)))) none,
        .act (some 173) (.op (.read (.load1 (.tmp 172)))) none,
        .act (some 174) (.op (.pure (.bin .shr (.tmp 173) (.const (w64 7#64))))) none,
        .act (some 175) (.op (.pure (.bin .and (.tmp 174) (.const (.int .i64 7))))) none,
        .act (some 176) (.op (.pure (.conv .u64 (.tmp 175)))) none,
        .act (some 177) (.call (.func 14) [(.tmp 163), (.tmp 169), (.tmp 176)]) none])
      (.seq (.steps [
        .act (some 178) (.op (.pure (.fieldAddr 0 (.tmp 10)))) none,
        .act (some 179) (.op (.read (.load1 (.tmp 178)))) none,
        .act (some 180) (.op (.pure (.move (.tmp 2)))) none,
        .act (some 181) (.op (.pure (.move (.tmp 20)))) none,
        .act (some 182) (.op (.pure (.idxSl 1 (.tmp 180) (.tmp 181)))) none,
        .act (some 183) (.op (.read (.load1 (.tmp 182)))) none,
        .act (some 184) (.op (.pure (.bin .shr (.tmp 183) (.const (w64 5#64))))) none,
        .act (some 185) (.op (.pure (.bin .and (.tmp 184) (.const (.int .i64 3))))) none,
        .act (some 186) (.op (.pure (.move (.tmp 2)))) none,
        .act (some 187) (.op (.pure (.move (.tmp 20)))) none,
        .act (some 188) (.op (.pure (.idxSl 1 (.tmp 186) (.tmp 187)))) none,
        .act (some 189) (.op (.read (.load1 (.tmp 188)))) none,
        .act (some 190) (.op (.pure (.bin .shr (.tmp 189) (.const (w64 7#64))))) none,
        .act (some 191) (.op (.pure (.bin .and (.tmp 190) (.const (.int .i64 7))))) none,
        .act (some 192) (.op (.pure (.conv .u64 (.tmp 191)))) none,
        .act (some 193) (.op (.pure (.idxSl 1 (.tmp 179) (.tmp 185)))) none,
        .act none (.op (.eff (.store 1 (.tmp 193) (.tmp 192)))) none])
      (.exit 4)))
      .skip))
     (.seq (.steps [
       .act (some 194) (.op (.pure (.move (.tmp 2)))) none,
       .act (some 195) (.op (.pure (.move (.tmp 20)))) none,
       .act (some 196) (.op (.pure (.idxSl 1 (.tmp 194) (.tmp 195)))) none,
       .act (some 197) (.op (.read (.load1 (.tmp 196)))) none,
       .act (some 198) (.op (.pure (.move (.tmp 12)))) none,
       .act (some 199) (.op (.pure (.len false (.tmp 198)))) none,
       .act (some 200) (.op (.pure (.bin .rem (.tmp 197) (.tmp 199)))) none,
       .act (some 201) (.op (.pure (.move (.tmp 12)))) none,
       .act (some 202) (.op (.pure (.len false (.tmp 201)))) none,
       .act (some 203) (.op (.pure (.bin .add (.tmp 200) (.tmp 202)))) none,
       .act (some 204) (.op (.pure (.move (.tmp 12)))) none,
       .act (some 205) (.op (.pure (.len false (.tmp 204)))) none,
       .act (some 206) (.op (.pure (.bin .rem (.tmp 203) (.tmp 205)))) none,
       .act (some 21) (.op (.pure (.move (.tmp 206)))) none])
     (.seq (.steps [
       .act (some 208) (.op (.pure (.move (.tmp 13)))) none,
       .act (some 209) (.op (.pure (.move (.tmp 21)))) none,
       .act (some 210) (.op (.pure (.idxSl 9 (.tmp 208) (.tmp 209)))) none,
       .act (some 211) (.op (.read (.loadN 9 (.tmp 210)))) none,
       .act (some 212) (.op (.read (.loadN 10 (.tmp 10)))) none,
       .act (some 22) (.op (.new (.alloc [(.int .i64 0), (.int .i64 0), (.int .i64 0), (.int .i64 0), (.int .i64 0), (.int .i64 0), (w64 0#64), (.slice none 0 0), (.bool false)]))) none,
       .act (some 23) (.op (.new (.alloc [(.slice none 0 0), (.slice none 0 0), (.int .i64 0), (.int .i64 0), (.int .i64 0), (.int .i64 0), (.int .i64 0), (.int .i64 0), (.int .i64 0), (.bool false)]))) none,
       .act (some 213) (.call (.func 15) [(.tmp 211), (.tmp 212)]) none,
       .act (some 207) (.op (.pure (.move (.tmp 213)))) none,
       .act (some 214) (.op (.pure (.extract (.tmp 207) 0))) none,
       .act (some 215) (.op (.pure (.extract (.tmp 207) 1))) none,
       .act none (.op (.eff (.store 9 (.tmp 22) (.tmp 214)))) none,
       .act none (.op (.eff (.store 10 (.tmp 23) (.tmp 215)))) none])
     (.seq (.seq (.steps [
       .act (some 216) (.op (.pure (.move (.tmp 12)))) none,
       .act (some 217) (.op (.pure (.move (.tmp 21)))) none,
       .act (some 218) (.op (.pure (.idxSl 1 (.tmp 216) (.tmp 217)))) none,
       .act (some 219) (.op (.read (.load1 (.tmp 218)))) none,
       .act (some 220) (.op (.pure (.move (.tmp 8)))) none,
       .act (some 222) (.op (.pure (.fieldAddr 8 (.tmp 22)))) none,
       .act (some 223) (.op (.read (.load1 (.tmp 222)))) none,
       .act (some 221) (.call (.func 16) [(.tmp 219), (.tmp 220)]) none,
       .act (some 224) (.op (.pure (.eqB true (.tmp 221) (.tmp 223)))) none,
       .again 223 (.load1 (.tmp 222)) none])
     (.cond (.tmp 224)
      (.seq (.steps [
        .act (some 6) (.op (.pure (.move (.const (.bool false))))) none])
      .ret)
      .skip))
     (.steps [
       .act (some 225) (.op (.pure (.move (.tmp 13)))) none,
       .act (some 226) (.op (.pure (.move (.tmp 21)))) none,
       .act (some 227) (.op (.read (.loadN 9 (.tmp 22)))) none,
       .act (some 228) (.op (.read (.loadN 10 (.tmp 23)))) none,
       .act (some 229) (.op (.pure (.idxSl 9 (.tmp 225) (.tmp 226)))) none,
       .act none (.op (.eff (.store 9 (.tmp 229) (.tmp 227)))) none,
       .again 228 (.loadN 10 (.tmp 23)) none,
       .act none (.op (.eff (.store 10 (.tmp 10) (.tmp 228)))) none]))))))
    (.steps [
      .act (some 155) (.op (.pure (.move (.tmp 20)))) none,
      .act (some 156) (.op (.pure (.bin .add (.tmp 155) (.const (.int .i64 1))))) none,
      .act (some 20) (.op (.pure (.move (.tmp 156)))) none]))))))
  (.seq (.steps [
    .act (some 230) (.op (.pure (.move (.tmp 8)))) none,
    .act (some 231) (.call (.func 17) [(.tmp 230), (.const (.int .i64 0)), (.const (.int .i64 12))]) none,
    .act (some 24) (.op (.pure (.move (.tmp 231)))) none])
  (.seq (.seq (.steps [
    .act (some 25) (.op (.pure (.move (.const (.int .i64 0))))) none])
  (.block 5 (.loop [10, 12, 13, 24, 25] (.seq (.seq (.steps [
      .act (some 232) (.op (.pure (.move (.tmp 25)))) none,
      .act (some 233) (.op (.pure (.move (.tmp 24)))) none,
      .act (some 234) (.op (.pure (.len false (.tmp 233)))) none,
      .act (some 235) (.op (.pure (.bin .lss (.tmp 232) (.tmp 234)))) none])
    (.cond (.tmp 235)
     .skip
     (.exit 5)))
    (.seq (.block 6 (.seq (.steps [
       .act (some 238) (.op (.pure (.move (.tmp 24)))) none,
       .act (some 239) (.op (.pure (.move (.tmp 25)))) none,
       .act (some 240) (.op (.pure (.idxSl 1 (.tmp 238) (.tmp 239)))) none,
       .act (some 241) (.op (.read (.load1 (.tmp 240)))) none,
       .act (some 242) (.op (.pure (.fieldAddr 0 (.tmp 10)))) none,
       .act (some 243) (.op (.read (.load1 (.tmp 242)))) none,
       .act (some 244) (.op (.pure (.move (.tmp 25)))) none,
       .act (some 245) (.op (.pure (.idxSl 1 (.tmp 243) (.tmp 244)))) none,
       .act (some 246) (.op (.read (.load1 (.tmp 245)))) none,
       .act (some 247) (.op (.pure (.bin .neq (.tmp 241) (.tmp 246)))) none])
     (.cond (.tmp 247)
      (.seq (.steps [
        .act (some 6) (.op (.pure (.move (.const (.bool false))))) none])
      .ret)
      .skip)))
    (.steps [
      .act (some 236) (.op (.pure (.move (.tmp 25)))) none,
      .act (some 237) (.op (.pure (.bin .add (.tmp 236) (.const (.int .i64 1))))) none,
      .act (some 25) (.op (.pure (.move (.tmp 237)))) none]))))))
  (.seq (.seq (.steps [
    .act (some 26) (.op (.pure (.move (.const (.int .i64 0))))) none])
  (.block 7 (.loop [12, 13, 24, 26] (.seq (.seq (.steps [
      .act (some 248) (.op (.pure (.move (.tmp 26)))) none,
      .act (some 249) (.op (.pure (.move (.tmp 12)))) none,
      .act (some 250) (.op (.pure (.len false (.tmp 249)))) none,
      .act (some 251) (.op (.pure (.bin .lss (.tmp 248) (.tmp 250)))) none])
    (.cond (.tmp 251)
     .skip
     (.exit 7)))
    (.seq (.block 8 (.seq (.steps [
       .act (some 255) (.op (.pure (.move (.tmp 12)))) none,
       .act (some 256) (.op (.pure (.move (.tmp 26)))) none,
       .act (some 257) (.op (.pure (.idxSl 1 (.tmp 255) (.tmp 256)))) none,
       .act (some 258) (.op (.read (.load1 (.tmp 257)))) none,
       .act (some 259) (.call (.func 18) [(.tmp 258)]) none,
       .act (some 254) (.op (.pure (.move (.tmp 259)))) none,
       .act (some 260) (.op (.pure (.extract (.tmp 254) 0))) none,
       .act (some 261) (.op (.pure (.extract (.tmp 254) 1))) none,
       .act (some 27) (.op (.pure (.move (.tmp 260)))) none,
       .act (some 28) (.op (.pure (.move (.tmp 261)))) none])
     (.seq (.steps [
       .act (some 262) (.op (.pure (.move (.tmp 12)))) none,
       .act (some 263) (.op (.pure (.move (.tmp 26)))) none,
       .act (some 264) (.op (.pure (.idxSl 1 (.tmp 262) (.tmp 263)))) none,
       .act (some 265) (.op (.read (.load1 (.tmp 264)))) none,
       .act (some 266) (.call (.func 19) [(.tmp 265)]) none,
       .act (some 29) (.op (.pure (.move (.tmp 266)))) none])
     (.seq (.seq (.steps [
       .act (some 267) (.op (.pure (.move (.tmp 27)))) none,
       .act (some 268) (.op (.pure (.bin .neq (.tmp 267) (.const (.int .i64 0))))) none,
       .act (some 269) (.op (.pure (.move (.tmp 268)))) none,
       .act (some 270) (.op (.pure (.move (.tmp 13)))) (some (269, false)),
       .act (some 271) (.op (.pure (.move (.tmp 26)))) (some (269, false)),
       .act (some 272) (.op (.pure (.idxSl 9 (.tmp 270) (.tmp 271)))) (some (269, false)),
       .act (some 273) (.op (.pure (.fieldAddr 8 (.tmp 272)))) (some (269, false)),
       .act (some 274) (.op (.read (.load1 (.tmp 273)))) (some (269, false)),
       .act (some 275) (.op (.pure (.move (.tmp 274)))) (some (269, false)),
       .act (some 276) (.op (.pure (.move (.tmp 28)))) (some (275, true)),
       .act (some 277) (.op (.pure (.move (.tmp 13)))) (some (275, true)),
       .act (some 278) (.op (.pure (.move (.tmp 26)))) (some (275, true)),
       .act (some 279) (.op (.pure (.idxSl 9 (.tmp 277) (.tmp 278)))) (some (275, true)),
       .act (some 280) (.op (.pure (.fieldAddr 6 (.tmp 279)))) (some (275, true)),
       .act (some 281) (.op (.read (.load1 (.tmp 280)))) (some (275, true)),
       .act (some 282) (.op (.pure (.bin .neq (.tmp 276) (.tmp 281)))) (some (275, true)),
       .act (some 283) (.op (.pure (.pick (.tmp 275) (.tmp 282) (.const (.bool false))))) (some (269, false)),
       .act (some 284) (.op (.pure (.move (.tmp 283)))) (some (269, false)),
       .act (some 285) (.op (.pure (.move (.tmp 13)))) (some (284, true)),
       .act (some 286) (.op (.pure (.move (.tmp 26)))) (some (284, true)),
       .act (some 287) (.op (.pure (.idxSl 9 (.tmp 285) (.tmp 286)))) (some (284, true)),
       .act (some 288) (.op (.pure (.fieldAddr 0 (.tmp 287)))) (some (284, true)),
       .act (some 289) (.op (.read (.load1 (.tmp 288)))) (some (284, true)),
       .act (some 290) (.op (.pure (.bin .neq (.tmp 289) (.const (.int .i64 1))))) (some (284, true)),
       .act (some 291) (.op (.pure (.pick (.tmp 284) (.tmp 290) (.const (.bool false))))) (some (269, false)),
       .act (some 292) (.op (.pure (.pick (.tmp 269) (.const (.bool true)) (.tmp 291)))) none,
       .act (some 293) (.op (.pure (.move (.tmp 292)))) none,
       .act (some 294) (.op (.pure (.move (.tmp 13)))) (some (293, false)),
       .act (some 295) (.op (.pure (.move (.tmp 26)))) (some (293, false)),
       .act (some 296) (.op (.pure (.idxSl 9 (.tmp 294) (.tmp 295)))) (some (293, false)),
       .act (some 297) (.op (.pure (.fieldAddr 8 (.tmp 296)))) (some (293, false)),
       .act (some 298) (.op (.read (.load1 (.tmp 297)))) (some (293, false)),
       .act (some 299) (.op (.pure (.not (.tmp 298)))) (some (293, false)),
       .act (some 300) (.op (.pure (.move (.tmp 299)))) (some (293, false)),
       .act (some 301) (.op (.pure (.move (.tmp 28)))) (some (300, true)),
       .act (some 302) (.op (.pure (.bin .neq (.tmp 301) (.const (w64 0#64))))) (some (300, true)),
       .act (some 303) (.op (.pure (.pick (.tmp 300) (.tmp 302) (.const (.bool false))))) (some (293, false)),
       .act (some 304) (.op (.pure (.pick (.tmp 293) (.const (.bool true)) (.tmp 303)))) none,
       .act (some 305) (.op (.pure (.move (.tmp 304)))) none,
       .act (some 306) (.op (.pure (.move (.tmp 29)))) (some (305, false)),
       .act (some 307) (.op (.pure (.len false (.tmp 306)))) (some (305, false)),
       .act (some 308) (.op (.pure (.move (.tmp 13)))) (some (305, false)),
       .act (some 309) (.op (.pure (.move (.tmp 26)))) (some (305, false)),
       .act (some 310) (.op (.pure (.idxSl 9 (.tmp 308) (.tmp 309)))) (some (305, false)),
       .act (some 311) (.op (.pure (.fieldAddr 7 (.tmp 310)))) (some (305, false)),
       .act (some 312) (.op (.read (.load1 (.tmp 311)))) (some (305, false)),
       .act (some 313) (.op (.pure (.len false (.tmp 312)))) (some (305, false)),
       .act (some 314) (.op (.pure (.bin .neq (.tmp 307) (.tmp 313)))) (some (305, false)),
       .act (some 315) (.op (.pure (.pick (.tmp 305) (.const (.bool true)) (.tmp 314)))) none])
     (.cond (.tmp 315)
      (.seq (.steps [
        .act (some 6) (.op (.pure (.move (.const (.bool false))))) none])
      .ret)
      .skip))
     (.seq (.steps [
       .act (some 30) (.op (.pure (.move (.const (.int .i64 0))))) none])
     (.block 9 (.loop [12, 13, 24, 26, 29, 30] (.seq (.seq (.steps [
         .act (some 316) (.op (.pure (.move (.tmp 30)))) none,
         .act (some 317) (.op (.pure (.move (.tmp 29)))) none,
         .act (some 318) (.op (.pure (.len false (.tmp 317)))) none,
         .act (some 319) (.op (.pure (.bin .lss (.tmp 316) (.tmp 318)))) none])
       (.cond (.tmp 319)
        .skip
        (.exit 9)))
       (.seq (.block 10 (.seq (.steps [
          .act (some 322) (.op (.pure (.move (.tmp 29)))) none,
          .act (some 323) (.op (.pure (.move (.tmp 30)))) none,
          .act (some 324) (.op (.pure (.idxSl 1 (.tmp 322) (.tmp 323)))) none,
          .act (some 325) (.op (.read (.load1 (.tmp 324)))) none,
          .act (some 326) (.op (.pure (.move (.tmp 13)))) none,
          .act (some 327) (.op (.pure (.move (.tmp 26)))) none,
          .act (some 328) (.op (.pure (.idxSl 9 (.tmp 326) (.tmp 327)))) none,
          .act (some 329) (.op (.pure (.fieldAddr 7 (.tmp 328)))) none,
          .act (some 330) (.op (.read (.load1 (.tmp 329)))) none,
          .act (some 331) (.op (.pure (.move (.tmp 30)))) none,
          .act (some 332) (.op (.pure (.idxSl 1 (.tmp 330) (.tmp 331)))) none,
          .act (some 333) (.op (.read (.load1 (.tmp 332)))) none,
          .act (some 334) (.op (.pure (.bin .neq (.tmp 325) (.tmp 333)))) none])
        (.cond (.tmp 334)
         (.seq (.steps [
           .act (some 6) (.op (.pure (.move (.const (.bool false))))) none])
         .ret)
         .skip)))
       (.steps [
         .act (some 320) (.op (.pure (.move (.tmp 30)))) none,
         .act (some 321) (.op (.pure (.bin .add (.tmp 320) (.const (.int .i64 1))))) none,
         .act (some 30) (.op (.pure (.move (.tmp 321)))) none]))))))))))
    (.steps [
      .act (some 252) (.op (.pure (.move (.tmp 26)))) none,
      .act (some 253) (.op (.pure (.bin .add (.tmp 252) (.const (.int .i64 1))))) none,
      .act (some 26) (.op (.pure (.move (.tmp 253)))) none]))))))
  (.seq (.steps [
    .act (some 335) (.op (.pure (.move (.tmp 24)))) none,
    .act (some 336) (.op (.pure (.len false (.tmp 335)))) none,
    .act (some 337) (.op (.pure (.bin .eql (.tmp 336) (.const (.int .i64 12))))) none,
    .act (some 338) (.op (.pure (.move (.tmp 337)))) none,
    .act (some 339) (.call (.func 20) []) (some (338, true)),
    .act (some 340) (.op (.pure (.pick (.tmp 338) (.tmp 339) (.const (.bool false))))) none,
    .act (some 6) (.op (.pure (.move (.tmp 340)))) none])
  .ret))))))))))))) }
theorem c3 : compFn Try.prog (mkPlan Try.prog) [(9, [1, 2, 7, 8, 10, 12, 13, 14]), (24, [2, 8, 10, 12, 13, 20]), (36, [10, 12, 13, 24, 25]), (41, [12, 13, 24, 26]), (48, [12, 13, 24, 26, 29, 30])] true 3 = some L3 := by kernel_rfl
/-- sluiceway/sluicewaylaw10.HpMeets -/
def L4 : LFun := { n := 237, pop := true, res := [.tmp 6], code :=
  (.seq (.steps [
    .act (some 6) (.op (.pure (.move (.const (.bool false))))) none])
  (.seq (.steps [
    .act (some 27) (.op (.pure (.build [(.int .i64 0), (.int .i64 0), (.int .i64 0)] [(0, 1, (.const (.int .i64 4))), (1, 1, (.const (.int .i64 4))), (2, 1, (.const (.int .i64 2)))]))) none,
    .act (some 7) (.op (.new (.alloc [(.int .i64 0), (.int .i64 0), (.int .i64 0)]))) none,
    .act none (.op (.eff (.store 3 (.tmp 7) (.tmp 27)))) none])
  (.seq (.steps [
    .act (some 29) (.call (.func 7) [(.const (.int .i64 12))]) none,
    .act (some 28) (.op (.pure (.move (.tmp 29)))) none,
    .act (some 30) (.op (.pure (.extract (.tmp 28) 0))) none,
    .act (some 31) (.op (.pure (.extract (.tmp 28) 1))) none,
    .act (some 8) (.op (.pure (.move (.tmp 30)))) none,
    .act (some 9) (.op (.pure (.move (.tmp 31)))) none])
  (.seq (.seq (.steps [
    .act (some 32) (.op (.pure (.move (.tmp 9)))) none,
    .act (some 33) (.op (.pure (.bin .neq (.tmp 32) (.const (.int .i64 0))))) none,
    .act (some 34) (.op (.pure (.move (.tmp 33)))) none,
    .act (some 35) (.op (.read (.loadN 3 (.tmp 7)))) (some (34, false)),
    .act (some 36) (.op (.pure (.move (.tmp 8)))) (some (34, false)),
    .act (some 37) (.call (.func 9) [(.tmp 35), (.tmp 36)]) (some (34, false)),
    .act (some 38) (.op (.pure (.bin .neq (.tmp 37) (.const (.int .i64 0))))) (some (34, false)),
    .act (some 39) (.op (.pure (.pick (.tmp 34) (.const (.bool true)) (.tmp 38)))) none])
  (.cond (.tmp 39)
   (.seq (.steps [
     .act (some 6) (.op (.pure (.move (.const (.bool false))))) none])
   .ret)
   .skip))
  (.seq (.steps [
    .act (some 40) (.op (.pure (.move (.tmp 2)))) none,
    .act (some 41) (.op (.pure (.bin .or (.tmp 40) (.const (w64 1#64))))) none,
    .act (some 2) (.op (.pure (.move (.tmp 41)))) none])
  (.seq (.steps [
    .act (some 42) (.op (.pure (.move (.tmp 8)))) none,
    .act (some 43) (.op (.pure (.move (.tmp 2)))) none,
    .act (some 44) (.call (.func 14) [(.tmp 42), (.const (.int .i64 0)), (.tmp 43)]) none])
  (.seq (.steps [
    .act (some 45) (.op (.read (.loadN 3 (.tmp 7)))) none,
    .act (some 46) (.call (.func 11) [(.tmp 45), (.const (.int .i64 0)), (.const (.int .i64 1)), (.const (.int .i64 0))]) none,
    .act (some 10) (.op (.pure (.move (.tmp 46)))) none])
  (.seq (.steps [
    .act (some 11) (.op (.pure (.move (.const (.slice none 0 0))))) none])
  (.seq (.seq (.steps [
    .act (some 12) (.op (.pure (.move (.const (.int .i64 0))))) none])
  (.block 0 (.loop [0, 1, 7, 8, 10, 11, 12] (.seq (.seq (.steps [
      .act (some 47) (.op (.pure (.move (.tmp 12)))) none,
      .act (some 48) (.op (.pure (.move (.tmp 0)))) none,
      .act (some 49) (.op (.pure (.len false (.tmp 48)))) none,
      .act (some 50) (.op (.pure (.bin .lss (.tmp 47) (.tmp 49)))) none,
      .act (some 51) (.op (.pure (.move (.tmp 50)))) none,
      .act (some 52) (.op (.pure (.move (.tmp 12)))) (some (51, true)),
      .act (some 53) (.op (.pure (.bin .lss (.tmp 52) (.const (.int .i64 10))))) (some (51, true)),
      .act (some 54) (.op (.pure (.pick (.tmp 51) (.tmp 53) (.const (.bool false))))) none])
    (.cond (.tmp 54)
     .skip
     (.exit 0)))
    (.seq (.block 1 (.seq (.steps [
       .act (some 57) (.op (.pure (.move (.tmp 0)))) none,
       .act (some 58) (.op (.pure (.move (.tmp 12)))) none,
       .act (some 59) (.op (.pure (.idxSl 5 (.tmp 57) (.tmp 58)))) none,
       .act (some 60) (.op (.read (.loadN 5 (.tmp 59)))) none,
       .act (some 13) (.op (.new (.alloc [(.int .i64 0), (.int .i64 0), (.int .i64 0), (.int .i64 0), (w64 0#64)]))) none,
       .act none (.op (.eff (.store 5 (.tmp 13) (.tmp 60)))) none])
     (.seq (.steps [
       .act (some 61) (.op (.pure (.fieldAddr 1 (.tmp 13)))) none,
       .act (some 62) (.op (.read (.load1 (.tmp 61)))) none,
       .act (some 63) (.op (.pure (.bin .and (.tmp 62) (.const (.int .i64 1))))) none,
       .act (some 64) (.op (.pure (.bin .add (.const (.int .i64 1)) (.tmp 63)))) none,
       .act (some 14) (.op (.pure (.move (.tmp 64)))) none])
     (.seq (.steps [
       .act (some 65) (.op (.pure (.fieldAddr 0 (.tmp 13)))) none,
       .act (some 66) (.op (.read (.load1 (.tmp 65)))) none,
       .act (some 67) (.op (.pure (.bin .eql (.tmp 66) (.const (.int .i64 0))))) none])
     (.cond (.tmp 67)
      (.steps [
        .act (some 68) (.op (.pure (.move (.tmp 11)))) none,
        .act (some 69) (.op (.read (.loadN 3 (.tmp 7)))) none,
        .act (some 70) (.op (.pure (.move (.tmp 14)))) none,
        .act (some 71) (.op (.pure (.fieldAddr 2 (.tmp 13)))) none,
        .act (some 72) (.op (.read (.load1 (.tmp 71)))) none,
        .act (some 73) (.op (.pure (.bin .and (.tmp 72) (.const (.int .i64 1))))) none,
        .act (some 74) (.op (.pure (.fieldAddr 3 (.tmp 13)))) none,
        .act (some 75) (.op (.read (.load1 (.tmp 74)))) none,
        .act (some 76) (.op (.pure (.bin .and (.tmp 75) (.const (.int .i64 3))))) none,
        .act (some 77) (.call (.func 11) [(.tmp 69), (.tmp 70), (.tmp 73), (.tmp 76)]) none,
        .act (some 78) (.op (.new (.mkSlice 1 1 [(.pointer none)] [(0, 1, (.tmp 77))]))) none,
        .act (some 79) (.op (.eff (.append 1 8 (.tmp 68) (.tmp 78)))) none,
        .act (some 11) (.op (.pure (.move (.tmp 79)))) none])
      (.steps [
        .act (some 80) (.op (.pure (.move (.tmp 11)))) none,
        .act (some 81) (.op (.read (.loadN 3 (.tmp 7)))) none,
        .act (some 82) (.op (.pure (.move (.tmp 14)))) none,
        .act (some 83) (.op (.pure (.fieldAddr 2 (.tmp 13)))) none,
        .act (some 84) (.op (.read (.load1 (.tmp 83)))) none,
        .act (some 85) (.op (.pure (.bin .and (.tmp 84) (.const (.int .i64 1))))) none,
        .act (some 86) (.call (.func 12) [(.tmp 81), (.tmp 82), (.tmp 85)]) none,
        .act (some 87) (.op (.new (.mkSlice 1 1 [(.pointer none)] [(0, 1, (.tmp 86))]))) none,
        .act (some 88) (.op (.eff (.append 1 8 (.tmp 80) (.tmp 87)))) none,
        .act (some 11) (.op (.pure (.move (.tmp 88)))) none]))))))
    (.steps [
      .act (some 55) (.op (.pure (.move (.tmp 12)))) none,
      .act (some 56) (.op (.pure (.bin .add (.tmp 55) (.const (.int .i64 1))))) none,
      .act (some 12) (.op (.pure (.move (.tmp 56)))) none]))))))
  (.seq (.steps [
    .act (some 89) (.op (.read (.loadN 3 (.tmp 7)))) none,
    .act (some 90) (.call (.func 13) [(.tmp 89)]) none,
    .act (some 15) (.op (.pure (.move (.tmp 90)))) none])
  (.seq (.seq (.steps [
    .act (some 16) (.op (.pure (.move (.const (.int .i64 0))))) none])
  (.block 2 (.loop [1, 7, 8, 10, 11, 15, 16] (.seq (.seq (.steps [
      .act (some 91) (.op (.pure (.move (.tmp 16)))) none,
      .act (some 92) (.op (.pure (.move (.tmp 1)))) none,
      .act (some 93) (.op (.pure (.len false (.tmp 92)))) none,
      .act (some 94) (.op (.pure (.bin .lss (.tmp 91) (.tmp 93)))) none,
      .act (some 95) (.op (.pure (.move (.tmp 94)))) none,
      .act (some 96) (.op (.pure (.move (.tmp 16)))) (some (95, true)),
      .act (some 97) (.op (.pure (.bin .lss (.tmp 96) (.const (.int .i64 200))))) (some (95, true)),
      .act (some 98) (.op (.pure (.pick (.tmp 95) (.tmp 97) (.const (.bool false))))) none])
    (.cond (.tmp 98)
     .skip
     (.exit 2)))
    (.seq (.block 3 (.seq (.steps [
       .act (some 101) (.op (.pure (.move (.tmp 1)))) none,
       .act (some 102) (.op (.pure (.move (.tmp 16)))) none,
       .act (some 103) (.op (.pure (.idxSl 1 (.tmp 101) (.tmp 102)))) none,
       .act (some 104) (.op (.read (.load1 (.tmp 103)))) none,
       .act (some 17) (.op (.pure (.move (.tmp 104)))) none])
     (.seq (.steps [
       .act (some 105) (.op (.pure (.move (.tmp 17)))) none,
       .act (some 106) (.op (.pure (.bin .and (.tmp 105) (.const (.int .i64 3))))) none])
     (.block 4 (.seq (.steps [
        .act (some 122) (.op (.pure (.bin .eql (.tmp 106) (.const (.int .i64 0))))) none,
        .act (some 121) (.op (.pure (.move (.tmp 122)))) none])
      (.cond (.tmp 121)
       (.seq (.steps [
         .act (some 123) (.op (.pure (.move (.tmp 10)))) none,
         .act (some 124) (.call (.func 21) [(.tmp 123)]) none,
         .act (some 125) (.op (.pure (.not (.tmp 124)))) none])
       (.cond (.tmp 125)
        (.steps [
          .act (some 126) (.op (.pure (.move (.tmp 10)))) none,
          .act (some 127) (.op (.pure (.move (.tmp 8)))) none,
          .act (some 128) (.call (.func 16) [(.tmp 126), (.tmp 127)]) none])
        (.steps [
          .act (some 129) (.op (.pure (.move (.tmp 15)))) none,
          .act (some 130) (.op (.pure (.move (.tmp 8)))) none,
          .act (some 131) (.call (.func 16) [(.tmp 129), (.tmp 130)]) none])))
       (.seq (.steps [
         .act (some 133) (.op (.pure (.bin .eql (.tmp 106) (.const (.int .i64 1))))) none,
         .act (some 132) (.op (.pure (.move (.tmp 133)))) none])
       (.cond (.tmp 132)
        (.seq (.steps [
          .act (some 134) (.op (.pure (.move (.tmp 17)))) none,
          .act (some 135) (.op (.pure (.bin .shr (.tmp 134) (.const (w64 2#64))))) none,
          .act (some 136) (.op (.pure (.bin .and (.tmp 135) (.const (.int .i64 3))))) none,
          .act (some 137) (.op (.pure (.bin .eql (.tmp 136) (.const (.int .i64 0))))) none])
        (.cond (.tmp 137)
         (.steps [
           .act (some 138) (.op (.pure (.move (.tmp 8)))) none,
           .act (some 139) (.op (.pure (.move (.tmp 17)))) none,
           .act (some 140) (.op (.pure (.bin .shr (.tmp 139) (.const (w64 4#64))))) none,
           .act (some 141) (.op (.pure (.bin .and (.tmp 140) (.const (.int .i64 7))))) none,
           .act (some 142) (.op (.pure (.conv .u64 (.tmp 141)))) none,
           .act (some 143) (.call (.func 14) [(.tmp 138), (.const (.int .i64 0)), (.tmp 142)]) none])
         .skip))
        (.seq (.steps [
          .act (some 107) (.op (.pure (.move (.tmp 11)))) none,
          .act (some 108) (.op (.pure (.len false (.tmp 107)))) none,
          .act (some 109) (.op (.pure (.bin .gtr (.tmp 108) (.const (.int .i64 0))))) none])
        (.cond (.tmp 109)
         (.steps [
           .act (some 110) (.op (.pure (.move (.tmp 11)))) none,
           .act (some 111) (.op (.pure (.move (.tmp 17)))) none,
           .act (some 112) (.op (.pure (.bin .shr (.tmp 111) (.const (w64 2#64))))) none,
           .act (some 113) (.op (.pure (.bin .and (.tmp 112) (.const (.int .i64 63))))) none,
           .act (some 114) (.op (.pure (.move (.tmp 11)))) none,
           .act (some 115) (.op (.pure (.len false (.tmp 114)))) none,
           .act (some 116) (.op (.pure (.bin .rem (.tmp 113) (.tmp 115)))) none,
           .act (some 117) (.op (.pure (.idxSl 1 (.tmp 110) (.tmp 116)))) none,
           .act (some 118) (.op (.read (.load1 (.tmp 117)))) none,
           .act (some 119) (.op (.pure (.move (.tmp 8)))) none,
           .act (some 120) (.call (.func 16) [(.tmp 118), (.tmp 119)]) none])
         .skip))))))))))
    (.steps [
      .act (some 99) (.op (.pure (.move (.tmp 16)))) none,
      .act (some 100) (.op (.pure (.bin .add (.tmp 99) (.const (.int .i64 1))))) none,
      .act (some 16) (.op (.pure (.move (.tmp 100)))) none]))))))
  (.seq (.seq (.steps [
    .act (some 18) (.op (.pure (.move (.const (.int .i64 0))))) none])
  (.block 5 (.loop [7, 8, 10, 15, 18] (.seq (.seq (.steps [
      .act (some 144) (.op (.pure (.move (.tmp 18)))) none,
      .act (some 145) (.op (.pure (.bin .lss (.tmp 144) (.const (.int .i64 40))))) none,
      .act (some 146) (.op (.pure (.move (.tmp 145)))) none,
      .act (some 147) (.op (.pure (.move (.tmp 10)))) (some (146, true)),
      .act (some 148) (.call (.func 21) [(.tmp 147)]) (some (146, true)),
      .act (some 149) (.op (.pure (.not (.tmp 148)))) (some (146, true)),
      .act (some 150) (.op (.pure (.pick (.tmp 146) (.tmp 149) (.const (.bool false))))) none])
    (.cond (.tmp 150)
     .skip
     (.exit 5)))
    (.seq (.block 6 (.steps [
       .act (some 153) (.op (.pure (.move (.tmp 10)))) none,
       .act (some 154) (.op (.pure (.move (.tmp 8)))) none,
       .act (some 155) (.call (.func 16) [(.tmp 153), (.tmp 154)]) none]))
    (.steps [
      .act (some 151) (.op (.pure (.move (.tmp 18)))) none,
      .act (some 152) (.op (.pure (.bin .add (.tmp 151) (.const (.int .i64 1))))) none,
      .act (some 18) (.op (.pure (.move (.tmp 152)))) none]))))))
  (.seq (.seq (.steps [
    .act (some 19) (.op (.pure (.move (.const (.int .i64 0))))) none])
  (.block 7 (.loop [7, 8, 10, 15, 19] (.seq (.seq (.steps [
      .act (some 156) (.op (.pure (.move (.tmp 19)))) none,
      .act (some 157) (.op (.pure (.bin .lss (.tmp 156) (.const (.int .i64 20))))) none,
      .act (some 158) (.op (.pure (.move (.tmp 157)))) none,
      .act (some 159) (.op (.pure (.move (.tmp 15)))) (some (158, true)),
      .act (some 160) (.call (.func 21) [(.tmp 159)]) (some (158, true)),
      .act (some 161) (.op (.pure (.not (.tmp 160)))) (some (158, true)),
      .act (some 162) (.op (.pure (.pick (.tmp 158) (.tmp 161) (.const (.bool false))))) none])
    (.cond (.tmp 162)
     .skip
     (.exit 7)))
    (.seq (.block 8 (.steps [
       .act (some 165) (.op (.pure (.move (.tmp 15)))) none,
       .act (some 166) (.op (.pure (.move (.tmp 8)))) none,
       .act (some 167) (.call (.func 16) [(.tmp 165), (.tmp 166)]) none]))
    (.steps [
      .act (some 163) (.op (.pure (.move (.tmp 19)))) none,
      .act (some 164) (.op (.pure (.bin .add (.tmp 163) (.const (.int .i64 1))))) none,
      .act (some 19) (.op (.pure (.move (.tmp 164)))) none]))))))
  (.seq (.steps [
    .act (some 169) (.op (.pure (.move (.tmp 10)))) none,
    .act (some 170) (.call (.func 18) [(.tmp 169)]) none,
    .act (some 168) (.op (.pure (.move (.tmp 170)))) none,
    .act (some 171) (.op (.pure (.extract (.tmp 168) 0))) none,
    .act (some 172) (.op (.pure (.extract (.tmp 168) 1))) none,
    .act (some 20) (.op (.pure (.move (.tmp 171)))) none,
    .act (some 21) (.op (.pure (.move (.tmp 172)))) none])
  (.seq (.steps [
    .act (some 174) (.op (.pure (.move (.tmp 15)))) none,
    .act (some 175) (.call (.func 18) [(.tmp 174)]) none,
    .act (some 173) (.op (.pure (.move (.tmp 175)))) none,
    .act (some 176) (.op (.pure (.extract (.tmp 173) 0))) none,
    .act (some 177) (.op (.pure (.extract (.tmp 173) 1))) none,
    .act (some 22) (.op (.pure (.move (.tmp 176)))) none,
    .act (some 23) (.op (.pure (.move (.tmp 177)))) none])
  (.seq (.steps [
    .act (some 178) (.op (.pure (.move (.tmp 15)))) none,
    .act (some 179) (.call (.func 19) [(.tmp 178)]) none,
    .act (some 24) (.op (.pure (.move (.tmp 179)))) none])
  (.seq (.seq (.steps [
    .act (some 180) (.op (.pure (.move (.tmp 20)))) none,
    .act (some 181) (.op (.pure (.bin .neq (.tmp 180) (.const (.int .i64 0))))) none,
    .act (some 182) (.op (.pure (.move (.tmp 181)))) none,
    .act (some 183) (.op (.pure (.move (.tmp 22)))) (some (182, false)),
    .act (some 184) (.op (.pure (.bin .neq (.tmp 183) (.const (.int .i64 0))))) (some (182, false)),
    .act (some 185) (.op (.pure (.pick (.tmp 182) (.const (.bool true)) (.tmp 184)))) none,
    .act (some 186) (.op (.pure (.move (.tmp 185)))) none,
    .act (some 187) (.op (.pure (.move (.tmp 10)))) (some (186, false)),
    .act (some 188) (.call (.func 21) [(.tmp 187)]) (some (186, false)),
    .act (some 189) (.op (.pure (.not (.tmp 188)))) (some (186, false)),
    .act (some 190) (.op (.pure (.pick (.tmp 186) (.const (.bool true)) (.tmp 189)))) none,
    .act (some 191) (.op (.pure (.move (.tmp 190)))) none,
    .act (some 192) (.op (.pure (.move (.tmp 15)))) (some (191, false)),
    .act (some 193) (.call (.func 21) [(.tmp 192)]) (some (191, false)),
    .act (some 194) (.op (.pure (.not (.tmp 193)))) (some (191, false)),
    .act (some 195) (.op (.pure (.pick (.tmp 191) (.const (.bool true)) (.tmp 194)))) none,
    .act (some 196) (.op (.pure (.move (.tmp 195)))) none,
    .act (some 197) (.op (.pure (.move (.tmp 24)))) (some (196, false)),
    .act (some 198) (.op (.pure (.len false (.tmp 197)))) (some (196, false)),
    .act (some 199) (.op (.pure (.conv .u64 (.tmp 198)))) (some (196, false)),
    .act (some 200) (.op (.pure (.move (.tmp 23)))) (some (196, false)),
    .act (some 201) (.op (.pure (.bin .neq (.tmp 199) (.tmp 200)))) (some (196, false)),
    .act (some 202) (.op (.pure (.pick (.tmp 196) (.const (.bool true)) (.tmp 201)))) none,
    .act (some 203) (.op (.pure (.move (.tmp 202)))) none,
    .act (some 204) (.op (.pure (.move (.tmp 8)))) (some (203, false)),
    .act (some 205) (.op (.read (.loadN 3 (.tmp 7)))) (some (203, false)),
    .act (some 206) (.call (.func 23) [(.tmp 205), (.const (.int .i64 0)), (.const (.int .i64 1))]) (some (203, false)),
    .act (some 207) (.call (.func 22) [(.tmp 204), (.tmp 206)]) (some (203, false)),
    .act (some 208) (.op (.pure (.move (.tmp 21)))) (some (203, false)),
    .act (some 209) (.op (.pure (.bin .neq (.tmp 207) (.tmp 208)))) (some (203, false)),
    .act (some 210) (.op (.pure (.pick (.tmp 203) (.const (.bool true)) (.tmp 209)))) none])
  (.cond (.tmp 210)
   (.seq (.steps [
     .act (some 6) (.op (.pure (.move (.const (.bool false))))) none])
   .ret)
   .skip))
  (.seq (.steps [
    .act (some 211) (.op (.pure (.move (.tmp 21)))) none,
    .act (some 212) (.op (.pure (.bin .eql (.tmp 211) (.const (w64 0#64))))) none,
    .act (some 25) (.op (.pure (.move (.tmp 212)))) none])
  (.seq (.seq (.steps [
    .act (some 26) (.op (.pure (.move (.const (.int .i64 0))))) none])
  (.block 9 (.loop [8, 21, 24, 25, 26] (.seq (.seq (.steps [
      .act (some 213) (.op (.pure (.move (.tmp 26)))) none,
      .act (some 214) (.op (.pure (.move (.tmp 24)))) none,
      .act (some 215) (.op (.pure (.len false (.tmp 214)))) none,
      .act (some 216) (.op (.pure (.bin .lss (.tmp 213) (.tmp 215)))) none])
    (.cond (.tmp 216)
     .skip
     (.exit 9)))
    (.seq (.block 10 (.steps [
       .act (some 219) (.op (.pure (.move (.tmp 25)))) none,
       .act (some 220) (.op (.pure (.move (.tmp 219)))) none,
       .act (some 221) (.op (.pure (.move (.tmp 24)))) (some (220, false)),
       .act (some 222) (.op (.pure (.move (.tmp 26)))) (some (220, false)),
       .act (some 223) (.op (.pure (.idxSl 1 (.tmp 221) (.tmp 222)))) (some (220, false)),
       .act (some 224) (.op (.read (.load1 (.tmp 223)))) (some (220, false)),
       .act (some 225) (.op (.pure (.move (.tmp 21)))) (some (220, false)),
       .act (some 226) (.op (.pure (.bin .eql (.tmp 224) (.tmp 225)))) (some (220, false)),
       .act (some 227) (.op (.pure (.pick (.tmp 220) (.const (.bool true)) (.tmp 226)))) none,
       .act (some 25) (.op (.pure (.move (.tmp 227)))) none]))
    (.steps [
      .act (some 217) (.op (.pure (.move (.tmp 26)))) none,
      .act (some 218) (.op (.pure (.bin .add (.tmp 217) (.const (.int .i64 1))))) none,
      .act (some 26) (.op (.pure (.move (.tmp 218)))) none]))))))
  (.seq (.steps [
    .act (some 228) (.op (.pure (.move (.tmp 25)))) none,
    .act (some 229) (.op (.pure (.move (.tmp 228)))) none,
    .act (some 230) (.op (.pure (.move (.tmp 8)))) (some (229, true)),
    .act (some 231) (.call (.func 24) [(.tmp 230)]) (some (229, true)),
    .act (some 232) (.op (.pure (.bin .eql (.tmp 231) (.const (.int .i64 (-1)))))) (some (229, true)),
    .act (some 233) (.op (.pure (.pick (.tmp 229) (.tmp 232) (.const (.bool false))))) none,
    .act (some 234) (.op (.pure (.move (.tmp 233)))) none,
    .act (some 235) (.call (.func 20) []) (some (234, true)),
    .act (some 236) (.op (.pure (.pick (.tmp 234) (.tmp 235) (.const (.bool false))))) none,
    .act (some 6) (.op (.pure (.move (.tmp 236)))) none])
  .ret)))))))))))))))))))) }
theorem c4 : compFn Try.prog (mkPlan Try.prog) [(10, [0, 1, 7, 8, 10, 11, 12]), (19, [1, 7, 8, 10, 11, 15, 16]), (33, [7, 8, 10, 15, 18]), (37, [7, 8, 10, 15, 19]), (47, [8, 21, 24, 25, 26])] true 4 = some L4 := by kernel_rfl
/-- sluiceway/sluicewaylaw10.HpClears -/
def L5 : LFun := { n := 146, pop := true, res := [.tmp 6], code :=
  (.seq (.steps [
    .act (some 6) (.op (.pure (.move (.const (.bool false))))) none])
  (.seq (.steps [
    .act (some 21) (.op (.pure (.build [(.int .i64 0), (.int .i64 0), (.int .i64 0)] [(0, 1, (.const (.int .i64 4))), (1, 1, (.const (.int .i64 4))), (2, 1, (.const (.int .i64 2)))]))) none,
    .act (some 7) (.op (.new (.alloc [(.int .i64 0), (.int .i64 0), (.int .i64 0)]))) none,
    .act none (.op (.eff (.store 3 (.tmp 7) (.tmp 21)))) none])
  (.seq (.steps [
    .act (some 23) (.call (.func 7) [(.const (.int .i64 12))]) none,
    .act (some 22) (.op (.pure (.move (.tmp 23)))) none,
    .act (some 24) (.op (.pure (.extract (.tmp 22) 0))) none,
    .act (some 25) (.op (.pure (.extract (.tmp 22) 1))) none,
    .act (some 8) (.op (.pure (.move (.tmp 24)))) none,
    .act (some 9) (.op (.pure (.move (.tmp 25)))) none])
  (.seq (.seq (.steps [
    .act (some 26) (.op (.pure (.move (.tmp 9)))) none,
    .act (some 27) (.op (.pure (.bin .neq (.tmp 26) (.const (.int .i64 0))))) none,
    .act (some 28) (.op (.pure (.move (.tmp 27)))) none,
    .act (some 29) (.op (.read (.loadN 3 (.tmp 7)))) (some (28, false)),
    .act (some 30) (.op (.pure (.move (.tmp 8)))) (some (28, false)),
    .act (some 31) (.call (.func 9) [(.tmp 29), (.tmp 30)]) (some (28, false)),
    .act (some 32) (.op (.pure (.bin .neq (.tmp 31) (.const (.int .i64 0))))) (some (28, false)),
    .act (some 33) (.op (.pure (.pick (.tmp 28) (.const (.bool true)) (.tmp 32)))) none])
  (.cond (.tmp 33)
   (.seq (.steps [
     .act (some 6) (.op (.pure (.move (.const (.bool false))))) none])
   .ret)
   .skip))
  (.seq (.seq (.steps [
    .act (some 10) (.op (.pure (.move (.const (.int .i64 0))))) none])
  (.block 0 (.loop [0, 1, 2, 7, 8, 10] (.seq (.seq (.steps [
      .act (some 34) (.op (.pure (.move (.tmp 10)))) none,
      .act (some 35) (.op (.pure (.bin .lss (.tmp 34) (.const (.int .i64 8))))) none])
    (.cond (.tmp 35)
     .skip
     (.exit 0)))
    (.seq (.block 1 (.seq (.steps [
       .act (some 11) (.op (.pure (.move (.const (w64 1#64))))) none])
     (.seq (.seq (.steps [
       .act (some 38) (.op (.pure (.move (.tmp 10)))) none,
       .act (some 39) (.op (.pure (.move (.tmp 0)))) none,
       .act (some 40) (.op (.pure (.len false (.tmp 39)))) none,
       .act (some 41) (.op (.pure (.bin .lss (.tmp 38) (.tmp 40)))) none])
     (.cond (.tmp 41)
      (.steps [
        .act (some 42) (.op (.pure (.move (.tmp 0)))) none,
        .act (some 43) (.op (.pure (.move (.tmp 10)))) none,
        .act (some 44) (.op (.pure (.idxSl 1 (.tmp 42) (.tmp 43)))) none,
        .act (some 45) (.op (.read (.load1 (.tmp 44)))) none,
        .act (some 11) (.op (.pure (.move (.tmp 45)))) none])
      .skip))
     (.steps [
       .act (some 46) (.op (.pure (.move (.tmp 8)))) none,
       .act (some 47) (.op (.pure (.move (.tmp 10)))) none,
       .act (some 48) (.op (.pure (.bin .add (.const (.int .i64 4)) (.tmp 47)))) none,
       .act (some 49) (.op (.pure (.move (.tmp 11)))) none,
       .act (some 50) (.call (.func 14) [(.tmp 46), (.tmp 48), (.tmp 49)]) none]))))
    (.steps [
      .act (some 36) (.op (.pure (.move (.tmp 10)))) none,
      .act (some 37) (.op (.pure (.bin .add (.tmp 36) (.const (.int .i64 1))))) none,
      .act (some 10) (.op (.pure (.move (.tmp 37)))) none]))))))
  (.seq (.steps [
    .act (some 51) (.op (.pure (.move (.tmp 1)))) none,
    .act (some 52) (.op (.pure (.bin .and (.tmp 51) (.const (.int .i64 3))))) none,
    .act (some 53) (.op (.pure (.move (.tmp 2)))) none,
    .act (some 54) (.op (.pure (.bin .and (.tmp 53) (.const (.int .i64 1))))) none,
    .act (some 1) (.op (.pure (.move (.tmp 52)))) none,
    .act (some 2) (.op (.pure (.move (.tmp 54)))) none])
  (.seq (.steps [
    .act (some 55) (.op (.pure (.move (.tmp 8)))) none,
    .act (some 56) (.call (.func 17) [(.tmp 55), (.const (.int .i64 4)), (.const (.int .i64 8))]) none,
    .act (some 12) (.op (.pure (.move (.tmp 56)))) none])
  (.seq (.steps [
    .act (some 57) (.op (.read (.loadN 3 (.tmp 7)))) none,
    .act (some 58) (.op (.pure (.move (.tmp 1)))) none,
    .act (some 59) (.op (.pure (.move (.tmp 2)))) none,
    .act (some 60) (.call (.func 12) [(.tmp 57), (.tmp 58), (.tmp 59)]) none,
    .act (some 13) (.op (.pure (.move (.tmp 60)))) none])
  (.seq (.seq (.steps [
    .act (some 61) (.op (.pure (.move (.tmp 13)))) none,
    .act (some 62) (.op (.pure (.move (.tmp 8)))) none,
    .act (some 63) (.call (.func 16) [(.tmp 61), (.tmp 62)]) none,
    .act (some 64) (.op (.pure (.not (.tmp 63)))) none])
  (.cond (.tmp 64)
   (.seq (.steps [
     .act (some 6) (.op (.pure (.move (.const (.bool false))))) none])
   .ret)
   .skip))
  (.seq (.steps [
    .act (some 65) (.op (.read (.loadN 3 (.tmp 7)))) none,
    .act (some 66) (.call (.func 13) [(.tmp 65)]) none,
    .act (some 14) (.op (.pure (.move (.tmp 66)))) none])
  (.seq (.seq (.steps [
    .act (some 15) (.op (.pure (.move (.const (.int .i64 0))))) none])
  (.block 2 (.loop [1, 2, 8, 12, 14, 15] (.seq (.seq (.steps [
      .act (some 67) (.op (.pure (.move (.tmp 15)))) none,
      .act (some 68) (.op (.pure (.bin .lss (.tmp 67) (.const (.int .i64 8))))) none])
    (.cond (.tmp 68)
     .skip
     (.exit 2)))
    (.seq (.block 3 (.seq (.seq (.steps [
       .act (some 71) (.op (.pure (.move (.tmp 14)))) none,
       .act (some 72) (.call (.func 21) [(.tmp 71)]) none])
     (.cond (.tmp 72)
      (.seq (.steps [
        .act (some 6) (.op (.pure (.move (.const (.bool false))))) none])
      .ret)
      .skip))
     (.steps [
       .act (some 73) (.op (.pure (.move (.tmp 14)))) none,
       .act (some 74) (.op (.pure (.move (.tmp 8)))) none,
       .act (some 75) (.call (.func 16) [(.tmp 73), (.tmp 74)]) none])))
    (.steps [
      .act (some 69) (.op (.pure (.move (.tmp 15)))) none,
      .act (some 70) (.op (.pure (.bin .add (.tmp 69) (.const (.int .i64 1))))) none,
      .act (some 15) (.op (.pure (.move (.tmp 70)))) none]))))))
  (.seq (.steps [
    .act (some 76) (.op (.pure (.move (.tmp 8)))) none,
    .act (some 77) (.call (.func 17) [(.tmp 76), (.const (.int .i64 4)), (.const (.int .i64 8))]) none,
    .act (some 78) (.op (.pure (.move (.tmp 14)))) none,
    .act (some 79) (.call (.func 19) [(.tmp 78)]) none,
    .act (some 16) (.op (.pure (.move (.tmp 77)))) none,
    .act (some 17) (.op (.pure (.move (.tmp 79)))) none])
  (.seq (.steps [
    .act (some 18) (.op (.pure (.move (.const (.int .i64 0))))) none])
  (.seq (.seq (.steps [
    .act (some 19) (.op (.pure (.move (.const (.int .i64 0))))) none])
  (.block 4 (.loop [1, 2, 12, 14, 16, 17, 18, 19] (.seq (.seq (.steps [
      .act (some 80) (.op (.pure (.move (.tmp 19)))) none,
      .act (some 81) (.op (.pure (.bin .lss (.tmp 80) (.const (.int .i64 8))))) none])
    (.cond (.tmp 81)
     .skip
     (.exit 4)))
    (.seq (.block 5 (.seq (.steps [
       .act (some 84) (.op (.pure (.move (.tmp 19)))) none,
       .act (some 85) (.op (.pure (.move (.tmp 1)))) none,
       .act (some 86) (.op (.pure (.bin .mul (.const (.int .i64 2)) (.tmp 85)))) none,
       .act (some 87) (.op (.pure (.move (.tmp 2)))) none,
       .act (some 88) (.op (.pure (.bin .add (.tmp 86) (.tmp 87)))) none,
       .act (some 89) (.op (.pure (.bin .eql (.tmp 84) (.tmp 88)))) none,
       .act (some 20) (.op (.pure (.move (.tmp 89)))) none])
     (.seq (.seq (.steps [
       .act (some 90) (.op (.pure (.move (.tmp 20)))) none,
       .act (some 91) (.op (.pure (.move (.tmp 90)))) none,
       .act (some 92) (.op (.pure (.move (.tmp 16)))) (some (91, true)),
       .act (some 93) (.op (.pure (.move (.tmp 19)))) (some (91, true)),
       .act (some 94) (.op (.pure (.idxSl 1 (.tmp 92) (.tmp 93)))) (some (91, true)),
       .act (some 95) (.op (.read (.load1 (.tmp 94)))) (some (91, true)),
       .act (some 96) (.op (.pure (.bin .neq (.tmp 95) (.const (w64 0#64))))) (some (91, true)),
       .act (some 97) (.op (.pure (.pick (.tmp 91) (.tmp 96) (.const (.bool false))))) none,
       .act (some 98) (.op (.pure (.move (.tmp 97)))) none,
       .act (some 99) (.op (.pure (.move (.tmp 20)))) (some (98, false)),
       .act (some 100) (.op (.pure (.not (.tmp 99)))) (some (98, false)),
       .act (some 101) (.op (.pure (.move (.tmp 100)))) (some (98, false)),
       .act (some 102) (.op (.pure (.move (.tmp 16)))) (some (101, true)),
       .act (some 103) (.op (.pure (.move (.tmp 19)))) (some (101, true)),
       .act (some 104) (.op (.pure (.idxSl 1 (.tmp 102) (.tmp 103)))) (some (101, true)),
       .act (some 105) (.op (.read (.load1 (.tmp 104)))) (some (101, true)),
       .act (some 106) (.op (.pure (.move (.tmp 12)))) (some (101, true)),
       .act (some 107) (.op (.pure (.move (.tmp 19)))) (some (101, true)),
       .act (some 108) (.op (.pure (.idxSl 1 (.tmp 106) (.tmp 107)))) (some (101, true)),
       .act (some 109) (.op (.read (.load1 (.tmp 108)))) (some (101, true)),
       .act (some 110) (.op (.pure (.bin .neq (.tmp 105) (.tmp 109)))) (some (101, true)),
       .act (some 111) (.op (.pure (.pick (.tmp 101) (.tmp 110) (.const (.bool false))))) (some (98, false)),
       .act (some 112) (.op (.pure (.pick (.tmp 98) (.const (.bool true)) (.tmp 111)))) none])
     (.cond (.tmp 112)
      (.seq (.steps [
        .act (some 6) (.op (.pure (.move (.const (.bool false))))) none])
      .ret)
      .skip))
     (.seq (.steps [
       .act (some 113) (.op (.pure (.move (.tmp 16)))) none,
       .act (some 114) (.op (.pure (.move (.tmp 19)))) none,
       .act (some 115) (.op (.pure (.idxSl 1 (.tmp 113) (.tmp 114)))) none,
       .act (some 116) (.op (.read (.load1 (.tmp 115)))) none,
       .act (some 117) (.op (.pure (.bin .neq (.tmp 116) (.const (w64 0#64))))) none])
     (.cond (.tmp 117)
      (.seq (.seq (.steps [
        .act (some 118) (.op (.pure (.move (.tmp 18)))) none,
        .act (some 119) (.op (.pure (.move (.tmp 17)))) none,
        .act (some 120) (.op (.pure (.len false (.tmp 119)))) none,
        .act (some 121) (.op (.pure (.bin .geq (.tmp 118) (.tmp 120)))) none,
        .act (some 122) (.op (.pure (.move (.tmp 121)))) none,
        .act (some 123) (.op (.pure (.move (.tmp 17)))) (some (122, false)),
        .act (some 124) (.op (.pure (.move (.tmp 18)))) (some (122, false)),
        .act (some 125) (.op (.pure (.idxSl 1 (.tmp 123) (.tmp 124)))) (some (122, false)),
        .act (some 126) (.op (.read (.load1 (.tmp 125)))) (some (122, false)),
        .act (some 127) (.op (.pure (.move (.tmp 16)))) (some (122, false)),
        .act (some 128) (.op (.pure (.move (.tmp 19)))) (some (122, false)),
        .act (some 129) (.op (.pure (.idxSl 1 (.tmp 127) (.tmp 128)))) (some (122, false)),
        .act (some 130) (.op (.read (.load1 (.tmp 129)))) (some (122, false)),
        .act (some 131) (.op (.pure (.bin .neq (.tmp 126) (.tmp 130)))) (some (122, false)),
        .act (some 132) (.op (.pure (.pick (.tmp 122) (.const (.bool true)) (.tmp 131)))) none])
      (.cond (.tmp 132)
       (.seq (.steps [
         .act (some 6) (.op (.pure (.move (.const (.bool false))))) none])
       .ret)
       .skip))
      (.steps [
        .act (some 133) (.op (.pure (.move (.tmp 18)))) none,
        .act (some 134) (.op (.pure (.bin .add (.tmp 133) (.const (.int .i64 1))))) none,
        .act (some 18) (.op (.pure (.move (.tmp 134)))) none]))
      .skip)))))
    (.steps [
      .act (some 82) (.op (.pure (.move (.tmp 19)))) none,
      .act (some 83) (.op (.pure (.bin .add (.tmp 82) (.const (.int .i64 1))))) none,
      .act (some 19) (.op (.pure (.move (.tmp 83)))) none]))))))
  (.seq (.steps [
    .act (some 135) (.op (.pure (.move (.tmp 18)))) none,
    .act (some 136) (.op (.pure (.move (.tmp 17)))) none,
    .act (some 137) (.op (.pure (.len false (.tmp 136)))) none,
    .act (some 138) (.op (.pure (.bin .eql (.tmp 135) (.tmp 137)))) none,
    .act (some 139) (.op (.pure (.move (.tmp 138)))) none,
    .act (some 140) (.op (.pure (.move (.tmp 14)))) (some (139, true)),
    .act (some 141) (.call (.func 21) [(.tmp 140)]) (some (139, true)),
    .act (some 142) (.op (.pure (.pick (.tmp 139) (.tmp 141) (.const (.bool false))))) none,
    .act (some 143) (.op (.pure (.move (.tmp 142)))) none,
    .act (some 144) (.call (.func 20) []) (some (143, true)),
    .act (some 145) (.op (.pure (.pick (.tmp 143) (.tmp 144) (.const (.bool false))))) none,
    .act (some 6) (.op (.pure (.move (.tmp 145)))) none])
  .ret))))))))))))))) }
theorem c5 : compFn Try.prog (mkPlan Try.prog) [(6, [0, 1, 2, 7, 8, 10]), (19, [1, 2, 8, 12, 14, 15]), (27, [1, 2, 12, 14, 16, 17, 18, 19])] true 5 = some L5 := by kernel_rfl
/-- sluiceway/sluicewaylaw10.HpNobody -/
def L6 : LFun := { n := 234, pop := true, res := [.tmp 6], code :=
  (.seq (.steps [
    .act (some 3) (.op (.new (.box (.tmp 0)))) none,
    .act (some 6) (.op (.pure (.move (.const (.bool false))))) none])
  (.seq (.steps [
    .act (some 26) (.call (.func 7) [(.const (.int .i64 8))]) none,
    .act (some 25) (.op (.pure (.move (.tmp 26)))) none,
    .act (some 27) (.op (.pure (.extract (.tmp 25) 0))) none,
    .act (some 28) (.op (.pure (.extract (.tmp 25) 1))) none,
    .act (some 7) (.op (.pure (.move (.tmp 27)))) none,
    .act (some 8) (.op (.pure (.move (.tmp 28)))) none])
  (.seq (.seq (.steps [
    .act (some 29) (.op (.pure (.move (.tmp 8)))) none,
    .act (some 30) (.op (.pure (.bin .neq (.tmp 29) (.const (.int .i64 0))))) none])
  (.cond (.tmp 30)
   (.seq (.steps [
     .act (some 6) (.op (.pure (.move (.const (.bool false))))) none])
   .ret)
   .skip))
  (.seq (.steps [
    .act (some 9) (.op (.pure (.move (.const (.pointer none))))) none])
  (.seq (.steps [
    .act (some 32) (.op (.pure (.move (.tmp 9)))) none,
    .act (some 33) (.call (.func 18) [(.tmp 32)]) none,
    .act (some 31) (.op (.pure (.move (.tmp 33)))) none,
    .act (some 34) (.op (.pure (.extract (.tmp 31) 0))) none,
    .act (some 35) (.op (.pure (.extract (.tmp 31) 1))) none,
    .act (some 10) (.op (.pure (.move (.tmp 34)))) none,
    .act (some 11) (.op (.pure (.move (.tmp 35)))) none])
  (.seq (.steps [
    .act (some 37) (.op (.pure (.build [(.bool false), (.int .i64 0), (.int .i64 0), (.int .i64 0), (.int .i64 0), (.int .i64 0), (.int .i64 0), (.int .i64 0), (w64 0#64), (.slice none 0 0), (.bool false), (.int .i64 0)] []))) none,
    .act (some 38) (.op (.new (.box (.tmp 37)))) none,
    .act (some 39) (.call (.func 18) [(.tmp 38)]) none,
    .act (some 36) (.op (.pure (.move (.tmp 39)))) none,
    .act (some 40) (.op (.pure (.extract (.tmp 36) 0))) none,
    .act (some 41) (.op (.pure (.extract (.tmp 36) 1))) none,
    .act (some 12) (.op (.pure (.move (.tmp 40)))) none,
    .act (some 13) (.op (.pure (.move (.tmp 41)))) none])
  (.seq (.seq (.steps [
    .act (some 42) (.op (.pure (.move (.tmp 10)))) none,
    .act (some 43) (.op (.pure (.bin .neq (.tmp 42) (.const (.int .i64 1))))) none,
    .act (some 44) (.op (.pure (.move (.tmp 43)))) none,
    .act (some 45) (.op (.pure (.move (.tmp 12)))) (some (44, false)),
    .act (some 46) (.op (.pure (.bin .neq (.tmp 45) (.const (.int .i64 1))))) (some (44, false)),
    .act (some 47) (.op (.pure (.pick (.tmp 44) (.const (.bool true)) (.tmp 46)))) none,
    .act (some 48) (.op (.pure (.move (.tmp 47)))) none,
    .act (some 49) (.op (.pure (.move (.tmp 11)))) (some (48, false)),
    .act (some 50) (.op (.pure (.move (.tmp 13)))) (some (48, false)),
    .act (some 51) (.op (.pure (.bin .add (.tmp 49) (.tmp 50)))) (some (48, false)),
    .act (some 52) (.op (.pure (.bin .neq (.tmp 51) (.const (w64 0#64))))) (some (48, false)),
    .act (some 53) (.op (.pure (.pick (.tmp 48) (.const (.bool true)) (.tmp 52)))) none,
    .act (some 54) (.op (.pure (.move (.tmp 53)))) none,
    .act (some 55) (.op (.pure (.move (.tmp 9)))) (some (54, false)),
    .act (some 56) (.op (.pure (.move (.tmp 7)))) (some (54, false)),
    .act (some 57) (.call (.func 16) [(.tmp 55), (.tmp 56)]) (some (54, false)),
    .act (some 58) (.op (.pure (.not (.tmp 57)))) (some (54, false)),
    .act (some 59) (.op (.pure (.pick (.tmp 54) (.const (.bool true)) (.tmp 58)))) none,
    .act (some 60) (.op (.pure (.move (.tmp 59)))) none,
    .act (some 61) (.op (.pure (.move (.tmp 9)))) (some (60, false)),
    .act (some 62) (.call (.func 21) [(.tmp 61)]) (some (60, false)),
    .act (some 63) (.op (.pure (.not (.tmp 62)))) (some (60, false)),
    .act (some 64) (.op (.pure (.pick (.tmp 60) (.const (.bool true)) (.tmp 63)))) none,
    .act (some 65) (.op (.pure (.move (.tmp 64)))) none,
    .act (some 66) (.op (.pure (.move (.tmp 9)))) (some (65, false)),
    .act (some 67) (.call (.func 19) [(.tmp 66)]) (some (65, false)),
    .act (some 68) (.op (.pure (.len false (.tmp 67)))) (some (65, false)),
    .act (some 69) (.op (.pure (.bin .neq (.tmp 68) (.const (.int .i64 0))))) (some (65, false)),
    .act (some 70) (.op (.pure (.pick (.tmp 65) (.const (.bool true)) (.tmp 69)))) none,
    .act (some 71) (.op (.pure (.move (.tmp 70)))) none,
    .act (some 72) (.op (.pure (.move (.tmp 7)))) (some (71, false)),
    .act (some 73) (.call (.func 25) [(.tmp 72)]) (some (71, false)),
    .act (some 74) (.op (.pure (.bin .neq (.tmp 73) (.const (.int .i64 0))))) (some (71, false)),
    .act (some 75) (.op (.pure (.pick (.tmp 71) (.const (.bool true)) (.tmp 74)))) none])
  (.cond (.tmp 75)
   (.seq (.steps [
     .act (some 6) (.op (.pure (.move (.const (.bool false))))) none])
   .ret)
   .skip))
  (.seq (.steps [
    .act (some 76) (.op (.pure (.fieldAddr 0 (.tmp 3)))) none,
    .act (some 77) (.op (.read (.load1 (.tmp 76)))) none,
    .act (some 78) (.op (.pure (.bin .geq (.tmp 77) (.const (.int .i64 0))))) none,
    .act (some 79) (.op (.pure (.move (.tmp 78)))) none,
    .act (some 80) (.op (.pure (.fieldAddr 0 (.tmp 3)))) (some (79, true)),
    .act (some 81) (.op (.read (.load1 (.tmp 80)))) (some (79, true)),
    .act (some 82) (.op (.pure (.bin .leq (.tmp 81) (.const (.int .i64 65536))))) (some (79, true)),
    .act (some 83) (.op (.pure (.pick (.tmp 79) (.tmp 82) (.const (.bool false))))) none,
    .act (some 84) (.op (.pure (.move (.tmp 83)))) none,
    .act (some 85) (.op (.pure (.fieldAddr 1 (.tmp 3)))) (some (84, true)),
    .act (some 86) (.op (.read (.load1 (.tmp 85)))) (some (84, true)),
    .act (some 87) (.op (.pure (.bin .geq (.tmp 86) (.const (.int .i64 1))))) (some (84, true)),
    .act (some 88) (.op (.pure (.pick (.tmp 84) (.tmp 87) (.const (.bool false))))) none,
    .act (some 89) (.op (.pure (.move (.tmp 88)))) none,
    .act (some 90) (.op (.pure (.fieldAddr 1 (.tmp 3)))) (some (89, true)),
    .act (some 91) (.op (.read (.load1 (.tmp 90)))) (some (89, true)),
    .act (some 92) (.op (.pure (.bin .leq (.tmp 91) (.const (.int .i64 64))))) (some (89, true)),
    .act (some 93) (.op (.pure (.pick (.tmp 89) (.tmp 92) (.const (.bool false))))) none,
    .act (some 94) (.op (.pure (.move (.tmp 93)))) none,
    .act (some 95) (.op (.pure (.fieldAddr 2 (.tmp 3)))) (some (94, true)),
    .act (some 96) (.op (.read (.load1 (.tmp 95)))) (some (94, true)),
    .act (some 97) (.op (.pure (.bin .geq (.tmp 96) (.const (.int .i64 1))))) (some (94, true)),
    .act (some 98) (.op (.pure (.pick (.tmp 94) (.tmp 97) (.const (.bool false))))) none,
    .act (some 99) (.op (.pure (.move (.tmp 98)))) none,
    .act (some 100) (.op (.pure (.fieldAddr 2 (.tmp 3)))) (some (99, true)),
    .act (some 101) (.op (.read (.load1 (.tmp 100)))) (some (99, true)),
    .act (some 102) (.op (.pure (.bin .leq (.tmp 101) (.const (.int .i64 8))))) (some (99, true)),
    .act (some 103) (.op (.pure (.pick (.tmp 99) (.tmp 102) (.const (.bool false))))) none,
    .act (some 14) (.op (.pure (.move (.tmp 103)))) none])
  (.seq (.steps [
    .act (some 104) (.op (.pure (.move (.tmp 14)))) none,
    .act (some 105) (.op (.pure (.move (.tmp 104)))) none,
    .act (some 106) (.op (.pure (.move (.tmp 1)))) (some (105, true)),
    .act (some 107) (.op (.pure (.bin .geq (.tmp 106) (.const (.int .i64 0))))) (some (105, true)),
    .act (some 108) (.op (.pure (.pick (.tmp 105) (.tmp 107) (.const (.bool false))))) none,
    .act (some 109) (.op (.pure (.move (.tmp 108)))) none,
    .act (some 110) (.op (.pure (.move (.tmp 1)))) (some (109, true)),
    .act (some 111) (.op (.pure (.fieldAddr 1 (.tmp 3)))) (some (109, true)),
    .act (some 112) (.op (.read (.load1 (.tmp 111)))) (some (109, true)),
    .act (some 113) (.op (.pure (.bin .lss (.tmp 110) (.tmp 112)))) (some (109, true)),
    .act (some 114) (.op (.pure (.pick (.tmp 109) (.tmp 113) (.const (.bool false))))) none,
    .act (some 115) (.op (.pure (.move (.tmp 114)))) none,
    .act (some 116) (.op (.pure (.move (.tmp 2)))) (some (115, true)),
    .act (some 117) (.op (.pure (.bin .geq (.tmp 116) (.const (.int .i64 0))))) (some (115, true)),
    .act (some 118) (.op (.pure (.pick (.tmp 115) (.tmp 117) (.const (.bool false))))) none,
    .act (some 119) (.op (.pure (.move (.tmp 118)))) none,
    .act (some 120) (.op (.pure (.move (.tmp 2)))) (some (119, true)),
    .act (some 121) (.op (.pure (.fieldAddr 2 (.tmp 3)))) (some (119, true)),
    .act (some 122) (.op (.read (.load1 (.tmp 121)))) (some (119, true)),
    .act (some 123) (.op (.pure (.bin .lss (.tmp 120) (.tmp 122)))) (some (119, true)),
    .act (some 124) (.op (.pure (.pick (.tmp 119) (.tmp 123) (.const (.bool false))))) none,
    .act (some 15) (.op (.pure (.move (.tmp 124)))) none])
  (.seq (.steps [
    .act (some 125) (.op (.read (.loadN 3 (.tmp 3)))) none,
    .act (some 126) (.op (.pure (.move (.tmp 1)))) none,
    .act (some 127) (.op (.pure (.move (.tmp 2)))) none,
    .act (some 129) (.op (.read (.loadN 3 (.tmp 3)))) none,
    .act (some 130) (.op (.pure (.move (.tmp 1)))) none,
    .act (some 131) (.op (.pure (.move (.tmp 2)))) none,
    .act (some 133) (.op (.read (.loadN 3 (.tmp 3)))) none,
    .act (some 128) (.call (.func 11) [(.tmp 125), (.tmp 126), (.tmp 127), (.const (.int .i64 0))]) none,
    .again 133 (.loadN 3 (.tmp 3)) none,
    .again 129 (.loadN 3 (.tmp 3)) none,
    .act (some 132) (.call (.func 12) [(.tmp 129), (.tmp 130), (.tmp 131)]) none,
    .again 133 (.loadN 3 (.tmp 3)) none,
    .act (some 134) (.call (.func 13) [(.tmp 133)]) none,
    .act (some 16) (.op (.pure (.move (.tmp 128)))) none,
    .act (some 17) (.op (.pure (.move (.tmp 132)))) none,
    .act (some 18) (.op (.pure (.move (.tmp 134)))) none])
  (.seq (.steps [
    .act (some 136) (.op (.pure (.move (.tmp 16)))) none,
    .act (some 137) (.call (.func 18) [(.tmp 136)]) none,
    .act (some 135) (.op (.pure (.move (.tmp 137)))) none,
    .act (some 138) (.op (.pure (.extract (.tmp 135) 0))) none,
    .act (some 139) (.op (.pure (.extract (.tmp 135) 1))) none,
    .act (some 19) (.op (.pure (.move (.tmp 138)))) none,
    .act (some 20) (.op (.pure (.move (.tmp 139)))) none])
  (.seq (.steps [
    .act (some 141) (.op (.pure (.move (.tmp 17)))) none,
    .act (some 142) (.call (.func 18) [(.tmp 141)]) none,
    .act (some 140) (.op (.pure (.move (.tmp 142)))) none,
    .act (some 143) (.op (.pure (.extract (.tmp 140) 0))) none,
    .act (some 144) (.op (.pure (.extract (.tmp 140) 1))) none,
    .act (some 21) (.op (.pure (.move (.tmp 143)))) none,
    .act (some 22) (.op (.pure (.move (.tmp 144)))) none])
  (.seq (.steps [
    .act (some 146) (.op (.pure (.move (.tmp 18)))) none,
    .act (some 147) (.call (.func 18) [(.tmp 146)]) none,
    .act (some 145) (.op (.pure (.move (.tmp 147)))) none,
    .act (some 148) (.op (.pure (.extract (.tmp 145) 0))) none,
    .act (some 149) (.op (.pure (.extract (.tmp 145) 1))) none,
    .act (some 23) (.op (.pure (.move (.tmp 148)))) none,
    .act (some 24) (.op (.pure (.move (.tmp 149)))) none])
  (.seq (.seq (.steps [
    .act (some 150) (.op (.read (.loadN 3 (.tmp 3)))) none,
    .act (some 151) (.call (.func 26) [(.tmp 150)]) none,
    .act (some 152) (.op (.pure (.move (.tmp 14)))) none,
    .act (some 153) (.op (.pure (.eqB true (.tmp 151) (.tmp 152)))) none,
    .act (some 154) (.op (.pure (.move (.tmp 153)))) none,
    .act (some 155) (.op (.read (.loadN 3 (.tmp 3)))) (some (154, false)),
    .act (some 156) (.op (.pure (.move (.tmp 1)))) (some (154, false)),
    .act (some 157) (.op (.pure (.move (.tmp 2)))) (some (154, false)),
    .act (some 158) (.call (.func 23) [(.tmp 155), (.tmp 156), (.tmp 157)]) (some (154, false)),
    .act (some 159) (.op (.pure (.bin .geq (.tmp 158) (.const (.int .i64 0))))) (some (154, false)),
    .act (some 160) (.op (.pure (.move (.tmp 15)))) (some (154, false)),
    .act (some 161) (.op (.pure (.eqB true (.tmp 159) (.tmp 160)))) (some (154, false)),
    .act (some 162) (.op (.pure (.pick (.tmp 154) (.const (.bool true)) (.tmp 161)))) none,
    .act (some 163) (.op (.pure (.move (.tmp 162)))) none,
    .act (some 164) (.op (.pure (.move (.tmp 16)))) (some (163, false)),
    .act (some 165) (.call (.func 21) [(.tmp 164)]) (some (163, false)),
    .act (some 166) (.op (.pure (.move (.tmp 15)))) (some (163, false)),
    .act (some 167) (.op (.pure (.eqB false (.tmp 165) (.tmp 166)))) (some (163, false)),
    .act (some 168) (.op (.pure (.pick (.tmp 163) (.const (.bool true)) (.tmp 167)))) none,
    .act (some 169) (.op (.pure (.move (.tmp 168)))) none,
    .act (some 170) (.op (.pure (.move (.tmp 17)))) (some (169, false)),
    .act (some 171) (.call (.func 21) [(.tmp 170)]) (some (169, false)),
    .act (some 172) (.op (.pure (.move (.tmp 15)))) (some (169, false)),
    .act (some 173) (.op (.pure (.eqB false (.tmp 171) (.tmp 172)))) (some (169, false)),
    .act (some 174) (.op (.pure (.pick (.tmp 169) (.const (.bool true)) (.tmp 173)))) none,
    .act (some 175) (.op (.pure (.move (.tmp 174)))) none,
    .act (some 176) (.op (.pure (.move (.tmp 18)))) (some (175, false)),
    .act (some 177) (.call (.func 21) [(.tmp 176)]) (some (175, false)),
    .act (some 178) (.op (.pure (.move (.tmp 14)))) (some (175, false)),
    .act (some 179) (.op (.pure (.eqB false (.tmp 177) (.tmp 178)))) (some (175, false)),
    .act (some 180) (.op (.pure (.pick (.tmp 175) (.const (.bool true)) (.tmp 179)))) none,
    .act (some 181) (.op (.pure (.move (.tmp 180)))) none,
    .act (some 182) (.op (.pure (.move (.tmp 19)))) (some (181, false)),
    .act (some 183) (.op (.pure (.bin .eql (.tmp 182) (.const (.int .i64 2))))) (some (181, false)),
    .act (some 184) (.op (.pure (.move (.tmp 15)))) (some (181, false)),
    .act (some 185) (.op (.pure (.eqB false (.tmp 183) (.tmp 184)))) (some (181, false)),
    .act (some 186) (.op (.pure (.pick (.tmp 181) (.const (.bool true)) (.tmp 185)))) none,
    .act (some 187) (.op (.pure (.move (.tmp 186)))) none,
    .act (some 188) (.op (.pure (.move (.tmp 21)))) (some (187, false)),
    .act (some 189) (.op (.pure (.bin .eql (.tmp 188) (.const (.int .i64 2))))) (some (187, false)),
    .act (some 190) (.op (.pure (.move (.tmp 15)))) (some (187, false)),
    .act (some 191) (.op (.pure (.eqB false (.tmp 189) (.tmp 190)))) (some (187, false)),
    .act (some 192) (.op (.pure (.pick (.tmp 187) (.const (.bool true)) (.tmp 191)))) none,
    .act (some 193) (.op (.pure (.move (.tmp 192)))) none,
    .act (some 194) (.op (.pure (.move (.tmp 23)))) (some (193, false)),
    .act (some 195) (.op (.pure (.bin .eql (.tmp 194) (.const (.int .i64 2))))) (some (193, false)),
    .act (some 196) (.op (.pure (.move (.tmp 14)))) (some (193, false)),
    .act (some 197) (.op (.pure (.eqB false (.tmp 195) (.tmp 196)))) (some (193, false)),
    .act (some 198) (.op (.pure (.pick (.tmp 193) (.const (.bool true)) (.tmp 197)))) none])
  (.cond (.tmp 198)
   (.seq (.steps [
     .act (some 6) (.op (.pure (.move (.const (.bool false))))) none])
   .ret)
   .skip))
  (.seq (.seq (.steps [
    .act (some 199) (.op (.pure (.move (.tmp 14)))) none,
    .act (some 200) (.op (.pure (.not (.tmp 199)))) none])
  (.cond (.tmp 200)
   (.seq (.steps [
     .act (some 201) (.op (.read (.loadN 3 (.tmp 3)))) none,
     .act (some 202) (.op (.pure (.move (.tmp 7)))) none,
     .act (some 203) (.call (.func 9) [(.tmp 201), (.tmp 202)]) none,
     .act (some 204) (.op (.pure (.bin .eql (.tmp 203) (.const (.int .i64 2))))) none,
     .act (some 205) (.op (.pure (.move (.tmp 204)))) none,
     .act (some 206) (.op (.read (.loadN 3 (.tmp 3)))) (some (205, true)),
     .act (some 207) (.call (.func 10) [(.tmp 206)]) (some (205, true)),
     .act (some 208) (.op (.pure (.bin .eql (.tmp 207) (.const (.int .i64 0))))) (some (205, true)),
     .act (some 209) (.op (.pure (.pick (.tmp 205) (.tmp 208) (.const (.bool false))))) none,
     .act (some 210) (.op (.pure (.move (.tmp 209)))) none,
     .act (some 211) (.op (.pure (.move (.tmp 18)))) (some (210, true)),
     .act (some 212) (.op (.pure (.move (.tmp 7)))) (some (210, true)),
     .act (some 213) (.call (.func 16) [(.tmp 211), (.tmp 212)]) (some (210, true)),
     .act (some 214) (.op (.pure (.pick (.tmp 210) (.tmp 213) (.const (.bool false))))) none,
     .act (some 215) (.op (.pure (.move (.tmp 214)))) none,
     .act (some 216) (.op (.pure (.move (.tmp 7)))) (some (215, true)),
     .act (some 217) (.call (.func 25) [(.tmp 216)]) (some (215, true)),
     .act (some 218) (.op (.pure (.bin .eql (.tmp 217) (.const (.int .i64 0))))) (some (215, true)),
     .act (some 219) (.op (.pure (.pick (.tmp 215) (.tmp 218) (.const (.bool false))))) none,
     .act (some 220) (.op (.pure (.move (.tmp 219)))) none,
     .act (some 221) (.call (.func 20) []) (some (220, true)),
     .act (some 222) (.op (.pure (.pick (.tmp 220) (.tmp 221) (.const (.bool false))))) none,
     .act (some 6) (.op (.pure (.move (.tmp 222)))) none])
   .ret)
   .skip))
  (.seq (.steps [
    .act (some 223) (.op (.read (.loadN 3 (.tmp 3)))) none,
    .act (some 224) (.call (.func 9) [(.tmp 223), (.const (.pointer none))]) none,
    .act (some 225) (.op (.pure (.bin .eql (.tmp 224) (.const (.int .i64 1))))) none,
    .act (some 226) (.op (.pure (.move (.tmp 225)))) none,
    .act (some 227) (.op (.pure (.move (.tmp 18)))) (some (226, true)),
    .act (some 228) (.call (.func 16) [(.tmp 227), (.const (.pointer none))]) (some (226, true)),
    .act (some 229) (.op (.pure (.not (.tmp 228)))) (some (226, true)),
    .act (some 230) (.op (.pure (.pick (.tmp 226) (.tmp 229) (.const (.bool false))))) none,
    .act (some 231) (.op (.pure (.move (.tmp 230)))) none,
    .act (some 232) (.call (.func 20) []) (some (231, true)),
    .act (some 233) (.op (.pure (.pick (.tmp 231) (.tmp 232) (.const (.bool false))))) none,
    .act (some 6) (.op (.pure (.move (.tmp 233)))) none])
  .ret)))))))))))))))) }
theorem c6 : compFn Try.prog (mkPlan Try.prog) [] true 6 = some L6 := by kernel_rfl
/-- sluiceway/mem.New -/
def L7 : LFun := { n := 16, pop := false, res := [.tmp 2, .tmp 3], code :=
  (.seq (.steps [
    .act (some 2) (.op (.pure (.move (.const (.pointer none))))) none,
    .act (some 3) (.op (.pure (.move (.const (.int .i64 0))))) none])
  (.seq (.seq (.steps [
    .act (some 4) (.op (.pure (.move (.tmp 0)))) none,
    .act (some 5) (.op (.pure (.bin .lss (.tmp 4) (.const (.int .i64 1))))) none,
    .act (some 6) (.op (.pure (.move (.tmp 5)))) none,
    .act (some 7) (.op (.pure (.move (.tmp 0)))) (some (6, false)),
    .act (some 8) (.op (.pure (.bin .gtr (.tmp 7) (.const (.int .i64 65536))))) (some (6, false)),
    .act (some 9) (.op (.pure (.pick (.tmp 6) (.const (.bool true)) (.tmp 8)))) none])
  (.cond (.tmp 9)
   (.seq (.steps [
     .act (some 2) (.op (.pure (.move (.const (.pointer none))))) none,
     .act (some 3) (.op (.pure (.move (.const (.int .i64 2))))) none])
   .ret)
   .skip))
  (.seq (.steps [
    .act (some 10) (.op (.pure (.move (.tmp 0)))) none,
    .act (some 11) (.op (.new (.makeSlice 1 8 [(w64 0#64)] (.tmp 10) (.tmp 10)))) none,
    .act (some 12) (.op (.pure (.move (.tmp 0)))) none,
    .act (some 13) (.op (.new (.makeSlice 1 1 [(.bool false)] (.tmp 12) (.tmp 12)))) none,
    .act (some 14) (.op (.pure (.build [(.slice none 0 0), (.slice none 0 0), (.int .i64 0), (.int .i64 0), (.int .i64 0), (.int .i64 0), (.int .i64 0), (.int .i64 0), (.int .i64 0), (.bool false)] [(0, 1, (.tmp 11)), (1, 1, (.tmp 13)), (8, 1, (.const (.int .i64 (-1))))]))) none,
    .act (some 15) (.op (.new (.box (.tmp 14)))) none,
    .act (some 2) (.op (.pure (.move (.tmp 15)))) none,
    .act (some 3) (.op (.pure (.move (.const (.int .i64 0))))) none])
  .ret))) }
theorem c7 : compFn Try.prog (mkPlan Try.prog) [] false 7 = some L7 := by kernel_rfl
/-- sluiceway/sluicewayref02.New -/
def L8 : LFun := { n := 16, pop := false, res := [.loadN 10 2, .tmp 3], code :=
  (.seq (.steps [
    .act (some 2) (.op (.new (.alloc [(.slice none 0 0), (.slice none 0 0), (.int .i64 0), (.int .i64 0), (.int .i64 0), (.int .i64 0), (.int .i64 0), (.int .i64 0), (.int .i64 0), (.bool false)]))) none,
    .act (some 3) (.op (.pure (.move (.const (.int .i64 0))))) none])
  (.seq (.seq (.steps [
    .act (some 4) (.op (.pure (.move (.tmp 0)))) none,
    .act (some 5) (.op (.pure (.bin .lss (.tmp 4) (.const (.int .i64 1))))) none,
    .act (some 6) (.op (.pure (.move (.tmp 5)))) none,
    .act (some 7) (.op (.pure (.move (.tmp 0)))) (some (6, false)),
    .act (some 8) (.op (.pure (.bin .gtr (.tmp 7) (.const (.int .i64 65536))))) (some (6, false)),
    .act (some 9) (.op (.pure (.pick (.tmp 6) (.const (.bool true)) (.tmp 8)))) none])
  (.cond (.tmp 9)
   (.seq (.steps [
     .act (some 10) (.op (.pure (.build [(.slice none 0 0), (.slice none 0 0), (.int .i64 0), (.int .i64 0), (.int .i64 0), (.int .i64 0), (.int .i64 0), (.int .i64 0), (.int .i64 0), (.bool false)] []))) none,
     .act none (.op (.eff (.store 10 (.tmp 2) (.tmp 10)))) none,
     .act (some 3) (.op (.pure (.move (.const (.int .i64 2))))) none])
   .ret)
   .skip))
  (.seq (.steps [
    .act (some 11) (.op (.pure (.move (.tmp 0)))) none,
    .act (some 12) (.op (.new (.makeSlice 1 8 [(w64 0#64)] (.tmp 11) (.tmp 11)))) none,
    .act (some 13) (.op (.pure (.move (.tmp 0)))) none,
    .act (some 14) (.op (.new (.makeSlice 1 1 [(.bool false)] (.tmp 13) (.tmp 13)))) none,
    .act (some 15) (.op (.pure (.build [(.slice none 0 0), (.slice none 0 0), (.int .i64 0), (.int .i64 0), (.int .i64 0), (.int .i64 0), (.int .i64 0), (.int .i64 0), (.int .i64 0), (.bool false)] [(0, 1, (.tmp 12)), (1, 1, (.tmp 14)), (8, 1, (.const (.int .i64 (-1))))]))) none,
    .act none (.op (.eff (.store 10 (.tmp 2) (.tmp 15)))) none,
    .act (some 3) (.op (.pure (.move (.const (.int .i64 0))))) none])
  .ret))) }
theorem c8 : compFn Try.prog (mkPlan Try.prog) [] false 8 = some L8 := by kernel_rfl
/-- (sluiceway/hp.Guard).Setup -/
def L9 : LFun := { n := 36, pop := true, res := [.tmp 4], code :=
  (.seq (.steps [
    .act (some 2) (.op (.new (.box (.tmp 0)))) none,
    .act (some 4) (.op (.pure (.move (.const (.int .i64 0))))) none])
  (.seq (.block 0 (.seq (.steps [
     .act (some 7) (.op (.pure (.move (.tmp 1)))) none,
     .act (some 8) (.call (.func 27) [(.tmp 7)]) none,
     .act (some 9) (.op (.pure (.bin .eql (.tmp 8) (.const (.int .i64 0))))) none,
     .act (some 6) (.op (.pure (.move (.tmp 9)))) none])
   (.cond (.tmp 6)
    (.seq (.steps [
      .act (some 4) (.op (.pure (.move (.const (.int .i64 1))))) none])
    .ret)
    (.seq (.steps [
      .act (some 11) (.op (.read (.loadN 3 (.tmp 2)))) none,
      .act (some 12) (.call (.func 26) [(.tmp 11)]) none,
      .act (some 13) (.op (.pure (.not (.tmp 12)))) none,
      .act (some 14) (.op (.pure (.move (.tmp 13)))) none,
      .act (some 15) (.op (.read (.loadN 3 (.tmp 2)))) (some (14, false)),
      .act (some 17) (.op (.pure (.move (.tmp 1)))) (some (14, false)),
      .act (some 19) (.op (.pure (.fieldAddr 0 (.tmp 2)))) (some (14, false)),
      .act (some 20) (.op (.read (.load1 (.tmp 19)))) (some (14, false)),
      .act (some 16) (.call (.func 10) [(.tmp 15)]) (some (14, false)),
      .again 20 (.load1 (.tmp 19)) (some (14, false)),
      .act (some 18) (.call (.func 27) [(.tmp 17)]) (some (14, false)),
      .act (some 21) (.op (.pure (.bin .sub (.tmp 18) (.tmp 20)))) (some (14, false)),
      .act (some 22) (.op (.pure (.bin .gtr (.tmp 16) (.tmp 21)))) (some (14, false)),
      .act (some 23) (.op (.pure (.pick (.tmp 14) (.const (.bool true)) (.tmp 22)))) none,
      .act (some 10) (.op (.pure (.move (.tmp 23)))) none,
      .again 20 (.load1 (.tmp 19)) (some (14, false))])
    (.cond (.tmp 10)
     (.seq (.steps [
       .act (some 4) (.op (.pure (.move (.const (.int .i64 2))))) none])
     .ret)
     .skip)))))
  (.seq (.seq (.steps [
    .act (some 24) (.op (.read (.loadN 3 (.tmp 2)))) none,
    .act (some 25) (.call (.func 10) [(.tmp 24)]) none,
    .act (some 26) (.op (.pure (.move (.const (.int .i64 0))))) none])
  (.block 1 (.loop [1, 2, 25, 26] (.seq (.steps [
      .act (some 27) (.op (.pure (.bin .lss (.tmp 26) (.tmp 25)))) none])
    (.seq (.cond (.tmp 27)
     .skip
     (.exit 1))
    (.seq (.block 2 (.seq (.steps [
       .act (some 28) (.op (.pure (.move (.tmp 26)))) none,
       .act (some 5) (.op (.pure (.move (.tmp 28)))) none])
     (.steps [
       .act (some 29) (.op (.pure (.move (.tmp 1)))) none,
       .act (some 30) (.op (.pure (.fieldAddr 0 (.tmp 2)))) none,
       .act (some 31) (.op (.read (.load1 (.tmp 30)))) none,
       .act (some 32) (.op (.pure (.move (.tmp 5)))) none,
       .act (some 33) (.op (.pure (.bin .add (.tmp 31) (.tmp 32)))) none,
       .act (some 34) (.call (.func 14) [(.tmp 29), (.tmp 33), (.const (w64 0#64))]) none])))
    (.steps [
      .act (some 35) (.op (.pure (.bin .add (.tmp 26) (.const (.int .i64 1))))) none,
      .act (some 26) (.op (.pure (.move (.tmp 35)))) none])))))))
  (.seq (.steps [
    .act (some 4) (.op (.pure (.move (.const (.int .i64 0))))) none])
  .ret)))) }
theorem c9 : compFn Try.prog (mkPlan Try.prog) [(6, [1, 2, 25, 26])] true 9 = some L9 := by kernel_rfl
/-- (sluiceway/hp.Guard).Words -/
def L10 : LFun := { n := 11, pop := true, res := [.tmp 2], code :=
  (.seq (.steps [
    .act (some 1) (.op (.new (.box (.tmp 0)))) none,
    .act (some 2) (.op (.pure (.move (.const (.int .i64 0))))) none])
  (.seq (.seq (.steps [
    .act (some 3) (.op (.read (.loadN 3 (.tmp 1)))) none,
    .act (some 4) (.call (.func 26) [(.tmp 3)]) none,
    .act (some 5) (.op (.pure (.not (.tmp 4)))) none])
  (.cond (.tmp 5)
   (.seq (.steps [
     .act (some 2) (.op (.pure (.move (.const (.int .i64 0))))) none])
   .ret)
   .skip))
  (.seq (.steps [
    .act (some 6) (.op (.pure (.fieldAddr 1 (.tmp 1)))) none,
    .act (some 7) (.op (.read (.load1 (.tmp 6)))) none,
    .act (some 8) (.op (.pure (.fieldAddr 2 (.tmp 1)))) none,
    .act (some 9) (.op (.read (.load1 (.tmp 8)))) none,
    .act (some 10) (.op (.pure (.bin .mul (.tmp 7) (.tmp 9)))) none,
    .act (some 2) (.op (.pure (.move (.tmp 10)))) none])
  .ret))) }
theorem c10 : compFn Try.prog (mkPlan Try.prog) [] true 10 = some L10 := by kernel_rfl
/-- sluiceway/hp.Protect -/
def L11 : LFun := { n := 21, pop := false, res := [.tmp 8], code :=
  (.seq (.steps [
    .act (some 4) (.op (.new (.box (.tmp 0)))) none,
    .act (some 8) (.op (.pure (.move (.const (.pointer none))))) none])
  (.seq (.steps [
    .act (some 10) (.op (.read (.loadN 3 (.tmp 4)))) none,
    .act (some 11) (.op (.pure (.move (.tmp 1)))) none,
    .act (some 12) (.op (.pure (.move (.tmp 2)))) none,
    .act (some 13) (.call (.func 23) [(.tmp 10), (.tmp 11), (.tmp 12)]) none,
    .act (some 9) (.op (.pure (.move (.tmp 13)))) none])
  (.seq (.steps [
    .act (some 14) (.op (.read (.loadN 3 (.tmp 4)))) none,
    .act (some 15) (.op (.pure (.move (.tmp 9)))) none,
    .act (some 16) (.op (.pure (.move (.tmp 3)))) none,
    .act (some 17) (.op (.pure (.build [(.bool false), (.int .i64 0), (.int .i64 0), (.int .i64 0), (.int .i64 0), (.int .i64 0), (.int .i64 0), (.int .i64 0), (w64 0#64), (.slice none 0 0), (.bool false), (.int .i64 0)] [(1, 3, (.tmp 14)), (4, 1, (.const (.int .i64 0))), (5, 1, (.tmp 15)), (6, 1, (.tmp 16))]))) none,
    .act (some 18) (.op (.pure (.move (.tmp 9)))) none,
    .act (some 19) (.op (.pure (.bin .geq (.tmp 18) (.const (.int .i64 0))))) none,
    .act (some 20) (.call (.func 28) [(.tmp 17), (.tmp 19)]) none,
    .act (some 8) (.op (.pure (.move (.tmp 20)))) none])
  .ret))) }
theorem c11 : compFn Try.prog (mkPlan Try.prog) [] false 11 = some L11 := by kernel_rfl
/-- sluiceway/hp.Clear -/
def L12 : LFun := { n := 18, pop := false, res := [.tmp 6], code :=
  (.seq (.steps [
    .act (some 3) (.op (.new (.box (.tmp 0)))) none,
    .act (some 6) (.op (.pure (.move (.const (.pointer none))))) none])
  (.seq (.steps [
    .act (some 8) (.op (.read (.loadN 3 (.tmp 3)))) none,
    .act (some 9) (.op (.pure (.move (.tmp 1)))) none,
    .act (some 10) (.op (.pure (.move (.tmp 2)))) none,
    .act (some 11) (.call (.func 23) [(.tmp 8), (.tmp 9), (.tmp 10)]) none,
    .act (some 7) (.op (.pure (.move (.tmp 11)))) none])
  (.seq (.steps [
    .act (some 12) (.op (.read (.loadN 3 (.tmp 3)))) none,
    .act (some 13) (.op (.pure (.move (.tmp 7)))) none,
    .act (some 14) (.op (.pure (.build [(.bool false), (.int .i64 0), (.int .i64 0), (.int .i64 0), (.int .i64 0), (.int .i64 0), (.int .i64 0), (.int .i64 0), (w64 0#64), (.slice none 0 0), (.bool false), (.int .i64 0)] [(1, 3, (.tmp 12)), (4, 1, (.const (.int .i64 1))), (5, 1, (.tmp 13))]))) none,
    .act (some 15) (.op (.pure (.move (.tmp 7)))) none,
    .act (some 16) (.op (.pure (.bin .geq (.tmp 15) (.const (.int .i64 0))))) none,
    .act (some 17) (.call (.func 28) [(.tmp 14), (.tmp 16)]) none,
    .act (some 6) (.op (.pure (.move (.tmp 17)))) none])
  .ret))) }
theorem c12 : compFn Try.prog (mkPlan Try.prog) [] false 12 = some L12 := by kernel_rfl
/-- sluiceway/hp.Scan -/
def L13 : LFun := { n := 8, pop := false, res := [.tmp 2], code :=
  (.seq (.steps [
    .act (some 1) (.op (.new (.box (.tmp 0)))) none,
    .act (some 2) (.op (.pure (.move (.const (.pointer none))))) none])
  (.seq (.steps [
    .act (some 3) (.op (.read (.loadN 3 (.tmp 1)))) none,
    .act (some 4) (.op (.pure (.build [(.bool false), (.int .i64 0), (.int .i64 0), (.int .i64 0), (.int .i64 0), (.int .i64 0), (.int .i64 0), (.int .i64 0), (w64 0#64), (.slice none 0 0), (.bool false), (.int .i64 0)] [(1, 3, (.tmp 3)), (4, 1, (.const (.int .i64 2)))]))) none,
    .act (some 5) (.op (.read (.loadN 3 (.tmp 1)))) none,
    .act (some 6) (.call (.func 26) [(.tmp 5)]) none,
    .again 3 (.loadN 3 (.tmp 1)) none,
    .act (some 7) (.call (.func 28) [(.tmp 4), (.tmp 6)]) none,
    .act (some 2) (.op (.pure (.move (.tmp 7)))) none])
  .ret)) }
theorem c13 : compFn Try.prog (mkPlan Try.prog) [] false 13 = some L13 := by kernel_rfl
/-- (*sluiceway/mem.Mem).Store -/
def L14 : LFun := { n := 10, pop := true, res := [], code :=
  (.seq (.steps [
    .act (some 5) (.op (.new (.box (.tmp 2)))) none])
  (.steps [
    .act (some 6) (.op (.pure (.move (.tmp 0)))) none,
    .act (some 7) (.op (.pure (.move (.tmp 1)))) none,
    .act (some 8) (.op (.pure (.mkFunc 30 [] [(.tmp 5)]))) none,
    .act (some 9) (.call (.func 29) [(.tmp 6), (.const (.int .i64 1)), (.tmp 7), (.tmp 8)]) none])) }
theorem c14 : compFn Try.prog (mkPlan Try.prog) [] true 14 = some L14 := by kernel_rfl
/-- (sluiceway/sluicewayref10.Op).Step -/
def L15 : LFun := { n := 105, pop := false, res := [.loadN 9 4, .loadN 10 5], code :=
  (.seq (.steps [
    .act (some 2) (.op (.new (.box (.tmp 0)))) none,
    .act (some 3) (.op (.new (.box (.tmp 1)))) none,
    .act (some 4) (.op (.new (.alloc [(.int .i64 0), (.int .i64 0), (.int .i64 0), (.int .i64 0), (.int .i64 0), (.int .i64 0), (w64 0#64), (.slice none 0 0), (.bool false)]))) none,
    .act (some 5) (.op (.new (.alloc [(.slice none 0 0), (.slice none 0 0), (.int .i64 0), (.int .i64 0), (.int .i64 0), (.int .i64 0), (.int .i64 0), (.int .i64 0), (.int .i64 0), (.bool false)]))) none])
  (.seq (.seq (.steps [
    .act (some 10) (.op (.pure (.fieldAddr 8 (.tmp 2)))) none,
    .act (some 11) (.op (.read (.load1 (.tmp 10)))) none])
  (.cond (.tmp 11)
   (.seq (.steps [
     .act (some 12) (.op (.read (.loadN 9 (.tmp 2)))) none,
     .act (some 13) (.op (.read (.loadN 10 (.tmp 3)))) none,
     .act none (.op (.eff (.store 9 (.tmp 4) (.tmp 12)))) none,
     .again 13 (.loadN 10 (.tmp 3)) none,
     .act none (.op (.eff (.store 10 (.tmp 5) (.tmp 13)))) none])
   .ret)
   .skip))
  (.seq (.steps [
    .act (some 14) (.op (.pure (.fieldAddr 4 (.tmp 2)))) none,
    .act (some 15) (.op (.read (.load1 (.tmp 14)))) none,
    .act (some 16) (.op (.pure (.build [(.int .i64 0), (.int .i64 0), (w64 0#64), (w64 0#64), (w64 0#64), (w64 0#64)] [(1, 1, (.tmp 15))]))) none,
    .act (some 6) (.op (.new (.alloc [(.int .i64 0), (.int .i64 0), (w64 0#64), (w64 0#64), (w64 0#64), (w64 0#64)]))) none,
    .act none (.op (.eff (.store 6 (.tmp 6) (.tmp 16)))) none])
  (.seq (.seq (.steps [
    .act (some 17) (.op (.pure (.fieldAddr 0 (.tmp 2)))) none,
    .act (some 18) (.op (.read (.load1 (.tmp 17)))) none,
    .act (some 19) (.op (.pure (.bin .eql (.tmp 18) (.const (.int .i64 0))))) none,
    .act (some 20) (.op (.pure (.move (.tmp 19)))) none,
    .act (some 21) (.op (.pure (.fieldAddr 5 (.tmp 2)))) (some (20, true)),
    .act (some 22) (.op (.read (.load1 (.tmp 21)))) (some (20, true)),
    .act (some 23) (.op (.pure (.bin .eql (.tmp 22) (.const (.int .i64 1))))) (some (20, true)),
    .act (some 24) (.op (.pure (.pick (.tmp 20) (.tmp 23) (.const (.bool false))))) none])
  (.cond (.tmp 24)
   (.steps [
     .act (some 25) (.op (.pure (.fieldAddr 3 (.tmp 2)))) none,
     .act (some 26) (.op (.read (.load1 (.tmp 25)))) none,
     .act (some 27) (.op (.pure (.fieldAddr 6 (.tmp 2)))) none,
     .act (some 28) (.op (.read (.load1 (.tmp 27)))) none,
     .act (some 29) (.op (.pure (.build [(w64 0#64), (w64 0#64), (w64 0#64), (w64 0#64)] [(0, 1, (.tmp 28))]))) none,
     .act (some 30) (.op (.pure (.build [(.int .i64 0), (.int .i64 0), (w64 0#64), (w64 0#64), (w64 0#64), (w64 0#64)] [(0, 1, (.const (.int .i64 1))), (1, 1, (.tmp 26)), (2, 4, (.tmp 29))]))) none,
     .act none (.op (.eff (.store 6 (.tmp 6) (.tmp 30)))) none])
   .skip))
  (.seq (.seq (.steps [
    .act (some 31) (.op (.pure (.fieldAddr 0 (.tmp 2)))) none,
    .act (some 32) (.op (.read (.load1 (.tmp 31)))) none,
    .act (some 33) (.op (.pure (.bin .eql (.tmp 32) (.const (.int .i64 1))))) none])
  (.cond (.tmp 33)
   (.steps [
     .act (some 34) (.op (.pure (.fieldAddr 3 (.tmp 2)))) none,
     .act (some 35) (.op (.read (.load1 (.tmp 34)))) none,
     .act (some 36) (.op (.pure (.build [(.int .i64 0), (.int .i64 0), (w64 0#64), (w64 0#64), (w64 0#64), (w64 0#64)] [(0, 1, (.const (.int .i64 1))), (1, 1, (.tmp 35))]))) none,
     .act none (.op (.eff (.store 6 (.tmp 6) (.tmp 36)))) none])
   .skip))
  (.seq (.seq (.steps [
    .act (some 37) (.op (.pure (.fieldAddr 0 (.tmp 2)))) none,
    .act (some 38) (.op (.read (.load1 (.tmp 37)))) none,
    .act (some 39) (.op (.pure (.bin .eql (.tmp 38) (.const (.int .i64 2))))) none])
  (.cond (.tmp 39)
   (.steps [
     .act (some 40) (.op (.pure (.fieldAddr 1 (.tmp 2)))) none,
     .act (some 41) (.op (.read (.load1 (.tmp 40)))) none,
     .act (some 42) (.op (.pure (.fieldAddr 5 (.tmp 2)))) none,
     .act (some 43) (.op (.read (.load1 (.tmp 42)))) none,
     .act (some 44) (.op (.pure (.bin .add (.tmp 41) (.tmp 43)))) none,
     .act (some 45) (.op (.pure (.build [(.int .i64 0), (.int .i64 0), (w64 0#64), (w64 0#64), (w64 0#64), (w64 0#64)] [(1, 1, (.tmp 44))]))) none,
     .act none (.op (.eff (.store 6 (.tmp 6) (.tmp 45)))) none])
   .skip))
  (.seq (.steps [
    .act (some 47) (.op (.read (.loadN 10 (.tmp 3)))) none,
    .act (some 48) (.op (.read (.loadN 6 (.tmp 6)))) none,
    .act (some 49) (.call (.func 31) [(.tmp 47), (.tmp 48)]) none,
    .act (some 46) (.op (.pure (.move (.tmp 49)))) none,
    .act (some 50) (.op (.pure (.extract (.tmp 46) 0))) none,
    .act (some 51) (.op (.pure (.extract (.tmp 46) 1))) none,
    .act (some 52) (.op (.pure (.extract (.tmp 46) 2))) none,
    .act (some 7) (.op (.new (.alloc [(.slice none 0 0), (.slice none 0 0), (.int .i64 0), (.int .i64 0), (.int .i64 0), (.int .i64 0), (.int .i64 0), (.int .i64 0), (.int .i64 0), (.bool false)]))) none,
    .act none (.op (.eff (.store 10 (.tmp 7) (.tmp 50)))) none,
    .act (some 8) (.op (.pure (.move (.tmp 51)))) none,
    .act (some 9) (.op (.pure (.move (.tmp 52)))) none])
  (.seq (.seq (.steps [
    .act (some 53) (.op (.pure (.fieldAddr 0 (.tmp 2)))) none,
    .act (some 54) (.op (.read (.load1 (.tmp 53)))) none])
  (.block 0 (.seq (.steps [
     .act (some 80) (.op (.pure (.bin .eql (.tmp 54) (.const (.int .i64 0))))) none,
     .act (some 79) (.op (.pure (.move (.tmp 80)))) none])
   (.cond (.tmp 79)
    (.seq (.seq (.steps [
      .act (some 81) (.op (.pure (.fieldAddr 5 (.tmp 2)))) none,
      .act (some 82) (.op (.read (.load1 (.tmp 81)))) none,
      .act (some 83) (.op (.pure (.bin .eql (.tmp 82) (.const (.int .i64 2))))) none,
      .act (some 84) (.op (.pure (.move (.tmp 83)))) none,
      .act (some 85) (.op (.pure (.move (.tmp 8)))) (some (84, true)),
      .act (some 86) (.op (.pure (.fieldAddr 6 (.tmp 2)))) (some (84, true)),
      .act (some 87) (.op (.read (.load1 (.tmp 86)))) (some (84, true)),
      .act (some 88) (.op (.pure (.bin .eql (.tmp 85) (.tmp 87)))) (some (84, true)),
      .act (some 89) (.op (.pure (.pick (.tmp 84) (.tmp 88) (.const (.bool false))))) none])
    (.cond (.tmp 89)
     (.seq (.steps [
       .act (some 90) (.op (.pure (.fieldAddr 8 (.tmp 2)))) none,
       .act none (.op (.eff (.store 1 (.tmp 90) (.const (.bool true))))) none])
     (.seq (.steps [
       .act (some 91) (.op (.read (.loadN 9 (.tmp 2)))) none,
       .act (some 92) (.op (.read (.loadN 10 (.tmp 7)))) none,
       .act none (.op (.eff (.store 9 (.tmp 4) (.tmp 91)))) none,
       .again 92 (.loadN 10 (.tmp 7)) none,
       .act none (.op (.eff (.store 10 (.tmp 5) (.tmp 92)))) none])
     .ret))
     .skip))
    (.seq (.steps [
      .act (some 93) (.op (.pure (.fieldAddr 5 (.tmp 2)))) none,
      .act (some 94) (.op (.read (.load1 (.tmp 93)))) none,
      .act (some 95) (.op (.pure (.bin .neq (.tmp 94) (.const (.int .i64 1))))) none])
    (.cond (.tmp 95)
     (.seq (.steps [
       .act (some 96) (.op (.pure (.move (.tmp 8)))) none,
       .act (some 97) (.op (.pure (.fieldAddr 6 (.tmp 2)))) none,
       .act none (.op (.eff (.store 1 (.tmp 97) (.tmp 96)))) none])
     (.steps [
       .act (some 98) (.op (.pure (.fieldAddr 5 (.tmp 2)))) none,
       .act none (.op (.eff (.store 1 (.tmp 98) (.const (.int .i64 1))))) none]))
     (.steps [
       .act (some 99) (.op (.pure (.fieldAddr 5 (.tmp 2)))) none,
       .act none (.op (.eff (.store 1 (.tmp 99) (.const (.int .i64 2))))) none]))))
    (.seq (.steps [
      .act (some 101) (.op (.pure (.bin .eql (.tmp 54) (.const (.int .i64 1))))) none,
      .act (some 100) (.op (.pure (.move (.tmp 101)))) none])
    (.cond (.tmp 100)
     (.steps [
       .act (some 102) (.op (.pure (.fieldAddr 8 (.tmp 2)))) none,
       .act none (.op (.eff (.store 1 (.tmp 102) (.const (.bool true))))) none])
     (.seq (.seq (.steps [
       .act (some 55) (.op (.pure (.move (.tmp 8)))) none,
       .act (some 56) (.op (.pure (.bin .neq (.tmp 55) (.const (w64 0#64))))) none])
     (.cond (.tmp 56)
      (.seq (.steps [
        .act (some 57) (.op (.new (.mkSlice 1 0 [] []))) none,
        .act (some 58) (.op (.pure (.fieldAddr 7 (.tmp 2)))) none,
        .act (some 59) (.op (.read (.load1 (.tmp 58)))) none,
        .act (some 60) (.op (.eff (.append 1 8 (.tmp 57) (.tmp 59)))) none,
        .act (some 61) (.op (.pure (.move (.tmp 8)))) none,
        .act (some 62) (.op (.new (.mkSlice 1 1 [(w64 0#64)] [(0, 1, (.tmp 61))]))) none,
        .act (some 63) (.op (.eff (.append 1 8 (.tmp 60) (.tmp 62)))) none,
        .act (some 64) (.op (.pure (.fieldAddr 7 (.tmp 2)))) none,
        .act none (.op (.eff (.store 1 (.tmp 64) (.tmp 63)))) none])
      (.steps [
        .act (some 65) (.op (.pure (.fieldAddr 6 (.tmp 2)))) none,
        .act (some 66) (.op (.read (.load1 (.tmp 65)))) none,
        .act (some 67) (.op (.pure (.bin .add (.tmp 66) (.const (w64 1#64))))) none,
        .act (some 68) (.op (.pure (.fieldAddr 6 (.tmp 2)))) none,
        .act none (.op (.eff (.store 1 (.tmp 68) (.tmp 67)))) none]))
      .skip))
     (.seq (.steps [
       .act (some 69) (.op (.pure (.fieldAddr 5 (.tmp 2)))) none,
       .act (some 70) (.op (.read (.load1 (.tmp 69)))) none,
       .act (some 71) (.op (.pure (.bin .add (.tmp 70) (.const (.int .i64 1))))) none,
       .act (some 72) (.op (.pure (.fieldAddr 5 (.tmp 2)))) none,
       .act none (.op (.eff (.store 1 (.tmp 72) (.tmp 71)))) none])
     (.steps [
       .act (some 73) (.op (.pure (.fieldAddr 5 (.tmp 2)))) none,
       .act (some 74) (.op (.read (.load1 (.tmp 73)))) none,
       .act (some 75) (.op (.pure (.fieldAddr 2 (.tmp 2)))) none,
       .act (some 76) (.op (.read (.load1 (.tmp 75)))) none,
       .act (some 77) (.op (.pure (.bin .eql (.tmp 74) (.tmp 76)))) none,
       .act (some 78) (.op (.pure (.fieldAddr 8 (.tmp 2)))) none,
       .act none (.op (.eff (.store 1 (.tmp 78) (.tmp 77)))) none])))))))))
  (.seq (.steps [
    .act (some 103) (.op (.read (.loadN 9 (.tmp 2)))) none,
    .act (some 104) (.op (.read (.loadN 10 (.tmp 7)))) none,
    .act none (.op (.eff (.store 9 (.tmp 4) (.tmp 103)))) none,
    .again 104 (.loadN 10 (.tmp 7)) none,
    .act none (.op (.eff (.store 10 (.tmp 5) (.tmp 104)))) none])
  .ret))))))))) }
theorem c15 : compFn Try.prog (mkPlan Try.prog) [] false 15 = some L15 := by kernel_rfl
/-- (*sluiceway/hp.Op).Step -/
def L16 : LFun := { n := 41, pop := false, res := [.tmp 4], code :=
  (.seq (.steps [
    .act (some 4) (.op (.pure (.move (.const (.bool false))))) none])
  (.seq (.seq (.steps [
    .act (some 5) (.op (.pure (.move (.tmp 0)))) none,
    .act (some 6) (.call (.func 21) [(.tmp 5)]) none,
    .act (some 7) (.op (.pure (.move (.tmp 6)))) none,
    .act (some 8) (.op (.pure (.move (.tmp 1)))) (some (7, false)),
    .act (some 9) (.call (.func 27) [(.tmp 8)]) (some (7, false)),
    .act (some 10) (.op (.pure (.bin .eql (.tmp 9) (.const (.int .i64 0))))) (some (7, false)),
    .act (some 11) (.op (.pure (.pick (.tmp 7) (.const (.bool true)) (.tmp 10)))) none])
  (.cond (.tmp 11)
   (.seq (.steps [
     .act (some 12) (.op (.pure (.move (.tmp 0)))) none,
     .act (some 13) (.call (.func 21) [(.tmp 12)]) none,
     .act (some 4) (.op (.pure (.move (.tmp 13)))) none])
   .ret)
   .skip))
  (.seq (.seq (.steps [
    .act (some 14) (.op (.pure (.move (.tmp 0)))) none,
    .act (some 15) (.op (.pure (.nilCheck (.tmp 14)))) none,
    .act (some 16) (.op (.pure (.fieldAddr 4 (.tmp 15)))) none,
    .act (some 17) (.op (.read (.load1 (.tmp 16)))) none])
  (.block 0 (.seq (.steps [
     .act (some 22) (.op (.pure (.bin .eql (.tmp 17) (.const (.int .i64 0))))) none,
     .act (some 21) (.op (.pure (.move (.tmp 22)))) none])
   (.cond (.tmp 21)
    (.steps [
      .act (some 23) (.op (.pure (.move (.tmp 0)))) none,
      .act (some 24) (.op (.pure (.move (.tmp 1)))) none,
      .act (some 25) (.call (.func 32) [(.tmp 23), (.tmp 24)]) none])
    (.seq (.steps [
      .act (some 27) (.op (.pure (.bin .eql (.tmp 17) (.const (.int .i64 1))))) none,
      .act (some 26) (.op (.pure (.move (.tmp 27)))) none])
    (.cond (.tmp 26)
     (.seq (.steps [
       .act (some 28) (.op (.pure (.move (.tmp 1)))) none,
       .act (some 29) (.op (.pure (.move (.tmp 0)))) none,
       .act (some 30) (.op (.pure (.nilCheck (.tmp 29)))) none,
       .act (some 31) (.op (.pure (.fieldAddr 5 (.tmp 30)))) none,
       .act (some 32) (.op (.read (.load1 (.tmp 31)))) none,
       .act (some 33) (.call (.func 14) [(.tmp 28), (.tmp 32), (.const (w64 0#64))]) none])
     (.steps [
       .act (some 34) (.op (.pure (.move (.tmp 0)))) none,
       .act (some 35) (.op (.pure (.nilCheck (.tmp 34)))) none,
       .act (some 36) (.op (.pure (.fieldAddr 10 (.tmp 35)))) none,
       .act none (.op (.eff (.store 1 (.tmp 36) (.const (.bool true))))) none]))
     (.steps [
       .act (some 18) (.op (.pure (.move (.tmp 0)))) none,
       .act (some 19) (.op (.pure (.move (.tmp 1)))) none,
       .act (some 20) (.call (.func 33) [(.tmp 18), (.tmp 19)]) none])))))))
  (.seq (.steps [
    .act (some 37) (.op (.pure (.move (.tmp 0)))) none,
    .act (some 38) (.op (.pure (.nilCheck (.tmp 37)))) none,
    .act (some 39) (.op (.pure (.fieldAddr 10 (.tmp 38)))) none,
    .act (some 40) (.op (.read (.load1 (.tmp 39)))) none,
    .act (some 4) (.op (.pure (.move (.tmp 40)))) none])
  .ret)))) }
theorem c16 : compFn Try.prog (mkPlan Try.prog) [] false 16 = some L16 := by kernel_rfl
/-- (*sluiceway/mem.Mem).Peek -/
def L17 : LFun := { n := 37, pop := false, res := [.tmp 6], code :=
  (.seq (.steps [
    .act (some 6) (.op (.pure (.move (.const (.slice none 0 0))))) none])
  (.seq (.seq (.steps [
    .act (some 7) (.op (.pure (.move (.tmp 1)))) none,
    .act (some 8) (.op (.pure (.bin .lss (.tmp 7) (.const (.int .i64 0))))) none,
    .act (some 9) (.op (.pure (.move (.tmp 8)))) none,
    .act (some 10) (.op (.pure (.move (.tmp 2)))) (some (9, false)),
    .act (some 11) (.op (.pure (.bin .lss (.tmp 10) (.const (.int .i64 1))))) (some (9, false)),
    .act (some 12) (.op (.pure (.pick (.tmp 9) (.const (.bool true)) (.tmp 11)))) none,
    .act (some 13) (.op (.pure (.move (.tmp 12)))) none,
    .act (some 14) (.op (.pure (.move (.tmp 1)))) (some (13, false)),
    .act (some 15) (.op (.pure (.move (.tmp 0)))) (some (13, false)),
    .act (some 16) (.call (.func 27) [(.tmp 15)]) (some (13, false)),
    .act (some 17) (.op (.pure (.bin .geq (.tmp 14) (.tmp 16)))) (some (13, false)),
    .act (some 18) (.op (.pure (.pick (.tmp 13) (.const (.bool true)) (.tmp 17)))) none])
  (.cond (.tmp 18)
   (.seq (.steps [
     .act (some 6) (.op (.pure (.move (.const (.slice none 0 0))))) none])
   .ret)
   .skip))
  (.seq (.steps [
    .act (some 19) (.op (.pure (.move (.tmp 0)))) none,
    .act (some 20) (.op (.pure (.nilCheck (.tmp 19)))) none,
    .act (some 21) (.op (.pure (.fieldAddr 0 (.tmp 20)))) none,
    .act (some 22) (.op (.read (.load1 (.tmp 21)))) none,
    .act (some 23) (.op (.pure (.move (.tmp 1)))) none,
    .act (some 24) (.op (.pure (.move (.tmp 1)))) none,
    .act (some 25) (.op (.pure (.move (.tmp 2)))) none,
    .act (some 26) (.op (.pure (.move (.tmp 0)))) none,
    .act (some 27) (.op (.pure (.nilCheck (.tmp 26)))) none,
    .act (some 28) (.op (.pure (.fieldAddr 0 (.tmp 27)))) none,
    .act (some 29) (.op (.read (.load1 (.tmp 28)))) none,
    .act (some 30) (.op (.pure (.len false (.tmp 29)))) none,
    .act (some 31) (.op (.pure (.move (.tmp 1)))) none,
    .act (some 32) (.op (.pure (.bin .sub (.tmp 30) (.tmp 31)))) none,
    .act (some 33) (.op (.pure (.minmax false [(.tmp 25), (.tmp 32)]))) none,
    .act (some 34) (.op (.pure (.bin .add (.tmp 24) (.tmp 33)))) none,
    .act (some 35) (.op (.read (.slSl 1 (.tmp 22) (some (.tmp 23)) (some (.tmp 34)) none))) none,
    .act (some 36) (.call (.func 34) [(.tmp 35)]) none,
    .act (some 6) (.op (.pure (.move (.tmp 36)))) none])
  .ret))) }
theorem c17 : compFn Try.prog (mkPlan Try.prog) [] false 17 = some L17 := by kernel_rfl
/-- (*sluiceway/hp.Op).Result -/
def L18 : LFun := { n := 21, pop := true, res := [.tmp 2, .tmp 3], code :=
  (.seq (.steps [
    .act (some 2) (.op (.pure (.move (.const (.int .i64 0))))) none,
    .act (some 3) (.op (.pure (.move (.const (w64 0#64))))) none])
  (.seq (.block 0 (.seq (.steps [
     .act (some 5) (.op (.pure (.move (.tmp 0)))) none,
     .act (some 6) (.call (.func 35) [(.tmp 5)]) none,
     .act (some 4) (.op (.pure (.move (.tmp 6)))) none])
   (.cond (.tmp 4)
    (.seq (.steps [
      .act (some 2) (.op (.pure (.move (.const (.int .i64 1))))) none,
      .act (some 3) (.op (.pure (.move (.const (w64 0#64))))) none])
    .ret)
    (.seq (.steps [
      .act (some 8) (.op (.pure (.move (.tmp 0)))) none,
      .act (some 9) (.op (.pure (.nilCheck (.tmp 8)))) none,
      .act (some 10) (.op (.pure (.fieldAddr 10 (.tmp 9)))) none,
      .act (some 11) (.op (.read (.load1 (.tmp 10)))) none,
      .act (some 12) (.op (.pure (.not (.tmp 11)))) none,
      .act (some 7) (.op (.pure (.move (.tmp 12)))) none])
    (.cond (.tmp 7)
     (.seq (.steps [
       .act (some 2) (.op (.pure (.move (.const (.int .i64 0))))) none,
       .act (some 3) (.op (.pure (.move (.const (w64 0#64))))) none])
     .ret)
     .skip)))))
  (.seq (.steps [
    .act (some 13) (.op (.pure (.move (.tmp 0)))) none,
    .act (some 14) (.op (.pure (.nilCheck (.tmp 13)))) none,
    .act (some 15) (.op (.pure (.fieldAddr 11 (.tmp 14)))) none,
    .act (some 16) (.op (.read (.load1 (.tmp 15)))) none,
    .act (some 17) (.op (.pure (.move (.tmp 0)))) none,
    .act (some 18) (.op (.pure (.nilCheck (.tmp 17)))) none,
    .act (some 19) (.op (.pure (.fieldAddr 8 (.tmp 18)))) none,
    .act (some 20) (.op (.read (.load1 (.tmp 19)))) none,
    .act (some 2) (.op (.pure (.move (.tmp 16)))) none,
    .act (some 3) (.op (.pure (.move (.tmp 20)))) none])
  .ret))) }
theorem c18 : compFn Try.prog (mkPlan Try.prog) [] true 18 = some L18 := by kernel_rfl
/-- (*sluiceway/hp.Op).Met -/
def L19 : LFun := { n := 10, pop := false, res := [.tmp 2], code :=
  (.seq (.steps [
    .act (some 2) (.op (.pure (.move (.const (.slice none 0 0))))) none])
  (.seq (.seq (.steps [
    .act (some 3) (.op (.pure (.move (.tmp 0)))) none,
    .act (some 4) (.call (.func 35) [(.tmp 3)]) none])
  (.cond (.tmp 4)
   (.seq (.steps [
     .act (some 2) (.op (.pure (.move (.const (.slice none 0 0))))) none])
   .ret)
   .skip))
  (.seq (.steps [
    .act (some 5) (.op (.pure (.move (.tmp 0)))) none,
    .act (some 6) (.op (.pure (.nilCheck (.tmp 5)))) none,
    .act (some 7) (.op (.pure (.fieldAddr 9 (.tmp 6)))) none,
    .act (some 8) (.op (.read (.load1 (.tmp 7)))) none,
    .act (some 9) (.call (.func 34) [(.tmp 8)]) none,
    .act (some 2) (.op (.pure (.move (.tmp 9)))) none])
  .ret))) }
theorem c19 : compFn Try.prog (mkPlan Try.prog) [] false 19 = some L19 := by kernel_rfl
/-- sluiceway/sluicewaylaw10.one -/
def L20 : LFun := { n := 62, pop := true, res := [.tmp 0], code :=
  (.seq (.steps [
    .act (some 0) (.op (.pure (.move (.const (.bool false))))) none])
  (.seq (.steps [
    .act (some 8) (.op (.pure (.build [(.int .i64 0), (.int .i64 0), (.int .i64 0)] [(0, 1, (.const (.int .i64 4))), (1, 1, (.const (.int .i64 2))), (2, 1, (.const (.int .i64 2)))]))) none,
    .act (some 1) (.op (.new (.alloc [(.int .i64 0), (.int .i64 0), (.int .i64 0)]))) none,
    .act none (.op (.eff (.store 3 (.tmp 1) (.tmp 8)))) none])
  (.seq (.steps [
    .act (some 10) (.call (.func 7) [(.const (.int .i64 8))]) none,
    .act (some 9) (.op (.pure (.move (.tmp 10)))) none,
    .act (some 11) (.op (.pure (.extract (.tmp 9) 0))) none,
    .act (some 12) (.op (.pure (.extract (.tmp 9) 1))) none,
    .act (some 2) (.op (.pure (.move (.tmp 11)))) none,
    .act (some 3) (.op (.pure (.move (.tmp 12)))) none])
  (.seq (.seq (.steps [
    .act (some 13) (.op (.pure (.move (.tmp 3)))) none,
    .act (some 14) (.op (.pure (.bin .neq (.tmp 13) (.const (.int .i64 0))))) none,
    .act (some 15) (.op (.pure (.move (.tmp 14)))) none,
    .act (some 16) (.op (.read (.loadN 3 (.tmp 1)))) (some (15, false)),
    .act (some 17) (.op (.pure (.move (.tmp 2)))) (some (15, false)),
    .act (some 18) (.call (.func 9) [(.tmp 16), (.tmp 17)]) (some (15, false)),
    .act (some 19) (.op (.pure (.bin .neq (.tmp 18) (.const (.int .i64 0))))) (some (15, false)),
    .act (some 20) (.op (.pure (.pick (.tmp 15) (.const (.bool true)) (.tmp 19)))) none])
  (.cond (.tmp 20)
   (.seq (.steps [
     .act (some 0) (.op (.pure (.move (.const (.bool false))))) none])
   .ret)
   .skip))
  (.seq (.steps [
    .act (some 21) (.op (.pure (.move (.tmp 2)))) none,
    .act (some 22) (.call (.func 14) [(.tmp 21), (.const (.int .i64 0)), (.const (w64 8#64))]) none])
  (.seq (.steps [
    .act (some 23) (.op (.read (.loadN 3 (.tmp 1)))) none,
    .act (some 24) (.call (.func 11) [(.tmp 23), (.const (.int .i64 1)), (.const (.int .i64 0)), (.const (.int .i64 0))]) none,
    .act (some 4) (.op (.pure (.move (.tmp 24)))) none])
  (.seq (.steps [
    .act (some 5) (.op (.pure (.move (.const (.int .i64 0))))) none])
  (.seq (.block 0 (.loop [1, 2, 4, 5] (.seq (.seq (.steps [
      .act (some 25) (.op (.pure (.move (.tmp 5)))) none,
      .act (some 26) (.op (.pure (.bin .lss (.tmp 25) (.const (.int .i64 9))))) none,
      .act (some 27) (.op (.pure (.move (.tmp 26)))) none,
      .act (some 28) (.op (.pure (.move (.tmp 4)))) (some (27, true)),
      .act (some 29) (.op (.pure (.move (.tmp 2)))) (some (27, true)),
      .act (some 30) (.call (.func 16) [(.tmp 28), (.tmp 29)]) (some (27, true)),
      .act (some 31) (.op (.pure (.not (.tmp 30)))) (some (27, true)),
      .act (some 32) (.op (.pure (.pick (.tmp 27) (.tmp 31) (.const (.bool false))))) none])
    (.cond (.tmp 32)
     .skip
     (.exit 0)))
    (.block 1 (.steps [
       .act (some 33) (.op (.pure (.move (.tmp 5)))) none,
       .act (some 34) (.op (.pure (.bin .add (.tmp 33) (.const (.int .i64 1))))) none,
       .act (some 5) (.op (.pure (.move (.tmp 34)))) none])))))
  (.seq (.steps [
    .act (some 36) (.op (.pure (.move (.tmp 4)))) none,
    .act (some 37) (.call (.func 18) [(.tmp 36)]) none,
    .act (some 35) (.op (.pure (.move (.tmp 37)))) none,
    .act (some 38) (.op (.pure (.extract (.tmp 35) 0))) none,
    .act (some 39) (.op (.pure (.extract (.tmp 35) 1))) none,
    .act (some 6) (.op (.pure (.move (.tmp 38)))) none,
    .act (some 7) (.op (.pure (.move (.tmp 39)))) none])
  (.seq (.steps [
    .act (some 40) (.op (.pure (.move (.tmp 5)))) none,
    .act (some 41) (.op (.pure (.bin .eql (.tmp 40) (.const (.int .i64 2))))) none,
    .act (some 42) (.op (.pure (.move (.tmp 41)))) none,
    .act (some 43) (.op (.pure (.move (.tmp 6)))) (some (42, true)),
    .act (some 44) (.op (.pure (.bin .eql (.tmp 43) (.const (.int .i64 0))))) (some (42, true)),
    .act (some 45) (.op (.pure (.pick (.tmp 42) (.tmp 44) (.const (.bool false))))) none,
    .act (some 46) (.op (.pure (.move (.tmp 45)))) none,
    .act (some 47) (.op (.pure (.move (.tmp 7)))) (some (46, true)),
    .act (some 48) (.op (.pure (.bin .eql (.tmp 47) (.const (w64 8#64))))) (some (46, true)),
    .act (some 49) (.op (.pure (.pick (.tmp 46) (.tmp 48) (.const (.bool false))))) none,
    .act (some 50) (.op (.pure (.move (.tmp 49)))) none,
    .act (some 51) (.op (.pure (.move (.tmp 2)))) (some (50, true)),
    .act (some 52) (.op (.read (.loadN 3 (.tmp 1)))) (some (50, true)),
    .act (some 53) (.call (.func 23) [(.tmp 52), (.const (.int .i64 1)), (.const (.int .i64 0))]) (some (50, true)),
    .act (some 54) (.call (.func 22) [(.tmp 51), (.tmp 53)]) (some (50, true)),
    .act (some 55) (.op (.pure (.bin .eql (.tmp 54) (.const (w64 8#64))))) (some (50, true)),
    .act (some 56) (.op (.pure (.pick (.tmp 50) (.tmp 55) (.const (.bool false))))) none,
    .act (some 57) (.op (.pure (.move (.tmp 56)))) none,
    .act (some 58) (.op (.read (.loadN 3 (.tmp 1)))) (some (57, true)),
    .act (some 59) (.call (.func 23) [(.tmp 58), (.const (.int .i64 1)), (.const (.int .i64 0))]) (some (57, true)),
    .act (some 60) (.op (.pure (.bin .eql (.tmp 59) (.const (.int .i64 6))))) (some (57, true)),
    .act (some 61) (.op (.pure (.pick (.tmp 57) (.tmp 60) (.const (.bool false))))) none,
    .act (some 0) (.op (.pure (.move (.tmp 61)))) none])
  .ret)))))))))) }
theorem c20 : compFn Try.prog (mkPlan Try.prog) [(8, [1, 2, 4, 5])] true 20 = some L20 := by kernel_rfl
/-- (*sluiceway/hp.Op).Done -/
def L21 : LFun := { n := 11, pop := true, res := [.tmp 2], code :=
  (.seq (.steps [
    .act (some 2) (.op (.pure (.move (.const (.bool false))))) none])
  (.seq (.steps [
    .act (some 3) (.op (.pure (.move (.tmp 0)))) none,
    .act (some 4) (.call (.func 35) [(.tmp 3)]) none,
    .act (some 5) (.op (.pure (.move (.tmp 4)))) none,
    .act (some 6) (.op (.pure (.move (.tmp 0)))) (some (5, false)),
    .act (some 7) (.op (.pure (.nilCheck (.tmp 6)))) (some (5, false)),
    .act (some 8) (.op (.pure (.fieldAddr 10 (.tmp 7)))) (some (5, false)),
    .act (some 9) (.op (.read (.load1 (.tmp 8)))) (some (5, false)),
    .act (some 10) (.op (.pure (.pick (.tmp 5) (.const (.bool true)) (.tmp 9)))) none,
    .act (some 2) (.op (.pure (.move (.tmp 10)))) none])
  .ret)) }
theorem c21 : compFn Try.prog (mkPlan Try.prog) [] true 21 = some L21 := by kernel_rfl
/-- (*sluiceway/mem.Mem).Load -/
def L22 : LFun := { n := 10, pop := true, res := [.load1 4], code :=
  (.seq (.steps [
    .act (some 4) (.op (.new (.alloc [(w64 0#64)]))) none])
  (.seq (.steps [
    .act (some 5) (.op (.pure (.move (.tmp 0)))) none,
    .act (some 6) (.op (.pure (.move (.tmp 1)))) none,
    .act (some 7) (.op (.pure (.mkFunc 36 [] [(.tmp 4)]))) none,
    .act (some 8) (.call (.func 29) [(.tmp 5), (.const (.int .i64 0)), (.tmp 6), (.tmp 7)]) none])
  (.seq (.steps [
    .act (some 9) (.op (.read (.load1 (.tmp 4)))) none,
    .act none (.op (.eff (.store 1 (.tmp 4) (.tmp 9)))) none])
  .ret))) }
theorem c22 : compFn Try.prog (mkPlan Try.prog) [] true 22 = some L22 := by kernel_rfl
/-- (sluiceway/hp.Guard).Slot -/
def L23 : LFun := { n := 39, pop := true, res := [.tmp 6], code :=
  (.seq (.steps [
    .act (some 3) (.op (.new (.box (.tmp 0)))) none,
    .act (some 6) (.op (.pure (.move (.const (.int .i64 0))))) none])
  (.seq (.seq (.steps [
    .act (some 7) (.op (.read (.loadN 3 (.tmp 3)))) none,
    .act (some 8) (.call (.func 26) [(.tmp 7)]) none,
    .act (some 9) (.op (.pure (.not (.tmp 8)))) none,
    .act (some 10) (.op (.pure (.move (.tmp 9)))) none,
    .act (some 11) (.op (.pure (.move (.tmp 1)))) (some (10, false)),
    .act (some 12) (.op (.pure (.bin .lss (.tmp 11) (.const (.int .i64 0))))) (some (10, false)),
    .act (some 13) (.op (.pure (.pick (.tmp 10) (.const (.bool true)) (.tmp 12)))) none,
    .act (some 14) (.op (.pure (.move (.tmp 13)))) none,
    .act (some 15) (.op (.pure (.move (.tmp 1)))) (some (14, false)),
    .act (some 16) (.op (.pure (.fieldAddr 1 (.tmp 3)))) (some (14, false)),
    .act (some 17) (.op (.read (.load1 (.tmp 16)))) (some (14, false)),
    .act (some 18) (.op (.pure (.bin .geq (.tmp 15) (.tmp 17)))) (some (14, false)),
    .act (some 19) (.op (.pure (.pick (.tmp 14) (.const (.bool true)) (.tmp 18)))) none,
    .act (some 20) (.op (.pure (.move (.tmp 19)))) none,
    .act (some 21) (.op (.pure (.move (.tmp 2)))) (some (20, false)),
    .act (some 22) (.op (.pure (.bin .lss (.tmp 21) (.const (.int .i64 0))))) (some (20, false)),
    .act (some 23) (.op (.pure (.pick (.tmp 20) (.const (.bool true)) (.tmp 22)))) none,
    .act (some 24) (.op (.pure (.move (.tmp 23)))) none,
    .act (some 25) (.op (.pure (.move (.tmp 2)))) (some (24, false)),
    .act (some 26) (.op (.pure (.fieldAddr 2 (.tmp 3)))) (some (24, false)),
    .act (some 27) (.op (.read (.load1 (.tmp 26)))) (some (24, false)),
    .act (some 28) (.op (.pure (.bin .geq (.tmp 25) (.tmp 27)))) (some (24, false)),
    .act (some 29) (.op (.pure (.pick (.tmp 24) (.const (.bool true)) (.tmp 28)))) none])
  (.cond (.tmp 29)
   (.seq (.steps [
     .act (some 6) (.op (.pure (.move (.const (.int .i64 (-1)))))) none])
   .ret)
   .skip))
  (.seq (.steps [
    .act (some 30) (.op (.pure (.fieldAddr 0 (.tmp 3)))) none,
    .act (some 31) (.op (.read (.load1 (.tmp 30)))) none,
    .act (some 32) (.op (.pure (.move (.tmp 1)))) none,
    .act (some 33) (.op (.pure (.fieldAddr 2 (.tmp 3)))) none,
    .act (some 34) (.op (.read (.load1 (.tmp 33)))) none,
    .act (some 35) (.op (.pure (.bin .mul (.tmp 32) (.tmp 34)))) none,
    .act (some 36) (.op (.pure (.bin .add (.tmp 31) (.tmp 35)))) none,
    .act (some 37) (.op (.pure (.move (.tmp 2)))) none,
    .act (some 38) (.op (.pure (.bin .add (.tmp 36) (.tmp 37)))) none,
    .act (some 6) (.op (.pure (.move (.tmp 38)))) none])
  .ret))) }
theorem c23 : compFn Try.prog (mkPlan Try.prog) [] true 23 = some L23 := by kernel_rfl
/-- (*sluiceway/mem.Mem).Trap -/
def L24 : LFun := { n := 9, pop := true, res := [.tmp 2], code :=
  (.seq (.steps [
    .act (some 2) (.op (.pure (.move (.const (.int .i64 0))))) none])
  (.seq (.seq (.steps [
    .act (some 3) (.op (.pure (.move (.tmp 0)))) none,
    .act (some 4) (.call (.func 37) [(.tmp 3)]) none])
  (.cond (.tmp 4)
   (.seq (.steps [
     .act (some 2) (.op (.pure (.move (.const (.int .i64 (-1)))))) none])
   .ret)
   .skip))
  (.seq (.steps [
    .act (some 5) (.op (.pure (.move (.tmp 0)))) none,
    .act (some 6) (.op (.pure (.nilCheck (.tmp 5)))) none,
    .act (some 7) (.op (.pure (.fieldAddr 8 (.tmp 6)))) none,
    .act (some 8) (.op (.read (.load1 (.tmp 7)))) none,
    .act (some 2) (.op (.pure (.move (.tmp 8)))) none])
  .ret))) }
theorem c24 : compFn Try.prog (mkPlan Try.prog) [] true 24 = some L24 := by kernel_rfl
/-- (*sluiceway/mem.Mem).Steps -/
def L25 : LFun := { n := 15, pop := true, res := [.tmp 2], code :=
  (.seq (.steps [
    .act (some 2) (.op (.pure (.move (.const (.int .i64 0))))) none])
  (.seq (.steps [
    .act (some 3) (.op (.pure (.move (.const (.int .i64 0))))) none])
  (.seq (.seq (.steps [
    .act (some 5) (.op (.pure (.move (.const (.int .i64 0))))) none])
  (.block 0 (.loop [0, 3, 5] (.seq (.steps [
      .act (some 6) (.op (.pure (.bin .lss (.tmp 5) (.const (.int .i64 6))))) none])
    (.seq (.cond (.tmp 6)
     .skip
     (.exit 0))
    (.seq (.block 1 (.seq (.steps [
       .act (some 7) (.op (.pure (.move (.tmp 5)))) none,
       .act (some 4) (.op (.pure (.move (.tmp 7)))) none])
     (.steps [
       .act (some 8) (.op (.pure (.move (.tmp 3)))) none,
       .act (some 9) (.op (.pure (.move (.tmp 0)))) none,
       .act (some 10) (.op (.pure (.move (.tmp 4)))) none,
       .act (some 11) (.call (.func 38) [(.tmp 9), (.tmp 10)]) none,
       .act (some 12) (.op (.pure (.bin .add (.tmp 8) (.tmp 11)))) none,
       .act (some 3) (.op (.pure (.move (.tmp 12)))) none])))
    (.steps [
      .act (some 13) (.op (.pure (.bin .add (.tmp 5) (.const (.int .i64 1))))) none,
      .act (some 5) (.op (.pure (.move (.tmp 13)))) none])))))))
  (.seq (.steps [
    .act (some 14) (.op (.pure (.move (.tmp 3)))) none,
    .act (some 2) (.op (.pure (.move (.tmp 14)))) none])
  .ret)))) }
theorem c25 : compFn Try.prog (mkPlan Try.prog) [(3, [0, 3, 5])] true 25 = some L25 := by kernel_rfl
/-- (sluiceway/hp.Guard).Right -/
def L26 : LFun := { n := 31, pop := true, res := [.tmp 2], code :=
  (.seq (.steps [
    .act (some 1) (.op (.new (.box (.tmp 0)))) none,
    .act (some 2) (.op (.pure (.move (.const (.bool false))))) none])
  (.seq (.steps [
    .act (some 3) (.op (.pure (.fieldAddr 0 (.tmp 1)))) none,
    .act (some 4) (.op (.read (.load1 (.tmp 3)))) none,
    .act (some 5) (.op (.pure (.bin .geq (.tmp 4) (.const (.int .i64 0))))) none,
    .act (some 6) (.op (.pure (.move (.tmp 5)))) none,
    .act (some 7) (.op (.pure (.fieldAddr 0 (.tmp 1)))) (some (6, true)),
    .act (some 8) (.op (.read (.load1 (.tmp 7)))) (some (6, true)),
    .act (some 9) (.op (.pure (.bin .leq (.tmp 8) (.const (.int .i64 65536))))) (some (6, true)),
    .act (some 10) (.op (.pure (.pick (.tmp 6) (.tmp 9) (.const (.bool false))))) none,
    .act (some 11) (.op (.pure (.move (.tmp 10)))) none,
    .act (some 12) (.op (.pure (.fieldAddr 1 (.tmp 1)))) (some (11, true)),
    .act (some 13) (.op (.read (.load1 (.tmp 12)))) (some (11, true)),
    .act (some 14) (.op (.pure (.bin .geq (.tmp 13) (.const (.int .i64 1))))) (some (11, true)),
    .act (some 15) (.op (.pure (.pick (.tmp 11) (.tmp 14) (.const (.bool false))))) none,
    .act (some 16) (.op (.pure (.move (.tmp 15)))) none,
    .act (some 17) (.op (.pure (.fieldAddr 1 (.tmp 1)))) (some (16, true)),
    .act (some 18) (.op (.read (.load1 (.tmp 17)))) (some (16, true)),
    .act (some 19) (.op (.pure (.bin .leq (.tmp 18) (.const (.int .i64 64))))) (some (16, true)),
    .act (some 20) (.op (.pure (.pick (.tmp 16) (.tmp 19) (.const (.bool false))))) none,
    .act (some 21) (.op (.pure (.move (.tmp 20)))) none,
    .act (some 22) (.op (.pure (.fieldAddr 2 (.tmp 1)))) (some (21, true)),
    .act (some 23) (.op (.read (.load1 (.tmp 22)))) (some (21, true)),
    .act (some 24) (.op (.pure (.bin .geq (.tmp 23) (.const (.int .i64 1))))) (some (21, true)),
    .act (some 25) (.op (.pure (.pick (.tmp 21) (.tmp 24) (.const (.bool false))))) none,
    .act (some 26) (.op (.pure (.move (.tmp 25)))) none,
    .act (some 27) (.op (.pure (.fieldAddr 2 (.tmp 1)))) (some (26, true)),
    .act (some 28) (.op (.read (.load1 (.tmp 27)))) (some (26, true)),
    .act (some 29) (.op (.pure (.bin .leq (.tmp 28) (.const (.int .i64 8))))) (some (26, true)),
    .act (some 30) (.op (.pure (.pick (.tmp 26) (.tmp 29) (.const (.bool false))))) none,
    .act (some 2) (.op (.pure (.move (.tmp 30)))) none])
  .ret)) }
theorem c26 : compFn Try.prog (mkPlan Try.prog) [] true 26 = some L26 := by kernel_rfl
/-- (*sluiceway/mem.Mem).Len -/
def L27 : LFun := { n := 10, pop := true, res := [.tmp 2], code :=
  (.seq (.steps [
    .act (some 2) (.op (.pure (.move (.const (.int .i64 0))))) none])
  (.seq (.seq (.steps [
    .act (some 3) (.op (.pure (.move (.tmp 0)))) none,
    .act (some 4) (.op (.pure (.eqNil .p false (.tmp 3) (.const (.pointer none))))) none])
  (.cond (.tmp 4)
   (.seq (.steps [
     .act (some 2) (.op (.pure (.move (.const (.int .i64 0))))) none])
   .ret)
   .skip))
  (.seq (.steps [
    .act (some 5) (.op (.pure (.move (.tmp 0)))) none,
    .act (some 6) (.op (.pure (.nilCheck (.tmp 5)))) none,
    .act (some 7) (.op (.pure (.fieldAddr 0 (.tmp 6)))) none,
    .act (some 8) (.op (.read (.load1 (.tmp 7)))) none,
    .act (some 9) (.op (.pure (.len false (.tmp 8)))) none,
    .act (some 2) (.op (.pure (.move (.tmp 9)))) none])
  .ret))) }
theorem c27 : compFn Try.prog (mkPlan Try.prog) [] true 27 = some L27 := by kernel_rfl
/-- sluiceway/hp.begin -/
def L28 : LFun := { n := 10, pop := false, res := [.tmp 4], code :=
  (.seq (.steps [
    .act (some 2) (.op (.new (.box (.tmp 0)))) none,
    .act (some 4) (.op (.pure (.move (.const (.pointer none))))) none])
  (.seq (.steps [
    .act (some 5) (.op (.pure (.fieldAddr 0 (.tmp 2)))) none,
    .act none (.op (.eff (.store 1 (.tmp 5) (.const (.bool true))))) none])
  (.seq (.seq (.steps [
    .act (some 6) (.op (.pure (.move (.tmp 1)))) none,
    .act (some 7) (.op (.pure (.not (.tmp 6)))) none])
  (.cond (.tmp 7)
   (.steps [
     .act (some 8) (.op (.pure (.fieldAddr 10 (.tmp 2)))) none,
     .act none (.op (.eff (.store 1 (.tmp 8) (.const (.bool true))))) none,
     .act (some 9) (.op (.pure (.fieldAddr 11 (.tmp 2)))) none,
     .act none (.op (.eff (.store 1 (.tmp 9) (.const (.int .i64 2))))) none])
   .skip))
  (.seq (.steps [
    .act (some 4) (.op (.pure (.move (.tmp 2)))) none])
  .ret)))) }
theorem c28 : compFn Try.prog (mkPlan Try.prog) [] false 28 = some L28 := by kernel_rfl
/-- (*sluiceway/mem.Mem).use -/
def L29 : LFun := { n := 34, pop := true, res := [], code :=
  (.seq (.seq (.steps [
    .act (some 8) (.op (.pure (.move (.tmp 0)))) none,
    .act (some 9) (.call (.func 37) [(.tmp 8)]) none])
  (.cond (.tmp 9)
   .ret
   .skip))
  (.seq (.steps [
    .act (some 10) (.op (.pure (.move (.tmp 0)))) none,
    .act (some 11) (.op (.pure (.move (.tmp 1)))) none,
    .act (some 12) (.op (.pure (.nilCheck (.tmp 10)))) none,
    .act (some 13) (.op (.pure (.fieldAddr 2 (.tmp 12)))) none,
    .act (some 14) (.op (.pure (.idxArr 6 1 (.tmp 13) (.tmp 11)))) none,
    .act (some 15) (.op (.read (.load1 (.tmp 14)))) none,
    .act (some 16) (.op (.pure (.bin .add (.tmp 15) (.const (.int .i64 1))))) none,
    .act (some 17) (.op (.pure (.nilCheck (.tmp 10)))) none,
    .act (some 18) (.op (.pure (.fieldAddr 2 (.tmp 17)))) none,
    .act (some 19) (.op (.pure (.idxArr 6 1 (.tmp 18) (.tmp 11)))) none,
    .act none (.op (.eff (.store 1 (.tmp 19) (.tmp 16)))) none])
  (.seq (.seq (.steps [
    .act (some 20) (.op (.pure (.move (.tmp 0)))) none,
    .act (some 21) (.op (.pure (.move (.tmp 2)))) none,
    .act (some 22) (.call (.func 39) [(.tmp 20), (.tmp 21)]) none])
  (.cond (.tmp 22)
   (.seq (.steps [
     .act (some 23) (.op (.pure (.move (.tmp 0)))) none,
     .act (some 24) (.op (.pure (.move (.tmp 2)))) none,
     .act (some 25) (.call (.func 40) [(.tmp 23), (.tmp 24)]) none])
   .ret)
   .skip))
  (.steps [
    .act (some 26) (.op (.pure (.move (.tmp 3)))) none,
    .act (some 27) (.op (.pure (.move (.tmp 0)))) none,
    .act (some 28) (.op (.pure (.nilCheck (.tmp 27)))) none,
    .act (some 29) (.op (.pure (.fieldAddr 0 (.tmp 28)))) none,
    .act (some 30) (.op (.read (.load1 (.tmp 29)))) none,
    .act (some 31) (.op (.pure (.move (.tmp 2)))) none,
    .act (some 32) (.op (.pure (.idxSl 1 (.tmp 30) (.tmp 31)))) none,
    .act (some 33) (.call (.tmp 26) [(.tmp 32)]) none])))) }
theorem c29 : compFn Try.prog (mkPlan Try.prog) [] true 29 = some L29 := by kernel_rfl
/-- (*sluiceway/mem.Mem).Store$1 -/
def L30 : LFun := { n := 6, pop := true, res := [], code :=
  (.steps [
    .act (some 3) (.op (.pure (.move (.tmp 0)))) none,
    .act (some 4) (.op (.read (.load1 (.tmp 1)))) none,
    .act (some 5) (.op (.pure (.nilCheck (.tmp 3)))) none,
    .act none (.op (.eff (.store 1 (.tmp 5) (.tmp 4)))) none]) }
theorem c30 : compFn Try.prog (mkPlan Try.prog) [] true 30 = some L30 := by kernel_rfl
/-- (sluiceway/sluicewayref02.Mem).Step -/
def L31 : LFun := { n := 167, pop := false, res := [.loadN 10 4, .tmp 5, .tmp 6], code :=
  (.seq (.steps [
    .act (some 2) (.op (.new (.box (.tmp 0)))) none,
    .act (some 3) (.op (.new (.box (.tmp 1)))) none,
    .act (some 4) (.op (.new (.alloc [(.slice none 0 0), (.slice none 0 0), (.int .i64 0), (.int .i64 0), (.int .i64 0), (.int .i64 0), (.int .i64 0), (.int .i64 0), (.int .i64 0), (.bool false)]))) none,
    .act (some 5) (.op (.pure (.move (.const (w64 0#64))))) none,
    .act (some 6) (.op (.pure (.move (.const (.bool false))))) none])
  (.seq (.seq (.steps [
    .act (some 13) (.op (.pure (.fieldAddr 0 (.tmp 3)))) none,
    .act (some 14) (.op (.read (.load1 (.tmp 13)))) none,
    .act (some 15) (.op (.pure (.bin .lss (.tmp 14) (.const (.int .i64 0))))) none,
    .act (some 16) (.op (.pure (.move (.tmp 15)))) none,
    .act (some 17) (.op (.pure (.fieldAddr 0 (.tmp 3)))) (some (16, false)),
    .act (some 18) (.op (.read (.load1 (.tmp 17)))) (some (16, false)),
    .act (some 19) (.op (.pure (.bin .gtr (.tmp 18) (.const (.int .i64 5))))) (some (16, false)),
    .act (some 20) (.op (.pure (.pick (.tmp 16) (.const (.bool true)) (.tmp 19)))) none])
  (.cond (.tmp 20)
   (.seq (.steps [
     .act (some 21) (.op (.read (.loadN 10 (.tmp 2)))) none,
     .act none (.op (.eff (.store 10 (.tmp 4) (.tmp 21)))) none,
     .act (some 5) (.op (.pure (.move (.const (w64 0#64))))) none,
     .act (some 6) (.op (.pure (.move (.const (.bool false))))) none])
   .ret)
   .skip))
  (.seq (.steps [
    .act (some 22) (.op (.pure (.fieldAddr 0 (.tmp 3)))) none,
    .act (some 23) (.op (.read (.load1 (.tmp 22)))) none,
    .act (some 24) (.op (.pure (.fieldAddr 2 (.tmp 2)))) none,
    .act (some 25) (.op (.pure (.idxArr 6 1 (.tmp 24) (.tmp 23)))) none,
    .act (some 26) (.op (.read (.load1 (.tmp 25)))) none,
    .act (some 27) (.op (.pure (.bin .add (.tmp 26) (.const (.int .i64 1))))) none,
    .act (some 28) (.op (.pure (.fieldAddr 2 (.tmp 2)))) none,
    .act (some 29) (.op (.pure (.idxArr 6 1 (.tmp 28) (.tmp 23)))) none,
    .act none (.op (.eff (.store 1 (.tmp 29) (.tmp 27)))) none])
  (.seq (.steps [
    .act (some 30) (.op (.pure (.fieldAddr 1 (.tmp 3)))) none,
    .act (some 31) (.op (.read (.load1 (.tmp 30)))) none,
    .act (some 7) (.op (.pure (.move (.tmp 31)))) none])
  (.seq (.steps [
    .act (some 32) (.op (.read (.loadN 10 (.tmp 2)))) none,
    .act (some 33) (.op (.pure (.fieldAddr 1 (.tmp 3)))) none,
    .act (some 34) (.op (.read (.load1 (.tmp 33)))) none,
    .act (some 35) (.call (.func 41) [(.tmp 32), (.tmp 34)]) none,
    .act (some 36) (.op (.pure (.move (.tmp 35)))) none,
    .act (some 37) (.op (.pure (.fieldAddr 0 (.tmp 3)))) (some (36, false)),
    .act (some 38) (.op (.read (.load1 (.tmp 37)))) (some (36, false)),
    .act (some 39) (.op (.pure (.bin .eql (.tmp 38) (.const (.int .i64 5))))) (some (36, false)),
    .act (some 40) (.op (.pure (.move (.tmp 39)))) (some (36, false)),
    .act (some 41) (.op (.pure (.fieldAddr 1 (.tmp 3)))) (some (40, true)),
    .act (some 42) (.op (.read (.load1 (.tmp 41)))) (some (40, true)),
    .act (some 43) (.op (.pure (.bin .rem (.tmp 42) (.const (.int .i64 2))))) (some (40, true)),
    .act (some 44) (.op (.pure (.bin .neq (.tmp 43) (.const (.int .i64 0))))) (some (40, true)),
    .act (some 45) (.op (.pure (.pick (.tmp 40) (.tmp 44) (.const (.bool false))))) (some (36, false)),
    .act (some 46) (.op (.pure (.pick (.tmp 36) (.const (.bool true)) (.tmp 45)))) none,
    .act (some 8) (.op (.pure (.move (.tmp 46)))) none])
  (.seq (.seq (.steps [
    .act (some 47) (.op (.pure (.move (.tmp 8)))) none,
    .act (some 48) (.op (.pure (.not (.tmp 47)))) none,
    .act (some 49) (.op (.pure (.move (.tmp 48)))) none,
    .act (some 50) (.op (.pure (.fieldAddr 0 (.tmp 3)))) (some (49, true)),
    .act (some 51) (.op (.read (.load1 (.tmp 50)))) (some (49, true)),
    .act (some 52) (.op (.pure (.bin .eql (.tmp 51) (.const (.int .i64 5))))) (some (49, true)),
    .act (some 53) (.op (.pure (.pick (.tmp 49) (.tmp 52) (.const (.bool false))))) none,
    .act (some 54) (.op (.pure (.move (.tmp 53)))) none,
    .act (some 55) (.op (.read (.loadN 10 (.tmp 2)))) (some (54, true)),
    .act (some 56) (.op (.pure (.fieldAddr 1 (.tmp 3)))) (some (54, true)),
    .act (some 57) (.op (.read (.load1 (.tmp 56)))) (some (54, true)),
    .act (some 58) (.op (.pure (.bin .add (.tmp 57) (.const (.int .i64 1))))) (some (54, true)),
    .act (some 59) (.call (.func 41) [(.tmp 55), (.tmp 58)]) (some (54, true)),
    .act (some 60) (.op (.pure (.pick (.tmp 54) (.tmp 59) (.const (.bool false))))) none])
  (.cond (.tmp 60)
   (.seq (.steps [
     .act (some 8) (.op (.pure (.move (.const (.bool true))))) none])
   (.steps [
     .act (some 61) (.op (.pure (.fieldAddr 1 (.tmp 3)))) none,
     .act (some 62) (.op (.read (.load1 (.tmp 61)))) none,
     .act (some 63) (.op (.pure (.bin .add (.tmp 62) (.const (.int .i64 1))))) none,
     .act (some 7) (.op (.pure (.move (.tmp 63)))) none]))
   .skip))
  (.seq (.seq (.steps [
    .act (some 64) (.op (.pure (.move (.tmp 8)))) none])
  (.cond (.tmp 64)
   (.seq (.seq (.steps [
     .act (some 65) (.op (.pure (.fieldAddr 9 (.tmp 2)))) none,
     .act (some 66) (.op (.read (.load1 (.tmp 65)))) none,
     .act (some 67) (.op (.pure (.not (.tmp 66)))) none])
   (.cond (.tmp 67)
    (.seq (.steps [
      .act (some 68) (.op (.pure (.move (.tmp 7)))) none,
      .act (some 69) (.op (.pure (.fieldAddr 8 (.tmp 2)))) none,
      .act none (.op (.eff (.store 1 (.tmp 69) (.tmp 68)))) none])
    (.steps [
      .act (some 70) (.op (.pure (.fieldAddr 9 (.tmp 2)))) none,
      .act none (.op (.eff (.store 1 (.tmp 70) (.const (.bool true))))) none]))
    .skip))
   (.seq (.steps [
     .act (some 71) (.op (.read (.loadN 10 (.tmp 2)))) none,
     .act none (.op (.eff (.store 10 (.tmp 4) (.tmp 71)))) none,
     .act (some 5) (.op (.pure (.move (.const (w64 0#64))))) none,
     .act (some 6) (.op (.pure (.move (.const (.bool false))))) none])
   .ret))
   .skip))
  (.seq (.steps [
    .act (some 72) (.op (.pure (.fieldAddr 0 (.tmp 2)))) none,
    .act (some 73) (.op (.read (.load1 (.tmp 72)))) none,
    .act (some 74) (.op (.pure (.fieldAddr 1 (.tmp 3)))) none,
    .act (some 75) (.op (.read (.load1 (.tmp 74)))) none,
    .act (some 76) (.op (.pure (.idxSl 1 (.tmp 73) (.tmp 75)))) none,
    .act (some 77) (.op (.read (.load1 (.tmp 76)))) none,
    .act (some 9) (.op (.pure (.move (.tmp 77)))) none])
  (.seq (.steps [
    .act (some 78) (.op (.pure (.move (.tmp 9)))) none,
    .act (some 10) (.op (.pure (.move (.tmp 78)))) none])
  (.seq (.steps [
    .act (some 11) (.op (.pure (.move (.const (w64 0#64))))) none])
  (.seq (.steps [
    .act (some 12) (.op (.pure (.move (.const (.bool false))))) none])
  (.seq (.seq (.steps [
    .act (some 79) (.op (.pure (.fieldAddr 0 (.tmp 3)))) none,
    .act (some 80) (.op (.read (.load1 (.tmp 79)))) none])
  (.block 0 (.seq (.steps [
     .act (some 104) (.op (.pure (.bin .eql (.tmp 80) (.const (.int .i64 0))))) none,
     .act (some 103) (.op (.pure (.move (.tmp 104)))) none])
   (.cond (.tmp 103)
    (.steps [
      .act (some 105) (.op (.pure (.move (.tmp 9)))) none,
      .act (some 11) (.op (.pure (.move (.tmp 105)))) none])
    (.seq (.steps [
      .act (some 107) (.op (.pure (.bin .eql (.tmp 80) (.const (.int .i64 1))))) none,
      .act (some 106) (.op (.pure (.move (.tmp 107)))) none])
    (.cond (.tmp 106)
     (.steps [
       .act (some 108) (.op (.pure (.fieldAddr 2 (.tmp 3)))) none,
       .act (some 109) (.op (.pure (.idxArr 4 1 (.tmp 108) (.const (.int .i64 0))))) none,
       .act (some 110) (.op (.read (.load1 (.tmp 109)))) none,
       .act (some 10) (.op (.pure (.move (.tmp 110)))) none])
     (.seq (.steps [
       .act (some 112) (.op (.pure (.bin .eql (.tmp 80) (.const (.int .i64 2))))) none,
       .act (some 111) (.op (.pure (.move (.tmp 112)))) none])
     (.cond (.tmp 111)
      (.seq (.steps [
        .act (some 113) (.op (.pure (.move (.tmp 9)))) none,
        .act (some 114) (.op (.pure (.fieldAddr 2 (.tmp 3)))) none,
        .act (some 115) (.op (.pure (.idxArr 4 1 (.tmp 114) (.const (.int .i64 0))))) none,
        .act (some 116) (.op (.read (.load1 (.tmp 115)))) none,
        .act (some 117) (.op (.pure (.bin .eql (.tmp 113) (.tmp 116)))) none,
        .act (some 12) (.op (.pure (.move (.tmp 117)))) none])
      (.seq (.steps [
        .act (some 118) (.op (.pure (.move (.tmp 12)))) none])
      (.cond (.tmp 118)
       (.steps [
         .act (some 119) (.op (.pure (.fieldAddr 2 (.tmp 3)))) none,
         .act (some 120) (.op (.pure (.idxArr 4 1 (.tmp 119) (.const (.int .i64 1))))) none,
         .act (some 121) (.op (.read (.load1 (.tmp 120)))) none,
         .act (some 10) (.op (.pure (.move (.tmp 121)))) none])
       .skip)))
      (.seq (.steps [
        .act (some 123) (.op (.pure (.bin .eql (.tmp 80) (.const (.int .i64 3))))) none,
        .act (some 122) (.op (.pure (.move (.tmp 123)))) none])
      (.cond (.tmp 122)
       (.seq (.steps [
         .act (some 124) (.op (.pure (.move (.tmp 9)))) none,
         .act (some 11) (.op (.pure (.move (.tmp 124)))) none])
       (.steps [
         .act (some 125) (.op (.pure (.move (.tmp 9)))) none,
         .act (some 126) (.op (.pure (.fieldAddr 2 (.tmp 3)))) none,
         .act (some 127) (.op (.pure (.idxArr 4 1 (.tmp 126) (.const (.int .i64 0))))) none,
         .act (some 128) (.op (.read (.load1 (.tmp 127)))) none,
         .act (some 129) (.op (.pure (.bin .add (.tmp 125) (.tmp 128)))) none,
         .act (some 10) (.op (.pure (.move (.tmp 129)))) none]))
       (.seq (.steps [
         .act (some 131) (.op (.pure (.bin .eql (.tmp 80) (.const (.int .i64 4))))) none,
         .act (some 130) (.op (.pure (.move (.tmp 131)))) none])
       (.cond (.tmp 130)
        (.seq (.steps [
          .act (some 132) (.op (.pure (.move (.tmp 9)))) none,
          .act (some 11) (.op (.pure (.move (.tmp 132)))) none])
        (.steps [
          .act (some 133) (.op (.pure (.move (.tmp 9)))) none,
          .act (some 134) (.op (.pure (.fieldAddr 2 (.tmp 3)))) none,
          .act (some 135) (.op (.pure (.idxArr 4 1 (.tmp 134) (.const (.int .i64 0))))) none,
          .act (some 136) (.op (.read (.load1 (.tmp 135)))) none,
          .act (some 137) (.op (.pure (.bin .or (.tmp 133) (.tmp 136)))) none,
          .act (some 10) (.op (.pure (.move (.tmp 137)))) none]))
        (.seq (.steps [
          .act (some 81) (.op (.pure (.move (.tmp 9)))) none,
          .act (some 82) (.op (.pure (.fieldAddr 2 (.tmp 3)))) none,
          .act (some 83) (.op (.pure (.idxArr 4 1 (.tmp 82) (.const (.int .i64 0))))) none,
          .act (some 84) (.op (.read (.load1 (.tmp 83)))) none,
          .act (some 85) (.op (.pure (.bin .eql (.tmp 81) (.tmp 84)))) none,
          .act (some 86) (.op (.pure (.move (.tmp 85)))) none,
          .act (some 87) (.op (.pure (.fieldAddr 0 (.tmp 2)))) (some (86, true)),
          .act (some 88) (.op (.read (.load1 (.tmp 87)))) (some (86, true)),
          .act (some 89) (.op (.pure (.fieldAddr 1 (.tmp 3)))) (some (86, true)),
          .act (some 90) (.op (.read (.load1 (.tmp 89)))) (some (86, true)),
          .act (some 91) (.op (.pure (.bin .add (.tmp 90) (.const (.int .i64 1))))) (some (86, true)),
          .act (some 92) (.op (.pure (.idxSl 1 (.tmp 88) (.tmp 91)))) (some (86, true)),
          .act (some 93) (.op (.read (.load1 (.tmp 92)))) (some (86, true)),
          .act (some 94) (.op (.pure (.fieldAddr 2 (.tmp 3)))) (some (86, true)),
          .act (some 95) (.op (.pure (.idxArr 4 1 (.tmp 94) (.const (.int .i64 1))))) (some (86, true)),
          .act (some 96) (.op (.read (.load1 (.tmp 95)))) (some (86, true)),
          .act (some 97) (.op (.pure (.bin .eql (.tmp 93) (.tmp 96)))) (some (86, true)),
          .act (some 98) (.op (.pure (.pick (.tmp 86) (.tmp 97) (.const (.bool false))))) none,
          .act (some 12) (.op (.pure (.move (.tmp 98)))) none])
        (.seq (.steps [
          .act (some 99) (.op (.pure (.move (.tmp 12)))) none])
        (.cond (.tmp 99)
         (.steps [
           .act (some 100) (.op (.pure (.fieldAddr 2 (.tmp 3)))) none,
           .act (some 101) (.op (.pure (.idxArr 4 1 (.tmp 100) (.const (.int .i64 2))))) none,
           .act (some 102) (.op (.read (.load1 (.tmp 101)))) none,
           .act (some 10) (.op (.pure (.move (.tmp 102)))) none])
         .skip)))))))))))))))
  (.seq (.steps [
    .act (some 138) (.op (.new (.mkSlice 1 0 [] []))) none,
    .act (some 139) (.op (.pure (.fieldAddr 0 (.tmp 2)))) none,
    .act (some 140) (.op (.read (.load1 (.tmp 139)))) none,
    .act (some 141) (.op (.eff (.append 1 8 (.tmp 138) (.tmp 140)))) none,
    .act (some 142) (.op (.pure (.fieldAddr 0 (.tmp 2)))) none,
    .act none (.op (.eff (.store 1 (.tmp 142) (.tmp 141)))) none])
  (.seq (.steps [
    .act (some 143) (.op (.pure (.fieldAddr 0 (.tmp 2)))) none,
    .act (some 144) (.op (.read (.load1 (.tmp 143)))) none,
    .act (some 145) (.op (.pure (.fieldAddr 1 (.tmp 3)))) none,
    .act (some 146) (.op (.read (.load1 (.tmp 145)))) none,
    .act (some 147) (.op (.pure (.move (.tmp 10)))) none,
    .act (some 148) (.op (.pure (.idxSl 1 (.tmp 144) (.tmp 146)))) none,
    .act none (.op (.eff (.store 1 (.tmp 148) (.tmp 147)))) none])
  (.seq (.seq (.steps [
    .act (some 149) (.op (.pure (.fieldAddr 0 (.tmp 3)))) none,
    .act (some 150) (.op (.read (.load1 (.tmp 149)))) none,
    .act (some 151) (.op (.pure (.bin .eql (.tmp 150) (.const (.int .i64 5))))) none,
    .act (some 152) (.op (.pure (.move (.tmp 151)))) none,
    .act (some 153) (.op (.pure (.move (.tmp 12)))) (some (152, true)),
    .act (some 154) (.op (.pure (.pick (.tmp 152) (.tmp 153) (.const (.bool false))))) none])
  (.cond (.tmp 154)
   (.steps [
     .act (some 155) (.op (.pure (.fieldAddr 0 (.tmp 2)))) none,
     .act (some 156) (.op (.read (.load1 (.tmp 155)))) none,
     .act (some 157) (.op (.pure (.fieldAddr 1 (.tmp 3)))) none,
     .act (some 158) (.op (.read (.load1 (.tmp 157)))) none,
     .act (some 159) (.op (.pure (.bin .add (.tmp 158) (.const (.int .i64 1))))) none,
     .act (some 160) (.op (.pure (.fieldAddr 2 (.tmp 3)))) none,
     .act (some 161) (.op (.pure (.idxArr 4 1 (.tmp 160) (.const (.int .i64 3))))) none,
     .act (some 162) (.op (.read (.load1 (.tmp 161)))) none,
     .act (some 163) (.op (.pure (.idxSl 1 (.tmp 156) (.tmp 159)))) none,
     .act none (.op (.eff (.store 1 (.tmp 163) (.tmp 162)))) none])
   .skip))
  (.seq (.steps [
    .act (some 164) (.op (.read (.loadN 10 (.tmp 2)))) none,
    .act (some 165) (.op (.pure (.move (.tmp 11)))) none,
    .act (some 166) (.op (.pure (.move (.tmp 12)))) none,
    .act none (.op (.eff (.store 10 (.tmp 4) (.tmp 164)))) none,
    .act (some 5) (.op (.pure (.move (.tmp 165)))) none,
    .act (some 6) (.op (.pure (.move (.tmp 166)))) none])
  .ret)))))))))))))))) }
theorem c31 : compFn Try.prog (mkPlan Try.prog) [] false 31 = some L31 := by kernel_rfl
/-- (*sluiceway/hp.Op).protect -/
def L32 : LFun := { n := 52, pop := true, res := [], code :=
  (.seq (.seq (.steps [
    .act (some 5) (.op (.pure (.move (.tmp 0)))) none,
    .act (some 6) (.op (.pure (.nilCheck (.tmp 5)))) none,
    .act (some 7) (.op (.pure (.fieldAddr 7 (.tmp 6)))) none,
    .act (some 8) (.op (.read (.load1 (.tmp 7)))) none,
    .act (some 9) (.op (.pure (.bin .eql (.tmp 8) (.const (.int .i64 1))))) none])
  (.cond (.tmp 9)
   (.seq (.steps [
     .act (some 10) (.op (.pure (.move (.tmp 1)))) none,
     .act (some 11) (.op (.pure (.move (.tmp 0)))) none,
     .act (some 12) (.op (.pure (.nilCheck (.tmp 11)))) none,
     .act (some 13) (.op (.pure (.fieldAddr 5 (.tmp 12)))) none,
     .act (some 14) (.op (.read (.load1 (.tmp 13)))) none,
     .act (some 15) (.op (.pure (.move (.tmp 0)))) none,
     .act (some 16) (.op (.pure (.nilCheck (.tmp 15)))) none,
     .act (some 17) (.op (.pure (.fieldAddr 8 (.tmp 16)))) none,
     .act (some 18) (.op (.read (.load1 (.tmp 17)))) none,
     .act (some 19) (.call (.func 14) [(.tmp 10), (.tmp 14), (.tmp 18)]) none])
   (.seq (.steps [
     .act (some 20) (.op (.pure (.move (.tmp 0)))) none,
     .act (some 21) (.op (.pure (.nilCheck (.tmp 20)))) none,
     .act (some 22) (.op (.pure (.fieldAddr 7 (.tmp 21)))) none,
     .act none (.op (.eff (.store 1 (.tmp 22) (.const (.int .i64 2))))) none])
   .ret))
   .skip))
  (.seq (.steps [
    .act (some 23) (.op (.pure (.move (.tmp 1)))) none,
    .act (some 24) (.op (.pure (.move (.tmp 0)))) none,
    .act (some 25) (.op (.pure (.nilCheck (.tmp 24)))) none,
    .act (some 26) (.op (.pure (.fieldAddr 6 (.tmp 25)))) none,
    .act (some 27) (.op (.read (.load1 (.tmp 26)))) none,
    .act (some 28) (.call (.func 22) [(.tmp 23), (.tmp 27)]) none,
    .act (some 4) (.op (.pure (.move (.tmp 28)))) none])
  (.seq (.steps [
    .act (some 29) (.op (.pure (.move (.tmp 0)))) none,
    .act (some 30) (.op (.pure (.move (.tmp 0)))) none,
    .act (some 31) (.op (.pure (.nilCheck (.tmp 30)))) none,
    .act (some 32) (.op (.pure (.fieldAddr 7 (.tmp 31)))) none,
    .act (some 33) (.op (.read (.load1 (.tmp 32)))) none,
    .act (some 34) (.op (.pure (.bin .eql (.tmp 33) (.const (.int .i64 2))))) none,
    .act (some 35) (.op (.pure (.move (.tmp 34)))) none,
    .act (some 36) (.op (.pure (.move (.tmp 4)))) (some (35, true)),
    .act (some 37) (.op (.pure (.move (.tmp 0)))) (some (35, true)),
    .act (some 38) (.op (.pure (.nilCheck (.tmp 37)))) (some (35, true)),
    .act (some 39) (.op (.pure (.fieldAddr 8 (.tmp 38)))) (some (35, true)),
    .act (some 40) (.op (.read (.load1 (.tmp 39)))) (some (35, true)),
    .act (some 41) (.op (.pure (.bin .eql (.tmp 36) (.tmp 40)))) (some (35, true)),
    .act (some 42) (.op (.pure (.pick (.tmp 35) (.tmp 41) (.const (.bool false))))) none,
    .act (some 43) (.op (.pure (.nilCheck (.tmp 29)))) none,
    .act (some 44) (.op (.pure (.fieldAddr 10 (.tmp 43)))) none,
    .act none (.op (.eff (.store 1 (.tmp 44) (.tmp 42)))) none])
  (.steps [
    .act (some 45) (.op (.pure (.move (.tmp 0)))) none,
    .act (some 46) (.op (.pure (.move (.tmp 0)))) none,
    .act (some 47) (.op (.pure (.move (.tmp 4)))) none,
    .act (some 48) (.op (.pure (.nilCheck (.tmp 45)))) none,
    .act (some 49) (.op (.pure (.fieldAddr 8 (.tmp 48)))) none,
    .act none (.op (.eff (.store 1 (.tmp 49) (.tmp 47)))) none,
    .act (some 50) (.op (.pure (.nilCheck (.tmp 46)))) none,
    .act (some 51) (.op (.pure (.fieldAddr 7 (.tmp 50)))) none,
    .act none (.op (.eff (.store 1 (.tmp 51) (.const (.int .i64 1))))) none])))) }
theorem c32 : compFn Try.prog (mkPlan Try.prog) [] true 32 = some L32 := by kernel_rfl
/-- (*sluiceway/hp.Op).scan -/
def L33 : LFun := { n := 58, pop := false, res := [], code :=
  (.seq (.seq (.steps [
    .act (some 5) (.op (.pure (.move (.tmp 1)))) none,
    .act (some 6) (.op (.pure (.move (.tmp 0)))) none,
    .act (some 7) (.op (.pure (.nilCheck (.tmp 6)))) none,
    .act (some 8) (.op (.pure (.fieldAddr 1 (.tmp 7)))) none,
    .act (some 9) (.op (.pure (.fieldAddr 0 (.tmp 8)))) none,
    .act (some 10) (.op (.read (.load1 (.tmp 9)))) none,
    .act (some 11) (.op (.pure (.move (.tmp 0)))) none,
    .act (some 12) (.op (.pure (.nilCheck (.tmp 11)))) none,
    .act (some 13) (.op (.pure (.fieldAddr 7 (.tmp 12)))) none,
    .act (some 14) (.op (.read (.load1 (.tmp 13)))) none,
    .act (some 15) (.op (.pure (.bin .add (.tmp 10) (.tmp 14)))) none,
    .act (some 16) (.call (.func 22) [(.tmp 5), (.tmp 15)]) none,
    .act (some 4) (.op (.pure (.move (.tmp 16)))) none])
  (.seq (.steps [
    .act (some 17) (.op (.pure (.move (.tmp 4)))) none,
    .act (some 18) (.op (.pure (.bin .neq (.tmp 17) (.const (w64 0#64))))) none])
  (.cond (.tmp 18)
   (.steps [
     .act (some 19) (.op (.pure (.move (.tmp 0)))) none,
     .act (some 20) (.op (.pure (.move (.tmp 0)))) none,
     .act (some 21) (.op (.pure (.nilCheck (.tmp 20)))) none,
     .act (some 22) (.op (.pure (.fieldAddr 9 (.tmp 21)))) none,
     .act (some 23) (.op (.read (.load1 (.tmp 22)))) none,
     .act (some 24) (.op (.pure (.move (.tmp 4)))) none,
     .act (some 25) (.op (.new (.mkSlice 1 1 [(w64 0#64)] [(0, 1, (.tmp 24))]))) none,
     .act (some 26) (.op (.eff (.append 1 8 (.tmp 23) (.tmp 25)))) none,
     .act (some 27) (.op (.pure (.nilCheck (.tmp 19)))) none,
     .act (some 28) (.op (.pure (.fieldAddr 9 (.tmp 27)))) none,
     .act none (.op (.eff (.store 1 (.tmp 28) (.tmp 26)))) none])
   .skip)))
  (.seq (.steps [
    .act (some 29) (.op (.pure (.move (.tmp 0)))) none,
    .act (some 30) (.op (.pure (.nilCheck (.tmp 29)))) none,
    .act (some 31) (.op (.pure (.fieldAddr 7 (.tmp 30)))) none,
    .act (some 32) (.op (.read (.load1 (.tmp 31)))) none,
    .act (some 33) (.op (.pure (.bin .add (.tmp 32) (.const (.int .i64 1))))) none,
    .act (some 34) (.op (.pure (.nilCheck (.tmp 29)))) none,
    .act (some 35) (.op (.pure (.fieldAddr 7 (.tmp 34)))) none,
    .act none (.op (.eff (.store 1 (.tmp 35) (.tmp 33)))) none])
  (.steps [
    .act (some 36) (.op (.pure (.move (.tmp 0)))) none,
    .act (some 37) (.op (.pure (.move (.tmp 0)))) none,
    .act (some 38) (.op (.pure (.move (.tmp 0)))) none,
    .act (some 39) (.op (.pure (.nilCheck (.tmp 38)))) none,
    .act (some 40) (.op (.pure (.fieldAddr 9 (.tmp 39)))) none,
    .act (some 41) (.op (.read (.load1 (.tmp 40)))) none,
    .act (some 42) (.op (.pure (.len false (.tmp 41)))) none,
    .act (some 43) (.op (.pure (.conv .u64 (.tmp 42)))) none,
    .act (some 44) (.op (.pure (.move (.tmp 0)))) none,
    .act (some 45) (.op (.pure (.nilCheck (.tmp 44)))) none,
    .act (some 46) (.op (.pure (.fieldAddr 7 (.tmp 45)))) none,
    .act (some 47) (.op (.read (.load1 (.tmp 46)))) none,
    .act (some 48) (.op (.pure (.move (.tmp 0)))) none,
    .act (some 49) (.op (.pure (.nilCheck (.tmp 48)))) none,
    .act (some 50) (.op (.pure (.fieldAddr 1 (.tmp 49)))) none,
    .act (some 51) (.op (.read (.loadN 3 (.tmp 50)))) none,
    .act (some 52) (.call (.func 10) [(.tmp 51)]) none,
    .act (some 53) (.op (.pure (.bin .eql (.tmp 47) (.tmp 52)))) none,
    .act (some 54) (.op (.pure (.nilCheck (.tmp 36)))) none,
    .act (some 55) (.op (.pure (.fieldAddr 8 (.tmp 54)))) none,
    .again 47 (.load1 (.tmp 46)) none,
    .again 41 (.load1 (.tmp 40)) none,
    .act none (.op (.eff (.store 1 (.tmp 55) (.tmp 43)))) none,
    .act (some 56) (.op (.pure (.nilCheck (.tmp 37)))) none,
    .act (some 57) (.op (.pure (.fieldAddr 10 (.tmp 56)))) none,
    .act none (.op (.eff (.store 1 (.tmp 57) (.tmp 53)))) none]))) }
theorem c33 : compFn Try.prog (mkPlan Try.prog) [] false 33 = some L33 := by kernel_rfl
/-- slices.Clone[[]uint64,uint64] -/
def L34 : LFun := { n := 8, pop := false, res := [.tmp 2], code :=
  (.seq (.steps [
    .act (some 2) (.op (.pure (.move (.const (.slice none 0 0))))) none])
  (.seq (.seq (.steps [
    .act (some 3) (.op (.pure (.move (.tmp 0)))) none,
    .act (some 4) (.op (.pure (.eqNil .s false (.tmp 3) (.const (.slice none 0 0))))) none])
  (.cond (.tmp 4)
   (.seq (.steps [
     .act (some 2) (.op (.pure (.move (.const (.slice none 0 0))))) none])
   .ret)
   .skip))
  (.seq (.steps [
    .act (some 5) (.op (.new (.mkSlice 1 0 [] []))) none,
    .act (some 6) (.op (.pure (.move (.tmp 0)))) none,
    .act (some 7) (.op (.eff (.append 1 8 (.tmp 5) (.tmp 6)))) none,
    .act (some 2) (.op (.pure (.move (.tmp 7)))) none])
  .ret))) }
theorem c34 : compFn Try.prog (mkPlan Try.prog) [] false 34 = some L34 := by kernel_rfl
/-- (*sluiceway/hp.Op).none -/
def L35 : LFun := { n := 12, pop := true, res := [.tmp 2], code :=
  (.seq (.steps [
    .act (some 2) (.op (.pure (.move (.const (.bool false))))) none])
  (.seq (.steps [
    .act (some 3) (.op (.pure (.move (.tmp 0)))) none,
    .act (some 4) (.op (.pure (.eqNil .p false (.tmp 3) (.const (.pointer none))))) none,
    .act (some 5) (.op (.pure (.move (.tmp 4)))) none,
    .act (some 6) (.op (.pure (.move (.tmp 0)))) (some (5, false)),
    .act (some 7) (.op (.pure (.nilCheck (.tmp 6)))) (some (5, false)),
    .act (some 8) (.op (.pure (.fieldAddr 0 (.tmp 7)))) (some (5, false)),
    .act (some 9) (.op (.read (.load1 (.tmp 8)))) (some (5, false)),
    .act (some 10) (.op (.pure (.not (.tmp 9)))) (some (5, false)),
    .act (some 11) (.op (.pure (.pick (.tmp 5) (.const (.bool true)) (.tmp 10)))) none,
    .act (some 2) (.op (.pure (.move (.tmp 11)))) none])
  .ret)) }
theorem c35 : compFn Try.prog (mkPlan Try.prog) [] true 35 = some L35 := by kernel_rfl
/-- (*sluiceway/mem.Mem).Load$1 -/
def L36 : LFun := { n := 6, pop := true, res := [], code :=
  (.steps [
    .act (some 3) (.op (.pure (.move (.tmp 0)))) none,
    .act (some 4) (.op (.pure (.nilCheck (.tmp 3)))) none,
    .act (some 5) (.op (.read (.load1 (.tmp 4)))) none,
    .act none (.op (.eff (.store 1 (.tmp 1) (.tmp 5)))) none]) }
theorem c36 : compFn Try.prog (mkPlan Try.prog) [] true 36 = some L36 := by kernel_rfl
/-- (*sluiceway/mem.Mem).none -/
def L37 : LFun := { n := 13, pop := true, res := [.tmp 2], code :=
  (.seq (.steps [
    .act (some 2) (.op (.pure (.move (.const (.bool false))))) none])
  (.seq (.steps [
    .act (some 3) (.op (.pure (.move (.tmp 0)))) none,
    .act (some 4) (.op (.pure (.eqNil .p false (.tmp 3) (.const (.pointer none))))) none,
    .act (some 5) (.op (.pure (.move (.tmp 4)))) none,
    .act (some 6) (.op (.pure (.move (.tmp 0)))) (some (5, false)),
    .act (some 7) (.op (.pure (.nilCheck (.tmp 6)))) (some (5, false)),
    .act (some 8) (.op (.pure (.fieldAddr 0 (.tmp 7)))) (some (5, false)),
    .act (some 9) (.op (.read (.load1 (.tmp 8)))) (some (5, false)),
    .act (some 10) (.op (.pure (.len false (.tmp 9)))) (some (5, false)),
    .act (some 11) (.op (.pure (.bin .eql (.tmp 10) (.const (.int .i64 0))))) (some (5, false)),
    .act (some 12) (.op (.pure (.pick (.tmp 5) (.const (.bool true)) (.tmp 11)))) none,
    .act (some 2) (.op (.pure (.move (.tmp 12)))) none])
  .ret)) }
theorem c37 : compFn Try.prog (mkPlan Try.prog) [] true 37 = some L37 := by kernel_rfl
/-- (*sluiceway/mem.Mem).Count -/
def L38 : LFun := { n := 21, pop := true, res := [.tmp 4], code :=
  (.seq (.steps [
    .act (some 4) (.op (.pure (.move (.const (.int .i64 0))))) none])
  (.seq (.seq (.steps [
    .act (some 5) (.op (.pure (.move (.tmp 0)))) none,
    .act (some 6) (.call (.func 37) [(.tmp 5)]) none,
    .act (some 7) (.op (.pure (.move (.tmp 6)))) none,
    .act (some 8) (.op (.pure (.move (.tmp 1)))) (some (7, false)),
    .act (some 9) (.op (.pure (.bin .lss (.tmp 8) (.const (.int .i64 0))))) (some (7, false)),
    .act (some 10) (.op (.pure (.pick (.tmp 7) (.const (.bool true)) (.tmp 9)))) none,
    .act (some 11) (.op (.pure (.move (.tmp 10)))) none,
    .act (some 12) (.op (.pure (.move (.tmp 1)))) (some (11, false)),
    .act (some 13) (.op (.pure (.bin .geq (.tmp 12) (.const (.int .i64 6))))) (some (11, false)),
    .act (some 14) (.op (.pure (.pick (.tmp 11) (.const (.bool true)) (.tmp 13)))) none])
  (.cond (.tmp 14)
   (.seq (.steps [
     .act (some 4) (.op (.pure (.move (.const (.int .i64 0))))) none])
   .ret)
   .skip))
  (.seq (.steps [
    .act (some 15) (.op (.pure (.move (.tmp 0)))) none,
    .act (some 16) (.op (.pure (.move (.tmp 1)))) none,
    .act (some 17) (.op (.pure (.nilCheck (.tmp 15)))) none,
    .act (some 18) (.op (.pure (.fieldAddr 2 (.tmp 17)))) none,
    .act (some 19) (.op (.pure (.idxArr 6 1 (.tmp 18) (.tmp 16)))) none,
    .act (some 20) (.op (.read (.load1 (.tmp 19)))) none,
    .act (some 4) (.op (.pure (.move (.tmp 20)))) none])
  .ret))) }
theorem c38 : compFn Try.prog (mkPlan Try.prog) [] true 38 = some L38 := by kernel_rfl
/-- (*sluiceway/mem.Mem).Barred -/
def L39 : LFun := { n := 22, pop := true, res := [.tmp 4], code :=
  (.seq (.steps [
    .act (some 4) (.op (.pure (.move (.const (.bool false))))) none])
  (.seq (.steps [
    .act (some 5) (.op (.pure (.move (.tmp 1)))) none,
    .act (some 6) (.op (.pure (.bin .lss (.tmp 5) (.const (.int .i64 0))))) none,
    .act (some 7) (.op (.pure (.move (.tmp 6)))) none,
    .act (some 8) (.op (.pure (.move (.tmp 1)))) (some (7, false)),
    .act (some 9) (.op (.pure (.move (.tmp 0)))) (some (7, false)),
    .act (some 10) (.call (.func 27) [(.tmp 9)]) (some (7, false)),
    .act (some 11) (.op (.pure (.bin .geq (.tmp 8) (.tmp 10)))) (some (7, false)),
    .act (some 12) (.op (.pure (.pick (.tmp 7) (.const (.bool true)) (.tmp 11)))) none,
    .act (some 13) (.op (.pure (.move (.tmp 12)))) none,
    .act (some 14) (.op (.pure (.move (.tmp 0)))) (some (13, false)),
    .act (some 15) (.op (.pure (.nilCheck (.tmp 14)))) (some (13, false)),
    .act (some 16) (.op (.pure (.fieldAddr 1 (.tmp 15)))) (some (13, false)),
    .act (some 17) (.op (.read (.load1 (.tmp 16)))) (some (13, false)),
    .act (some 18) (.op (.pure (.move (.tmp 1)))) (some (13, false)),
    .act (some 19) (.op (.pure (.idxSl 1 (.tmp 17) (.tmp 18)))) (some (13, false)),
    .act (some 20) (.op (.read (.load1 (.tmp 19)))) (some (13, false)),
    .act (some 21) (.op (.pure (.pick (.tmp 13) (.const (.bool true)) (.tmp 20)))) none,
    .act (some 4) (.op (.pure (.move (.tmp 21)))) none])
  .ret)) }
theorem c39 : compFn Try.prog (mkPlan Try.prog) [] true 39 = some L39 := by kernel_rfl
/-- (*sluiceway/mem.Mem).fall -/
def L40 : LFun := { n := 16, pop := true, res := [], code :=
  (.seq (.steps [
    .act (some 4) (.op (.pure (.move (.tmp 0)))) none,
    .act (some 5) (.op (.pure (.nilCheck (.tmp 4)))) none,
    .act (some 6) (.op (.pure (.fieldAddr 9 (.tmp 5)))) none,
    .act (some 7) (.op (.read (.load1 (.tmp 6)))) none,
    .act (some 8) (.op (.pure (.not (.tmp 7)))) none])
  (.cond (.tmp 8)
   (.steps [
     .act (some 9) (.op (.pure (.move (.tmp 0)))) none,
     .act (some 10) (.op (.pure (.move (.tmp 0)))) none,
     .act (some 11) (.op (.pure (.move (.tmp 1)))) none,
     .act (some 12) (.op (.pure (.nilCheck (.tmp 9)))) none,
     .act (some 13) (.op (.pure (.fieldAddr 8 (.tmp 12)))) none,
     .act none (.op (.eff (.store 1 (.tmp 13) (.tmp 11)))) none,
     .act (some 14) (.op (.pure (.nilCheck (.tmp 10)))) none,
     .act (some 15) (.op (.pure (.fieldAddr 9 (.tmp 14)))) none,
     .act none (.op (.eff (.store 1 (.tmp 15) (.const (.bool true))))) none])
   .skip)) }
theorem c40 : compFn Try.prog (mkPlan Try.prog) [] true 40 = some L40 := by kernel_rfl
/-- (sluiceway/sluicewayref02.Mem).bad -/
def L41 : LFun := { n := 21, pop := true, res := [.tmp 4], code :=
  (.seq (.steps [
    .act (some 2) (.op (.new (.box (.tmp 0)))) none,
    .act (some 4) (.op (.pure (.move (.const (.bool false))))) none])
  (.seq (.steps [
    .act (some 5) (.op (.pure (.move (.tmp 1)))) none,
    .act (some 6) (.op (.pure (.bin .lss (.tmp 5) (.const (.int .i64 0))))) none,
    .act (some 7) (.op (.pure (.move (.tmp 6)))) none,
    .act (some 8) (.op (.pure (.move (.tmp 1)))) (some (7, false)),
    .act (some 9) (.op (.pure (.fieldAddr 0 (.tmp 2)))) (some (7, false)),
    .act (some 10) (.op (.read (.load1 (.tmp 9)))) (some (7, false)),
    .act (some 11) (.op (.pure (.len false (.tmp 10)))) (some (7, false)),
    .act (some 12) (.op (.pure (.bin .geq (.tmp 8) (.tmp 11)))) (some (7, false)),
    .act (some 13) (.op (.pure (.pick (.tmp 7) (.const (.bool true)) (.tmp 12)))) none,
    .act (some 14) (.op (.pure (.move (.tmp 13)))) none,
    .act (some 15) (.op (.pure (.fieldAddr 1 (.tmp 2)))) (some (14, false)),
    .act (some 16) (.op (.read (.load1 (.tmp 15)))) (some (14, false)),
    .act (some 17) (.op (.pure (.move (.tmp 1)))) (some (14, false)),
    .act (some 18) (.op (.pure (.idxSl 1 (.tmp 16) (.tmp 17)))) (some (14, false)),
    .act (some 19) (.op (.read (.load1 (.tmp 18)))) (some (14, false)),
    .act (some 20) (.op (.pure (.pick (.tmp 14) (.const (.bool true)) (.tmp 19)))) none,
    .act (some 4) (.op (.pure (.move (.tmp 20)))) none])
  .ret)) }
theorem c41 : compFn Try.prog (mkPlan Try.prog) [] true 41 = some L41 := by kernel_rfl
end Go.Proofs.Ytcogpinognopcaa
