import Derived.Test.YtopjhhcncjleaaaLP
import Derived.KernelRfl
import Derived.Test.YtopjhhcncjleaaaProg
namespace Go.Proofs.Ytopjhhcncjleaaa
open Go Go.LK Go.Proofs
set_option maxRecDepth 100000
/-- sluiceway/sluicewaylaw14.CrqOrders -/
def L7 : LFun := { n := 196, pop := true, res := [.tmp 6], code :=
  (.seq (.steps [
    .act (some 6) (.op (.pure (.move (.const (.bool false))))) none])
  (.seq (.steps [
    .act (some 25) (.op (.pure (.move (.tmp 0)))) none,
    .act (some 26) (.call (.func 8) [(.tmp 25)]) none,
    .act (some 27) (.op (.pure (.build [(.int .i64 0), (.int .i64 0)] [(0, 1, (.const (.int .i64 0))), (1, 1, (.tmp 26))]))) none,
    .act (some 7) (.op (.new (.alloc [(.int .i64 0), (.int .i64 0)]))) none,
    .act none (.op (.eff (.store 2 (.tmp 7) (.tmp 27)))) none])
  (.seq (.steps [
    .act (some 29) (.op (.pure (.fieldAddr 1 (.tmp 7)))) none,
    .act (some 30) (.op (.read (.load1 (.tmp 29)))) none,
    .act (some 31) (.op (.pure (.bin .mul (.const (.int .i64 2)) (.tmp 30)))) none,
    .act (some 32) (.op (.pure (.bin .add (.const (.int .i64 4)) (.tmp 31)))) none,
    .act (some 33) (.call (.func 9) [(.tmp 32)]) none,
    .act (some 28) (.op (.pure (.move (.tmp 33)))) none,
    .act (some 34) (.op (.pure (.extract (.tmp 28) 0))) none,
    .act (some 35) (.op (.pure (.extract (.tmp 28) 1))) none,
    .act (some 8) (.op (.pure (.move (.tmp 34)))) none,
    .act (some 9) (.op (.pure (.move (.tmp 35)))) none])
  (.seq (.seq (.steps [
    .act (some 36) (.op (.pure (.move (.tmp 9)))) none,
    .act (some 37) (.op (.pure (.bin .neq (.tmp 36) (.const (.int .i64 0))))) none,
    .act (some 38) (.op (.pure (.move (.tmp 37)))) none,
    .act (some 39) (.op (.read (.loadN 2 (.tmp 7)))) (some (38, false)),
    .act (some 40) (.op (.pure (.move (.tmp 8)))) (some (38, false)),
    .act (some 41) (.call (.func 11) [(.tmp 39), (.tmp 40)]) (some (38, false)),
    .act (some 42) (.op (.pure (.bin .neq (.tmp 41) (.const (.int .i64 0))))) (some (38, false)),
    .act (some 43) (.op (.pure (.pick (.tmp 38) (.const (.bool true)) (.tmp 42)))) none])
  (.cond (.tmp 43)
   (.seq (.steps [
     .act (some 6) (.op (.pure (.move (.const (.bool false))))) none])
   .ret)
   .skip))
  (.seq (.steps [
    .act (some 44) (.call (.func 32) []) none,
    .act (some 10) (.op (.pure (.move (.tmp 44)))) none])
  (.seq (.steps [
    .act (some 11) (.op (.new (.alloc [(.pointer none), (.pointer none), (.pointer none), (.pointer none)]))) none])
  (.seq (.steps [
    .act (some 12) (.op (.new (.alloc [(.int .i64 0), (.int .i64 0), (.int .i64 0), (.int .i64 0)]))) none])
  (.seq (.steps [
    .act (some 13) (.op (.pure (.move (.const (.int .i64 0))))) none])
  (.seq (.seq (.steps [
    .act (some 14) (.op (.pure (.move (.const (.int .i64 0))))) none])
  (.block 0 (.loop [1, 2, 7, 8, 10, 11, 12, 13, 14] (.seq (.seq (.steps [
      .act (some 45) (.op (.pure (.move (.tmp 14)))) none,
      .act (some 46) (.op (.pure (.move (.tmp 2)))) none,
      .act (some 47) (.op (.pure (.len false (.tmp 46)))) none,
      .act (some 48) (.op (.pure (.bin .lss (.tmp 45) (.tmp 47)))) none,
      .act (some 49) (.op (.pure (.move (.tmp 48)))) none,
      .act (some 50) (.op (.pure (.move (.tmp 14)))) (some (49, true)),
      .act (some 51) (.op (.pure (.bin .lss (.tmp 50) (.const (.int .i64 250))))) (some (49, true)),
      .act (some 52) (.op (.pure (.pick (.tmp 49) (.tmp 51) (.const (.bool false))))) none])
    (.cond (.tmp 52)
     .skip
     (.exit 0)))
    (.seq (.block 1 (.seq (.steps [
       .act (some 55) (.op (.pure (.move (.tmp 2)))) none,
       .act (some 56) (.op (.pure (.move (.tmp 14)))) none,
       .act (some 57) (.op (.pure (.idxSl 1 (.tmp 55) (.tmp 56)))) none,
       .act (some 58) (.op (.read (.load1 (.tmp 57)))) none,
       .act (some 59) (.op (.pure (.bin .and (.tmp 58) (.const (.int .i64 3))))) none,
       .act (some 15) (.op (.pure (.move (.tmp 59)))) none])
     (.seq (.seq (.steps [
       .act (some 60) (.op (.pure (.move (.tmp 15)))) none,
       .act (some 61) (.op (.pure (.idxArr 4 1 (.tmp 11) (.tmp 60)))) none,
       .act (some 62) (.op (.read (.load1 (.tmp 61)))) none,
       .act (some 63) (.op (.pure (.eqNil .p false (.tmp 62) (.const (.pointer none))))) none])
     (.cond (.tmp 63)
      (.seq (.seq (.steps [
        .act (some 64) (.op (.pure (.move (.tmp 13)))) none,
        .act (some 65) (.op (.pure (.move (.tmp 1)))) none,
        .act (some 66) (.op (.pure (.len false (.tmp 65)))) none,
        .act (some 67) (.op (.pure (.bin .geq (.tmp 64) (.tmp 66)))) none,
        .act (some 68) (.op (.pure (.move (.tmp 67)))) none,
        .act (some 69) (.op (.pure (.move (.tmp 13)))) (some (68, false)),
        .act (some 70) (.op (.pure (.bin .geq (.tmp 69) (.const (.int .i64 8))))) (some (68, false)),
        .act (some 71) (.op (.pure (.pick (.tmp 68) (.const (.bool true)) (.tmp 70)))) none])
      (.cond (.tmp 71)
       (.exit 1)
       .skip))
      (.seq (.steps [
        .act (some 72) (.op (.pure (.move (.tmp 1)))) none,
        .act (some 73) (.op (.pure (.move (.tmp 13)))) none,
        .act (some 74) (.op (.pure (.idxSl 3 (.tmp 72) (.tmp 73)))) none,
        .act (some 75) (.op (.pure (.fieldAddr 1 (.tmp 74)))) none,
        .act (some 76) (.op (.read (.load1 (.tmp 75)))) none,
        .act (some 77) (.op (.pure (.bin .and (.tmp 76) (.const (.int .i64 1))))) none,
        .act (some 78) (.op (.pure (.move (.tmp 1)))) none,
        .act (some 79) (.op (.pure (.move (.tmp 13)))) none,
        .act (some 80) (.op (.pure (.idxSl 3 (.tmp 78) (.tmp 79)))) none,
        .act (some 81) (.op (.pure (.fieldAddr 2 (.tmp 80)))) none,
        .act (some 82) (.op (.read (.load1 (.tmp 81)))) none,
        .act (some 83) (.op (.pure (.bin .and (.tmp 82) (.const (w64 65535#64))))) none,
        .act (some 16) (.op (.pure (.move (.tmp 77)))) none,
        .act (some 17) (.op (.pure (.move (.tmp 83)))) none])
      (.seq (.steps [
        .act (some 84) (.op (.pure (.move (.tmp 15)))) none,
        .act (some 85) (.op (.read (.loadN 2 (.tmp 7)))) none,
        .act (some 86) (.op (.pure (.move (.tmp 16)))) none,
        .act (some 87) (.op (.pure (.move (.tmp 17)))) none,
        .act (some 88) (.op (.pure (.move (.tmp 16)))) none,
        .act (some 89) (.op (.pure (.bin .sub (.const (.int .i64 1)) (.tmp 88)))) none,
        .act (some 90) (.op (.pure (.conv .u64 (.tmp 89)))) none,
        .act (some 91) (.op (.pure (.bin .mul (.tmp 87) (.tmp 90)))) none,
        .act (some 92) (.call (.func 13) [(.tmp 85), (.tmp 86), (.tmp 91)]) none,
        .act (some 93) (.op (.pure (.idxArr 4 1 (.tmp 11) (.tmp 84)))) none,
        .act none (.op (.eff (.store 1 (.tmp 93) (.tmp 92)))) none])
      (.seq (.steps [
        .act (some 95) (.op (.pure (.move (.tmp 15)))) none,
        .act (some 96) (.op (.pure (.move (.tmp 10)))) none,
        .act (some 97) (.op (.pure (.move (.tmp 15)))) none,
        .act (some 98) (.op (.pure (.move (.tmp 16)))) none,
        .act (some 99) (.op (.pure (.move (.tmp 17)))) none,
        .act (some 100) (.call (.func 33) [(.tmp 96), (.tmp 97), (.tmp 98), (.tmp 99)]) none,
        .act (some 94) (.op (.pure (.move (.tmp 100)))) none,
        .act (some 101) (.op (.pure (.extract (.tmp 94) 0))) none,
        .act (some 102) (.op (.pure (.extract (.tmp 94) 1))) none,
        .act (some 103) (.op (.pure (.idxArr 4 1 (.tmp 12) (.tmp 95)))) none,
        .act none (.op (.eff (.store 1 (.tmp 103) (.tmp 101)))) none])
      (.steps [
        .act (some 104) (.op (.pure (.move (.tmp 13)))) none,
        .act (some 105) (.op (.pure (.bin .add (.tmp 104) (.const (.int .i64 1))))) none,
        .act (some 13) (.op (.pure (.move (.tmp 105)))) none])))))
      .skip))
     (.seq (.steps [
       .act (some 106) (.op (.pure (.move (.tmp 15)))) none,
       .act (some 107) (.op (.pure (.idxArr 4 1 (.tmp 11) (.tmp 106)))) none,
       .act (some 108) (.op (.read (.load1 (.tmp 107)))) none,
       .act (some 109) (.op (.pure (.move (.tmp 8)))) none,
       .act (some 110) (.call (.func 15) [(.tmp 108), (.tmp 109)]) none])
     (.cond (.tmp 110)
      (.seq (.steps [
        .act (some 112) (.op (.pure (.move (.tmp 15)))) none,
        .act (some 113) (.op (.pure (.idxArr 4 1 (.tmp 11) (.tmp 112)))) none,
        .act (some 114) (.op (.read (.load1 (.tmp 113)))) none,
        .act (some 115) (.call (.func 18) [(.tmp 114)]) none,
        .act (some 111) (.op (.pure (.move (.tmp 115)))) none,
        .act (some 116) (.op (.pure (.extract (.tmp 111) 0))) none,
        .act (some 117) (.op (.pure (.extract (.tmp 111) 1))) none,
        .act (some 18) (.op (.pure (.move (.tmp 116)))) none,
        .act (some 19) (.op (.pure (.move (.tmp 117)))) none])
      (.seq (.steps [
        .act (some 118) (.op (.pure (.move (.tmp 10)))) none,
        .act (some 119) (.op (.pure (.move (.tmp 15)))) none,
        .act (some 120) (.op (.pure (.idxArr 4 1 (.tmp 12) (.tmp 119)))) none,
        .act (some 121) (.op (.read (.load1 (.tmp 120)))) none,
        .act (some 122) (.op (.pure (.move (.tmp 18)))) none,
        .act (some 123) (.op (.pure (.move (.tmp 19)))) none,
        .act (some 124) (.call (.func 34) [(.tmp 118), (.tmp 121), (.tmp 122), (.tmp 123)]) none])
      (.steps [
        .act (some 125) (.op (.pure (.move (.tmp 15)))) none,
        .act (some 126) (.op (.pure (.idxArr 4 1 (.tmp 11) (.tmp 125)))) none,
        .act none (.op (.eff (.store 1 (.tmp 126) (.const (.pointer none))))) none])))
      .skip)))))
    (.steps [
      .act (some 53) (.op (.pure (.move (.tmp 14)))) none,
      .act (some 54) (.op (.pure (.bin .add (.tmp 53) (.const (.int .i64 1))))) none,
      .act (some 14) (.op (.pure (.move (.tmp 54)))) none]))))))
  (.seq (.steps [
    .act (some 127) (.op (.pure (.move (.tmp 10)))) none,
    .act (some 128) (.call (.func 35) [(.tmp 127)]) none,
    .act (some 20) (.op (.pure (.move (.tmp 128)))) none])
  (.seq (.seq (.steps [
    .act (some 21) (.op (.pure (.move (.const (.int .i64 0))))) none])
  (.block 2 (.loop [8, 20, 21] (.seq (.seq (.steps [
      .act (some 129) (.op (.pure (.move (.tmp 21)))) none,
      .act (some 130) (.op (.pure (.move (.tmp 20)))) none,
      .act (some 131) (.op (.pure (.len false (.tmp 130)))) none,
      .act (some 132) (.op (.pure (.bin .lss (.tmp 129) (.tmp 131)))) none])
    (.cond (.tmp 132)
     .skip
     (.exit 2)))
    (.seq (.block 3 (.seq (.steps [
       .act (some 22) (.op (.pure (.move (.const (.int .i64 0))))) none])
     (.block 4 (.loop [8, 20, 21, 22] (.seq (.seq (.steps [
         .act (some 135) (.op (.pure (.move (.tmp 22)))) none,
         .act (some 136) (.op (.pure (.move (.tmp 20)))) none,
         .act (some 137) (.op (.pure (.len false (.tmp 136)))) none,
         .act (some 138) (.op (.pure (.bin .lss (.tmp 135) (.tmp 137)))) none])
       (.cond (.tmp 138)
        .skip
        (.exit 4)))
       (.seq (.block 5 (.seq (.steps [
          .act (some 141) (.op (.pure (.move (.tmp 20)))) none,
          .act (some 142) (.op (.pure (.move (.tmp 21)))) none,
          .act (some 143) (.op (.pure (.idxSl 8 (.tmp 141) (.tmp 142)))) none,
          .act (some 144) (.op (.pure (.fieldAddr 6 (.tmp 143)))) none,
          .act (some 145) (.op (.read (.load1 (.tmp 144)))) none,
          .act (some 146) (.op (.pure (.bin .eql (.tmp 145) (.const (.int .i64 16))))) none,
          .act (some 147) (.op (.pure (.move (.tmp 146)))) none,
          .act (some 148) (.op (.pure (.move (.tmp 20)))) (some (147, true)),
          .act (some 149) (.op (.pure (.move (.tmp 21)))) (some (147, true)),
          .act (some 150) (.op (.pure (.idxSl 8 (.tmp 148) (.tmp 149)))) (some (147, true)),
          .act (some 151) (.op (.read (.loadN 8 (.tmp 150)))) (some (147, true)),
          .act (some 152) (.op (.pure (.move (.tmp 20)))) (some (147, true)),
          .act (some 153) (.op (.pure (.move (.tmp 22)))) (some (147, true)),
          .act (some 154) (.op (.pure (.idxSl 8 (.tmp 152) (.tmp 153)))) (some (147, true)),
          .act (some 155) (.op (.read (.loadN 8 (.tmp 154)))) (some (147, true)),
          .act (some 156) (.call (.func 36) [(.tmp 151), (.tmp 155)]) (some (147, true)),
          .act (some 157) (.op (.pure (.pick (.tmp 147) (.tmp 156) (.const (.bool false))))) none,
          .act (some 158) (.op (.pure (.move (.tmp 157)))) none,
          .act (some 159) (.op (.pure (.move (.tmp 20)))) (some (158, true)),
          .act (some 160) (.op (.pure (.move (.tmp 22)))) (some (158, true)),
          .act (some 161) (.op (.pure (.idxSl 8 (.tmp 159) (.tmp 160)))) (some (158, true)),
          .act (some 162) (.op (.pure (.fieldAddr 1 (.tmp 161)))) (some (158, true)),
          .act (some 163) (.op (.read (.load1 (.tmp 162)))) (some (158, true)),
          .act (some 164) (.op (.pure (.bin .eql (.tmp 163) (.const (.int .i64 0))))) (some (158, true)),
          .act (some 165) (.op (.pure (.pick (.tmp 158) (.tmp 164) (.const (.bool false))))) none,
          .act (some 166) (.op (.pure (.move (.tmp 165)))) none,
          .act (some 167) (.op (.pure (.move (.tmp 20)))) (some (166, true)),
          .act (some 168) (.op (.pure (.move (.tmp 22)))) (some (166, true)),
          .act (some 169) (.op (.pure (.idxSl 8 (.tmp 167) (.tmp 168)))) (some (166, true)),
          .act (some 170) (.op (.pure (.fieldAddr 5 (.tmp 169)))) (some (166, true)),
          .act (some 171) (.op (.read (.load1 (.tmp 170)))) (some (166, true)),
          .act (some 172) (.op (.pure (.pick (.tmp 166) (.tmp 171) (.const (.bool false))))) none,
          .act (some 173) (.op (.pure (.move (.tmp 172)))) none,
          .act (some 174) (.op (.pure (.move (.tmp 20)))) (some (173, true)),
          .act (some 175) (.op (.pure (.move (.tmp 22)))) (some (173, true)),
          .act (some 176) (.op (.pure (.idxSl 8 (.tmp 174) (.tmp 175)))) (some (173, true)),
          .act (some 177) (.op (.pure (.fieldAddr 6 (.tmp 176)))) (some (173, true)),
          .act (some 178) (.op (.read (.load1 (.tmp 177)))) (some (173, true)),
          .act (some 179) (.op (.pure (.bin .neq (.tmp 178) (.const (.int .i64 16))))) (some (173, true)),
          .act (some 180) (.op (.pure (.pick (.tmp 173) (.tmp 179) (.const (.bool false))))) none])
        (.cond (.tmp 180)
         (.seq (.steps [
           .act (some 6) (.op (.pure (.move (.const (.bool false))))) none])
         .ret)
         .skip)))
       (.steps [
         .act (some 139) (.op (.pure (.move (.tmp 22)))) none,
         .act (some 140) (.op (.pure (.bin .add (.tmp 139) (.const (.int .i64 1))))) none,
         .act (some 22) (.op (.pure (.move (.tmp 140)))) none])))))))
    (.steps [
      .act (some 133) (.op (.pure (.move (.tmp 21)))) none,
      .act (some 134) (.op (.pure (.bin .add (.tmp 133) (.const (.int .i64 1))))) none,
      .act (some 21) (.op (.pure (.move (.tmp 134)))) none]))))))
  (.seq (.steps [
    .act (some 182) (.op (.pure (.move (.tmp 20)))) none,
    .act (some 183) (.call (.func 38) [(.tmp 182)]) none,
    .act (some 184) (.call (.func 37) [(.tmp 183), (.const (.int .i64 0)), (.const (.int .i64 0))]) none,
    .act (some 181) (.op (.pure (.move (.tmp 184)))) none,
    .act (some 185) (.op (.pure (.extract (.tmp 181) 0))) none,
    .act (some 186) (.op (.pure (.extract (.tmp 181) 1))) none,
    .act (some 23) (.op (.pure (.move (.tmp 185)))) none,
    .act (some 24) (.op (.pure (.move (.tmp 186)))) none])
  (.seq (.steps [
    .act (some 187) (.op (.pure (.move (.tmp 24)))) none,
    .act (some 188) (.op (.pure (.move (.tmp 187)))) none,
    .act (some 189) (.op (.pure (.move (.tmp 8)))) (some (188, true)),
    .act (some 190) (.call (.func 26) [(.tmp 189)]) (some (188, true)),
    .act (some 191) (.op (.pure (.bin .eql (.tmp 190) (.const (.int .i64 (-1)))))) (some (188, true)),
    .act (some 192) (.op (.pure (.pick (.tmp 188) (.tmp 191) (.const (.bool false))))) none,
    .act (some 193) (.op (.pure (.move (.tmp 192)))) none,
    .act (some 194) (.call (.func 21) []) (some (193, true)),
    .act (some 195) (.op (.pure (.pick (.tmp 193) (.tmp 194) (.const (.bool false))))) none,
    .act (some 6) (.op (.pure (.move (.tmp 195)))) none])
  .ret))))))))))))) }
theorem c7 : compFn Try.prog (mkPlan Try.prog) [(10, [1, 2, 7, 8, 10, 11, 12, 13, 14]), (25, [8, 20, 21]), (28, [8, 20, 21, 22])] true 7 = some L7 := by kernel_rfl
/-- sluiceway/sluicewaylaw07.Size -/
def L8 : LFun := { n := 7, pop := true, res := [.tmp 2], code :=
  (.seq (.steps [
    .act (some 2) (.op (.pure (.move (.const (.int .i64 0))))) none])
  (.seq (.steps [
    .act (some 3) (.op (.pure (.move (.tmp 0)))) none,
    .act (some 4) (.op (.pure (.bin .and (.tmp 3) (.const (.int .i64 3))))) none,
    .act (some 5) (.op (.pure (.conv .u64 (.tmp 4)))) none,
    .act (some 6) (.op (.pure (.bin .shl (.const (.int .i64 1)) (.tmp 5)))) none,
    .act (some 2) (.op (.pure (.move (.tmp 6)))) none])
  .ret)) }
theorem c8 : compFn Try.prog (mkPlan Try.prog) [] true 8 = some L8 := by kernel_rfl
/-- sluiceway/mem.New -/
def L9 : LFun := { n := 16, pop := false, res := [.tmp 2, .tmp 3], code :=
  (.seq (.steps [
    .act (some 2) (.op (.pure (.move (.const (.pointer none))))) none,
    .act (some 3) (.op (.pure (.move (.const (.int .i64 0))))) none])
  (.seq (.seq (.steps [
    .act (some 4) (.op (.pure (.move (.tmp 0)))) none,
    .act (some 5) (.op (.pure (.bin .lss (.tmp 4) (.const (.int .i64 1))))) none,
    .act (some 6) (.op (.pure (.move (.tmp 5)))) none,
    .act (some 7) (.op (.pure (.move (.tmp 0)))) (some (6, false)),
    .act (some 8) (.op (.pure (.bin .gtr (.tmp 7) (.const (.int .i64 65536))))) (some (6, false)),
    .act (some 9) (.op (.pure (.pick (.tmp 6) (.const (.bool true)) (.tmp 8)))) none])
  (.cond (.tmp 9)
   (.seq (.steps [
     .act (some 2) (.op (.pure (.move (.const (.pointer none))))) none,
     .act (some 3) (.op (.pure (.move (.const (.int .i64 2))))) none])
   .ret)
   .skip))
  (.seq (.steps [
    .act (some 10) (.op (.pure (.move (.tmp 0)))) none,
    .act (some 11) (.op (.new (.makeSlice 1 8 [(w64 0#64)] (.tmp 10) (.tmp 10)))) none,
    .act (some 12) (.op (.pure (.move (.tmp 0)))) none,
    .act (some 13) (.op (.new (.makeSlice 1 1 [(.bool false)] (.tmp 12) (.tmp 12)))) none,
    .act (some 14) (.op (.pure (.build [(.slice none 0 0), (.slice none 0 0), (.int .i64 0), (.int .i64 0), (.int .i64 0), (.int .i64 0), (.int .i64 0), (.int .i64 0), (.int .i64 0), (.bool false)] [(0, 1, (.tmp 11)), (1, 1, (.tmp 13)), (8, 1, (.const (.int .i64 (-1))))]))) none,
    .act (some 15) (.op (.new (.box (.tmp 14)))) none,
    .act (some 2) (.op (.pure (.move (.tmp 15)))) none,
    .act (some 3) (.op (.pure (.move (.const (.int .i64 0))))) none])
  .ret))) }
theorem c9 : compFn Try.prog (mkPlan Try.prog) [] false 9 = some L9 := by kernel_rfl
/-- (sluiceway/crq.Ring).Setup -/
def L11 : LFun := { n := 55, pop := true, res := [.tmp 4], code :=
  (.seq (.steps [
    .act (some 2) (.op (.new (.box (.tmp 0)))) none,
    .act (some 4) (.op (.pure (.move (.const (.int .i64 0))))) none])
  (.seq (.block 0 (.seq (.steps [
     .act (some 8) (.op (.pure (.move (.tmp 1)))) none,
     .act (some 9) (.call (.func 39) [(.tmp 8)]) none,
     .act (some 10) (.op (.pure (.bin .eql (.tmp 9) (.const (.int .i64 0))))) none,
     .act (some 7) (.op (.pure (.move (.tmp 10)))) none])
   (.cond (.tmp 7)
    (.seq (.steps [
      .act (some 4) (.op (.pure (.move (.const (.int .i64 1))))) none])
    .ret)
    (.seq (.steps [
      .act (some 12) (.op (.read (.loadN 2 (.tmp 2)))) none,
      .act (some 13) (.call (.func 29) [(.tmp 12)]) none,
      .act (some 14) (.op (.pure (.not (.tmp 13)))) none,
      .act (some 15) (.op (.pure (.move (.tmp 14)))) none,
      .act (some 16) (.op (.read (.loadN 2 (.tmp 2)))) (some (15, false)),
      .act (some 18) (.op (.pure (.move (.tmp 1)))) (some (15, false)),
      .act (some 20) (.op (.pure (.fieldAddr 0 (.tmp 2)))) (some (15, false)),
      .act (some 21) (.op (.read (.load1 (.tmp 20)))) (some (15, false)),
      .act (some 17) (.call (.func 12) [(.tmp 16)]) (some (15, false)),
      .again 21 (.load1 (.tmp 20)) (some (15, false)),
      .act (some 19) (.call (.func 39) [(.tmp 18)]) (some (15, false)),
      .act (some 22) (.op (.pure (.bin .sub (.tmp 19) (.tmp 21)))) (some (15, false)),
      .act (some 23) (.op (.pure (.bin .gtr (.tmp 17) (.tmp 22)))) (some (15, false)),
      .act (some 24) (.op (.pure (.pick (.tmp 15) (.const (.bool true)) (.tmp 23)))) none,
      .act (some 11) (.op (.pure (.move (.tmp 24)))) none,
      .again 21 (.load1 (.tmp 20)) (some (15, false))])
    (.cond (.tmp 11)
     (.seq (.steps [
       .act (some 4) (.op (.pure (.move (.const (.int .i64 2))))) none])
     .ret)
     .skip)))))
  (.seq (.seq (.steps [
    .act (some 25) (.op (.pure (.move (.const (.int .i64 0))))) none])
  (.block 1 (.loop [1, 2, 25] (.seq (.steps [
      .act (some 26) (.op (.pure (.bin .lss (.tmp 25) (.const (.int .i64 4))))) none])
    (.seq (.cond (.tmp 26)
     .skip
     (.exit 1))
    (.seq (.block 2 (.seq (.steps [
       .act (some 27) (.op (.pure (.move (.tmp 25)))) none,
       .act (some 5) (.op (.pure (.move (.tmp 27)))) none])
     (.steps [
       .act (some 28) (.op (.pure (.move (.tmp 1)))) none,
       .act (some 29) (.op (.pure (.fieldAddr 0 (.tmp 2)))) none,
       .act (some 30) (.op (.read (.load1 (.tmp 29)))) none,
       .act (some 31) (.op (.pure (.move (.tmp 5)))) none,
       .act (some 32) (.op (.pure (.bin .add (.tmp 30) (.tmp 31)))) none,
       .act (some 33) (.call (.func 40) [(.tmp 28), (.tmp 32), (.const (w64 0#64))]) none])))
    (.steps [
      .act (some 34) (.op (.pure (.bin .add (.tmp 25) (.const (.int .i64 1))))) none,
      .act (some 25) (.op (.pure (.move (.tmp 34)))) none])))))))
  (.seq (.seq (.steps [
    .act (some 35) (.op (.pure (.fieldAddr 1 (.tmp 2)))) none,
    .act (some 36) (.op (.read (.load1 (.tmp 35)))) none,
    .act (some 37) (.op (.pure (.conv .u64 (.tmp 36)))) none,
    .act (some 38) (.op (.pure (.move (.const (w64 0#64))))) none])
  (.block 3 (.loop [1, 2, 37, 38] (.seq (.steps [
      .act (some 39) (.op (.pure (.bin .lss (.tmp 38) (.tmp 37)))) none])
    (.seq (.cond (.tmp 39)
     .skip
     (.exit 3))
    (.seq (.block 4 (.seq (.steps [
       .act (some 40) (.op (.pure (.move (.tmp 38)))) none,
       .act (some 6) (.op (.pure (.move (.tmp 40)))) none])
     (.seq (.steps [
       .act (some 41) (.op (.pure (.move (.tmp 1)))) none,
       .act (some 42) (.op (.read (.loadN 2 (.tmp 2)))) none,
       .act (some 43) (.op (.pure (.move (.tmp 6)))) none,
       .act (some 44) (.call (.func 41) [(.tmp 42), (.tmp 43)]) none,
       .act (some 45) (.op (.pure (.move (.tmp 6)))) none,
       .act (some 46) (.call (.func 42) [(.tmp 45), (.const (w64 1#64))]) none,
       .act (some 47) (.call (.func 40) [(.tmp 41), (.tmp 44), (.tmp 46)]) none])
     (.steps [
       .act (some 48) (.op (.pure (.move (.tmp 1)))) none,
       .act (some 49) (.op (.read (.loadN 2 (.tmp 2)))) none,
       .act (some 50) (.op (.pure (.move (.tmp 6)))) none,
       .act (some 51) (.call (.func 41) [(.tmp 49), (.tmp 50)]) none,
       .act (some 52) (.op (.pure (.bin .add (.tmp 51) (.const (.int .i64 1))))) none,
       .act (some 53) (.call (.func 40) [(.tmp 48), (.tmp 52), (.const (w64 0#64))]) none]))))
    (.steps [
      .act (some 54) (.op (.pure (.bin .add (.tmp 38) (.const (w64 1#64))))) none,
      .act (some 38) (.op (.pure (.move (.tmp 54)))) none])))))))
  (.seq (.steps [
    .act (some 4) (.op (.pure (.move (.const (.int .i64 0))))) none])
  .ret))))) }
theorem c11 : compFn Try.prog (mkPlan Try.prog) [(6, [1, 2, 25]), (11, [1, 2, 37, 38])] true 11 = some L11 := by kernel_rfl
/-- (sluiceway/crq.Ring).Words -/
def L12 : LFun := { n := 10, pop := true, res := [.tmp 2], code :=
  (.seq (.steps [
    .act (some 1) (.op (.new (.box (.tmp 0)))) none,
    .act (some 2) (.op (.pure (.move (.const (.int .i64 0))))) none])
  (.seq (.seq (.steps [
    .act (some 3) (.op (.read (.loadN 2 (.tmp 1)))) none,
    .act (some 4) (.call (.func 29) [(.tmp 3)]) none,
    .act (some 5) (.op (.pure (.not (.tmp 4)))) none])
  (.cond (.tmp 5)
   (.seq (.steps [
     .act (some 2) (.op (.pure (.move (.const (.int .i64 0))))) none])
   .ret)
   .skip))
  (.seq (.steps [
    .act (some 6) (.op (.pure (.fieldAddr 1 (.tmp 1)))) none,
    .act (some 7) (.op (.read (.load1 (.tmp 6)))) none,
    .act (some 8) (.op (.pure (.bin .mul (.const (.int .i64 2)) (.tmp 7)))) none,
    .act (some 9) (.op (.pure (.bin .add (.const (.int .i64 4)) (.tmp 8)))) none,
    .act (some 2) (.op (.pure (.move (.tmp 9)))) none])
  .ret))) }
theorem c12 : compFn Try.prog (mkPlan Try.prog) [] true 12 = some L12 := by kernel_rfl
/-- sluiceway/sluicewaylaw14.Begin -/
def L13 : LFun := { n := 19, pop := false, res := [.tmp 6], code :=
  (.seq (.steps [
    .act (some 3) (.op (.new (.box (.tmp 0)))) none,
    .act (some 6) (.op (.pure (.move (.const (.pointer none))))) none])
  (.seq (.seq (.steps [
    .act (some 7) (.op (.pure (.move (.tmp 1)))) none])
  (.block 0 (.seq (.steps [
     .act (some 9) (.op (.pure (.bin .eql (.tmp 7) (.const (.int .i64 0))))) none,
     .act (some 8) (.op (.pure (.move (.tmp 9)))) none])
   (.cond (.tmp 8)
    (.seq (.steps [
      .act (some 10) (.op (.read (.loadN 2 (.tmp 3)))) none,
      .act (some 11) (.op (.pure (.move (.tmp 2)))) none,
      .act (some 12) (.call (.func 23) [(.tmp 10), (.tmp 11)]) none,
      .act (some 6) (.op (.pure (.move (.tmp 12)))) none])
    .ret)
    (.seq (.steps [
      .act (some 14) (.op (.pure (.bin .eql (.tmp 7) (.const (.int .i64 1))))) none,
      .act (some 13) (.op (.pure (.move (.tmp 14)))) none])
    (.cond (.tmp 13)
     (.seq (.steps [
       .act (some 15) (.op (.read (.loadN 2 (.tmp 3)))) none,
       .act (some 16) (.call (.func 25) [(.tmp 15)]) none,
       .act (some 6) (.op (.pure (.move (.tmp 16)))) none])
     .ret)
     .skip))))))
  (.seq (.steps [
    .act (some 17) (.op (.read (.loadN 2 (.tmp 3)))) none,
    .act (some 18) (.call (.func 24) [(.tmp 17)]) none,
    .act (some 6) (.op (.pure (.move (.tmp 18)))) none])
  .ret))) }
theorem c13 : compFn Try.prog (mkPlan Try.prog) [] false 13 = some L13 := by kernel_rfl
/-- (*sluiceway/crq.Op).Step -/
def L15 : LFun := { n := 29, pop := true, res := [.tmp 4], code :=
  (.seq (.steps [
    .act (some 4) (.op (.pure (.move (.const (.bool false))))) none])
  (.seq (.seq (.steps [
    .act (some 6) (.op (.pure (.move (.tmp 0)))) none,
    .act (some 7) (.call (.func 27) [(.tmp 6)]) none,
    .act (some 8) (.op (.pure (.move (.tmp 7)))) none,
    .act (some 9) (.op (.pure (.move (.tmp 1)))) (some (8, false)),
    .act (some 10) (.call (.func 39) [(.tmp 9)]) (some (8, false)),
    .act (some 11) (.op (.pure (.bin .eql (.tmp 10) (.const (.int .i64 0))))) (some (8, false)),
    .act (some 12) (.op (.pure (.pick (.tmp 8) (.const (.bool true)) (.tmp 11)))) none])
  (.cond (.tmp 12)
   (.seq (.steps [
     .act (some 13) (.op (.pure (.move (.tmp 0)))) none,
     .act (some 14) (.call (.func 27) [(.tmp 13)]) none,
     .act (some 4) (.op (.pure (.move (.tmp 14)))) none])
   .ret)
   .skip))
  (.seq (.steps [
    .act (some 5) (.op (.pure (.move (.func 48)))) none])
  (.seq (.seq (.steps [
    .act (some 15) (.op (.pure (.move (.tmp 0)))) none,
    .act (some 16) (.op (.pure (.nilCheck (.tmp 15)))) none,
    .act (some 17) (.op (.pure (.fieldAddr 3 (.tmp 16)))) none,
    .act (some 18) (.op (.read (.load1 (.tmp 17)))) none])
  (.block 0 (.seq (.steps [
     .act (some 20) (.op (.pure (.bin .eql (.tmp 18) (.const (.int .i64 0))))) none,
     .act (some 19) (.op (.pure (.move (.tmp 20)))) none])
   (.cond (.tmp 19)
    (.steps [
      .act (some 5) (.op (.pure (.move (.func 49)))) none])
    (.seq (.steps [
      .act (some 22) (.op (.pure (.bin .eql (.tmp 18) (.const (.int .i64 1))))) none,
      .act (some 21) (.op (.pure (.move (.tmp 22)))) none])
    (.cond (.tmp 21)
     (.steps [
       .act (some 5) (.op (.pure (.move (.func 50)))) none])
     .skip))))))
  (.seq (.steps [
    .act (some 23) (.op (.pure (.move (.tmp 5)))) none,
    .act (some 24) (.op (.pure (.move (.tmp 0)))) none,
    .act (some 25) (.op (.pure (.move (.tmp 1)))) none,
    .act (some 26) (.call (.tmp 23) [(.tmp 24), (.tmp 25)]) none])
  (.seq (.steps [
    .act (some 27) (.op (.pure (.move (.tmp 0)))) none,
    .act (some 28) (.call (.func 27) [(.tmp 27)]) none,
    .act (some 4) (.op (.pure (.move (.tmp 28)))) none])
  .ret)))))) }
theorem c15 : compFn Try.prog (mkPlan Try.prog) [] true 15 = some L15 := by kernel_rfl
/-- (*sluiceway/mem.Mem).Peek -/
def L17 : LFun := { n := 37, pop := false, res := [.tmp 6], code :=
  (.seq (.steps [
    .act (some 6) (.op (.pure (.move (.const (.slice none 0 0))))) none])
  (.seq (.seq (.steps [
    .act (some 7) (.op (.pure (.move (.tmp 1)))) none,
    .act (some 8) (.op (.pure (.bin .lss (.tmp 7) (.const (.int .i64 0))))) none,
    .act (some 9) (.op (.pure (.move (.tmp 8)))) none,
    .act (some 10) (.op (.pure (.move (.tmp 2)))) (some (9, false)),
    .act (some 11) (.op (.pure (.bin .lss (.tmp 10) (.const (.int .i64 1))))) (some (9, false)),
    .act (some 12) (.op (.pure (.pick (.tmp 9) (.const (.bool true)) (.tmp 11)))) none,
    .act (some 13) (.op (.pure (.move (.tmp 12)))) none,
    .act (some 14) (.op (.pure (.move (.tmp 1)))) (some (13, false)),
    .act (some 15) (.op (.pure (.move (.tmp 0)))) (some (13, false)),
    .act (some 16) (.call (.func 39) [(.tmp 15)]) (some (13, false)),
    .act (some 17) (.op (.pure (.bin .geq (.tmp 14) (.tmp 16)))) (some (13, false)),
    .act (some 18) (.op (.pure (.pick (.tmp 13) (.const (.bool true)) (.tmp 17)))) none])
  (.cond (.tmp 18)
   (.seq (.steps [
     .act (some 6) (.op (.pure (.move (.const (.slice none 0 0))))) none])
   .ret)
   .skip))
  (.seq (.steps [
    .act (some 19) (.op (.pure (.move (.tmp 0)))) none,
    .act (some 20) (.op (.pure (.nilCheck (.tmp 19)))) none,
    .act (some 21) (.op (.pure (.fieldAddr 0 (.tmp 20)))) none,
    .act (some 22) (.op (.read (.load1 (.tmp 21)))) none,
    .act (some 23) (.op (.pure (.move (.tmp 1)))) none,
    .act (some 24) (.op (.pure (.move (.tmp 1)))) none,
    .act (some 25) (.op (.pure (.move (.tmp 2)))) none,
    .act (some 26) (.op (.pure (.move (.tmp 0)))) none,
    .act (some 27) (.op (.pure (.nilCheck (.tmp 26)))) none,
    .act (some 28) (.op (.pure (.fieldAddr 0 (.tmp 27)))) none,
    .act (some 29) (.op (.read (.load1 (.tmp 28)))) none,
    .act (some 30) (.op (.pure (.len false (.tmp 29)))) none,
    .act (some 31) (.op (.pure (.move (.tmp 1)))) none,
    .act (some 32) (.op (.pure (.bin .sub (.tmp 30) (.tmp 31)))) none,
    .act (some 33) (.op (.pure (.minmax false [(.tmp 25), (.tmp 32)]))) none,
    .act (some 34) (.op (.pure (.bin .add (.tmp 24) (.tmp 33)))) none,
    .act (some 35) (.op (.read (.slSl 1 (.tmp 22) (some (.tmp 23)) (some (.tmp 34)) none))) none,
    .act (some 36) (.call (.func 52) [(.tmp 35)]) none,
    .act (some 6) (.op (.pure (.move (.tmp 36)))) none])
  .ret))) }
theorem c17 : compFn Try.prog (mkPlan Try.prog) [] false 17 = some L17 := by kernel_rfl
/-- (*sluiceway/crq.Op).Result -/
def L18 : LFun := { n := 21, pop := true, res := [.tmp 2, .tmp 3], code :=
  (.seq (.steps [
    .act (some 2) (.op (.pure (.move (.const (.int .i64 0))))) none,
    .act (some 3) (.op (.pure (.move (.const (w64 0#64))))) none])
  (.seq (.block 0 (.seq (.steps [
     .act (some 5) (.op (.pure (.move (.tmp 0)))) none,
     .act (some 6) (.call (.func 51) [(.tmp 5)]) none,
     .act (some 4) (.op (.pure (.move (.tmp 6)))) none])
   (.cond (.tmp 4)
    (.seq (.steps [
      .act (some 2) (.op (.pure (.move (.const (.int .i64 1))))) none,
      .act (some 3) (.op (.pure (.move (.const (w64 0#64))))) none])
    .ret)
    (.seq (.steps [
      .act (some 8) (.op (.pure (.move (.tmp 0)))) none,
      .act (some 9) (.op (.pure (.nilCheck (.tmp 8)))) none,
      .act (some 10) (.op (.pure (.fieldAddr 5 (.tmp 9)))) none,
      .act (some 11) (.op (.read (.load1 (.tmp 10)))) none,
      .act (some 12) (.op (.pure (.bin .neq (.tmp 11) (.const (.int .i64 9))))) none,
      .act (some 7) (.op (.pure (.move (.tmp 12)))) none])
    (.cond (.tmp 7)
     (.seq (.steps [
       .act (some 2) (.op (.pure (.move (.const (.int .i64 0))))) none,
       .act (some 3) (.op (.pure (.move (.const (w64 0#64))))) none])
     .ret)
     .skip)))))
  (.seq (.steps [
    .act (some 13) (.op (.pure (.move (.tmp 0)))) none,
    .act (some 14) (.op (.pure (.nilCheck (.tmp 13)))) none,
    .act (some 15) (.op (.pure (.fieldAddr 12 (.tmp 14)))) none,
    .act (some 16) (.op (.read (.load1 (.tmp 15)))) none,
    .act (some 17) (.op (.pure (.move (.tmp 0)))) none,
    .act (some 18) (.op (.pure (.nilCheck (.tmp 17)))) none,
    .act (some 19) (.op (.pure (.fieldAddr 13 (.tmp 18)))) none,
    .act (some 20) (.op (.read (.load1 (.tmp 19)))) none,
    .act (some 2) (.op (.pure (.move (.tmp 16)))) none,
    .act (some 3) (.op (.pure (.move (.tmp 20)))) none])
  .ret))) }
theorem c18 : compFn Try.prog (mkPlan Try.prog) [] true 18 = some L18 := by kernel_rfl
/-- (sluiceway/crq.Ring).Kept -/
def L19 : LFun := { n := 47, pop := true, res := [.tmp 4], code :=
  (.seq (.steps [
    .act (some 2) (.op (.new (.box (.tmp 0)))) none,
    .act (some 4) (.op (.pure (.move (.const (.int .i64 0))))) none])
  (.seq (.steps [
    .act (some 5) (.op (.pure (.move (.const (.int .i64 0))))) none])
  (.seq (.seq (.steps [
    .act (some 9) (.op (.read (.loadN 2 (.tmp 2)))) none,
    .act (some 10) (.call (.func 12) [(.tmp 9)]) none,
    .act (some 11) (.op (.pure (.bin .quo (.tmp 10) (.const (.int .i64 2))))) none,
    .act (some 12) (.op (.pure (.move (.const (.int .i64 0))))) none])
  (.block 0 (.loop [1, 2, 5, 11, 12] (.seq (.steps [
      .act (some 13) (.op (.pure (.bin .lss (.tmp 12) (.tmp 11)))) none])
    (.seq (.cond (.tmp 13)
     .skip
     (.exit 0))
    (.seq (.block 1 (.seq (.steps [
       .act (some 14) (.op (.pure (.move (.tmp 12)))) none,
       .act (some 6) (.op (.pure (.move (.tmp 14)))) none])
     (.seq (.steps [
       .act (some 15) (.op (.pure (.fieldAddr 0 (.tmp 2)))) none,
       .act (some 16) (.op (.read (.load1 (.tmp 15)))) none,
       .act (some 17) (.op (.pure (.bin .add (.tmp 16) (.const (.int .i64 4))))) none,
       .act (some 18) (.op (.pure (.move (.tmp 6)))) none,
       .act (some 19) (.op (.pure (.bin .mul (.const (.int .i64 2)) (.tmp 18)))) none,
       .act (some 20) (.op (.pure (.bin .add (.tmp 17) (.tmp 19)))) none,
       .act (some 21) (.op (.pure (.bin .add (.tmp 20) (.const (.int .i64 1))))) none,
       .act (some 7) (.op (.pure (.move (.tmp 21)))) none])
     (.seq (.steps [
       .act (some 22) (.op (.pure (.move (.tmp 1)))) none,
       .act (some 23) (.op (.pure (.move (.tmp 7)))) none,
       .act (some 24) (.call (.func 17) [(.tmp 22), (.tmp 23), (.const (.int .i64 1))]) none,
       .act (some 8) (.op (.pure (.move (.tmp 24)))) none])
     (.seq (.steps [
       .act (some 25) (.op (.pure (.move (.tmp 8)))) none,
       .act (some 26) (.op (.pure (.len false (.tmp 25)))) none,
       .act (some 27) (.op (.pure (.bin .eql (.tmp 26) (.const (.int .i64 1))))) none,
       .act (some 28) (.op (.pure (.move (.tmp 27)))) none,
       .act (some 29) (.op (.pure (.move (.tmp 8)))) (some (28, true)),
       .act (some 30) (.op (.pure (.idxSl 1 (.tmp 29) (.const (.int .i64 0))))) (some (28, true)),
       .act (some 31) (.op (.read (.load1 (.tmp 30)))) (some (28, true)),
       .act (some 32) (.op (.pure (.bin .neq (.tmp 31) (.const (w64 0#64))))) (some (28, true)),
       .act (some 33) (.op (.pure (.pick (.tmp 28) (.tmp 32) (.const (.bool false))))) none,
       .act (some 34) (.op (.pure (.move (.tmp 33)))) none,
       .act (some 35) (.op (.pure (.move (.tmp 7)))) (some (34, true)),
       .act (some 36) (.op (.pure (.fieldAddr 0 (.tmp 2)))) (some (34, true)),
       .act (some 37) (.op (.read (.load1 (.tmp 36)))) (some (34, true)),
       .act (some 38) (.op (.read (.loadN 2 (.tmp 2)))) (some (34, true)),
       .act (some 39) (.call (.func 12) [(.tmp 38)]) (some (34, true)),
       .act (some 40) (.op (.pure (.bin .add (.tmp 37) (.tmp 39)))) (some (34, true)),
       .act (some 41) (.op (.pure (.bin .lss (.tmp 35) (.tmp 40)))) (some (34, true)),
       .act (some 42) (.op (.pure (.pick (.tmp 34) (.tmp 41) (.const (.bool false))))) none,
       .again 37 (.load1 (.tmp 36)) (some (34, true))])
     (.cond (.tmp 42)
      (.steps [
        .act (some 43) (.op (.pure (.move (.tmp 5)))) none,
        .act (some 44) (.op (.pure (.bin .add (.tmp 43) (.const (.int .i64 1))))) none,
        .act (some 5) (.op (.pure (.move (.tmp 44)))) none])
      .skip))))))
    (.steps [
      .act (some 45) (.op (.pure (.bin .add (.tmp 12) (.const (.int .i64 1))))) none,
      .act (some 12) (.op (.pure (.move (.tmp 45)))) none])))))))
  (.seq (.steps [
    .act (some 46) (.op (.pure (.move (.tmp 5)))) none,
    .act (some 4) (.op (.pure (.move (.tmp 46)))) none])
  .ret)))) }
theorem c19 : compFn Try.prog (mkPlan Try.prog) [(3, [1, 2, 5, 11, 12])] true 19 = some L19 := by kernel_rfl
/-- (sluiceway/crq.Ring).Closed -/
def L20 : LFun := { n := 24, pop := true, res := [.tmp 4], code :=
  (.seq (.steps [
    .act (some 2) (.op (.new (.box (.tmp 0)))) none,
    .act (some 4) (.op (.pure (.move (.const (.bool false))))) none])
  (.seq (.seq (.steps [
    .act (some 6) (.op (.read (.loadN 2 (.tmp 2)))) none,
    .act (some 7) (.call (.func 29) [(.tmp 6)]) none,
    .act (some 8) (.op (.pure (.not (.tmp 7)))) none])
  (.cond (.tmp 8)
   (.seq (.steps [
     .act (some 4) (.op (.pure (.move (.const (.bool true))))) none])
   .ret)
   .skip))
  (.seq (.steps [
    .act (some 9) (.op (.pure (.move (.tmp 1)))) none,
    .act (some 10) (.op (.pure (.fieldAddr 0 (.tmp 2)))) none,
    .act (some 11) (.op (.read (.load1 (.tmp 10)))) none,
    .act (some 12) (.op (.pure (.bin .add (.tmp 11) (.const (.int .i64 1))))) none,
    .act (some 13) (.call (.func 17) [(.tmp 9), (.tmp 12), (.const (.int .i64 1))]) none,
    .act (some 5) (.op (.pure (.move (.tmp 13)))) none])
  (.seq (.steps [
    .act (some 14) (.op (.pure (.move (.tmp 5)))) none,
    .act (some 15) (.op (.pure (.len false (.tmp 14)))) none,
    .act (some 16) (.op (.pure (.bin .eql (.tmp 15) (.const (.int .i64 0))))) none,
    .act (some 17) (.op (.pure (.move (.tmp 16)))) none,
    .act (some 18) (.op (.pure (.move (.tmp 5)))) (some (17, false)),
    .act (some 19) (.op (.pure (.idxSl 1 (.tmp 18) (.const (.int .i64 0))))) (some (17, false)),
    .act (some 20) (.op (.read (.load1 (.tmp 19)))) (some (17, false)),
    .act (some 21) (.op (.pure (.bin .and (.tmp 20) (.const (w64 9223372036854775808#64))))) (some (17, false)),
    .act (some 22) (.op (.pure (.bin .neq (.tmp 21) (.const (w64 0#64))))) (some (17, false)),
    .act (some 23) (.op (.pure (.pick (.tmp 17) (.const (.bool true)) (.tmp 22)))) none,
    .act (some 4) (.op (.pure (.move (.tmp 23)))) none])
  .ret)))) }
theorem c20 : compFn Try.prog (mkPlan Try.prog) [] true 20 = some L20 := by kernel_rfl
/-- sluiceway/sluicewaylaw14.one -/
def L21 : LFun := { n := 112, pop := true, res := [.tmp 0], code :=
  (.seq (.steps [
    .act (some 0) (.op (.pure (.move (.const (.bool false))))) none])
  (.seq (.steps [
    .act (some 16) (.op (.pure (.build [(.int .i64 0), (.int .i64 0)] [(0, 1, (.const (.int .i64 2))), (1, 1, (.const (.int .i64 2)))]))) none,
    .act (some 1) (.op (.new (.alloc [(.int .i64 0), (.int .i64 0)]))) none,
    .act none (.op (.eff (.store 2 (.tmp 1) (.tmp 16)))) none])
  (.seq (.steps [
    .act (some 18) (.call (.func 9) [(.const (.int .i64 10))]) none,
    .act (some 17) (.op (.pure (.move (.tmp 18)))) none,
    .act (some 19) (.op (.pure (.extract (.tmp 17) 0))) none,
    .act (some 20) (.op (.pure (.extract (.tmp 17) 1))) none,
    .act (some 2) (.op (.pure (.move (.tmp 19)))) none,
    .act (some 3) (.op (.pure (.move (.tmp 20)))) none])
  (.seq (.seq (.steps [
    .act (some 21) (.op (.pure (.move (.tmp 3)))) none,
    .act (some 22) (.op (.pure (.bin .neq (.tmp 21) (.const (.int .i64 0))))) none,
    .act (some 23) (.op (.pure (.move (.tmp 22)))) none,
    .act (some 24) (.op (.read (.loadN 2 (.tmp 1)))) (some (23, false)),
    .act (some 25) (.op (.pure (.move (.tmp 2)))) (some (23, false)),
    .act (some 26) (.call (.func 11) [(.tmp 24), (.tmp 25)]) (some (23, false)),
    .act (some 27) (.op (.pure (.bin .neq (.tmp 26) (.const (.int .i64 0))))) (some (23, false)),
    .act (some 28) (.op (.pure (.pick (.tmp 23) (.const (.bool true)) (.tmp 27)))) none])
  (.cond (.tmp 28)
   (.seq (.steps [
     .act (some 0) (.op (.pure (.move (.const (.bool false))))) none])
   .ret)
   .skip))
  (.seq (.steps [
    .act (some 30) (.op (.pure (.move (.tmp 2)))) none,
    .act (some 31) (.op (.read (.loadN 2 (.tmp 1)))) none,
    .act (some 32) (.call (.func 23) [(.tmp 31), (.const (w64 1#64))]) none,
    .act (some 33) (.call (.func 22) [(.tmp 30), (.tmp 32), (.const (.int .i64 60))]) none,
    .act (some 29) (.op (.pure (.move (.tmp 33)))) none,
    .act (some 34) (.op (.pure (.extract (.tmp 29) 0))) none,
    .act (some 35) (.op (.pure (.extract (.tmp 29) 1))) none,
    .act (some 36) (.op (.pure (.extract (.tmp 29) 2))) none,
    .act (some 4) (.op (.pure (.move (.tmp 34)))) none,
    .act (some 5) (.op (.pure (.move (.tmp 35)))) none,
    .act (some 6) (.op (.pure (.move (.tmp 36)))) none])
  (.seq (.steps [
    .act (some 38) (.op (.pure (.move (.tmp 2)))) none,
    .act (some 39) (.op (.read (.loadN 2 (.tmp 1)))) none,
    .act (some 40) (.call (.func 23) [(.tmp 39), (.const (w64 2#64))]) none,
    .act (some 41) (.call (.func 22) [(.tmp 38), (.tmp 40), (.const (.int .i64 60))]) none,
    .act (some 37) (.op (.pure (.move (.tmp 41)))) none,
    .act (some 42) (.op (.pure (.extract (.tmp 37) 0))) none,
    .act (some 43) (.op (.pure (.extract (.tmp 37) 1))) none,
    .act (some 44) (.op (.pure (.extract (.tmp 37) 2))) none,
    .act (some 7) (.op (.pure (.move (.tmp 42)))) none,
    .act (some 8) (.op (.pure (.move (.tmp 43)))) none,
    .act (some 9) (.op (.pure (.move (.tmp 44)))) none])
  (.seq (.steps [
    .act (some 46) (.op (.pure (.move (.tmp 2)))) none,
    .act (some 47) (.op (.read (.loadN 2 (.tmp 1)))) none,
    .act (some 48) (.call (.func 23) [(.tmp 47), (.const (w64 3#64))]) none,
    .act (some 49) (.call (.func 22) [(.tmp 46), (.tmp 48), (.const (.int .i64 99))]) none,
    .act (some 45) (.op (.pure (.move (.tmp 49)))) none,
    .act (some 50) (.op (.pure (.extract (.tmp 45) 0))) none,
    .act (some 51) (.op (.pure (.extract (.tmp 45) 1))) none,
    .act (some 52) (.op (.pure (.extract (.tmp 45) 2))) none,
    .act (some 10) (.op (.pure (.move (.tmp 50)))) none,
    .act (some 11) (.op (.pure (.move (.tmp 51)))) none,
    .act (some 12) (.op (.pure (.move (.tmp 52)))) none])
  (.seq (.steps [
    .act (some 54) (.op (.pure (.move (.tmp 2)))) none,
    .act (some 55) (.op (.read (.loadN 2 (.tmp 1)))) none,
    .act (some 56) (.call (.func 25) [(.tmp 55)]) none,
    .act (some 57) (.call (.func 22) [(.tmp 54), (.tmp 56), (.const (.int .i64 60))]) none,
    .act (some 53) (.op (.pure (.move (.tmp 57)))) none,
    .act (some 58) (.op (.pure (.extract (.tmp 53) 0))) none,
    .act (some 59) (.op (.pure (.extract (.tmp 53) 1))) none,
    .act (some 60) (.op (.pure (.extract (.tmp 53) 2))) none,
    .act (some 13) (.op (.pure (.move (.tmp 58)))) none,
    .act (some 14) (.op (.pure (.move (.tmp 59)))) none,
    .act (some 15) (.op (.pure (.move (.tmp 60)))) none])
  (.seq (.steps [
    .act (some 61) (.op (.pure (.move (.tmp 6)))) none,
    .act (some 62) (.op (.pure (.move (.tmp 61)))) none,
    .act (some 63) (.op (.pure (.move (.tmp 9)))) (some (62, true)),
    .act (some 64) (.op (.pure (.pick (.tmp 62) (.tmp 63) (.const (.bool false))))) none,
    .act (some 65) (.op (.pure (.move (.tmp 64)))) none,
    .act (some 66) (.op (.pure (.move (.tmp 12)))) (some (65, true)),
    .act (some 67) (.op (.pure (.pick (.tmp 65) (.tmp 66) (.const (.bool false))))) none,
    .act (some 68) (.op (.pure (.move (.tmp 67)))) none,
    .act (some 69) (.op (.pure (.move (.tmp 15)))) (some (68, true)),
    .act (some 70) (.op (.pure (.pick (.tmp 68) (.tmp 69) (.const (.bool false))))) none,
    .act (some 71) (.op (.pure (.move (.tmp 70)))) none,
    .act (some 72) (.op (.pure (.move (.tmp 4)))) (some (71, true)),
    .act (some 73) (.op (.pure (.bin .eql (.tmp 72) (.const (.int .i64 0))))) (some (71, true)),
    .act (some 74) (.op (.pure (.pick (.tmp 71) (.tmp 73) (.const (.bool false))))) none,
    .act (some 75) (.op (.pure (.move (.tmp 74)))) none,
    .act (some 76) (.op (.pure (.move (.tmp 7)))) (some (75, true)),
    .act (some 77) (.op (.pure (.bin .eql (.tmp 76) (.const (.int .i64 0))))) (some (75, true)),
    .act (some 78) (.op (.pure (.pick (.tmp 75) (.tmp 77) (.const (.bool false))))) none,
    .act (some 79) (.op (.pure (.move (.tmp 78)))) none,
    .act (some 80) (.op (.pure (.move (.tmp 10)))) (some (79, true)),
    .act (some 81) (.op (.pure (.bin .eql (.tmp 80) (.const (.int .i64 16))))) (some (79, true)),
    .act (some 82) (.op (.pure (.pick (.tmp 79) (.tmp 81) (.const (.bool false))))) none,
    .act (some 83) (.op (.pure (.move (.tmp 82)))) none,
    .act (some 84) (.op (.pure (.move (.tmp 13)))) (some (83, true)),
    .act (some 85) (.op (.pure (.bin .eql (.tmp 84) (.const (.int .i64 0))))) (some (83, true)),
    .act (some 86) (.op (.pure (.pick (.tmp 83) (.tmp 85) (.const (.bool false))))) none,
    .act (some 87) (.op (.pure (.move (.tmp 86)))) none,
    .act (some 88) (.op (.pure (.move (.tmp 14)))) (some (87, true)),
    .act (some 89) (.op (.pure (.bin .eql (.tmp 88) (.const (w64 1#64))))) (some (87, true)),
    .act (some 90) (.op (.pure (.pick (.tmp 87) (.tmp 89) (.const (.bool false))))) none,
    .act (some 91) (.op (.pure (.move (.tmp 90)))) none,
    .act (some 92) (.op (.read (.loadN 2 (.tmp 1)))) (some (91, true)),
    .act (some 93) (.op (.pure (.move (.tmp 2)))) (some (91, true)),
    .act (some 94) (.call (.func 20) [(.tmp 92), (.tmp 93)]) (some (91, true)),
    .act (some 95) (.op (.pure (.pick (.tmp 91) (.tmp 94) (.const (.bool false))))) none,
    .act (some 96) (.op (.pure (.move (.tmp 95)))) none,
    .act (some 97) (.op (.read (.loadN 2 (.tmp 1)))) (some (96, true)),
    .act (some 98) (.op (.pure (.move (.tmp 2)))) (some (96, true)),
    .act (some 99) (.call (.func 19) [(.tmp 97), (.tmp 98)]) (some (96, true)),
    .act (some 100) (.op (.pure (.bin .eql (.tmp 99) (.const (.int .i64 1))))) (some (96, true)),
    .act (some 101) (.op (.pure (.pick (.tmp 96) (.tmp 100) (.const (.bool false))))) none,
    .act (some 102) (.op (.pure (.move (.tmp 101)))) none,
    .act (some 103) (.op (.read (.loadN 2 (.tmp 1)))) (some (102, true)),
    .act (some 104) (.call (.func 12) [(.tmp 103)]) (some (102, true)),
    .act (some 105) (.op (.pure (.bin .eql (.tmp 104) (.const (.int .i64 8))))) (some (102, true)),
    .act (some 106) (.op (.pure (.pick (.tmp 102) (.tmp 105) (.const (.bool false))))) none,
    .act (some 107) (.op (.pure (.move (.tmp 106)))) none,
    .act (some 108) (.op (.read (.loadN 2 (.tmp 1)))) (some (107, true)),
    .act (some 109) (.call (.func 30) [(.tmp 108)]) (some (107, true)),
    .act (some 110) (.op (.pure (.bin .eql (.tmp 109) (.const (.int .i64 4))))) (some (107, true)),
    .act (some 111) (.op (.pure (.pick (.tmp 107) (.tmp 110) (.const (.bool false))))) none,
    .act (some 0) (.op (.pure (.move (.tmp 111)))) none])
  .ret))))))))) }
theorem c21 : compFn Try.prog (mkPlan Try.prog) [] true 21 = some L21 := by kernel_rfl
/-- sluiceway/sluicewaylaw14.Run -/
def L22 : LFun := { n := 34, pop := true, res := [.tmp 6, .tmp 7, .tmp 8], code :=
  (.seq (.steps [
    .act (some 6) (.op (.pure (.move (.const (.int .i64 0))))) none,
    .act (some 7) (.op (.pure (.move (.const (w64 0#64))))) none,
    .act (some 8) (.op (.pure (.move (.const (.bool false))))) none])
  (.seq (.seq (.steps [
    .act (some 9) (.op (.pure (.move (.const (.int .i64 0))))) none])
  (.block 0 (.loop [0, 1, 2, 9] (.seq (.seq (.steps [
      .act (some 12) (.op (.pure (.move (.tmp 9)))) none,
      .act (some 13) (.op (.pure (.move (.tmp 2)))) none,
      .act (some 14) (.op (.pure (.bin .lss (.tmp 12) (.tmp 13)))) none,
      .act (some 15) (.op (.pure (.move (.tmp 14)))) none,
      .act (some 16) (.op (.pure (.move (.tmp 1)))) (some (15, true)),
      .act (some 17) (.call (.func 27) [(.tmp 16)]) (some (15, true)),
      .act (some 18) (.op (.pure (.not (.tmp 17)))) (some (15, true)),
      .act (some 19) (.op (.pure (.pick (.tmp 15) (.tmp 18) (.const (.bool false))))) none])
    (.cond (.tmp 19)
     .skip
     (.exit 0)))
    (.seq (.block 1 (.steps [
       .act (some 22) (.op (.pure (.move (.tmp 1)))) none,
       .act (some 23) (.op (.pure (.move (.tmp 0)))) none,
       .act (some 24) (.call (.func 15) [(.tmp 22), (.tmp 23)]) none]))
    (.steps [
      .act (some 20) (.op (.pure (.move (.tmp 9)))) none,
      .act (some 21) (.op (.pure (.bin .add (.tmp 20) (.const (.int .i64 1))))) none,
      .act (some 9) (.op (.pure (.move (.tmp 21)))) none]))))))
  (.seq (.steps [
    .act (some 26) (.op (.pure (.move (.tmp 1)))) none,
    .act (some 27) (.call (.func 18) [(.tmp 26)]) none,
    .act (some 25) (.op (.pure (.move (.tmp 27)))) none,
    .act (some 28) (.op (.pure (.extract (.tmp 25) 0))) none,
    .act (some 29) (.op (.pure (.extract (.tmp 25) 1))) none,
    .act (some 10) (.op (.pure (.move (.tmp 28)))) none,
    .act (some 11) (.op (.pure (.move (.tmp 29)))) none])
  (.seq (.steps [
    .act (some 30) (.op (.pure (.move (.tmp 10)))) none,
    .act (some 31) (.op (.pure (.move (.tmp 11)))) none,
    .act (some 32) (.op (.pure (.move (.tmp 1)))) none,
    .act (some 33) (.call (.func 27) [(.tmp 32)]) none,
    .act (some 6) (.op (.pure (.move (.tmp 30)))) none,
    .act (some 7) (.op (.pure (.move (.tmp 31)))) none,
    .act (some 8) (.op (.pure (.move (.tmp 33)))) none])
  .ret)))) }
theorem c22 : compFn Try.prog (mkPlan Try.prog) [(2, [0, 1, 2, 9])] true 22 = some L22 := by kernel_rfl
/-- sluiceway/crq.Put -/
def L23 : LFun := { n := 8, pop := false, res := [.tmp 4], code :=
  (.seq (.steps [
    .act (some 2) (.op (.new (.box (.tmp 0)))) none,
    .act (some 4) (.op (.pure (.move (.const (.pointer none))))) none])
  (.seq (.steps [
    .act (some 5) (.op (.read (.loadN 2 (.tmp 2)))) none,
    .act (some 6) (.op (.pure (.move (.tmp 1)))) none,
    .act (some 7) (.call (.func 53) [(.tmp 5), (.const (.int .i64 0)), (.tmp 6)]) none,
    .act (some 4) (.op (.pure (.move (.tmp 7)))) none])
  .ret)) }
theorem c23 : compFn Try.prog (mkPlan Try.prog) [] false 23 = some L23 := by kernel_rfl
/-- sluiceway/crq.Close -/
def L24 : LFun := { n := 5, pop := false, res := [.tmp 2], code :=
  (.seq (.steps [
    .act (some 1) (.op (.new (.box (.tmp 0)))) none,
    .act (some 2) (.op (.pure (.move (.const (.pointer none))))) none])
  (.seq (.steps [
    .act (some 3) (.op (.read (.loadN 2 (.tmp 1)))) none,
    .act (some 4) (.call (.func 53) [(.tmp 3), (.const (.int .i64 2)), (.const (w64 0#64))]) none,
    .act (some 2) (.op (.pure (.move (.tmp 4)))) none])
  .ret)) }
theorem c24 : compFn Try.prog (mkPlan Try.prog) [] false 24 = some L24 := by kernel_rfl
/-- sluiceway/crq.Take -/
def L25 : LFun := { n := 5, pop := false, res := [.tmp 2], code :=
  (.seq (.steps [
    .act (some 1) (.op (.new (.box (.tmp 0)))) none,
    .act (some 2) (.op (.pure (.move (.const (.pointer none))))) none])
  (.seq (.steps [
    .act (some 3) (.op (.read (.loadN 2 (.tmp 1)))) none,
    .act (some 4) (.call (.func 53) [(.tmp 3), (.const (.int .i64 1)), (.const (w64 0#64))]) none,
    .act (some 2) (.op (.pure (.move (.tmp 4)))) none])
  .ret)) }
theorem c25 : compFn Try.prog (mkPlan Try.prog) [] false 25 = some L25 := by kernel_rfl
/-- (*sluiceway/mem.Mem).Trap -/
def L26 : LFun := { n := 9, pop := true, res := [.tmp 2], code :=
  (.seq (.steps [
    .act (some 2) (.op (.pure (.move (.const (.int .i64 0))))) none])
  (.seq (.seq (.steps [
    .act (some 3) (.op (.pure (.move (.tmp 0)))) none,
    .act (some 4) (.call (.func 54) [(.tmp 3)]) none])
  (.cond (.tmp 4)
   (.seq (.steps [
     .act (some 2) (.op (.pure (.move (.const (.int .i64 (-1)))))) none])
   .ret)
   .skip))
  (.seq (.steps [
    .act (some 5) (.op (.pure (.move (.tmp 0)))) none,
    .act (some 6) (.op (.pure (.nilCheck (.tmp 5)))) none,
    .act (some 7) (.op (.pure (.fieldAddr 8 (.tmp 6)))) none,
    .act (some 8) (.op (.read (.load1 (.tmp 7)))) none,
    .act (some 2) (.op (.pure (.move (.tmp 8)))) none])
  .ret))) }
theorem c26 : compFn Try.prog (mkPlan Try.prog) [] true 26 = some L26 := by kernel_rfl
/-- (*sluiceway/crq.Op).Done -/
def L27 : LFun := { n := 12, pop := true, res := [.tmp 2], code :=
  (.seq (.steps [
    .act (some 2) (.op (.pure (.move (.const (.bool false))))) none])
  (.seq (.steps [
    .act (some 3) (.op (.pure (.move (.tmp 0)))) none,
    .act (some 4) (.call (.func 51) [(.tmp 3)]) none,
    .act (some 5) (.op (.pure (.move (.tmp 4)))) none,
    .act (some 6) (.op (.pure (.move (.tmp 0)))) (some (5, false)),
    .act (some 7) (.op (.pure (.nilCheck (.tmp 6)))) (some (5, false)),
    .act (some 8) (.op (.pure (.fieldAddr 5 (.tmp 7)))) (some (5, false)),
    .act (some 9) (.op (.read (.load1 (.tmp 8)))) (some (5, false)),
    .act (some 10) (.op (.pure (.bin .eql (.tmp 9) (.const (.int .i64 9))))) (some (5, false)),
    .act (some 11) (.op (.pure (.pick (.tmp 5) (.const (.bool true)) (.tmp 10)))) none,
    .act (some 2) (.op (.pure (.move (.tmp 11)))) none])
  .ret)) }
theorem c27 : compFn Try.prog (mkPlan Try.prog) [] true 27 = some L27 := by kernel_rfl
/-- (sluiceway/crq.Ring).Right -/
def L29 : LFun := { n := 33, pop := true, res := [.tmp 2], code :=
  (.seq (.steps [
    .act (some 1) (.op (.new (.box (.tmp 0)))) none,
    .act (some 2) (.op (.pure (.move (.const (.bool false))))) none])
  (.seq (.steps [
    .act (some 3) (.op (.pure (.fieldAddr 0 (.tmp 1)))) none,
    .act (some 4) (.op (.read (.load1 (.tmp 3)))) none,
    .act (some 5) (.op (.pure (.bin .geq (.tmp 4) (.const (.int .i64 0))))) none,
    .act (some 6) (.op (.pure (.move (.tmp 5)))) none,
    .act (some 7) (.op (.pure (.fieldAddr 0 (.tmp 1)))) (some (6, true)),
    .act (some 8) (.op (.read (.load1 (.tmp 7)))) (some (6, true)),
    .act (some 9) (.op (.pure (.bin .leq (.tmp 8) (.const (.int .i64 65536))))) (some (6, true)),
    .act (some 10) (.op (.pure (.pick (.tmp 6) (.tmp 9) (.const (.bool false))))) none,
    .act (some 11) (.op (.pure (.move (.tmp 10)))) none,
    .act (some 12) (.op (.pure (.fieldAddr 0 (.tmp 1)))) (some (11, true)),
    .act (some 13) (.op (.read (.load1 (.tmp 12)))) (some (11, true)),
    .act (some 14) (.op (.pure (.bin .rem (.tmp 13) (.const (.int .i64 2))))) (some (11, true)),
    .act (some 15) (.op (.pure (.bin .eql (.tmp 14) (.const (.int .i64 0))))) (some (11, true)),
    .act (some 16) (.op (.pure (.pick (.tmp 11) (.tmp 15) (.const (.bool false))))) none,
    .act (some 17) (.op (.pure (.move (.tmp 16)))) none,
    .act (some 18) (.op (.pure (.fieldAddr 1 (.tmp 1)))) (some (17, true)),
    .act (some 19) (.op (.read (.load1 (.tmp 18)))) (some (17, true)),
    .act (some 20) (.op (.pure (.bin .geq (.tmp 19) (.const (.int .i64 1))))) (some (17, true)),
    .act (some 21) (.op (.pure (.pick (.tmp 17) (.tmp 20) (.const (.bool false))))) none,
    .act (some 22) (.op (.pure (.move (.tmp 21)))) none,
    .act (some 23) (.op (.pure (.fieldAddr 1 (.tmp 1)))) (some (22, true)),
    .act (some 24) (.op (.read (.load1 (.tmp 23)))) (some (22, true)),
    .act (some 25) (.op (.pure (.bin .leq (.tmp 24) (.const (.int .i64 1024))))) (some (22, true)),
    .act (some 26) (.op (.pure (.pick (.tmp 22) (.tmp 25) (.const (.bool false))))) none,
    .act (some 27) (.op (.pure (.move (.tmp 26)))) none,
    .act (some 28) (.op (.pure (.fieldAddr 1 (.tmp 1)))) (some (27, true)),
    .act (some 29) (.op (.read (.load1 (.tmp 28)))) (some (27, true)),
    .act (some 30) (.op (.pure (.conv .u64 (.tmp 29)))) (some (27, true)),
    .act (some 31) (.call (.func 56) [(.tmp 30)]) (some (27, true)),
    .act (some 32) (.op (.pure (.pick (.tmp 27) (.tmp 31) (.const (.bool false))))) none,
    .act (some 2) (.op (.pure (.move (.tmp 32)))) none])
  .ret)) }
theorem c29 : compFn Try.prog (mkPlan Try.prog) [] true 29 = some L29 := by kernel_rfl
/-- (sluiceway/crq.Ring).Next -/
def L30 : LFun := { n := 9, pop := true, res := [.tmp 2], code :=
  (.seq (.steps [
    .act (some 1) (.op (.new (.box (.tmp 0)))) none,
    .act (some 2) (.op (.pure (.move (.const (.int .i64 0))))) none])
  (.seq (.seq (.steps [
    .act (some 3) (.op (.read (.loadN 2 (.tmp 1)))) none,
    .act (some 4) (.call (.func 29) [(.tmp 3)]) none,
    .act (some 5) (.op (.pure (.not (.tmp 4)))) none])
  (.cond (.tmp 5)
   (.seq (.steps [
     .act (some 2) (.op (.pure (.move (.const (.int .i64 (-1)))))) none])
   .ret)
   .skip))
  (.seq (.steps [
    .act (some 6) (.op (.pure (.fieldAddr 0 (.tmp 1)))) none,
    .act (some 7) (.op (.read (.load1 (.tmp 6)))) none,
    .act (some 8) (.op (.pure (.bin .add (.tmp 7) (.const (.int .i64 2))))) none,
    .act (some 2) (.op (.pure (.move (.tmp 8)))) none])
  .ret))) }
theorem c30 : compFn Try.prog (mkPlan Try.prog) [] true 30 = some L30 := by kernel_rfl
/-- (sluiceway/spec.Fifo).Do -/
def L31 : LFun := { n := 43, pop := false, res := [.loadN 2 6, .tmp 7, .tmp 8], code :=
  (.seq (.steps [
    .act (some 3) (.op (.new (.box (.tmp 0)))) none,
    .act (some 6) (.op (.new (.alloc [(.int .i64 0), (.slice none 0 0)]))) none,
    .act (some 7) (.op (.pure (.move (.const (.int .i64 0))))) none,
    .act (some 8) (.op (.pure (.move (.const (w64 0#64))))) none])
  (.seq (.block 0 (.seq (.steps [
     .act (some 10) (.op (.pure (.move (.tmp 1)))) none,
     .act (some 11) (.op (.pure (.bin .eql (.tmp 10) (.const (.int .i64 0))))) none,
     .act (some 12) (.op (.pure (.move (.tmp 11)))) none,
     .act (some 13) (.op (.read (.loadN 2 (.tmp 3)))) (some (12, true)),
     .act (some 14) (.call (.func 57) [(.tmp 13)]) (some (12, true)),
     .act (some 15) (.op (.pure (.pick (.tmp 12) (.tmp 14) (.const (.bool false))))) none,
     .act (some 9) (.op (.pure (.move (.tmp 15)))) none])
   (.cond (.tmp 9)
    (.seq (.steps [
      .act (some 16) (.op (.read (.loadN 2 (.tmp 3)))) none,
      .act none (.op (.eff (.store 2 (.tmp 6) (.tmp 16)))) none,
      .act (some 7) (.op (.pure (.move (.const (.int .i64 15))))) none,
      .act (some 8) (.op (.pure (.move (.const (w64 0#64))))) none])
    .ret)
    (.seq (.steps [
      .act (some 18) (.op (.pure (.move (.tmp 1)))) none,
      .act (some 19) (.op (.pure (.bin .eql (.tmp 18) (.const (.int .i64 0))))) none,
      .act (some 17) (.op (.pure (.move (.tmp 19)))) none])
    (.cond (.tmp 17)
     (.seq (.steps [
       .act (some 20) (.op (.read (.loadN 2 (.tmp 3)))) none,
       .act (some 21) (.op (.pure (.move (.tmp 2)))) none,
       .act (some 22) (.call (.func 58) [(.tmp 20), (.tmp 21)]) none,
       .act none (.op (.eff (.store 2 (.tmp 6) (.tmp 22)))) none,
       .act (some 7) (.op (.pure (.move (.const (.int .i64 0))))) none,
       .act (some 8) (.op (.pure (.move (.const (w64 0#64))))) none])
     .ret)
     (.seq (.steps [
       .act (some 24) (.op (.pure (.move (.tmp 1)))) none,
       .act (some 25) (.op (.pure (.bin .eql (.tmp 24) (.const (.int .i64 1))))) none,
       .act (some 26) (.op (.pure (.move (.tmp 25)))) none,
       .act (some 27) (.op (.pure (.fieldAddr 1 (.tmp 3)))) (some (26, true)),
       .act (some 28) (.op (.read (.load1 (.tmp 27)))) (some (26, true)),
       .act (some 29) (.op (.pure (.len false (.tmp 28)))) (some (26, true)),
       .act (some 30) (.op (.pure (.bin .eql (.tmp 29) (.const (.int .i64 0))))) (some (26, true)),
       .act (some 31) (.op (.pure (.pick (.tmp 26) (.tmp 30) (.const (.bool false))))) none,
       .act (some 23) (.op (.pure (.move (.tmp 31)))) none])
     (.cond (.tmp 23)
      (.seq (.steps [
        .act (some 32) (.op (.read (.loadN 2 (.tmp 3)))) none,
        .act none (.op (.eff (.store 2 (.tmp 6) (.tmp 32)))) none,
        .act (some 7) (.op (.pure (.move (.const (.int .i64 13))))) none,
        .act (some 8) (.op (.pure (.move (.const (w64 0#64))))) none])
      .ret)
      (.seq (.steps [
        .act (some 34) (.op (.pure (.move (.tmp 1)))) none,
        .act (some 35) (.op (.pure (.bin .eql (.tmp 34) (.const (.int .i64 1))))) none,
        .act (some 33) (.op (.pure (.move (.tmp 35)))) none])
      (.cond (.tmp 33)
       (.seq (.steps [
         .act (some 36) (.op (.read (.loadN 2 (.tmp 3)))) none,
         .act (some 38) (.op (.pure (.fieldAddr 1 (.tmp 3)))) none,
         .act (some 39) (.op (.read (.load1 (.tmp 38)))) none,
         .act (some 40) (.op (.pure (.idxSl 1 (.tmp 39) (.const (.int .i64 0))))) none,
         .act (some 41) (.op (.read (.load1 (.tmp 40)))) none,
         .act (some 37) (.call (.func 59) [(.tmp 36)]) none,
         .again 41 (.load1 (.tmp 40)) none,
         .again 39 (.load1 (.tmp 38)) none,
         .act none (.op (.eff (.store 2 (.tmp 6) (.tmp 37)))) none,
         .act (some 7) (.op (.pure (.move (.const (.int .i64 0))))) none,
         .act (some 8) (.op (.pure (.move (.tmp 41)))) none,
         .again 41 (.load1 (.tmp 40)) none,
         .again 39 (.load1 (.tmp 38)) none])
       .ret)
       .skip)))))))))
  (.seq (.steps [
    .act (some 42) (.op (.read (.loadN 2 (.tmp 3)))) none,
    .act none (.op (.eff (.store 2 (.tmp 6) (.tmp 42)))) none,
    .act (some 7) (.op (.pure (.move (.const (.int .i64 2))))) none,
    .act (some 8) (.op (.pure (.move (.const (w64 0#64))))) none])
  .ret))) }
theorem c31 : compFn Try.prog (mkPlan Try.prog) [] false 31 = some L31 := by kernel_rfl
/-- sluiceway/hist.New -/
def L32 : LFun := { n := 4, pop := false, res := [.tmp 0], code :=
  (.seq (.steps [
    .act (some 0) (.op (.pure (.move (.const (.pointer none))))) none])
  (.seq (.steps [
    .act (some 1) (.op (.new (.makeMap))) none,
    .act (some 2) (.op (.pure (.build [(.slice none 0 0), (.map none), (.int .i64 0)] [(1, 1, (.tmp 1))]))) none,
    .act (some 3) (.op (.new (.box (.tmp 2)))) none,
    .act (some 0) (.op (.pure (.move (.tmp 3)))) none])
  .ret)) }
theorem c32 : compFn Try.prog (mkPlan Try.prog) [] false 32 = some L32 := by kernel_rfl
/-- (*sluiceway/hist.Log).Begin -/
def L33 : LFun := { n := 69, pop := false, res := [.tmp 8, .tmp 9], code :=
  (.seq (.steps [
    .act (some 8) (.op (.pure (.move (.const (.int .i64 0))))) none,
    .act (some 9) (.op (.pure (.move (.const (.int .i64 0))))) none])
  (.seq (.steps [
    .act (some 14) (.op (.pure (.move (.tmp 0)))) none,
    .act (some 15) (.op (.pure (.move (.tmp 1)))) none,
    .act (some 16) (.call (.func 60) [(.tmp 14), (.tmp 15)]) none,
    .act (some 13) (.op (.pure (.move (.tmp 16)))) none,
    .act (some 17) (.op (.pure (.extract (.tmp 13) 0))) none,
    .act (some 18) (.op (.pure (.extract (.tmp 13) 1))) none,
    .act (some 10) (.op (.pure (.move (.tmp 17)))) none,
    .act (some 11) (.op (.pure (.move (.tmp 18)))) none])
  (.seq (.block 0 (.seq (.steps [
     .act (some 20) (.op (.pure (.move (.tmp 0)))) none,
     .act (some 21) (.call (.func 61) [(.tmp 20)]) none,
     .act (some 19) (.op (.pure (.move (.tmp 21)))) none])
   (.cond (.tmp 19)
    (.seq (.steps [
      .act (some 8) (.op (.pure (.move (.const (.int .i64 0))))) none,
      .act (some 9) (.op (.pure (.move (.const (.int .i64 1))))) none])
    .ret)
    (.seq (.steps [
      .act (some 23) (.op (.pure (.move (.tmp 1)))) none,
      .act (some 24) (.op (.pure (.bin .lss (.tmp 23) (.const (.int .i64 0))))) none,
      .act (some 25) (.op (.pure (.move (.tmp 24)))) none,
      .act (some 26) (.op (.pure (.move (.tmp 1)))) (some (25, false)),
      .act (some 27) (.op (.pure (.bin .geq (.tmp 26) (.const (.int .i64 64))))) (some (25, false)),
      .act (some 28) (.op (.pure (.pick (.tmp 25) (.const (.bool true)) (.tmp 27)))) none,
      .act (some 22) (.op (.pure (.move (.tmp 28)))) none])
    (.cond (.tmp 22)
     (.seq (.steps [
       .act (some 8) (.op (.pure (.move (.const (.int .i64 0))))) none,
       .act (some 9) (.op (.pure (.move (.const (.int .i64 2))))) none])
     .ret)
     (.seq (.steps [
       .act (some 30) (.op (.pure (.move (.tmp 11)))) none,
       .act (some 29) (.op (.pure (.move (.tmp 30)))) none])
     (.cond (.tmp 29)
      (.seq (.steps [
        .act (some 8) (.op (.pure (.move (.const (.int .i64 0))))) none,
        .act (some 9) (.op (.pure (.move (.const (.int .i64 16))))) none])
      .ret)
      (.seq (.steps [
        .act (some 32) (.op (.pure (.move (.tmp 0)))) none,
        .act (some 33) (.op (.pure (.nilCheck (.tmp 32)))) none,
        .act (some 34) (.op (.pure (.fieldAddr 0 (.tmp 33)))) none,
        .act (some 35) (.op (.read (.load1 (.tmp 34)))) none,
        .act (some 36) (.op (.pure (.len false (.tmp 35)))) none,
        .act (some 37) (.op (.pure (.bin .geq (.tmp 36) (.const (.int .i64 1024))))) none,
        .act (some 31) (.op (.pure (.move (.tmp 37)))) none])
      (.cond (.tmp 31)
       (.seq (.steps [
         .act (some 8) (.op (.pure (.move (.const (.int .i64 0))))) none,
         .act (some 9) (.op (.pure (.move (.const (.int .i64 15))))) none])
       .ret)
       .skip)))))))))
  (.seq (.steps [
    .act (some 38) (.op (.pure (.move (.tmp 0)))) none,
    .act (some 39) (.op (.pure (.nilCheck (.tmp 38)))) none,
    .act (some 40) (.op (.pure (.fieldAddr 0 (.tmp 39)))) none,
    .act (some 41) (.op (.read (.load1 (.tmp 40)))) none,
    .act (some 42) (.op (.pure (.len false (.tmp 41)))) none,
    .act (some 12) (.op (.pure (.move (.tmp 42)))) none])
  (.seq (.steps [
    .act (some 43) (.op (.pure (.move (.tmp 0)))) none,
    .act (some 44) (.op (.pure (.move (.tmp 0)))) none,
    .act (some 45) (.op (.pure (.nilCheck (.tmp 44)))) none,
    .act (some 46) (.op (.pure (.fieldAddr 0 (.tmp 45)))) none,
    .act (some 47) (.op (.read (.load1 (.tmp 46)))) none,
    .act (some 48) (.op (.pure (.move (.tmp 1)))) none,
    .act (some 49) (.op (.pure (.move (.tmp 2)))) none,
    .act (some 50) (.op (.pure (.move (.tmp 3)))) none,
    .act (some 51) (.op (.pure (.move (.tmp 0)))) none,
    .act (some 52) (.op (.pure (.nilCheck (.tmp 51)))) none,
    .act (some 53) (.op (.pure (.fieldAddr 2 (.tmp 52)))) none,
    .act (some 54) (.op (.read (.load1 (.tmp 53)))) none,
    .act (some 55) (.op (.pure (.build [(.int .i64 0), (.int .i64 0), (w64 0#64), (.int .i64 0), (.int .i64 0), (.bool false), (.int .i64 0), (w64 0#64)] [(0, 1, (.tmp 48)), (1, 1, (.tmp 49)), (2, 1, (.tmp 50)), (3, 1, (.tmp 54))]))) none,
    .act (some 56) (.op (.new (.mkSlice 8 1 [(.int .i64 0), (.int .i64 0), (w64 0#64), (.int .i64 0), (.int .i64 0), (.bool false), (.int .i64 0), (w64 0#64)] [(0, 8, (.tmp 55))]))) none,
    .act (some 57) (.op (.eff (.append 8 64 (.tmp 47) (.tmp 56)))) none,
    .act (some 58) (.op (.pure (.nilCheck (.tmp 43)))) none,
    .act (some 59) (.op (.pure (.fieldAddr 0 (.tmp 58)))) none,
    .act none (.op (.eff (.store 1 (.tmp 59) (.tmp 57)))) none])
  (.seq (.steps [
    .act (some 60) (.op (.pure (.move (.tmp 0)))) none,
    .act (some 61) (.op (.pure (.nilCheck (.tmp 60)))) none,
    .act (some 62) (.op (.pure (.fieldAddr 1 (.tmp 61)))) none,
    .act (some 63) (.op (.read (.load1 (.tmp 62)))) none,
    .act (some 64) (.op (.pure (.move (.tmp 1)))) none,
    .act (some 65) (.op (.pure (.move (.tmp 12)))) none,
    .act none (.op (.eff (.mapUpdate false (.tmp 63) (.tmp 64) (.tmp 65)))) none])
  (.seq (.steps [
    .act (some 66) (.op (.pure (.move (.tmp 0)))) none,
    .act (some 67) (.call (.func 62) [(.tmp 66)]) none])
  (.seq (.steps [
    .act (some 68) (.op (.pure (.move (.tmp 12)))) none,
    .act (some 8) (.op (.pure (.move (.tmp 68)))) none,
    .act (some 9) (.op (.pure (.move (.const (.int .i64 0))))) none])
  .ret)))))))) }
theorem c33 : compFn Try.prog (mkPlan Try.prog) [] false 33 = some L33 := by kernel_rfl
/-- (*sluiceway/hist.Log).End -/
def L34 : LFun := { n := 68, pop := false, res := [.tmp 8], code :=
  (.seq (.steps [
    .act (some 8) (.op (.pure (.move (.const (.int .i64 0))))) none])
  (.seq (.block 0 (.seq (.steps [
     .act (some 11) (.op (.pure (.move (.tmp 0)))) none,
     .act (some 12) (.call (.func 61) [(.tmp 11)]) none,
     .act (some 10) (.op (.pure (.move (.tmp 12)))) none])
   (.cond (.tmp 10)
    (.seq (.steps [
      .act (some 8) (.op (.pure (.move (.const (.int .i64 1))))) none])
    .ret)
    (.seq (.steps [
      .act (some 14) (.op (.pure (.move (.tmp 1)))) none,
      .act (some 15) (.op (.pure (.bin .lss (.tmp 14) (.const (.int .i64 0))))) none,
      .act (some 16) (.op (.pure (.move (.tmp 15)))) none,
      .act (some 17) (.op (.pure (.move (.tmp 1)))) (some (16, false)),
      .act (some 18) (.op (.pure (.move (.tmp 0)))) (some (16, false)),
      .act (some 19) (.op (.pure (.nilCheck (.tmp 18)))) (some (16, false)),
      .act (some 20) (.op (.pure (.fieldAddr 0 (.tmp 19)))) (some (16, false)),
      .act (some 21) (.op (.read (.load1 (.tmp 20)))) (some (16, false)),
      .act (some 22) (.op (.pure (.len false (.tmp 21)))) (some (16, false)),
      .act (some 23) (.op (.pure (.bin .geq (.tmp 17) (.tmp 22)))) (some (16, false)),
      .act (some 24) (.op (.pure (.pick (.tmp 16) (.const (.bool true)) (.tmp 23)))) none,
      .act (some 13) (.op (.pure (.move (.tmp 24)))) none])
    (.cond (.tmp 13)
     (.seq (.steps [
       .act (some 8) (.op (.pure (.move (.const (.int .i64 13))))) none])
     .ret)
     (.seq (.steps [
       .act (some 26) (.op (.pure (.move (.tmp 0)))) none,
       .act (some 27) (.op (.pure (.nilCheck (.tmp 26)))) none,
       .act (some 28) (.op (.pure (.fieldAddr 0 (.tmp 27)))) none,
       .act (some 29) (.op (.read (.load1 (.tmp 28)))) none,
       .act (some 30) (.op (.pure (.move (.tmp 1)))) none,
       .act (some 31) (.op (.pure (.idxSl 8 (.tmp 29) (.tmp 30)))) none,
       .act (some 32) (.op (.pure (.fieldAddr 5 (.tmp 31)))) none,
       .act (some 33) (.op (.read (.load1 (.tmp 32)))) none,
       .act (some 25) (.op (.pure (.move (.tmp 33)))) none])
     (.cond (.tmp 25)
      (.seq (.steps [
        .act (some 8) (.op (.pure (.move (.const (.int .i64 16))))) none])
      .ret)
      .skip)))))))
  (.seq (.steps [
    .act (some 34) (.op (.pure (.move (.tmp 0)))) none,
    .act (some 35) (.op (.pure (.nilCheck (.tmp 34)))) none,
    .act (some 36) (.op (.pure (.fieldAddr 0 (.tmp 35)))) none,
    .act (some 37) (.op (.read (.load1 (.tmp 36)))) none,
    .act (some 38) (.op (.pure (.move (.tmp 1)))) none,
    .act (some 39) (.op (.pure (.idxSl 8 (.tmp 37) (.tmp 38)))) none,
    .act (some 9) (.op (.pure (.move (.tmp 39)))) none])
  (.seq (.steps [
    .act (some 40) (.op (.pure (.move (.tmp 9)))) none,
    .act (some 41) (.op (.pure (.move (.tmp 9)))) none,
    .act (some 42) (.op (.pure (.move (.tmp 9)))) none,
    .act (some 43) (.op (.pure (.move (.tmp 9)))) none,
    .act (some 44) (.op (.pure (.move (.tmp 0)))) none,
    .act (some 45) (.op (.pure (.nilCheck (.tmp 44)))) none,
    .act (some 46) (.op (.pure (.fieldAddr 2 (.tmp 45)))) none,
    .act (some 47) (.op (.read (.load1 (.tmp 46)))) none,
    .act (some 48) (.op (.pure (.move (.tmp 2)))) none,
    .act (some 49) (.op (.pure (.move (.tmp 3)))) none,
    .act (some 50) (.op (.pure (.nilCheck (.tmp 40)))) none,
    .act (some 51) (.op (.pure (.fieldAddr 5 (.tmp 50)))) none,
    .act none (.op (.eff (.store 1 (.tmp 51) (.const (.bool true))))) none,
    .act (some 52) (.op (.pure (.nilCheck (.tmp 41)))) none,
    .act (some 53) (.op (.pure (.fieldAddr 4 (.tmp 52)))) none,
    .act none (.op (.eff (.store 1 (.tmp 53) (.tmp 47)))) none,
    .act (some 54) (.op (.pure (.nilCheck (.tmp 42)))) none,
    .act (some 55) (.op (.pure (.fieldAddr 6 (.tmp 54)))) none,
    .act none (.op (.eff (.store 1 (.tmp 55) (.tmp 48)))) none,
    .act (some 56) (.op (.pure (.nilCheck (.tmp 43)))) none,
    .act (some 57) (.op (.pure (.fieldAddr 7 (.tmp 56)))) none,
    .act none (.op (.eff (.store 1 (.tmp 57) (.tmp 49)))) none])
  (.seq (.steps [
    .act (some 58) (.op (.pure (.move (.tmp 0)))) none,
    .act (some 59) (.op (.pure (.nilCheck (.tmp 58)))) none,
    .act (some 60) (.op (.pure (.fieldAddr 1 (.tmp 59)))) none,
    .act (some 61) (.op (.read (.load1 (.tmp 60)))) none,
    .act (some 62) (.op (.pure (.move (.tmp 9)))) none,
    .act (some 63) (.op (.pure (.nilCheck (.tmp 62)))) none,
    .act (some 64) (.op (.pure (.fieldAddr 0 (.tmp 63)))) none,
    .act (some 65) (.op (.read (.load1 (.tmp 64)))) none,
    .act none (.op (.eff (.delete false (.tmp 61) (.tmp 65)))) none])
  (.seq (.steps [
    .act (some 66) (.op (.pure (.move (.tmp 0)))) none,
    .act (some 67) (.call (.func 62) [(.tmp 66)]) none])
  (.seq (.steps [
    .act (some 8) (.op (.pure (.move (.const (.int .i64 0))))) none])
  .ret))))))) }
theorem c34 : compFn Try.prog (mkPlan Try.prog) [] false 34 = some L34 := by kernel_rfl
/-- (*sluiceway/hist.Log).Calls -/
def L35 : LFun := { n := 10, pop := false, res := [.tmp 2], code :=
  (.seq (.steps [
    .act (some 2) (.op (.pure (.move (.const (.slice none 0 0))))) none])
  (.seq (.seq (.steps [
    .act (some 3) (.op (.pure (.move (.tmp 0)))) none,
    .act (some 4) (.call (.func 61) [(.tmp 3)]) none])
  (.cond (.tmp 4)
   (.seq (.steps [
     .act (some 2) (.op (.pure (.move (.const (.slice none 0 0))))) none])
   .ret)
   .skip))
  (.seq (.steps [
    .act (some 5) (.op (.pure (.move (.tmp 0)))) none,
    .act (some 6) (.op (.pure (.nilCheck (.tmp 5)))) none,
    .act (some 7) (.op (.pure (.fieldAddr 0 (.tmp 6)))) none,
    .act (some 8) (.op (.read (.load1 (.tmp 7)))) none,
    .act (some 9) (.call (.func 63) [(.tmp 8)]) none,
    .act (some 2) (.op (.pure (.move (.tmp 9)))) none])
  .ret))) }
theorem c35 : compFn Try.prog (mkPlan Try.prog) [] false 35 = some L35 := by kernel_rfl
/-- sluiceway/hist.Ahead -/
def L36 : LFun := { n := 14, pop := true, res := [.tmp 4], code :=
  (.seq (.steps [
    .act (some 2) (.op (.new (.box (.tmp 0)))) none,
    .act (some 3) (.op (.new (.box (.tmp 1)))) none,
    .act (some 4) (.op (.pure (.move (.const (.bool false))))) none])
  (.seq (.steps [
    .act (some 5) (.op (.pure (.fieldAddr 5 (.tmp 2)))) none,
    .act (some 6) (.op (.read (.load1 (.tmp 5)))) none,
    .act (some 7) (.op (.pure (.move (.tmp 6)))) none,
    .act (some 8) (.op (.pure (.fieldAddr 4 (.tmp 2)))) (some (7, true)),
    .act (some 9) (.op (.read (.load1 (.tmp 8)))) (some (7, true)),
    .act (some 10) (.op (.pure (.fieldAddr 3 (.tmp 3)))) (some (7, true)),
    .act (some 11) (.op (.read (.load1 (.tmp 10)))) (some (7, true)),
    .act (some 12) (.op (.pure (.bin .lss (.tmp 9) (.tmp 11)))) (some (7, true)),
    .act (some 13) (.op (.pure (.pick (.tmp 7) (.tmp 12) (.const (.bool false))))) none,
    .act (some 4) (.op (.pure (.move (.tmp 13)))) none])
  .ret)) }
theorem c36 : compFn Try.prog (mkPlan Try.prog) [] true 36 = some L36 := by kernel_rfl
/-- sluiceway/lin.Fifo -/
def L37 : LFun := { n := 17, pop := false, res := [.tmp 6, .tmp 7], code :=
  (.seq (.steps [
    .act (some 6) (.op (.pure (.move (.const (.slice none 0 0))))) none,
    .act (some 7) (.op (.pure (.move (.const (.bool false))))) none])
  (.seq (.steps [
    .act (some 8) (.op (.pure (.move (.tmp 0)))) none,
    .act (some 9) (.op (.pure (.move (.tmp 1)))) none,
    .act (some 10) (.op (.pure (.build [(.int .i64 0), (.slice none 0 0)] [(0, 1, (.tmp 9))]))) none,
    .act (some 11) (.op (.pure (.move (.tmp 0)))) none,
    .act (some 12) (.op (.pure (.move (.tmp 2)))) none,
    .act (some 13) (.call (.func 65) [(.tmp 11), (.tmp 12)]) none,
    .act (some 14) (.call (.func 64) [(.tmp 8), (.tmp 10), (.tmp 13), (.func 66)]) none,
    .act (some 15) (.op (.pure (.extract (.tmp 14) 0))) none,
    .act (some 16) (.op (.pure (.extract (.tmp 14) 1))) none,
    .act (some 6) (.op (.pure (.move (.tmp 15)))) none,
    .act (some 7) (.op (.pure (.move (.tmp 16)))) none])
  .ret)) }
theorem c37 : compFn Try.prog (mkPlan Try.prog) [] false 37 = some L37 := by kernel_rfl
/-- sluiceway/sluicewaylaw14.Open -/
def L38 : LFun := { n := 25, pop := false, res := [.tmp 2], code :=
  (.seq (.steps [
    .act (some 2) (.op (.pure (.move (.const (.slice none 0 0))))) none])
  (.seq (.steps [
    .act (some 3) (.op (.pure (.move (.const (.slice none 0 0))))) none])
  (.seq (.seq (.steps [
    .act (some 4) (.op (.pure (.move (.const (.int .i64 0))))) none])
  (.block 0 (.loop [0, 3, 4] (.seq (.seq (.steps [
      .act (some 5) (.op (.pure (.move (.tmp 4)))) none,
      .act (some 6) (.op (.pure (.move (.tmp 0)))) none,
      .act (some 7) (.op (.pure (.len false (.tmp 6)))) none,
      .act (some 8) (.op (.pure (.bin .lss (.tmp 5) (.tmp 7)))) none])
    (.cond (.tmp 8)
     .skip
     (.exit 0)))
    (.seq (.block 1 (.seq (.steps [
       .act (some 11) (.op (.pure (.move (.tmp 0)))) none,
       .act (some 12) (.op (.pure (.move (.tmp 4)))) none,
       .act (some 13) (.op (.pure (.idxSl 8 (.tmp 11) (.tmp 12)))) none,
       .act (some 14) (.op (.pure (.fieldAddr 6 (.tmp 13)))) none,
       .act (some 15) (.op (.read (.load1 (.tmp 14)))) none,
       .act (some 16) (.op (.pure (.bin .neq (.tmp 15) (.const (.int .i64 16))))) none])
     (.cond (.tmp 16)
      (.steps [
        .act (some 17) (.op (.pure (.move (.tmp 3)))) none,
        .act (some 18) (.op (.pure (.move (.tmp 0)))) none,
        .act (some 19) (.op (.pure (.move (.tmp 4)))) none,
        .act (some 20) (.op (.pure (.idxSl 8 (.tmp 18) (.tmp 19)))) none,
        .act (some 21) (.op (.read (.loadN 8 (.tmp 20)))) none,
        .act (some 22) (.op (.new (.mkSlice 8 1 [(.int .i64 0), (.int .i64 0), (w64 0#64), (.int .i64 0), (.int .i64 0), (.bool false), (.int .i64 0), (w64 0#64)] [(0, 8, (.tmp 21))]))) none,
        .act (some 23) (.op (.eff (.append 8 64 (.tmp 17) (.tmp 22)))) none,
        .act (some 3) (.op (.pure (.move (.tmp 23)))) none])
      .skip)))
    (.steps [
      .act (some 9) (.op (.pure (.move (.tmp 4)))) none,
      .act (some 10) (.op (.pure (.bin .add (.tmp 9) (.const (.int .i64 1))))) none,
      .act (some 4) (.op (.pure (.move (.tmp 10)))) none]))))))
  (.seq (.steps [
    .act (some 24) (.op (.pure (.move (.tmp 3)))) none,
    .act (some 2) (.op (.pure (.move (.tmp 24)))) none])
  .ret)))) }
theorem c38 : compFn Try.prog (mkPlan Try.prog) [(3, [0, 3, 4])] false 38 = some L38 := by kernel_rfl
/-- (*sluiceway/mem.Mem).Len -/
def L39 : LFun := { n := 10, pop := true, res := [.tmp 2], code :=
  (.seq (.steps [
    .act (some 2) (.op (.pure (.move (.const (.int .i64 0))))) none])
  (.seq (.seq (.steps [
    .act (some 3) (.op (.pure (.move (.tmp 0)))) none,
    .act (some 4) (.op (.pure (.eqNil .p false (.tmp 3) (.const (.pointer none))))) none])
  (.cond (.tmp 4)
   (.seq (.steps [
     .act (some 2) (.op (.pure (.move (.const (.int .i64 0))))) none])
   .ret)
   .skip))
  (.seq (.steps [
    .act (some 5) (.op (.pure (.move (.tmp 0)))) none,
    .act (some 6) (.op (.pure (.nilCheck (.tmp 5)))) none,
    .act (some 7) (.op (.pure (.fieldAddr 0 (.tmp 6)))) none,
    .act (some 8) (.op (.read (.load1 (.tmp 7)))) none,
    .act (some 9) (.op (.pure (.len false (.tmp 8)))) none,
    .act (some 2) (.op (.pure (.move (.tmp 9)))) none])
  .ret))) }
theorem c39 : compFn Try.prog (mkPlan Try.prog) [] true 39 = some L39 := by kernel_rfl
/-- (*sluiceway/mem.Mem).Store -/
def L40 : LFun := { n := 10, pop := true, res := [], code :=
  (.seq (.steps [
    .act (some 5) (.op (.new (.box (.tmp 2)))) none])
  (.steps [
    .act (some 6) (.op (.pure (.move (.tmp 0)))) none,
    .act (some 7) (.op (.pure (.move (.tmp 1)))) none,
    .act (some 8) (.op (.pure (.mkFunc 68 [] [(.tmp 5)]))) none,
    .act (some 9) (.call (.func 67) [(.tmp 6), (.const (.int .i64 1)), (.tmp 7), (.tmp 8)]) none])) }
theorem c40 : compFn Try.prog (mkPlan Try.prog) [] true 40 = some L40 := by kernel_rfl
/-- (sluiceway/crq.Ring).cell -/
def L41 : LFun := { n := 16, pop := true, res := [.tmp 4], code :=
  (.seq (.steps [
    .act (some 2) (.op (.new (.box (.tmp 0)))) none,
    .act (some 4) (.op (.pure (.move (.const (.int .i64 0))))) none])
  (.seq (.steps [
    .act (some 5) (.op (.pure (.fieldAddr 0 (.tmp 2)))) none,
    .act (some 6) (.op (.read (.load1 (.tmp 5)))) none,
    .act (some 7) (.op (.pure (.bin .add (.tmp 6) (.const (.int .i64 4))))) none,
    .act (some 8) (.op (.pure (.move (.tmp 1)))) none,
    .act (some 9) (.op (.pure (.fieldAddr 1 (.tmp 2)))) none,
    .act (some 10) (.op (.read (.load1 (.tmp 9)))) none,
    .act (some 11) (.op (.pure (.conv .u64 (.tmp 10)))) none,
    .act (some 12) (.call (.func 69) [(.tmp 8), (.tmp 11)]) none,
    .act (some 13) (.op (.pure (.conv .i64 (.tmp 12)))) none,
    .act (some 14) (.op (.pure (.bin .mul (.const (.int .i64 2)) (.tmp 13)))) none,
    .act (some 15) (.op (.pure (.bin .add (.tmp 7) (.tmp 14)))) none,
    .act (some 4) (.op (.pure (.move (.tmp 15)))) none,
    .again 6 (.load1 (.tmp 5)) none])
  .ret)) }
theorem c41 : compFn Try.prog (mkPlan Try.prog) [] true 41 = some L41 := by kernel_rfl
/-- sluiceway/crq.state -/
def L42 : LFun := { n := 10, pop := true, res := [.tmp 4], code :=
  (.seq (.steps [
    .act (some 4) (.op (.pure (.move (.const (w64 0#64))))) none])
  (.seq (.steps [
    .act (some 5) (.op (.pure (.move (.tmp 0)))) none,
    .act (some 6) (.op (.pure (.bin .shl (.tmp 5) (.const (w64 1#64))))) none,
    .act (some 7) (.op (.pure (.move (.tmp 1)))) none,
    .act (some 8) (.op (.pure (.bin .and (.tmp 7) (.const (w64 1#64))))) none,
    .act (some 9) (.op (.pure (.bin .or (.tmp 6) (.tmp 8)))) none,
    .act (some 4) (.op (.pure (.move (.tmp 9)))) none])
  .ret)) }
theorem c42 : compFn Try.prog (mkPlan Try.prog) [] true 42 = some L42 := by kernel_rfl
/-- (*sluiceway/crq.Op).shut -/
def L48 : LFun := { n := 21, pop := true, res := [], code :=
  (.seq (.steps [
    .act (some 5) (.op (.pure (.move (.tmp 1)))) none,
    .act (some 6) (.op (.pure (.move (.tmp 0)))) none,
    .act (some 7) (.op (.pure (.nilCheck (.tmp 6)))) none,
    .act (some 8) (.op (.pure (.fieldAddr 1 (.tmp 7)))) none,
    .act (some 9) (.op (.pure (.fieldAddr 0 (.tmp 8)))) none,
    .act (some 10) (.op (.read (.load1 (.tmp 9)))) none,
    .act (some 11) (.op (.pure (.bin .add (.tmp 10) (.const (.int .i64 1))))) none,
    .act (some 12) (.call (.func 72) [(.tmp 5), (.tmp 11), (.const (w64 9223372036854775808#64))]) none])
  (.seq (.steps [
    .act (some 4) (.op (.pure (.move (.const (.int .i64 0))))) none])
  (.seq (.seq (.steps [
    .act (some 13) (.op (.pure (.move (.tmp 0)))) none,
    .act (some 14) (.op (.pure (.nilCheck (.tmp 13)))) none,
    .act (some 15) (.op (.pure (.fieldAddr 3 (.tmp 14)))) none,
    .act (some 16) (.op (.read (.load1 (.tmp 15)))) none,
    .act (some 17) (.op (.pure (.bin .eql (.tmp 16) (.const (.int .i64 0))))) none])
  (.cond (.tmp 17)
   (.steps [
     .act (some 4) (.op (.pure (.move (.const (.int .i64 16))))) none])
   .skip))
  (.steps [
    .act (some 18) (.op (.pure (.move (.tmp 0)))) none,
    .act (some 19) (.op (.pure (.move (.tmp 4)))) none,
    .act (some 20) (.call (.func 73) [(.tmp 18), (.tmp 19), (.const (w64 0#64))]) none])))) }
theorem c48 : compFn Try.prog (mkPlan Try.prog) [] true 48 = some L48 := by kernel_rfl
/-- (*sluiceway/crq.Op).put -/
def L49 : LFun := { n := 204, pop := true, res := [], code :=
  (.seq (.steps [
    .act (some 6) (.op (.pure (.move (.tmp 0)))) none,
    .act (some 7) (.op (.pure (.nilCheck (.tmp 6)))) none,
    .act (some 8) (.op (.pure (.fieldAddr 5 (.tmp 7)))) none,
    .act (some 9) (.op (.read (.load1 (.tmp 8)))) none])
  (.block 0 (.seq (.steps [
     .act (some 14) (.op (.pure (.bin .eql (.tmp 9) (.const (.int .i64 0))))) none,
     .act (some 13) (.op (.pure (.move (.tmp 14)))) none])
   (.cond (.tmp 13)
    (.seq (.steps [
      .act (some 15) (.op (.pure (.move (.tmp 0)))) none,
      .act (some 16) (.op (.pure (.nilCheck (.tmp 15)))) none,
      .act (some 17) (.op (.pure (.fieldAddr 5 (.tmp 16)))) none,
      .act none (.op (.eff (.store 1 (.tmp 17) (.const (.int .i64 1))))) none])
    (.seq (.steps [
      .act (some 18) (.op (.pure (.move (.tmp 0)))) none,
      .act (some 19) (.op (.pure (.move (.tmp 1)))) none,
      .act (some 20) (.op (.pure (.move (.tmp 0)))) none,
      .act (some 21) (.op (.pure (.nilCheck (.tmp 20)))) none,
      .act (some 22) (.op (.pure (.fieldAddr 1 (.tmp 21)))) none,
      .act (some 23) (.op (.pure (.fieldAddr 0 (.tmp 22)))) none,
      .act (some 24) (.op (.read (.load1 (.tmp 23)))) none,
      .act (some 25) (.op (.pure (.bin .add (.tmp 24) (.const (.int .i64 1))))) none,
      .act (some 26) (.call (.func 74) [(.tmp 19), (.tmp 25), (.const (w64 1#64))]) none,
      .act (some 27) (.op (.pure (.nilCheck (.tmp 18)))) none,
      .act (some 28) (.op (.pure (.fieldAddr 6 (.tmp 27)))) none,
      .act none (.op (.eff (.store 1 (.tmp 28) (.tmp 26)))) none])
    (.seq (.steps [
      .act (some 29) (.op (.pure (.move (.tmp 0)))) none,
      .act (some 30) (.op (.pure (.nilCheck (.tmp 29)))) none,
      .act (some 31) (.op (.pure (.fieldAddr 6 (.tmp 30)))) none,
      .act (some 32) (.op (.read (.load1 (.tmp 31)))) none,
      .act (some 33) (.op (.pure (.bin .and (.tmp 32) (.const (w64 9223372036854775808#64))))) none,
      .act (some 34) (.op (.pure (.bin .neq (.tmp 33) (.const (w64 0#64))))) none])
    (.cond (.tmp 34)
     (.steps [
       .act (some 35) (.op (.pure (.move (.tmp 0)))) none,
       .act (some 36) (.call (.func 73) [(.tmp 35), (.const (.int .i64 16)), (.const (w64 0#64))]) none])
     .skip))))
    (.seq (.steps [
      .act (some 38) (.op (.pure (.bin .eql (.tmp 9) (.const (.int .i64 1))))) none,
      .act (some 37) (.op (.pure (.move (.tmp 38)))) none])
    (.cond (.tmp 37)
     (.seq (.steps [
       .act (some 39) (.op (.pure (.move (.tmp 0)))) none,
       .act (some 40) (.op (.pure (.move (.tmp 1)))) none,
       .act (some 41) (.op (.pure (.move (.tmp 0)))) none,
       .act (some 42) (.op (.pure (.nilCheck (.tmp 41)))) none,
       .act (some 43) (.op (.pure (.fieldAddr 1 (.tmp 42)))) none,
       .act (some 44) (.op (.read (.loadN 2 (.tmp 43)))) none,
       .act (some 45) (.op (.pure (.move (.tmp 0)))) none,
       .act (some 46) (.op (.pure (.nilCheck (.tmp 45)))) none,
       .act (some 47) (.op (.pure (.fieldAddr 6 (.tmp 46)))) none,
       .act (some 48) (.op (.read (.load1 (.tmp 47)))) none,
       .act (some 49) (.call (.func 41) [(.tmp 44), (.tmp 48)]) none,
       .act (some 50) (.op (.pure (.bin .add (.tmp 49) (.const (.int .i64 1))))) none,
       .act (some 51) (.call (.func 75) [(.tmp 40), (.tmp 50)]) none,
       .act (some 52) (.op (.pure (.nilCheck (.tmp 39)))) none,
       .act (some 53) (.op (.pure (.fieldAddr 7 (.tmp 52)))) none,
       .act none (.op (.eff (.store 1 (.tmp 53) (.tmp 51)))) none])
     (.steps [
       .act (some 54) (.op (.pure (.move (.tmp 0)))) none,
       .act (some 55) (.op (.pure (.nilCheck (.tmp 54)))) none,
       .act (some 56) (.op (.pure (.fieldAddr 5 (.tmp 55)))) none,
       .act none (.op (.eff (.store 1 (.tmp 56) (.const (.int .i64 2))))) none]))
     (.seq (.steps [
       .act (some 58) (.op (.pure (.bin .eql (.tmp 9) (.const (.int .i64 2))))) none,
       .act (some 57) (.op (.pure (.move (.tmp 58)))) none])
     (.cond (.tmp 57)
      (.seq (.steps [
        .act (some 59) (.op (.pure (.move (.tmp 0)))) none,
        .act (some 60) (.op (.pure (.move (.tmp 1)))) none,
        .act (some 61) (.op (.pure (.move (.tmp 0)))) none,
        .act (some 62) (.op (.pure (.nilCheck (.tmp 61)))) none,
        .act (some 63) (.op (.pure (.fieldAddr 1 (.tmp 62)))) none,
        .act (some 64) (.op (.read (.loadN 2 (.tmp 63)))) none,
        .act (some 65) (.op (.pure (.move (.tmp 0)))) none,
        .act (some 66) (.op (.pure (.nilCheck (.tmp 65)))) none,
        .act (some 67) (.op (.pure (.fieldAddr 6 (.tmp 66)))) none,
        .act (some 68) (.op (.read (.load1 (.tmp 67)))) none,
        .act (some 69) (.call (.func 41) [(.tmp 64), (.tmp 68)]) none,
        .act (some 70) (.call (.func 75) [(.tmp 60), (.tmp 69)]) none,
        .act (some 71) (.op (.pure (.nilCheck (.tmp 59)))) none,
        .act (some 72) (.op (.pure (.fieldAddr 8 (.tmp 71)))) none,
        .act none (.op (.eff (.store 1 (.tmp 72) (.tmp 70)))) none])
      (.seq (.steps [
        .act (some 73) (.op (.pure (.move (.tmp 0)))) none,
        .act (some 74) (.op (.pure (.move (.tmp 0)))) none,
        .act (some 75) (.op (.pure (.nilCheck (.tmp 74)))) none,
        .act (some 76) (.op (.pure (.fieldAddr 8 (.tmp 75)))) none,
        .act (some 77) (.op (.read (.load1 (.tmp 76)))) none,
        .act (some 78) (.op (.pure (.bin .and (.tmp 77) (.const (w64 1#64))))) none,
        .act (some 79) (.op (.pure (.bin .neq (.tmp 78) (.const (w64 0#64))))) none,
        .act (some 80) (.call (.func 76) [(.tmp 73), (.tmp 79), (.const (.int .i64 4)), (.const (.int .i64 3))]) none])
      (.seq (.steps [
        .act (some 81) (.op (.pure (.move (.tmp 0)))) none,
        .act (some 82) (.op (.pure (.nilCheck (.tmp 81)))) none,
        .act (some 83) (.op (.pure (.fieldAddr 7 (.tmp 82)))) none,
        .act (some 84) (.op (.read (.load1 (.tmp 83)))) none,
        .act (some 85) (.op (.pure (.bin .neq (.tmp 84) (.const (w64 0#64))))) none,
        .act (some 86) (.op (.pure (.move (.tmp 85)))) none,
        .act (some 87) (.op (.pure (.move (.tmp 0)))) (some (86, false)),
        .act (some 88) (.op (.pure (.nilCheck (.tmp 87)))) (some (86, false)),
        .act (some 89) (.op (.pure (.fieldAddr 8 (.tmp 88)))) (some (86, false)),
        .act (some 90) (.op (.read (.load1 (.tmp 89)))) (some (86, false)),
        .act (some 92) (.op (.pure (.move (.tmp 0)))) (some (86, false)),
        .act (some 93) (.op (.pure (.nilCheck (.tmp 92)))) (some (86, false)),
        .act (some 94) (.op (.pure (.fieldAddr 6 (.tmp 93)))) (some (86, false)),
        .act (some 95) (.op (.read (.load1 (.tmp 94)))) (some (86, false)),
        .act (some 91) (.call (.func 77) [(.tmp 90)]) (some (86, false)),
        .act (some 96) (.op (.pure (.bin .gtr (.tmp 91) (.tmp 95)))) (some (86, false)),
        .act (some 97) (.op (.pure (.pick (.tmp 86) (.const (.bool true)) (.tmp 96)))) none,
        .again 95 (.load1 (.tmp 94)) (some (86, false))])
      (.cond (.tmp 97)
       (.steps [
         .act (some 98) (.op (.pure (.move (.tmp 0)))) none,
         .act (some 99) (.op (.pure (.nilCheck (.tmp 98)))) none,
         .act (some 100) (.op (.pure (.fieldAddr 5 (.tmp 99)))) none,
         .act none (.op (.eff (.store 1 (.tmp 100) (.const (.int .i64 5))))) none])
       .skip))))
      (.seq (.steps [
        .act (some 102) (.op (.pure (.bin .eql (.tmp 9) (.const (.int .i64 3))))) none,
        .act (some 101) (.op (.pure (.move (.tmp 102)))) none])
      (.cond (.tmp 101)
       (.steps [
         .act (some 103) (.op (.pure (.move (.tmp 0)))) none,
         .act (some 104) (.op (.pure (.move (.tmp 1)))) none,
         .act (some 105) (.op (.pure (.move (.tmp 0)))) none,
         .act (some 106) (.op (.pure (.nilCheck (.tmp 105)))) none,
         .act (some 107) (.op (.pure (.fieldAddr 1 (.tmp 106)))) none,
         .act (some 108) (.op (.pure (.fieldAddr 0 (.tmp 107)))) none,
         .act (some 109) (.op (.read (.load1 (.tmp 108)))) none,
         .act (some 110) (.op (.pure (.bin .add (.tmp 109) (.const (.int .i64 0))))) none,
         .act (some 112) (.op (.pure (.move (.tmp 0)))) none,
         .act (some 113) (.op (.pure (.nilCheck (.tmp 112)))) none,
         .act (some 114) (.op (.pure (.fieldAddr 6 (.tmp 113)))) none,
         .act (some 115) (.op (.read (.load1 (.tmp 114)))) none,
         .act (some 111) (.call (.func 75) [(.tmp 104), (.tmp 110)]) none,
         .act (some 116) (.op (.pure (.bin .leq (.tmp 111) (.tmp 115)))) none,
         .again 115 (.load1 (.tmp 114)) none,
         .act (some 117) (.call (.func 76) [(.tmp 103), (.tmp 116), (.const (.int .i64 4)), (.const (.int .i64 5))]) none])
       (.seq (.steps [
         .act (some 119) (.op (.pure (.bin .eql (.tmp 9) (.const (.int .i64 4))))) none,
         .act (some 118) (.op (.pure (.move (.tmp 119)))) none])
       (.cond (.tmp 118)
        (.seq (.steps [
          .act (some 120) (.op (.pure (.move (.tmp 0)))) none,
          .act (some 121) (.op (.pure (.nilCheck (.tmp 120)))) none,
          .act (some 122) (.op (.pure (.fieldAddr 5 (.tmp 121)))) none,
          .act none (.op (.eff (.store 1 (.tmp 122) (.const (.int .i64 5))))) none])
        (.seq (.steps [
          .act (some 123) (.op (.pure (.move (.tmp 1)))) none,
          .act (some 124) (.op (.pure (.move (.tmp 0)))) none,
          .act (some 125) (.op (.pure (.nilCheck (.tmp 124)))) none,
          .act (some 126) (.op (.pure (.fieldAddr 1 (.tmp 125)))) none,
          .act (some 127) (.op (.read (.loadN 2 (.tmp 126)))) none,
          .act (some 128) (.op (.pure (.move (.tmp 0)))) none,
          .act (some 129) (.op (.pure (.nilCheck (.tmp 128)))) none,
          .act (some 130) (.op (.pure (.fieldAddr 6 (.tmp 129)))) none,
          .act (some 131) (.op (.read (.load1 (.tmp 130)))) none,
          .act (some 133) (.op (.pure (.move (.tmp 0)))) none,
          .act (some 134) (.op (.pure (.nilCheck (.tmp 133)))) none,
          .act (some 135) (.op (.pure (.fieldAddr 8 (.tmp 134)))) none,
          .act (some 136) (.op (.read (.load1 (.tmp 135)))) none,
          .act (some 137) (.op (.pure (.move (.tmp 0)))) none,
          .act (some 138) (.op (.pure (.nilCheck (.tmp 137)))) none,
          .act (some 139) (.op (.pure (.fieldAddr 7 (.tmp 138)))) none,
          .act (some 140) (.op (.read (.load1 (.tmp 139)))) none,
          .act (some 141) (.op (.pure (.build [(w64 0#64), (w64 0#64)] [(0, 1, (.tmp 136)), (1, 1, (.tmp 140))]))) none,
          .act (some 142) (.op (.pure (.move (.tmp 0)))) none,
          .act (some 143) (.op (.pure (.nilCheck (.tmp 142)))) none,
          .act (some 144) (.op (.pure (.fieldAddr 6 (.tmp 143)))) none,
          .act (some 145) (.op (.read (.load1 (.tmp 144)))) none,
          .act (some 147) (.op (.pure (.move (.tmp 0)))) none,
          .act (some 148) (.op (.pure (.nilCheck (.tmp 147)))) none,
          .act (some 149) (.op (.pure (.fieldAddr 4 (.tmp 148)))) none,
          .act (some 150) (.op (.read (.load1 (.tmp 149)))) none,
          .act (some 151) (.op (.pure (.bin .add (.tmp 150) (.const (w64 1#64))))) none,
          .act (some 132) (.call (.func 41) [(.tmp 127), (.tmp 131)]) none,
          .again 150 (.load1 (.tmp 149)) none,
          .again 145 (.load1 (.tmp 144)) none,
          .again 140 (.load1 (.tmp 139)) none,
          .again 136 (.load1 (.tmp 135)) none,
          .act (some 146) (.call (.func 42) [(.tmp 145), (.const (w64 1#64))]) none,
          .act (some 152) (.op (.pure (.build [(w64 0#64), (w64 0#64)] [(0, 1, (.tmp 146)), (1, 1, (.tmp 151))]))) none,
          .again 150 (.load1 (.tmp 149)) none,
          .again 140 (.load1 (.tmp 139)) none,
          .again 136 (.load1 (.tmp 135)) none,
          .act (some 153) (.call (.func 78) [(.tmp 123), (.tmp 132), (.tmp 141), (.tmp 152)]) none])
        (.cond (.tmp 153)
         (.steps [
           .act (some 154) (.op (.pure (.move (.tmp 0)))) none,
           .act (some 155) (.call (.func 73) [(.tmp 154), (.const (.int .i64 0)), (.const (w64 0#64))]) none])
         .skip)))
        (.seq (.steps [
          .act (some 157) (.op (.pure (.bin .eql (.tmp 9) (.const (.int .i64 5))))) none,
          .act (some 156) (.op (.pure (.move (.tmp 157)))) none])
        (.cond (.tmp 156)
         (.seq (.steps [
           .act (some 158) (.op (.pure (.move (.tmp 1)))) none,
           .act (some 159) (.op (.pure (.move (.tmp 0)))) none,
           .act (some 160) (.op (.pure (.nilCheck (.tmp 159)))) none,
           .act (some 161) (.op (.pure (.fieldAddr 1 (.tmp 160)))) none,
           .act (some 162) (.op (.pure (.fieldAddr 0 (.tmp 161)))) none,
           .act (some 163) (.op (.read (.load1 (.tmp 162)))) none,
           .act (some 164) (.op (.pure (.bin .add (.tmp 163) (.const (.int .i64 0))))) none,
           .act (some 165) (.call (.func 75) [(.tmp 158), (.tmp 164)]) none,
           .act (some 4) (.op (.pure (.move (.tmp 165)))) none])
         (.seq (.steps [
           .act (some 166) (.op (.pure (.move (.tmp 0)))) none,
           .act (some 167) (.op (.pure (.nilCheck (.tmp 166)))) none,
           .act (some 168) (.op (.pure (.fieldAddr 11 (.tmp 167)))) none,
           .act (some 169) (.op (.read (.load1 (.tmp 168)))) none,
           .act (some 170) (.op (.pure (.bin .add (.tmp 169) (.const (.int .i64 1))))) none,
           .act (some 171) (.op (.pure (.nilCheck (.tmp 166)))) none,
           .act (some 172) (.op (.pure (.fieldAddr 11 (.tmp 171)))) none,
           .act none (.op (.eff (.store 1 (.tmp 172) (.tmp 170)))) none])
         (.seq (.steps [
           .act (some 173) (.op (.pure (.move (.tmp 0)))) none,
           .act (some 174) (.op (.pure (.nilCheck (.tmp 173)))) none,
           .act (some 175) (.op (.pure (.fieldAddr 6 (.tmp 174)))) none,
           .act (some 176) (.op (.read (.load1 (.tmp 175)))) none,
           .act (some 177) (.op (.pure (.move (.tmp 4)))) none,
           .act (some 178) (.op (.pure (.bin .geq (.tmp 176) (.tmp 177)))) none,
           .act (some 179) (.op (.pure (.move (.tmp 178)))) none,
           .act (some 180) (.op (.pure (.move (.tmp 0)))) (some (179, true)),
           .act (some 181) (.op (.pure (.nilCheck (.tmp 180)))) (some (179, true)),
           .act (some 182) (.op (.pure (.fieldAddr 6 (.tmp 181)))) (some (179, true)),
           .act (some 183) (.op (.read (.load1 (.tmp 182)))) (some (179, true)),
           .act (some 184) (.op (.pure (.move (.tmp 4)))) (some (179, true)),
           .act (some 185) (.op (.pure (.bin .sub (.tmp 183) (.tmp 184)))) (some (179, true)),
           .act (some 186) (.op (.pure (.move (.tmp 0)))) (some (179, true)),
           .act (some 187) (.op (.pure (.nilCheck (.tmp 186)))) (some (179, true)),
           .act (some 188) (.op (.pure (.fieldAddr 1 (.tmp 187)))) (some (179, true)),
           .act (some 189) (.op (.pure (.fieldAddr 1 (.tmp 188)))) (some (179, true)),
           .act (some 190) (.op (.read (.load1 (.tmp 189)))) (some (179, true)),
           .act (some 191) (.op (.pure (.conv .u64 (.tmp 190)))) (some (179, true)),
           .act (some 192) (.op (.pure (.bin .geq (.tmp 185) (.tmp 191)))) (some (179, true)),
           .act (some 193) (.op (.pure (.pick (.tmp 179) (.tmp 192) (.const (.bool false))))) none,
           .act (some 5) (.op (.pure (.move (.tmp 193)))) none])
         (.steps [
           .act (some 194) (.op (.pure (.move (.tmp 0)))) none,
           .act (some 195) (.op (.pure (.move (.tmp 5)))) none,
           .act (some 196) (.op (.pure (.move (.tmp 195)))) none,
           .act (some 197) (.op (.pure (.move (.tmp 0)))) (some (196, false)),
           .act (some 198) (.op (.pure (.nilCheck (.tmp 197)))) (some (196, false)),
           .act (some 199) (.op (.pure (.fieldAddr 11 (.tmp 198)))) (some (196, false)),
           .act (some 200) (.op (.read (.load1 (.tmp 199)))) (some (196, false)),
           .act (some 201) (.op (.pure (.bin .geq (.tmp 200) (.const (.int .i64 10))))) (some (196, false)),
           .act (some 202) (.op (.pure (.pick (.tmp 196) (.const (.bool true)) (.tmp 201)))) none,
           .act (some 203) (.call (.func 76) [(.tmp 194), (.tmp 202), (.const (.int .i64 6)), (.const (.int .i64 0))]) none]))))
         (.steps [
           .act (some 10) (.op (.pure (.move (.tmp 0)))) none,
           .act (some 11) (.op (.pure (.move (.tmp 1)))) none,
           .act (some 12) (.call (.func 48) [(.tmp 10), (.tmp 11)]) none]))))))))))))))) }
theorem c49 : compFn Try.prog (mkPlan Try.prog) [] true 49 = some L49 := by kernel_rfl
/-- (*sluiceway/crq.Op).take -/
def L50 : LFun := { n := 101, pop := true, res := [], code :=
  (.seq (.steps [
    .act (some 5) (.op (.pure (.move (.tmp 0)))) none,
    .act (some 6) (.op (.pure (.nilCheck (.tmp 5)))) none,
    .act (some 7) (.op (.pure (.fieldAddr 5 (.tmp 6)))) none,
    .act (some 8) (.op (.read (.load1 (.tmp 7)))) none])
  (.block 0 (.seq (.steps [
     .act (some 13) (.op (.pure (.bin .eql (.tmp 8) (.const (.int .i64 0))))) none,
     .act (some 12) (.op (.pure (.move (.tmp 13)))) none])
   (.cond (.tmp 12)
    (.seq (.steps [
      .act (some 14) (.op (.pure (.move (.tmp 0)))) none,
      .act (some 15) (.op (.pure (.move (.tmp 1)))) none,
      .act (some 16) (.op (.pure (.move (.tmp 0)))) none,
      .act (some 17) (.op (.pure (.nilCheck (.tmp 16)))) none,
      .act (some 18) (.op (.pure (.fieldAddr 1 (.tmp 17)))) none,
      .act (some 19) (.op (.pure (.fieldAddr 0 (.tmp 18)))) none,
      .act (some 20) (.op (.read (.load1 (.tmp 19)))) none,
      .act (some 21) (.op (.pure (.bin .add (.tmp 20) (.const (.int .i64 0))))) none,
      .act (some 22) (.call (.func 74) [(.tmp 15), (.tmp 21), (.const (w64 1#64))]) none,
      .act (some 23) (.op (.pure (.nilCheck (.tmp 14)))) none,
      .act (some 24) (.op (.pure (.fieldAddr 6 (.tmp 23)))) none,
      .act none (.op (.eff (.store 1 (.tmp 24) (.tmp 22)))) none])
    (.steps [
      .act (some 25) (.op (.pure (.move (.tmp 0)))) none,
      .act (some 26) (.op (.pure (.nilCheck (.tmp 25)))) none,
      .act (some 27) (.op (.pure (.fieldAddr 5 (.tmp 26)))) none,
      .act none (.op (.eff (.store 1 (.tmp 27) (.const (.int .i64 1))))) none]))
    (.seq (.steps [
      .act (some 29) (.op (.pure (.bin .eql (.tmp 8) (.const (.int .i64 1))))) none,
      .act (some 28) (.op (.pure (.move (.tmp 29)))) none])
    (.cond (.tmp 28)
     (.seq (.steps [
       .act (some 30) (.op (.pure (.move (.tmp 0)))) none,
       .act (some 31) (.op (.pure (.move (.tmp 1)))) none,
       .act (some 32) (.op (.pure (.move (.tmp 0)))) none,
       .act (some 33) (.op (.pure (.nilCheck (.tmp 32)))) none,
       .act (some 34) (.op (.pure (.fieldAddr 1 (.tmp 33)))) none,
       .act (some 35) (.op (.read (.loadN 2 (.tmp 34)))) none,
       .act (some 36) (.op (.pure (.move (.tmp 0)))) none,
       .act (some 37) (.op (.pure (.nilCheck (.tmp 36)))) none,
       .act (some 38) (.op (.pure (.fieldAddr 6 (.tmp 37)))) none,
       .act (some 39) (.op (.read (.load1 (.tmp 38)))) none,
       .act (some 40) (.call (.func 41) [(.tmp 35), (.tmp 39)]) none,
       .act (some 41) (.op (.pure (.bin .add (.tmp 40) (.const (.int .i64 1))))) none,
       .act (some 42) (.call (.func 75) [(.tmp 31), (.tmp 41)]) none,
       .act (some 43) (.op (.pure (.nilCheck (.tmp 30)))) none,
       .act (some 44) (.op (.pure (.fieldAddr 7 (.tmp 43)))) none,
       .act none (.op (.eff (.store 1 (.tmp 44) (.tmp 42)))) none])
     (.steps [
       .act (some 45) (.op (.pure (.move (.tmp 0)))) none,
       .act (some 46) (.op (.pure (.nilCheck (.tmp 45)))) none,
       .act (some 47) (.op (.pure (.fieldAddr 5 (.tmp 46)))) none,
       .act none (.op (.eff (.store 1 (.tmp 47) (.const (.int .i64 2))))) none]))
     (.seq (.steps [
       .act (some 49) (.op (.pure (.bin .eql (.tmp 8) (.const (.int .i64 2))))) none,
       .act (some 48) (.op (.pure (.move (.tmp 49)))) none])
     (.cond (.tmp 48)
      (.seq (.steps [
        .act (some 50) (.op (.pure (.move (.tmp 0)))) none,
        .act (some 51) (.op (.pure (.move (.tmp 1)))) none,
        .act (some 52) (.op (.pure (.move (.tmp 0)))) none,
        .act (some 53) (.op (.pure (.nilCheck (.tmp 52)))) none,
        .act (some 54) (.op (.pure (.fieldAddr 1 (.tmp 53)))) none,
        .act (some 55) (.op (.read (.loadN 2 (.tmp 54)))) none,
        .act (some 56) (.op (.pure (.move (.tmp 0)))) none,
        .act (some 57) (.op (.pure (.nilCheck (.tmp 56)))) none,
        .act (some 58) (.op (.pure (.fieldAddr 6 (.tmp 57)))) none,
        .act (some 59) (.op (.read (.load1 (.tmp 58)))) none,
        .act (some 60) (.call (.func 41) [(.tmp 55), (.tmp 59)]) none,
        .act (some 61) (.call (.func 75) [(.tmp 51), (.tmp 60)]) none,
        .act (some 62) (.op (.pure (.nilCheck (.tmp 50)))) none,
        .act (some 63) (.op (.pure (.fieldAddr 8 (.tmp 62)))) none,
        .act none (.op (.eff (.store 1 (.tmp 63) (.tmp 61)))) none])
      (.steps [
        .act (some 64) (.op (.pure (.move (.tmp 0)))) none,
        .act (some 65) (.op (.pure (.move (.tmp 0)))) none,
        .act (some 66) (.op (.pure (.nilCheck (.tmp 65)))) none,
        .act (some 67) (.op (.pure (.fieldAddr 8 (.tmp 66)))) none,
        .act (some 68) (.op (.read (.load1 (.tmp 67)))) none,
        .act (some 70) (.op (.pure (.move (.tmp 0)))) none,
        .act (some 71) (.op (.pure (.nilCheck (.tmp 70)))) none,
        .act (some 72) (.op (.pure (.fieldAddr 6 (.tmp 71)))) none,
        .act (some 73) (.op (.read (.load1 (.tmp 72)))) none,
        .act (some 69) (.call (.func 77) [(.tmp 68)]) none,
        .act (some 74) (.op (.pure (.bin .gtr (.tmp 69) (.tmp 73)))) none,
        .again 73 (.load1 (.tmp 72)) none,
        .act (some 75) (.call (.func 76) [(.tmp 64), (.tmp 74), (.const (.int .i64 5)), (.const (.int .i64 3))]) none]))
      (.seq (.steps [
        .act (some 77) (.op (.pure (.bin .eql (.tmp 8) (.const (.int .i64 3))))) none,
        .act (some 76) (.op (.pure (.move (.tmp 77)))) none])
      (.cond (.tmp 76)
       (.steps [
         .act (some 78) (.op (.pure (.move (.tmp 0)))) none,
         .act (some 79) (.op (.pure (.move (.tmp 1)))) none,
         .act (some 80) (.call (.func 79) [(.tmp 78), (.tmp 79)]) none])
       (.seq (.steps [
         .act (some 82) (.op (.pure (.bin .eql (.tmp 8) (.const (.int .i64 5))))) none,
         .act (some 81) (.op (.pure (.move (.tmp 82)))) none])
       (.cond (.tmp 81)
        (.seq (.steps [
          .act (some 83) (.op (.pure (.move (.tmp 1)))) none,
          .act (some 84) (.op (.pure (.move (.tmp 0)))) none,
          .act (some 85) (.op (.pure (.nilCheck (.tmp 84)))) none,
          .act (some 86) (.op (.pure (.fieldAddr 1 (.tmp 85)))) none,
          .act (some 87) (.op (.pure (.fieldAddr 0 (.tmp 86)))) none,
          .act (some 88) (.op (.read (.load1 (.tmp 87)))) none,
          .act (some 89) (.op (.pure (.bin .add (.tmp 88) (.const (.int .i64 1))))) none,
          .act (some 90) (.call (.func 75) [(.tmp 83), (.tmp 89)]) none,
          .act (some 91) (.op (.pure (.bin .andNot (.tmp 90) (.const (w64 9223372036854775808#64))))) none,
          .act (some 4) (.op (.pure (.move (.tmp 91)))) none])
        (.steps [
          .act (some 92) (.op (.pure (.move (.tmp 0)))) none,
          .act (some 93) (.op (.pure (.move (.tmp 4)))) none,
          .act (some 94) (.op (.pure (.move (.tmp 0)))) none,
          .act (some 95) (.op (.pure (.nilCheck (.tmp 94)))) none,
          .act (some 96) (.op (.pure (.fieldAddr 6 (.tmp 95)))) none,
          .act (some 97) (.op (.read (.load1 (.tmp 96)))) none,
          .act (some 98) (.op (.pure (.bin .add (.tmp 97) (.const (w64 1#64))))) none,
          .act (some 99) (.op (.pure (.bin .leq (.tmp 93) (.tmp 98)))) none,
          .act (some 100) (.call (.func 76) [(.tmp 92), (.tmp 99), (.const (.int .i64 6)), (.const (.int .i64 0))]) none]))
        (.steps [
          .act (some 9) (.op (.pure (.move (.tmp 0)))) none,
          .act (some 10) (.op (.pure (.move (.tmp 1)))) none,
          .act (some 11) (.call (.func 80) [(.tmp 9), (.tmp 10)]) none]))))))))))))) }
theorem c50 : compFn Try.prog (mkPlan Try.prog) [] true 50 = some L50 := by kernel_rfl
/-- (*sluiceway/crq.Op).none -/
def L51 : LFun := { n := 12, pop := true, res := [.tmp 2], code :=
  (.seq (.steps [
    .act (some 2) (.op (.pure (.move (.const (.bool false))))) none])
  (.seq (.steps [
    .act (some 3) (.op (.pure (.move (.tmp 0)))) none,
    .act (some 4) (.op (.pure (.eqNil .p false (.tmp 3) (.const (.pointer none))))) none,
    .act (some 5) (.op (.pure (.move (.tmp 4)))) none,
    .act (some 6) (.op (.pure (.move (.tmp 0)))) (some (5, false)),
    .act (some 7) (.op (.pure (.nilCheck (.tmp 6)))) (some (5, false)),
    .act (some 8) (.op (.pure (.fieldAddr 0 (.tmp 7)))) (some (5, false)),
    .act (some 9) (.op (.read (.load1 (.tmp 8)))) (some (5, false)),
    .act (some 10) (.op (.pure (.not (.tmp 9)))) (some (5, false)),
    .act (some 11) (.op (.pure (.pick (.tmp 5) (.const (.bool true)) (.tmp 10)))) none,
    .act (some 2) (.op (.pure (.move (.tmp 11)))) none])
  .ret)) }
theorem c51 : compFn Try.prog (mkPlan Try.prog) [] true 51 = some L51 := by kernel_rfl
/-- slices.Clone[[]uint64,uint64] -/
def L52 : LFun := { n := 8, pop := false, res := [.tmp 2], code :=
  (.seq (.steps [
    .act (some 2) (.op (.pure (.move (.const (.slice none 0 0))))) none])
  (.seq (.seq (.steps [
    .act (some 3) (.op (.pure (.move (.tmp 0)))) none,
    .act (some 4) (.op (.pure (.eqNil .s false (.tmp 3) (.const (.slice none 0 0))))) none])
  (.cond (.tmp 4)
   (.seq (.steps [
     .act (some 2) (.op (.pure (.move (.const (.slice none 0 0))))) none])
   .ret)
   .skip))
  (.seq (.steps [
    .act (some 5) (.op (.new (.mkSlice 1 0 [] []))) none,
    .act (some 6) (.op (.pure (.move (.tmp 0)))) none,
    .act (some 7) (.op (.eff (.append 1 8 (.tmp 5) (.tmp 6)))) none,
    .act (some 2) (.op (.pure (.move (.tmp 7)))) none])
  .ret))) }
theorem c52 : compFn Try.prog (mkPlan Try.prog) [] false 52 = some L52 := by kernel_rfl
/-- sluiceway/crq.begin -/
def L53 : LFun := { n := 24, pop := false, res := [.tmp 6], code :=
  (.seq (.steps [
    .act (some 3) (.op (.new (.box (.tmp 0)))) none,
    .act (some 6) (.op (.pure (.move (.const (.pointer none))))) none])
  (.seq (.steps [
    .act (some 8) (.op (.read (.loadN 2 (.tmp 3)))) none,
    .act (some 9) (.op (.pure (.move (.tmp 1)))) none,
    .act (some 10) (.op (.pure (.move (.tmp 2)))) none,
    .act (some 11) (.op (.pure (.build [(.bool false), (.int .i64 0), (.int .i64 0), (.int .i64 0), (w64 0#64), (.int .i64 0), (w64 0#64), (w64 0#64), (w64 0#64), (w64 0#64), (w64 0#64), (.int .i64 0), (.int .i64 0), (w64 0#64)] [(0, 1, (.const (.bool true))), (1, 2, (.tmp 8)), (3, 1, (.tmp 9)), (4, 1, (.tmp 10))]))) none,
    .act (some 12) (.op (.new (.box (.tmp 11)))) none,
    .act (some 7) (.op (.pure (.move (.tmp 12)))) none])
  (.seq (.seq (.steps [
    .act (some 13) (.op (.read (.loadN 2 (.tmp 3)))) none,
    .act (some 14) (.call (.func 29) [(.tmp 13)]) none,
    .act (some 15) (.op (.pure (.not (.tmp 14)))) none,
    .act (some 16) (.op (.pure (.move (.tmp 15)))) none,
    .act (some 17) (.op (.pure (.move (.tmp 2)))) (some (16, false)),
    .act (some 18) (.op (.pure (.bin .shr (.tmp 17) (.const (w64 62#64))))) (some (16, false)),
    .act (some 19) (.op (.pure (.bin .neq (.tmp 18) (.const (w64 0#64))))) (some (16, false)),
    .act (some 20) (.op (.pure (.pick (.tmp 16) (.const (.bool true)) (.tmp 19)))) none])
  (.cond (.tmp 20)
   (.steps [
     .act (some 21) (.op (.pure (.move (.tmp 7)))) none,
     .act (some 22) (.call (.func 73) [(.tmp 21), (.const (.int .i64 2)), (.const (w64 0#64))]) none])
   .skip))
  (.seq (.steps [
    .act (some 23) (.op (.pure (.move (.tmp 7)))) none,
    .act (some 6) (.op (.pure (.move (.tmp 23)))) none])
  .ret)))) }
theorem c53 : compFn Try.prog (mkPlan Try.prog) [] false 53 = some L53 := by kernel_rfl
/-- (*sluiceway/mem.Mem).none -/
def L54 : LFun := { n := 13, pop := true, res := [.tmp 2], code :=
  (.seq (.steps [
    .act (some 2) (.op (.pure (.move (.const (.bool false))))) none])
  (.seq (.steps [
    .act (some 3) (.op (.pure (.move (.tmp 0)))) none,
    .act (some 4) (.op (.pure (.eqNil .p false (.tmp 3) (.const (.pointer none))))) none,
    .act (some 5) (.op (.pure (.move (.tmp 4)))) none,
    .act (some 6) (.op (.pure (.move (.tmp 0)))) (some (5, false)),
    .act (some 7) (.op (.pure (.nilCheck (.tmp 6)))) (some (5, false)),
    .act (some 8) (.op (.pure (.fieldAddr 0 (.tmp 7)))) (some (5, false)),
    .act (some 9) (.op (.read (.load1 (.tmp 8)))) (some (5, false)),
    .act (some 10) (.op (.pure (.len false (.tmp 9)))) (some (5, false)),
    .act (some 11) (.op (.pure (.bin .eql (.tmp 10) (.const (.int .i64 0))))) (some (5, false)),
    .act (some 12) (.op (.pure (.pick (.tmp 5) (.const (.bool true)) (.tmp 11)))) none,
    .act (some 2) (.op (.pure (.move (.tmp 12)))) none])
  .ret)) }
theorem c54 : compFn Try.prog (mkPlan Try.prog) [] true 54 = some L54 := by kernel_rfl
/-- sluiceway/word.Power -/
def L56 : LFun := { n := 6, pop := true, res := [.tmp 2], code :=
  (.seq (.steps [
    .act (some 2) (.op (.pure (.move (.const (.bool false))))) none])
  (.seq (.steps [
    .act (some 3) (.op (.pure (.move (.tmp 0)))) none,
    .act (some 4) (.call (.func 81) [(.tmp 3)]) none,
    .act (some 5) (.op (.pure (.bin .eql (.tmp 4) (.const (.int .i64 1))))) none,
    .act (some 2) (.op (.pure (.move (.tmp 5)))) none])
  .ret)) }
theorem c56 : compFn Try.prog (mkPlan Try.prog) [] true 56 = some L56 := by kernel_rfl
/-- (sluiceway/spec.Fifo).full -/
def L57 : LFun := { n := 14, pop := true, res := [.tmp 2], code :=
  (.seq (.steps [
    .act (some 1) (.op (.new (.box (.tmp 0)))) none,
    .act (some 2) (.op (.pure (.move (.const (.bool false))))) none])
  (.seq (.steps [
    .act (some 3) (.op (.pure (.fieldAddr 0 (.tmp 1)))) none,
    .act (some 4) (.op (.read (.load1 (.tmp 3)))) none,
    .act (some 5) (.op (.pure (.bin .gtr (.tmp 4) (.const (.int .i64 0))))) none,
    .act (some 6) (.op (.pure (.move (.tmp 5)))) none,
    .act (some 7) (.op (.pure (.fieldAddr 1 (.tmp 1)))) (some (6, true)),
    .act (some 8) (.op (.read (.load1 (.tmp 7)))) (some (6, true)),
    .act (some 9) (.op (.pure (.len false (.tmp 8)))) (some (6, true)),
    .act (some 10) (.op (.pure (.fieldAddr 0 (.tmp 1)))) (some (6, true)),
    .act (some 11) (.op (.read (.load1 (.tmp 10)))) (some (6, true)),
    .act (some 12) (.op (.pure (.bin .geq (.tmp 9) (.tmp 11)))) (some (6, true)),
    .act (some 13) (.op (.pure (.pick (.tmp 6) (.tmp 12) (.const (.bool false))))) none,
    .act (some 2) (.op (.pure (.move (.tmp 13)))) none])
  .ret)) }
theorem c57 : compFn Try.prog (mkPlan Try.prog) [] true 57 = some L57 := by kernel_rfl
/-- (sluiceway/spec.Fifo).with -/
def L58 : LFun := { n := 25, pop := false, res := [.loadN 2 4], code :=
  (.seq (.steps [
    .act (some 2) (.op (.new (.box (.tmp 0)))) none,
    .act (some 4) (.op (.new (.alloc [(.int .i64 0), (.slice none 0 0)]))) none])
  (.seq (.steps [
    .act (some 6) (.op (.pure (.fieldAddr 1 (.tmp 2)))) none,
    .act (some 7) (.op (.read (.load1 (.tmp 6)))) none,
    .act (some 8) (.op (.pure (.len false (.tmp 7)))) none,
    .act (some 9) (.op (.pure (.fieldAddr 1 (.tmp 2)))) none,
    .act (some 10) (.op (.read (.load1 (.tmp 9)))) none,
    .act (some 11) (.op (.pure (.len false (.tmp 10)))) none,
    .act (some 12) (.op (.pure (.bin .add (.tmp 11) (.const (.int .i64 1))))) none,
    .act (some 13) (.op (.new (.makeSlice 1 8 [(w64 0#64)] (.tmp 8) (.tmp 12)))) none,
    .act (some 5) (.op (.pure (.move (.tmp 13)))) none])
  (.seq (.steps [
    .act (some 14) (.op (.pure (.move (.tmp 5)))) none,
    .act (some 15) (.op (.pure (.fieldAddr 1 (.tmp 2)))) none,
    .act (some 16) (.op (.read (.load1 (.tmp 15)))) none,
    .act (some 17) (.op (.eff (.copy 1 (.tmp 14) (.tmp 16)))) none])
  (.seq (.steps [
    .act (some 18) (.op (.pure (.fieldAddr 0 (.tmp 2)))) none,
    .act (some 19) (.op (.read (.load1 (.tmp 18)))) none,
    .act (some 20) (.op (.pure (.move (.tmp 5)))) none,
    .act (some 21) (.op (.pure (.move (.tmp 1)))) none,
    .act (some 22) (.op (.new (.mkSlice 1 1 [(w64 0#64)] [(0, 1, (.tmp 21))]))) none,
    .act (some 23) (.op (.eff (.append 1 8 (.tmp 20) (.tmp 22)))) none,
    .act (some 24) (.op (.pure (.build [(.int .i64 0), (.slice none 0 0)] [(0, 1, (.tmp 19)), (1, 1, (.tmp 23))]))) none,
    .again 19 (.load1 (.tmp 18)) none,
    .act none (.op (.eff (.store 2 (.tmp 4) (.tmp 24)))) none])
  .ret)))) }
theorem c58 : compFn Try.prog (mkPlan Try.prog) [] false 58 = some L58 := by kernel_rfl
/-- (sluiceway/spec.Fifo).rest -/
def L59 : LFun := { n := 16, pop := false, res := [.loadN 2 2], code :=
  (.seq (.steps [
    .act (some 1) (.op (.new (.box (.tmp 0)))) none,
    .act (some 2) (.op (.new (.alloc [(.int .i64 0), (.slice none 0 0)]))) none])
  (.seq (.steps [
    .act (some 3) (.op (.pure (.fieldAddr 0 (.tmp 1)))) none,
    .act (some 4) (.op (.read (.load1 (.tmp 3)))) none,
    .act (some 5) (.op (.pure (.fieldAddr 1 (.tmp 1)))) none,
    .act (some 6) (.op (.read (.load1 (.tmp 5)))) none,
    .act (some 7) (.op (.pure (.fieldAddr 1 (.tmp 1)))) none,
    .act (some 8) (.op (.read (.load1 (.tmp 7)))) none,
    .act (some 9) (.op (.pure (.len false (.tmp 8)))) none,
    .act (some 10) (.op (.pure (.fieldAddr 1 (.tmp 1)))) none,
    .act (some 11) (.op (.read (.load1 (.tmp 10)))) none,
    .act (some 12) (.op (.pure (.len false (.tmp 11)))) none,
    .act (some 13) (.op (.read (.slSl 1 (.tmp 6) (some (.const (.int .i64 1))) (some (.tmp 9)) (some (.tmp 12))))) none,
    .act (some 14) (.call (.func 52) [(.tmp 13)]) none,
    .act (some 15) (.op (.pure (.build [(.int .i64 0), (.slice none 0 0)] [(0, 1, (.tmp 4)), (1, 1, (.tmp 14))]))) none,
    .again 4 (.load1 (.tmp 3)) none,
    .act none (.op (.eff (.store 2 (.tmp 2) (.tmp 15)))) none])
  .ret)) }
theorem c59 : compFn Try.prog (mkPlan Try.prog) [] false 59 = some L59 := by kernel_rfl
/-- (*sluiceway/hist.Log).Open -/
def L60 : LFun := { n := 21, pop := true, res := [.tmp 4, .tmp 5], code :=
  (.seq (.steps [
    .act (some 4) (.op (.pure (.move (.const (.int .i64 0))))) none,
    .act (some 5) (.op (.pure (.move (.const (.bool false))))) none])
  (.seq (.seq (.steps [
    .act (some 8) (.op (.pure (.move (.tmp 0)))) none,
    .act (some 9) (.call (.func 61) [(.tmp 8)]) none])
  (.cond (.tmp 9)
   (.seq (.steps [
     .act (some 4) (.op (.pure (.move (.const (.int .i64 0))))) none,
     .act (some 5) (.op (.pure (.move (.const (.bool false))))) none])
   .ret)
   .skip))
  (.seq (.steps [
    .act (some 11) (.op (.pure (.move (.tmp 0)))) none,
    .act (some 12) (.op (.pure (.nilCheck (.tmp 11)))) none,
    .act (some 13) (.op (.pure (.fieldAddr 1 (.tmp 12)))) none,
    .act (some 14) (.op (.read (.load1 (.tmp 13)))) none,
    .act (some 15) (.op (.pure (.move (.tmp 1)))) none,
    .act (some 16) (.op (.read (.lookup false (.int .i64 0) true (.tmp 14) (.tmp 15)))) none,
    .act (some 10) (.op (.pure (.move (.tmp 16)))) none,
    .act (some 17) (.op (.pure (.extract (.tmp 10) 0))) none,
    .act (some 18) (.op (.pure (.extract (.tmp 10) 1))) none,
    .act (some 6) (.op (.pure (.move (.tmp 17)))) none,
    .act (some 7) (.op (.pure (.move (.tmp 18)))) none])
  (.seq (.steps [
    .act (some 19) (.op (.pure (.move (.tmp 6)))) none,
    .act (some 20) (.op (.pure (.move (.tmp 7)))) none,
    .act (some 4) (.op (.pure (.move (.tmp 19)))) none,
    .act (some 5) (.op (.pure (.move (.tmp 20)))) none])
  .ret)))) }
theorem c60 : compFn Try.prog (mkPlan Try.prog) [] true 60 = some L60 := by kernel_rfl
/-- (*sluiceway/hist.Log).none -/
def L61 : LFun := { n := 12, pop := true, res := [.tmp 2], code :=
  (.seq (.steps [
    .act (some 2) (.op (.pure (.move (.const (.bool false))))) none])
  (.seq (.steps [
    .act (some 3) (.op (.pure (.move (.tmp 0)))) none,
    .act (some 4) (.op (.pure (.eqNil .p false (.tmp 3) (.const (.pointer none))))) none,
    .act (some 5) (.op (.pure (.move (.tmp 4)))) none,
    .act (some 6) (.op (.pure (.move (.tmp 0)))) (some (5, false)),
    .act (some 7) (.op (.pure (.nilCheck (.tmp 6)))) (some (5, false)),
    .act (some 8) (.op (.pure (.fieldAddr 1 (.tmp 7)))) (some (5, false)),
    .act (some 9) (.op (.read (.load1 (.tmp 8)))) (some (5, false)),
    .act (some 10) (.op (.pure (.eqNil .m false (.tmp 9) (.const (.map none))))) (some (5, false)),
    .act (some 11) (.op (.pure (.pick (.tmp 5) (.const (.bool true)) (.tmp 10)))) none,
    .act (some 2) (.op (.pure (.move (.tmp 11)))) none])
  .ret)) }
theorem c61 : compFn Try.prog (mkPlan Try.prog) [] true 61 = some L61 := by kernel_rfl
/-- (*sluiceway/hist.Log).Step -/
def L62 : LFun := { n := 12, pop := true, res := [], code :=
  (.seq (.steps [
    .act (some 2) (.op (.pure (.move (.tmp 0)))) none,
    .act (some 3) (.call (.func 61) [(.tmp 2)]) none,
    .act (some 4) (.op (.pure (.not (.tmp 3)))) none])
  (.cond (.tmp 4)
   (.steps [
     .act (some 5) (.op (.pure (.move (.tmp 0)))) none,
     .act (some 6) (.op (.pure (.nilCheck (.tmp 5)))) none,
     .act (some 7) (.op (.pure (.fieldAddr 2 (.tmp 6)))) none,
     .act (some 8) (.op (.read (.load1 (.tmp 7)))) none,
     .act (some 9) (.op (.pure (.bin .add (.tmp 8) (.const (.int .i64 1))))) none,
     .act (some 10) (.op (.pure (.nilCheck (.tmp 5)))) none,
     .act (some 11) (.op (.pure (.fieldAddr 2 (.tmp 10)))) none,
     .act none (.op (.eff (.store 1 (.tmp 11) (.tmp 9)))) none])
   .skip)) }
theorem c62 : compFn Try.prog (mkPlan Try.prog) [] true 62 = some L62 := by kernel_rfl
/-- slices.Clone[[]sluiceway/hist.Call,sluiceway/hist.Call] -/
def L63 : LFun := { n := 8, pop := false, res := [.tmp 2], code :=
  (.seq (.steps [
    .act (some 2) (.op (.pure (.move (.const (.slice none 0 0))))) none])
  (.seq (.seq (.steps [
    .act (some 3) (.op (.pure (.move (.tmp 0)))) none,
    .act (some 4) (.op (.pure (.eqNil .s false (.tmp 3) (.const (.slice none 0 0))))) none])
  (.cond (.tmp 4)
   (.seq (.steps [
     .act (some 2) (.op (.pure (.move (.const (.slice none 0 0))))) none])
   .ret)
   .skip))
  (.seq (.steps [
    .act (some 5) (.op (.new (.mkSlice 8 0 [] []))) none,
    .act (some 6) (.op (.pure (.move (.tmp 0)))) none,
    .act (some 7) (.op (.eff (.append 8 64 (.tmp 5) (.tmp 6)))) none,
    .act (some 2) (.op (.pure (.move (.tmp 7)))) none])
  .ret))) }
theorem c63 : compFn Try.prog (mkPlan Try.prog) [] false 63 = some L63 := by kernel_rfl
/-- sluiceway/lin.Search[sluiceway/spec.Fifo] -/
def L64 : LFun := { n := 86, pop := false, res := [.tmp 8, .tmp 9], code :=
  (.seq (.steps [
    .act (some 5) (.op (.new (.box (.tmp 1)))) none,
    .act (some 8) (.op (.pure (.move (.const (.slice none 0 0))))) none,
    .act (some 9) (.op (.pure (.move (.const (.bool false))))) none])
  (.seq (.seq (.steps [
    .act (some 16) (.op (.pure (.move (.tmp 0)))) none,
    .act (some 17) (.op (.pure (.len false (.tmp 16)))) none,
    .act (some 18) (.op (.pure (.bin .gtr (.tmp 17) (.const (.int .i64 62))))) none,
    .act (some 19) (.op (.pure (.move (.tmp 18)))) none,
    .act (some 20) (.op (.pure (.move (.tmp 0)))) (some (19, false)),
    .act (some 21) (.call (.func 82) [(.tmp 20)]) (some (19, false)),
    .act (some 22) (.op (.pure (.not (.tmp 21)))) (some (19, false)),
    .act (some 23) (.op (.pure (.pick (.tmp 19) (.const (.bool true)) (.tmp 22)))) none])
  (.cond (.tmp 23)
   (.seq (.steps [
     .act (some 8) (.op (.pure (.move (.const (.slice none 0 0))))) none,
     .act (some 9) (.op (.pure (.move (.const (.bool false))))) none])
   .ret)
   .skip))
  (.seq (.steps [
    .act (some 24) (.op (.pure (.move (.tmp 0)))) none,
    .act (some 25) (.op (.pure (.move (.tmp 2)))) none,
    .act (some 26) (.op (.pure (.move (.tmp 3)))) none,
    .act (some 27) (.op (.new (.makeMap))) none,
    .act (some 28) (.op (.pure (.build [(.slice none 0 0), (.slice none 0 0), (w64 0#64), .nilFunc, .nilFunc, (.map none), (.slice none 0 0)] [(0, 1, (.tmp 24)), (3, 1, (.tmp 25)), (4, 1, (.tmp 26)), (5, 1, (.tmp 27))]))) none,
    .act (some 29) (.op (.new (.box (.tmp 28)))) none,
    .act (some 10) (.op (.pure (.move (.tmp 29)))) none])
  (.seq (.seq (.steps [
    .act (some 30) (.op (.pure (.move (.tmp 0)))) none,
    .act (some 31) (.op (.pure (.len false (.tmp 30)))) none,
    .act (some 32) (.op (.pure (.move (.const (.int .i64 0))))) none])
  (.block 0 (.loop [0, 5, 10, 30, 31, 32] (.seq (.steps [
      .act (some 33) (.op (.pure (.bin .lss (.tmp 32) (.tmp 31)))) none])
    (.seq (.cond (.tmp 33)
     .skip
     (.exit 0))
    (.seq (.block 1 (.seq (.steps [
       .act (some 34) (.op (.pure (.move (.tmp 32)))) none,
       .act (some 35) (.op (.pure (.idxSl 8 (.tmp 30) (.tmp 32)))) none,
       .act (some 36) (.op (.read (.loadN 8 (.tmp 35)))) none,
       .act (some 12) (.op (.new (.alloc [(.int .i64 0), (.int .i64 0), (w64 0#64), (.int .i64 0), (.int .i64 0), (.bool false), (.int .i64 0), (w64 0#64)]))) none,
       .act (some 11) (.op (.pure (.move (.tmp 34)))) none,
       .act none (.op (.eff (.store 8 (.tmp 12) (.tmp 36)))) none])
     (.seq (.steps [
       .act (some 13) (.op (.pure (.move (.const (w64 0#64))))) none])
     (.seq (.seq (.steps [
       .act (some 37) (.op (.pure (.move (.tmp 0)))) none,
       .act (some 38) (.op (.pure (.len false (.tmp 37)))) none,
       .act (some 39) (.op (.pure (.move (.const (.int .i64 0))))) none])
     (.block 2 (.loop [0, 5, 10, 11, 12, 13, 30, 31, 32, 37, 38, 39] (.seq (.steps [
         .act (some 40) (.op (.pure (.bin .lss (.tmp 39) (.tmp 38)))) none])
       (.seq (.cond (.tmp 40)
        .skip
        (.exit 2))
       (.seq (.block 3 (.seq (.steps [
          .act (some 41) (.op (.pure (.move (.tmp 39)))) none,
          .act (some 42) (.op (.pure (.idxSl 8 (.tmp 37) (.tmp 39)))) none,
          .act (some 43) (.op (.read (.loadN 8 (.tmp 42)))) none,
          .act (some 15) (.op (.new (.alloc [(.int .i64 0), (.int .i64 0), (w64 0#64), (.int .i64 0), (.int .i64 0), (.bool false), (.int .i64 0), (w64 0#64)]))) none,
          .act (some 14) (.op (.pure (.move (.tmp 41)))) none,
          .act none (.op (.eff (.store 8 (.tmp 15) (.tmp 43)))) none])
        (.seq (.steps [
          .act (some 44) (.op (.pure (.move (.tmp 14)))) none,
          .act (some 45) (.op (.pure (.move (.tmp 11)))) none,
          .act (some 46) (.op (.pure (.bin .neq (.tmp 44) (.tmp 45)))) none,
          .act (some 47) (.op (.pure (.move (.tmp 46)))) none,
          .act (some 48) (.op (.read (.loadN 8 (.tmp 15)))) (some (47, true)),
          .act (some 49) (.op (.read (.loadN 8 (.tmp 12)))) (some (47, true)),
          .act (some 50) (.call (.func 36) [(.tmp 48), (.tmp 49)]) (some (47, true)),
          .act (some 51) (.op (.pure (.pick (.tmp 47) (.tmp 50) (.const (.bool false))))) none])
        (.cond (.tmp 51)
         (.steps [
           .act (some 52) (.op (.pure (.move (.tmp 13)))) none,
           .act (some 53) (.op (.pure (.move (.tmp 14)))) none,
           .act (some 54) (.call (.func 83) [(.tmp 52), (.tmp 53)]) none,
           .act (some 13) (.op (.pure (.move (.tmp 54)))) none])
         .skip))))
       (.steps [
         .act (some 55) (.op (.pure (.bin .add (.tmp 39) (.const (.int .i64 1))))) none,
         .act (some 39) (.op (.pure (.move (.tmp 55)))) none])))))))
     (.seq (.steps [
       .act (some 56) (.op (.pure (.move (.tmp 10)))) none,
       .act (some 57) (.op (.pure (.move (.tmp 10)))) none,
       .act (some 58) (.op (.pure (.nilCheck (.tmp 57)))) none,
       .act (some 59) (.op (.pure (.fieldAddr 1 (.tmp 58)))) none,
       .act (some 60) (.op (.read (.load1 (.tmp 59)))) none,
       .act (some 61) (.op (.pure (.move (.tmp 13)))) none,
       .act (some 62) (.op (.new (.mkSlice 1 1 [(w64 0#64)] [(0, 1, (.tmp 61))]))) none,
       .act (some 63) (.op (.eff (.append 1 8 (.tmp 60) (.tmp 62)))) none,
       .act (some 64) (.op (.pure (.nilCheck (.tmp 56)))) none,
       .act (some 65) (.op (.pure (.fieldAddr 1 (.tmp 64)))) none,
       .act none (.op (.eff (.store 1 (.tmp 65) (.tmp 63)))) none])
     (.seq (.steps [
       .act (some 66) (.op (.pure (.fieldAddr 5 (.tmp 12)))) none,
       .act (some 67) (.op (.read (.load1 (.tmp 66)))) none])
     (.cond (.tmp 67)
      (.steps [
        .act (some 68) (.op (.pure (.move (.tmp 10)))) none,
        .act (some 69) (.op (.pure (.move (.tmp 10)))) none,
        .act (some 70) (.op (.pure (.nilCheck (.tmp 69)))) none,
        .act (some 71) (.op (.pure (.fieldAddr 2 (.tmp 70)))) none,
        .act (some 72) (.op (.read (.load1 (.tmp 71)))) none,
        .act (some 73) (.op (.pure (.move (.tmp 11)))) none,
        .act (some 74) (.call (.func 83) [(.tmp 72), (.tmp 73)]) none,
        .act (some 75) (.op (.pure (.nilCheck (.tmp 68)))) none,
        .act (some 76) (.op (.pure (.fieldAddr 2 (.tmp 75)))) none,
        .act none (.op (.eff (.store 1 (.tmp 76) (.tmp 74)))) none])
      .skip)))))))
    (.steps [
      .act (some 77) (.op (.pure (.bin .add (.tmp 32) (.const (.int .i64 1))))) none,
      .act (some 32) (.op (.pure (.move (.tmp 77)))) none])))))))
  (.seq (.seq (.steps [
    .act (some 78) (.op (.pure (.move (.tmp 10)))) none,
    .act (some 79) (.op (.read (.loadN 2 (.tmp 5)))) none,
    .act (some 80) (.call (.func 84) [(.tmp 78), (.const (w64 0#64)), (.tmp 79)]) none,
    .act (some 81) (.op (.pure (.not (.tmp 80)))) none])
  (.cond (.tmp 81)
   (.seq (.steps [
     .act (some 8) (.op (.pure (.move (.const (.slice none 0 0))))) none,
     .act (some 9) (.op (.pure (.move (.const (.bool false))))) none])
   .ret)
   .skip))
  (.seq (.steps [
    .act (some 82) (.op (.pure (.move (.tmp 10)))) none,
    .act (some 83) (.op (.pure (.nilCheck (.tmp 82)))) none,
    .act (some 84) (.op (.pure (.fieldAddr 6 (.tmp 83)))) none,
    .act (some 85) (.op (.read (.load1 (.tmp 84)))) none,
    .act (some 8) (.op (.pure (.move (.tmp 85)))) none,
    .act (some 9) (.op (.pure (.move (.const (.bool true))))) none])
  .ret)))))) }
theorem c64 : compFn Try.prog (mkPlan Try.prog) [(5, [0, 5, 10, 30, 31, 32]), (9, [0, 5, 10, 11, 12, 13, 30, 31, 32, 37, 38, 39])] false 64 = some L64 := by kernel_rfl
/-- sluiceway/lin.may -/
def L65 : LFun := { n := 6, pop := false, res := [.tmp 4], code :=
  (.seq (.steps [
    .act (some 2) (.op (.new (.box (.tmp 0)))) none,
    .act (some 3) (.op (.new (.box (.tmp 1)))) none,
    .act (some 4) (.op (.pure (.move (.const .nilFunc)))) none])
  (.seq (.steps [
    .act (some 5) (.op (.pure (.mkFunc 85 [] [(.tmp 2), (.tmp 3)]))) none,
    .act (some 4) (.op (.pure (.move (.tmp 5)))) none])
  .ret)) }
theorem c65 : compFn Try.prog (mkPlan Try.prog) [] false 65 = some L65 := by kernel_rfl
/-- (sluiceway/spec.Fifo).Key -/
def L66 : LFun := { n := 23, pop := true, res := [.tmp 2], code :=
  (.seq (.steps [
    .act (some 1) (.op (.new (.box (.tmp 0)))) none,
    .act (some 2) (.op (.pure (.move (.const (strV []))))) none])
  (.seq (.steps [
    .act (some 6) (.op (.pure (.fieldAddr 0 (.tmp 1)))) none,
    .act (some 7) (.op (.read (.load1 (.tmp 6)))) none,
    .act (some 8) (.op (.pure (.conv .u64 (.tmp 7)))) none,
    .act (some 9) (.call (.func 88) [(.const (.slice none 0 0)), (.tmp 8)]) none,
    .act (some 3) (.op (.pure (.move (.tmp 9)))) none])
  (.seq (.seq (.steps [
    .act (some 10) (.op (.pure (.fieldAddr 1 (.tmp 1)))) none,
    .act (some 11) (.op (.read (.load1 (.tmp 10)))) none,
    .act (some 12) (.op (.pure (.len false (.tmp 11)))) none,
    .act (some 13) (.op (.pure (.move (.const (.int .i64 0))))) none])
  (.block 0 (.loop [3, 11, 12, 13] (.seq (.steps [
      .act (some 14) (.op (.pure (.bin .lss (.tmp 13) (.tmp 12)))) none])
    (.seq (.cond (.tmp 14)
     .skip
     (.exit 0))
    (.seq (.block 1 (.seq (.steps [
       .act (some 15) (.op (.pure (.idxSl 1 (.tmp 11) (.tmp 13)))) none,
       .act (some 16) (.op (.read (.load1 (.tmp 15)))) none,
       .act (some 5) (.op (.pure (.move (.tmp 16)))) none])
     (.steps [
       .act (some 17) (.op (.pure (.move (.tmp 3)))) none,
       .act (some 18) (.op (.pure (.move (.tmp 5)))) none,
       .act (some 19) (.call (.func 88) [(.tmp 17), (.tmp 18)]) none,
       .act (some 3) (.op (.pure (.move (.tmp 19)))) none])))
    (.steps [
      .act (some 20) (.op (.pure (.bin .add (.tmp 13) (.const (.int .i64 1))))) none,
      .act (some 13) (.op (.pure (.move (.tmp 20)))) none])))))))
  (.seq (.steps [
    .act (some 21) (.op (.pure (.move (.tmp 3)))) none,
    .act (some 22) (.op (.read (.b2s (.tmp 21)))) none,
    .act (some 2) (.op (.pure (.move (.tmp 22)))) none])
  .ret)))) }
theorem c66 : compFn Try.prog (mkPlan Try.prog) [(3, [3, 11, 12, 13])] true 66 = some L66 := by kernel_rfl
/-- (*sluiceway/mem.Mem).use -/
def L67 : LFun := { n := 34, pop := true, res := [], code :=
  (.seq (.seq (.steps [
    .act (some 8) (.op (.pure (.move (.tmp 0)))) none,
    .act (some 9) (.call (.func 54) [(.tmp 8)]) none])
  (.cond (.tmp 9)
   .ret
   .skip))
  (.seq (.steps [
    .act (some 10) (.op (.pure (.move (.tmp 0)))) none,
    .act (some 11) (.op (.pure (.move (.tmp 1)))) none,
    .act (some 12) (.op (.pure (.nilCheck (.tmp 10)))) none,
    .act (some 13) (.op (.pure (.fieldAddr 2 (.tmp 12)))) none,
    .act (some 14) (.op (.pure (.idxArr 6 1 (.tmp 13) (.tmp 11)))) none,
    .act (some 15) (.op (.read (.load1 (.tmp 14)))) none,
    .act (some 16) (.op (.pure (.bin .add (.tmp 15) (.const (.int .i64 1))))) none,
    .act (some 17) (.op (.pure (.nilCheck (.tmp 10)))) none,
    .act (some 18) (.op (.pure (.fieldAddr 2 (.tmp 17)))) none,
    .act (some 19) (.op (.pure (.idxArr 6 1 (.tmp 18) (.tmp 11)))) none,
    .act none (.op (.eff (.store 1 (.tmp 19) (.tmp 16)))) none])
  (.seq (.seq (.steps [
    .act (some 20) (.op (.pure (.move (.tmp 0)))) none,
    .act (some 21) (.op (.pure (.move (.tmp 2)))) none,
    .act (some 22) (.call (.func 89) [(.tmp 20), (.tmp 21)]) none])
  (.cond (.tmp 22)
   (.seq (.steps [
     .act (some 23) (.op (.pure (.move (.tmp 0)))) none,
     .act (some 24) (.op (.pure (.move (.tmp 2)))) none,
     .act (some 25) (.call (.func 90) [(.tmp 23), (.tmp 24)]) none])
   .ret)
   .skip))
  (.steps [
    .act (some 26) (.op (.pure (.move (.tmp 3)))) none,
    .act (some 27) (.op (.pure (.move (.tmp 0)))) none,
    .act (some 28) (.op (.pure (.nilCheck (.tmp 27)))) none,
    .act (some 29) (.op (.pure (.fieldAddr 0 (.tmp 28)))) none,
    .act (some 30) (.op (.read (.load1 (.tmp 29)))) none,
    .act (some 31) (.op (.pure (.move (.tmp 2)))) none,
    .act (some 32) (.op (.pure (.idxSl 1 (.tmp 30) (.tmp 31)))) none,
    .act (some 33) (.call (.tmp 26) [(.tmp 32)]) none])))) }
theorem c67 : compFn Try.prog (mkPlan Try.prog) [] true 67 = some L67 := by kernel_rfl
/-- (*sluiceway/mem.Mem).Store$1 -/
def L68 : LFun := { n := 6, pop := true, res := [], code :=
  (.steps [
    .act (some 3) (.op (.pure (.move (.tmp 0)))) none,
    .act (some 4) (.op (.read (.load1 (.tmp 1)))) none,
    .act (some 5) (.op (.pure (.nilCheck (.tmp 3)))) none,
    .act none (.op (.eff (.store 1 (.tmp 5) (.tmp 4)))) none]) }
theorem c68 : compFn Try.prog (mkPlan Try.prog) [] true 68 = some L68 := by kernel_rfl
/-- sluiceway/word.Slot -/
def L69 : LFun := { n := 10, pop := true, res := [.tmp 4], code :=
  (.seq (.steps [
    .act (some 4) (.op (.pure (.move (.const (w64 0#64))))) none])
  (.seq (.seq (.steps [
    .act (some 5) (.op (.pure (.move (.tmp 1)))) none,
    .act (some 6) (.op (.pure (.bin .eql (.tmp 5) (.const (w64 0#64))))) none])
  (.cond (.tmp 6)
   (.seq (.steps [
     .act (some 4) (.op (.pure (.move (.const (w64 0#64))))) none])
   .ret)
   .skip))
  (.seq (.steps [
    .act (some 7) (.op (.pure (.move (.tmp 0)))) none,
    .act (some 8) (.op (.pure (.move (.tmp 1)))) none,
    .act (some 9) (.op (.pure (.bin .rem (.tmp 7) (.tmp 8)))) none,
    .act (some 4) (.op (.pure (.move (.tmp 9)))) none])
  .ret))) }
theorem c69 : compFn Try.prog (mkPlan Try.prog) [] true 69 = some L69 := by kernel_rfl
/-- (*sluiceway/mem.Mem).Or -/
def L72 : LFun := { n := 12, pop := true, res := [.load1 6], code :=
  (.seq (.steps [
    .act (some 5) (.op (.new (.box (.tmp 2)))) none,
    .act (some 6) (.op (.new (.alloc [(w64 0#64)]))) none])
  (.seq (.steps [
    .act (some 7) (.op (.pure (.move (.tmp 0)))) none,
    .act (some 8) (.op (.pure (.move (.tmp 1)))) none,
    .act (some 9) (.op (.pure (.mkFunc 91 [] [(.tmp 6), (.tmp 5)]))) none,
    .act (some 10) (.call (.func 67) [(.tmp 7), (.const (.int .i64 4)), (.tmp 8), (.tmp 9)]) none])
  (.seq (.steps [
    .act (some 11) (.op (.read (.load1 (.tmp 6)))) none,
    .act none (.op (.eff (.store 1 (.tmp 6) (.tmp 11)))) none])
  .ret))) }
theorem c72 : compFn Try.prog (mkPlan Try.prog) [] true 72 = some L72 := by kernel_rfl
/-- (*sluiceway/crq.Op).end -/
def L73 : LFun := { n := 17, pop := true, res := [], code :=
  (.steps [
    .act (some 6) (.op (.pure (.move (.tmp 0)))) none,
    .act (some 7) (.op (.pure (.move (.tmp 0)))) none,
    .act (some 8) (.op (.pure (.move (.tmp 0)))) none,
    .act (some 9) (.op (.pure (.move (.tmp 1)))) none,
    .act (some 10) (.op (.pure (.move (.tmp 2)))) none,
    .act (some 11) (.op (.pure (.nilCheck (.tmp 6)))) none,
    .act (some 12) (.op (.pure (.fieldAddr 5 (.tmp 11)))) none,
    .act none (.op (.eff (.store 1 (.tmp 12) (.const (.int .i64 9))))) none,
    .act (some 13) (.op (.pure (.nilCheck (.tmp 7)))) none,
    .act (some 14) (.op (.pure (.fieldAddr 12 (.tmp 13)))) none,
    .act none (.op (.eff (.store 1 (.tmp 14) (.tmp 9)))) none,
    .act (some 15) (.op (.pure (.nilCheck (.tmp 8)))) none,
    .act (some 16) (.op (.pure (.fieldAddr 13 (.tmp 15)))) none,
    .act none (.op (.eff (.store 1 (.tmp 16) (.tmp 10)))) none]) }
theorem c73 : compFn Try.prog (mkPlan Try.prog) [] true 73 = some L73 := by kernel_rfl
/-- (*sluiceway/mem.Mem).Add -/
def L74 : LFun := { n := 12, pop := true, res := [.load1 6], code :=
  (.seq (.steps [
    .act (some 5) (.op (.new (.box (.tmp 2)))) none,
    .act (some 6) (.op (.new (.alloc [(w64 0#64)]))) none])
  (.seq (.steps [
    .act (some 7) (.op (.pure (.move (.tmp 0)))) none,
    .act (some 8) (.op (.pure (.move (.tmp 1)))) none,
    .act (some 9) (.op (.pure (.mkFunc 92 [] [(.tmp 6), (.tmp 5)]))) none,
    .act (some 10) (.call (.func 67) [(.tmp 7), (.const (.int .i64 3)), (.tmp 8), (.tmp 9)]) none])
  (.seq (.steps [
    .act (some 11) (.op (.read (.load1 (.tmp 6)))) none,
    .act none (.op (.eff (.store 1 (.tmp 6) (.tmp 11)))) none])
  .ret))) }
theorem c74 : compFn Try.prog (mkPlan Try.prog) [] true 74 = some L74 := by kernel_rfl
/-- (*sluiceway/mem.Mem).Load -/
def L75 : LFun := { n := 10, pop := true, res := [.load1 4], code :=
  (.seq (.steps [
    .act (some 4) (.op (.new (.alloc [(w64 0#64)]))) none])
  (.seq (.steps [
    .act (some 5) (.op (.pure (.move (.tmp 0)))) none,
    .act (some 6) (.op (.pure (.move (.tmp 1)))) none,
    .act (some 7) (.op (.pure (.mkFunc 93 [] [(.tmp 4)]))) none,
    .act (some 8) (.call (.func 67) [(.tmp 5), (.const (.int .i64 0)), (.tmp 6), (.tmp 7)]) none])
  (.seq (.steps [
    .act (some 9) (.op (.read (.load1 (.tmp 4)))) none,
    .act none (.op (.eff (.store 1 (.tmp 4) (.tmp 9)))) none])
  .ret))) }
theorem c75 : compFn Try.prog (mkPlan Try.prog) [] true 75 = some L75 := by kernel_rfl
/-- (*sluiceway/crq.Op).branch -/
def L76 : LFun := { n := 17, pop := true, res := [], code :=
  (.seq (.steps [
    .act (some 8) (.op (.pure (.move (.tmp 0)))) none,
    .act (some 9) (.op (.pure (.move (.tmp 3)))) none,
    .act (some 10) (.op (.pure (.nilCheck (.tmp 8)))) none,
    .act (some 11) (.op (.pure (.fieldAddr 5 (.tmp 10)))) none,
    .act none (.op (.eff (.store 1 (.tmp 11) (.tmp 9)))) none])
  (.seq (.steps [
    .act (some 12) (.op (.pure (.move (.tmp 1)))) none])
  (.cond (.tmp 12)
   (.steps [
     .act (some 13) (.op (.pure (.move (.tmp 0)))) none,
     .act (some 14) (.op (.pure (.move (.tmp 2)))) none,
     .act (some 15) (.op (.pure (.nilCheck (.tmp 13)))) none,
     .act (some 16) (.op (.pure (.fieldAddr 5 (.tmp 15)))) none,
     .act none (.op (.eff (.store 1 (.tmp 16) (.tmp 14)))) none])
   .skip))) }
theorem c76 : compFn Try.prog (mkPlan Try.prog) [] true 76 = some L76 := by kernel_rfl
/-- sluiceway/crq.position -/
def L77 : LFun := { n := 5, pop := true, res := [.tmp 2], code :=
  (.seq (.steps [
    .act (some 2) (.op (.pure (.move (.const (w64 0#64))))) none])
  (.seq (.steps [
    .act (some 3) (.op (.pure (.move (.tmp 0)))) none,
    .act (some 4) (.op (.pure (.bin .shr (.tmp 3) (.const (w64 1#64))))) none,
    .act (some 2) (.op (.pure (.move (.tmp 4)))) none])
  .ret)) }
theorem c77 : compFn Try.prog (mkPlan Try.prog) [] true 77 = some L77 := by kernel_rfl
/-- (*sluiceway/mem.Mem).Pair -/
def L78 : LFun := { n := 68, pop := true, res := [.tmp 8], code :=
  (.seq (.steps [
    .act (some 6) (.op (.new (.box (.tmp 2)))) none,
    .act (some 7) (.op (.new (.box (.tmp 3)))) none,
    .act (some 8) (.op (.pure (.move (.const (.bool false))))) none])
  (.seq (.block 0 (.seq (.steps [
     .act (some 11) (.op (.pure (.move (.tmp 0)))) none,
     .act (some 12) (.call (.func 54) [(.tmp 11)]) none,
     .act (some 10) (.op (.pure (.move (.tmp 12)))) none])
   (.cond (.tmp 10)
    (.seq (.steps [
      .act (some 8) (.op (.pure (.move (.const (.bool false))))) none])
    .ret)
    (.seq (.steps [
      .act (some 14) (.op (.pure (.move (.tmp 0)))) none,
      .act (some 15) (.op (.pure (.move (.tmp 1)))) none,
      .act (some 16) (.call (.func 89) [(.tmp 14), (.tmp 15)]) none,
      .act (some 17) (.op (.pure (.move (.tmp 16)))) none,
      .act (some 18) (.op (.pure (.move (.tmp 1)))) (some (17, false)),
      .act (some 19) (.op (.pure (.bin .rem (.tmp 18) (.const (.int .i64 2))))) (some (17, false)),
      .act (some 20) (.op (.pure (.bin .neq (.tmp 19) (.const (.int .i64 0))))) (some (17, false)),
      .act (some 21) (.op (.pure (.pick (.tmp 17) (.const (.bool true)) (.tmp 20)))) none,
      .act (some 13) (.op (.pure (.move (.tmp 21)))) none])
    (.cond (.tmp 13)
     (.seq (.steps [
       .act (some 22) (.op (.pure (.move (.tmp 0)))) none,
       .act (some 23) (.op (.pure (.nilCheck (.tmp 22)))) none,
       .act (some 24) (.op (.pure (.fieldAddr 2 (.tmp 23)))) none,
       .act (some 25) (.op (.pure (.idxArr 6 1 (.tmp 24) (.const (.int .i64 5))))) none,
       .act (some 26) (.op (.read (.load1 (.tmp 25)))) none,
       .act (some 27) (.op (.pure (.bin .add (.tmp 26) (.const (.int .i64 1))))) none,
       .act (some 28) (.op (.pure (.nilCheck (.tmp 22)))) none,
       .act (some 29) (.op (.pure (.fieldAddr 2 (.tmp 28)))) none,
       .act (some 30) (.op (.pure (.idxArr 6 1 (.tmp 29) (.const (.int .i64 5))))) none,
       .act none (.op (.eff (.store 1 (.tmp 30) (.tmp 27)))) none])
     (.seq (.steps [
       .act (some 31) (.op (.pure (.move (.tmp 0)))) none,
       .act (some 32) (.op (.pure (.move (.tmp 1)))) none,
       .act (some 33) (.call (.func 90) [(.tmp 31), (.tmp 32)]) none])
     (.seq (.steps [
       .act (some 8) (.op (.pure (.move (.const (.bool false))))) none])
     .ret)))
     .skip)))))
  (.seq (.steps [
    .act (some 34) (.op (.pure (.move (.tmp 0)))) none,
    .act (some 35) (.op (.pure (.nilCheck (.tmp 34)))) none,
    .act (some 36) (.op (.pure (.fieldAddr 2 (.tmp 35)))) none,
    .act (some 37) (.op (.pure (.idxArr 6 1 (.tmp 36) (.const (.int .i64 5))))) none,
    .act (some 38) (.op (.read (.load1 (.tmp 37)))) none,
    .act (some 39) (.op (.pure (.bin .add (.tmp 38) (.const (.int .i64 1))))) none,
    .act (some 40) (.op (.pure (.nilCheck (.tmp 34)))) none,
    .act (some 41) (.op (.pure (.fieldAddr 2 (.tmp 40)))) none,
    .act (some 42) (.op (.pure (.idxArr 6 1 (.tmp 41) (.const (.int .i64 5))))) none,
    .act none (.op (.eff (.store 1 (.tmp 42) (.tmp 39)))) none])
  (.seq (.seq (.steps [
    .act (some 43) (.op (.pure (.move (.tmp 0)))) none,
    .act (some 44) (.op (.pure (.move (.tmp 1)))) none,
    .act (some 45) (.op (.pure (.bin .add (.tmp 44) (.const (.int .i64 1))))) none,
    .act (some 46) (.call (.func 89) [(.tmp 43), (.tmp 45)]) none])
  (.cond (.tmp 46)
   (.seq (.steps [
     .act (some 47) (.op (.pure (.move (.tmp 0)))) none,
     .act (some 48) (.op (.pure (.move (.tmp 1)))) none,
     .act (some 49) (.op (.pure (.bin .add (.tmp 48) (.const (.int .i64 1))))) none,
     .act (some 50) (.call (.func 90) [(.tmp 47), (.tmp 49)]) none])
   (.seq (.steps [
     .act (some 8) (.op (.pure (.move (.const (.bool false))))) none])
   .ret))
   .skip))
  (.seq (.steps [
    .act (some 51) (.op (.pure (.move (.tmp 0)))) none,
    .act (some 52) (.op (.pure (.nilCheck (.tmp 51)))) none,
    .act (some 53) (.op (.pure (.fieldAddr 0 (.tmp 52)))) none,
    .act (some 54) (.op (.read (.load1 (.tmp 53)))) none,
    .act (some 55) (.op (.pure (.move (.tmp 1)))) none,
    .act (some 56) (.op (.pure (.move (.tmp 1)))) none,
    .act (some 57) (.op (.pure (.bin .add (.tmp 56) (.const (.int .i64 2))))) none,
    .act (some 58) (.op (.read (.slSl 1 (.tmp 54) (some (.tmp 55)) (some (.tmp 57)) none))) none,
    .act (some 59) (.op (.pure (.arrPtr 2 (.tmp 58)))) none,
    .act (some 9) (.op (.pure (.move (.tmp 59)))) none])
  (.seq (.seq (.steps [
    .act (some 60) (.op (.pure (.move (.tmp 9)))) none,
    .act (some 61) (.op (.pure (.nilCheck (.tmp 60)))) none,
    .act (some 62) (.op (.read (.loadN 2 (.tmp 61)))) none,
    .act (some 63) (.op (.read (.loadN 2 (.tmp 6)))) none,
    .act (some 64) (.op (.pure (.eqAgg [false, false] true (.tmp 62) (.tmp 63)))) none])
  (.cond (.tmp 64)
   (.seq (.steps [
     .act (some 8) (.op (.pure (.move (.const (.bool false))))) none])
   .ret)
   .skip))
  (.seq (.steps [
    .act (some 65) (.op (.pure (.move (.tmp 9)))) none,
    .act (some 66) (.op (.read (.loadN 2 (.tmp 7)))) none,
    .act (some 67) (.op (.pure (.nilCheck (.tmp 65)))) none,
    .act none (.op (.eff (.store 2 (.tmp 67) (.tmp 66)))) none])
  (.seq (.steps [
    .act (some 8) (.op (.pure (.move (.const (.bool true))))) none])
  .ret)))))))) }
theorem c78 : compFn Try.prog (mkPlan Try.prog) [] true 78 = some L78 := by kernel_rfl
/-- (*sluiceway/crq.Op).turn -/
def L79 : LFun := { n := 80, pop := true, res := [], code :=
  (.seq (.steps [
    .act (some 5) (.op (.pure (.move (.tmp 0)))) none,
    .act (some 6) (.op (.pure (.nilCheck (.tmp 5)))) none,
    .act (some 7) (.op (.pure (.fieldAddr 6 (.tmp 6)))) none,
    .act (some 8) (.op (.read (.load1 (.tmp 7)))) none,
    .act (some 9) (.op (.pure (.move (.tmp 0)))) none,
    .act (some 10) (.op (.pure (.nilCheck (.tmp 9)))) none,
    .act (some 11) (.op (.pure (.fieldAddr 1 (.tmp 10)))) none,
    .act (some 12) (.op (.pure (.fieldAddr 1 (.tmp 11)))) none,
    .act (some 13) (.op (.read (.load1 (.tmp 12)))) none,
    .act (some 14) (.op (.pure (.conv .u64 (.tmp 13)))) none,
    .act (some 15) (.op (.pure (.bin .add (.tmp 8) (.tmp 14)))) none,
    .act (some 16) (.op (.pure (.move (.tmp 0)))) none,
    .act (some 17) (.op (.pure (.nilCheck (.tmp 16)))) none,
    .act (some 18) (.op (.pure (.fieldAddr 8 (.tmp 17)))) none,
    .act (some 19) (.op (.read (.load1 (.tmp 18)))) none,
    .act (some 4) (.op (.new (.alloc [(w64 0#64), (w64 0#64)]))) none,
    .act (some 20) (.call (.func 42) [(.tmp 15), (.tmp 19)]) none,
    .act (some 21) (.op (.pure (.build [(w64 0#64), (w64 0#64)] [(0, 1, (.tmp 20)), (1, 1, (.const (w64 0#64)))]))) none,
    .act none (.op (.eff (.store 2 (.tmp 4) (.tmp 21)))) none])
  (.seq (.seq (.steps [
    .act (some 22) (.op (.pure (.move (.tmp 0)))) none,
    .act (some 23) (.op (.pure (.nilCheck (.tmp 22)))) none,
    .act (some 24) (.op (.pure (.fieldAddr 7 (.tmp 23)))) none,
    .act (some 25) (.op (.read (.load1 (.tmp 24)))) none,
    .act (some 26) (.op (.pure (.bin .neq (.tmp 25) (.const (w64 0#64))))) none,
    .act (some 27) (.op (.pure (.move (.tmp 26)))) none,
    .act (some 28) (.op (.pure (.move (.tmp 0)))) (some (27, true)),
    .act (some 29) (.call (.func 94) [(.tmp 28)]) (some (27, true)),
    .act (some 30) (.op (.pure (.not (.tmp 29)))) (some (27, true)),
    .act (some 31) (.op (.pure (.pick (.tmp 27) (.tmp 30) (.const (.bool false))))) none])
  (.cond (.tmp 31)
   (.steps [
     .act (some 32) (.op (.pure (.move (.tmp 0)))) none,
     .act (some 33) (.op (.pure (.nilCheck (.tmp 32)))) none,
     .act (some 34) (.op (.pure (.fieldAddr 8 (.tmp 33)))) none,
     .act (some 35) (.op (.read (.load1 (.tmp 34)))) none,
     .act (some 38) (.op (.pure (.move (.tmp 0)))) none,
     .act (some 39) (.op (.pure (.nilCheck (.tmp 38)))) none,
     .act (some 40) (.op (.pure (.fieldAddr 7 (.tmp 39)))) none,
     .act (some 41) (.op (.read (.load1 (.tmp 40)))) none,
     .act (some 36) (.call (.func 77) [(.tmp 35)]) none,
     .again 41 (.load1 (.tmp 40)) none,
     .act (some 37) (.call (.func 42) [(.tmp 36), (.const (w64 0#64))]) none,
     .act (some 42) (.op (.pure (.build [(w64 0#64), (w64 0#64)] [(0, 1, (.tmp 37)), (1, 1, (.tmp 41))]))) none,
     .again 41 (.load1 (.tmp 40)) none,
     .act none (.op (.eff (.store 2 (.tmp 4) (.tmp 42)))) none])
   .skip))
  (.seq (.steps [
    .act (some 43) (.op (.pure (.move (.tmp 0)))) none,
    .act (some 44) (.op (.pure (.nilCheck (.tmp 43)))) none,
    .act (some 45) (.op (.pure (.fieldAddr 5 (.tmp 44)))) none,
    .act none (.op (.eff (.store 1 (.tmp 45) (.const (.int .i64 1))))) none])
  (.seq (.seq (.steps [
    .act (some 46) (.op (.pure (.move (.tmp 1)))) none,
    .act (some 47) (.op (.pure (.move (.tmp 0)))) none,
    .act (some 48) (.op (.pure (.nilCheck (.tmp 47)))) none,
    .act (some 49) (.op (.pure (.fieldAddr 1 (.tmp 48)))) none,
    .act (some 50) (.op (.read (.loadN 2 (.tmp 49)))) none,
    .act (some 51) (.op (.pure (.move (.tmp 0)))) none,
    .act (some 52) (.op (.pure (.nilCheck (.tmp 51)))) none,
    .act (some 53) (.op (.pure (.fieldAddr 6 (.tmp 52)))) none,
    .act (some 54) (.op (.read (.load1 (.tmp 53)))) none,
    .act (some 56) (.op (.pure (.move (.tmp 0)))) none,
    .act (some 57) (.op (.pure (.nilCheck (.tmp 56)))) none,
    .act (some 58) (.op (.pure (.fieldAddr 8 (.tmp 57)))) none,
    .act (some 59) (.op (.read (.load1 (.tmp 58)))) none,
    .act (some 60) (.op (.pure (.move (.tmp 0)))) none,
    .act (some 61) (.op (.pure (.nilCheck (.tmp 60)))) none,
    .act (some 62) (.op (.pure (.fieldAddr 7 (.tmp 61)))) none,
    .act (some 63) (.op (.read (.load1 (.tmp 62)))) none,
    .act (some 64) (.op (.pure (.build [(w64 0#64), (w64 0#64)] [(0, 1, (.tmp 59)), (1, 1, (.tmp 63))]))) none,
    .act (some 65) (.op (.read (.loadN 2 (.tmp 4)))) none,
    .act (some 55) (.call (.func 41) [(.tmp 50), (.tmp 54)]) none,
    .again 65 (.loadN 2 (.tmp 4)) none,
    .again 63 (.load1 (.tmp 62)) none,
    .again 59 (.load1 (.tmp 58)) none,
    .act (some 66) (.call (.func 78) [(.tmp 46), (.tmp 55), (.tmp 64), (.tmp 65)]) none,
    .act (some 67) (.op (.pure (.not (.tmp 66)))) none])
  (.cond (.tmp 67)
   .ret
   .skip))
  (.seq (.steps [
    .act (some 68) (.op (.pure (.move (.tmp 0)))) none,
    .act (some 69) (.op (.pure (.nilCheck (.tmp 68)))) none,
    .act (some 70) (.op (.pure (.fieldAddr 5 (.tmp 69)))) none,
    .act none (.op (.eff (.store 1 (.tmp 70) (.const (.int .i64 5))))) none])
  (.seq (.steps [
    .act (some 71) (.op (.pure (.move (.tmp 0)))) none,
    .act (some 72) (.call (.func 94) [(.tmp 71)]) none])
  (.cond (.tmp 72)
   (.steps [
     .act (some 73) (.op (.pure (.move (.tmp 0)))) none,
     .act (some 74) (.op (.pure (.move (.tmp 0)))) none,
     .act (some 75) (.op (.pure (.nilCheck (.tmp 74)))) none,
     .act (some 76) (.op (.pure (.fieldAddr 7 (.tmp 75)))) none,
     .act (some 77) (.op (.read (.load1 (.tmp 76)))) none,
     .act (some 78) (.op (.pure (.bin .sub (.tmp 77) (.const (w64 1#64))))) none,
     .act (some 79) (.call (.func 73) [(.tmp 73), (.const (.int .i64 0)), (.tmp 78)]) none])
   .skip))))))) }
theorem c79 : compFn Try.prog (mkPlan Try.prog) [] true 79 = some L79 := by kernel_rfl
/-- (*sluiceway/crq.Op).fix -/
def L80 : LFun := { n := 81, pop := true, res := [], code :=
  (.seq (.steps [
    .act (some 4) (.op (.pure (.move (.tmp 0)))) none,
    .act (some 5) (.op (.pure (.nilCheck (.tmp 4)))) none,
    .act (some 6) (.op (.pure (.fieldAddr 5 (.tmp 5)))) none,
    .act (some 7) (.op (.read (.load1 (.tmp 6)))) none])
  (.block 0 (.seq (.steps [
     .act (some 9) (.op (.pure (.bin .eql (.tmp 7) (.const (.int .i64 6))))) none,
     .act (some 8) (.op (.pure (.move (.tmp 9)))) none])
   (.cond (.tmp 8)
    (.seq (.steps [
      .act (some 10) (.op (.pure (.move (.tmp 0)))) none,
      .act (some 11) (.op (.pure (.move (.tmp 1)))) none,
      .act (some 12) (.op (.pure (.move (.tmp 0)))) none,
      .act (some 13) (.op (.pure (.nilCheck (.tmp 12)))) none,
      .act (some 14) (.op (.pure (.fieldAddr 1 (.tmp 13)))) none,
      .act (some 15) (.op (.pure (.fieldAddr 0 (.tmp 14)))) none,
      .act (some 16) (.op (.read (.load1 (.tmp 15)))) none,
      .act (some 17) (.op (.pure (.bin .add (.tmp 16) (.const (.int .i64 1))))) none,
      .act (some 18) (.call (.func 75) [(.tmp 11), (.tmp 17)]) none,
      .act (some 19) (.op (.pure (.nilCheck (.tmp 10)))) none,
      .act (some 20) (.op (.pure (.fieldAddr 9 (.tmp 19)))) none,
      .act none (.op (.eff (.store 1 (.tmp 20) (.tmp 18)))) none])
    (.steps [
      .act (some 21) (.op (.pure (.move (.tmp 0)))) none,
      .act (some 22) (.op (.pure (.nilCheck (.tmp 21)))) none,
      .act (some 23) (.op (.pure (.fieldAddr 5 (.tmp 22)))) none,
      .act none (.op (.eff (.store 1 (.tmp 23) (.const (.int .i64 7))))) none]))
    (.seq (.steps [
      .act (some 25) (.op (.pure (.bin .eql (.tmp 7) (.const (.int .i64 7))))) none,
      .act (some 24) (.op (.pure (.move (.tmp 25)))) none])
    (.cond (.tmp 24)
     (.seq (.steps [
       .act (some 26) (.op (.pure (.move (.tmp 0)))) none,
       .act (some 27) (.op (.pure (.nilCheck (.tmp 26)))) none,
       .act (some 28) (.op (.pure (.fieldAddr 5 (.tmp 27)))) none,
       .act none (.op (.eff (.store 1 (.tmp 28) (.const (.int .i64 8))))) none])
     (.seq (.steps [
       .act (some 29) (.op (.pure (.move (.tmp 0)))) none,
       .act (some 30) (.op (.pure (.move (.tmp 1)))) none,
       .act (some 31) (.op (.pure (.move (.tmp 0)))) none,
       .act (some 32) (.op (.pure (.nilCheck (.tmp 31)))) none,
       .act (some 33) (.op (.pure (.fieldAddr 1 (.tmp 32)))) none,
       .act (some 34) (.op (.pure (.fieldAddr 0 (.tmp 33)))) none,
       .act (some 35) (.op (.read (.load1 (.tmp 34)))) none,
       .act (some 36) (.op (.pure (.bin .add (.tmp 35) (.const (.int .i64 0))))) none,
       .act (some 37) (.call (.func 75) [(.tmp 30), (.tmp 36)]) none,
       .act (some 38) (.op (.pure (.nilCheck (.tmp 29)))) none,
       .act (some 39) (.op (.pure (.fieldAddr 10 (.tmp 38)))) none,
       .act none (.op (.eff (.store 1 (.tmp 39) (.tmp 37)))) none])
     (.seq (.steps [
       .act (some 40) (.op (.pure (.move (.tmp 0)))) none,
       .act (some 41) (.op (.pure (.nilCheck (.tmp 40)))) none,
       .act (some 42) (.op (.pure (.fieldAddr 10 (.tmp 41)))) none,
       .act (some 43) (.op (.read (.load1 (.tmp 42)))) none,
       .act (some 44) (.op (.pure (.move (.tmp 0)))) none,
       .act (some 45) (.op (.pure (.nilCheck (.tmp 44)))) none,
       .act (some 46) (.op (.pure (.fieldAddr 9 (.tmp 45)))) none,
       .act (some 47) (.op (.read (.load1 (.tmp 46)))) none,
       .act (some 48) (.op (.pure (.bin .andNot (.tmp 47) (.const (w64 9223372036854775808#64))))) none,
       .act (some 49) (.op (.pure (.bin .leq (.tmp 43) (.tmp 48)))) none])
     (.cond (.tmp 49)
      (.steps [
        .act (some 50) (.op (.pure (.move (.tmp 0)))) none,
        .act (some 51) (.call (.func 73) [(.tmp 50), (.const (.int .i64 13)), (.const (w64 0#64))]) none])
      .skip))))
     (.seq (.steps [
       .act (some 53) (.op (.pure (.bin .eql (.tmp 7) (.const (.int .i64 8))))) none,
       .act (some 52) (.op (.pure (.move (.tmp 53)))) none])
     (.cond (.tmp 52)
      (.seq (.steps [
        .act (some 54) (.op (.pure (.move (.tmp 0)))) none,
        .act (some 55) (.op (.pure (.nilCheck (.tmp 54)))) none,
        .act (some 56) (.op (.pure (.fieldAddr 5 (.tmp 55)))) none,
        .act none (.op (.eff (.store 1 (.tmp 56) (.const (.int .i64 6))))) none])
      (.seq (.steps [
        .act (some 57) (.op (.pure (.move (.tmp 1)))) none,
        .act (some 58) (.op (.pure (.move (.tmp 0)))) none,
        .act (some 59) (.op (.pure (.nilCheck (.tmp 58)))) none,
        .act (some 60) (.op (.pure (.fieldAddr 1 (.tmp 59)))) none,
        .act (some 61) (.op (.pure (.fieldAddr 0 (.tmp 60)))) none,
        .act (some 62) (.op (.read (.load1 (.tmp 61)))) none,
        .act (some 63) (.op (.pure (.bin .add (.tmp 62) (.const (.int .i64 1))))) none,
        .act (some 64) (.op (.pure (.move (.tmp 0)))) none,
        .act (some 65) (.op (.pure (.nilCheck (.tmp 64)))) none,
        .act (some 66) (.op (.pure (.fieldAddr 9 (.tmp 65)))) none,
        .act (some 67) (.op (.read (.load1 (.tmp 66)))) none,
        .act (some 68) (.op (.pure (.move (.tmp 0)))) none,
        .act (some 69) (.op (.pure (.nilCheck (.tmp 68)))) none,
        .act (some 70) (.op (.pure (.fieldAddr 10 (.tmp 69)))) none,
        .act (some 71) (.op (.read (.load1 (.tmp 70)))) none,
        .act (some 72) (.op (.pure (.move (.tmp 0)))) none,
        .act (some 73) (.op (.pure (.nilCheck (.tmp 72)))) none,
        .act (some 74) (.op (.pure (.fieldAddr 9 (.tmp 73)))) none,
        .act (some 75) (.op (.read (.load1 (.tmp 74)))) none,
        .act (some 76) (.op (.pure (.bin .and (.tmp 75) (.const (w64 9223372036854775808#64))))) none,
        .act (some 77) (.op (.pure (.bin .or (.tmp 71) (.tmp 76)))) none,
        .act (some 78) (.call (.func 95) [(.tmp 57), (.tmp 63), (.tmp 67), (.tmp 77)]) none])
      (.cond (.tmp 78)
       (.steps [
         .act (some 79) (.op (.pure (.move (.tmp 0)))) none,
         .act (some 80) (.call (.func 73) [(.tmp 79), (.const (.int .i64 13)), (.const (w64 0#64))]) none])
       .skip)))
      .skip)))))))) }
theorem c80 : compFn Try.prog (mkPlan Try.prog) [] true 80 = some L80 := by kernel_rfl
/-- math/bits.OnesCount64 -/
def L81 : LFun := { n := 35, pop := true, res := [.tmp 2], code :=
  (.seq (.steps [
    .act (some 2) (.op (.pure (.move (.const (.int .i64 0))))) none])
  (.seq (.steps [
    .act (some 3) (.op (.pure (.move (.tmp 0)))) none,
    .act (some 4) (.op (.pure (.bin .shr (.tmp 3) (.const (w64 1#64))))) none,
    .act (some 5) (.op (.pure (.bin .and (.tmp 4) (.const (w64 6148914691236517205#64))))) none,
    .act (some 6) (.op (.pure (.move (.tmp 0)))) none,
    .act (some 7) (.op (.pure (.bin .and (.tmp 6) (.const (w64 6148914691236517205#64))))) none,
    .act (some 8) (.op (.pure (.bin .add (.tmp 5) (.tmp 7)))) none,
    .act (some 0) (.op (.pure (.move (.tmp 8)))) none])
  (.seq (.steps [
    .act (some 9) (.op (.pure (.move (.tmp 0)))) none,
    .act (some 10) (.op (.pure (.bin .shr (.tmp 9) (.const (w64 2#64))))) none,
    .act (some 11) (.op (.pure (.bin .and (.tmp 10) (.const (w64 3689348814741910323#64))))) none,
    .act (some 12) (.op (.pure (.move (.tmp 0)))) none,
    .act (some 13) (.op (.pure (.bin .and (.tmp 12) (.const (w64 3689348814741910323#64))))) none,
    .act (some 14) (.op (.pure (.bin .add (.tmp 11) (.tmp 13)))) none,
    .act (some 0) (.op (.pure (.move (.tmp 14)))) none])
  (.seq (.steps [
    .act (some 15) (.op (.pure (.move (.tmp 0)))) none,
    .act (some 16) (.op (.pure (.bin .shr (.tmp 15) (.const (w64 4#64))))) none,
    .act (some 17) (.op (.pure (.move (.tmp 0)))) none,
    .act (some 18) (.op (.pure (.bin .add (.tmp 16) (.tmp 17)))) none,
    .act (some 19) (.op (.pure (.bin .and (.tmp 18) (.const (w64 1085102592571150095#64))))) none,
    .act (some 0) (.op (.pure (.move (.tmp 19)))) none])
  (.seq (.steps [
    .act (some 20) (.op (.pure (.move (.tmp 0)))) none,
    .act (some 21) (.op (.pure (.move (.tmp 0)))) none,
    .act (some 22) (.op (.pure (.bin .shr (.tmp 21) (.const (w64 8#64))))) none,
    .act (some 23) (.op (.pure (.bin .add (.tmp 20) (.tmp 22)))) none,
    .act (some 0) (.op (.pure (.move (.tmp 23)))) none])
  (.seq (.steps [
    .act (some 24) (.op (.pure (.move (.tmp 0)))) none,
    .act (some 25) (.op (.pure (.move (.tmp 0)))) none,
    .act (some 26) (.op (.pure (.bin .shr (.tmp 25) (.const (w64 16#64))))) none,
    .act (some 27) (.op (.pure (.bin .add (.tmp 24) (.tmp 26)))) none,
    .act (some 0) (.op (.pure (.move (.tmp 27)))) none])
  (.seq (.steps [
    .act (some 28) (.op (.pure (.move (.tmp 0)))) none,
    .act (some 29) (.op (.pure (.move (.tmp 0)))) none,
    .act (some 30) (.op (.pure (.bin .shr (.tmp 29) (.const (w64 32#64))))) none,
    .act (some 31) (.op (.pure (.bin .add (.tmp 28) (.tmp 30)))) none,
    .act (some 0) (.op (.pure (.move (.tmp 31)))) none])
  (.seq (.steps [
    .act (some 32) (.op (.pure (.move (.tmp 0)))) none,
    .act (some 33) (.op (.pure (.conv .i64 (.tmp 32)))) none,
    .act (some 34) (.op (.pure (.bin .and (.tmp 33) (.const (.int .i64 127))))) none,
    .act (some 2) (.op (.pure (.move (.tmp 34)))) none])
  .ret)))))))) }
theorem c81 : compFn Try.prog (mkPlan Try.prog) [] true 81 = some L81 := by kernel_rfl
/-- sluiceway/hist.Right -/
def L82 : LFun := { n := 28, pop := true, res := [.tmp 2], code :=
  (.seq (.steps [
    .act (some 2) (.op (.pure (.move (.const (.bool false))))) none])
  (.seq (.seq (.steps [
    .act (some 6) (.op (.pure (.move (.tmp 0)))) none,
    .act (some 7) (.op (.pure (.len false (.tmp 6)))) none,
    .act (some 8) (.op (.pure (.bin .gtr (.tmp 7) (.const (.int .i64 1024))))) none])
  (.cond (.tmp 8)
   (.seq (.steps [
     .act (some 2) (.op (.pure (.move (.const (.bool false))))) none])
   .ret)
   .skip))
  (.seq (.seq (.steps [
    .act (some 9) (.op (.pure (.move (.tmp 0)))) none,
    .act (some 10) (.op (.pure (.len false (.tmp 9)))) none,
    .act (some 11) (.op (.pure (.move (.const (.int .i64 0))))) none])
  (.block 0 (.loop [0, 9, 10, 11] (.seq (.steps [
      .act (some 12) (.op (.pure (.bin .lss (.tmp 11) (.tmp 10)))) none])
    (.seq (.cond (.tmp 12)
     .skip
     (.exit 0))
    (.seq (.block 1 (.seq (.steps [
       .act (some 13) (.op (.pure (.move (.tmp 11)))) none,
       .act (some 14) (.op (.pure (.idxSl 8 (.tmp 9) (.tmp 11)))) none,
       .act (some 15) (.op (.read (.loadN 8 (.tmp 14)))) none,
       .act (some 4) (.op (.new (.alloc [(.int .i64 0), (.int .i64 0), (w64 0#64), (.int .i64 0), (.int .i64 0), (.bool false), (.int .i64 0), (w64 0#64)]))) none,
       .act (some 3) (.op (.pure (.move (.tmp 13)))) none,
       .act none (.op (.eff (.store 8 (.tmp 4) (.tmp 15)))) none])
     (.seq (.steps [
       .act (some 16) (.op (.pure (.mkFunc 96 [] [(.tmp 4)]))) none,
       .act (some 5) (.op (.pure (.move (.tmp 16)))) none])
     (.seq (.steps [
       .act (some 17) (.op (.read (.loadN 8 (.tmp 4)))) none,
       .act (some 18) (.call (.func 98) [(.tmp 17)]) none,
       .act (some 19) (.op (.pure (.not (.tmp 18)))) none,
       .act (some 20) (.op (.pure (.move (.tmp 19)))) none,
       .act (some 21) (.op (.pure (.move (.tmp 0)))) (some (20, false)),
       .act (some 22) (.op (.pure (.move (.tmp 3)))) (some (20, false)),
       .act (some 23) (.op (.read (.slSl 8 (.tmp 21) none (some (.tmp 22)) none))) (some (20, false)),
       .act (some 24) (.op (.pure (.move (.tmp 5)))) (some (20, false)),
       .act (some 25) (.call (.func 99) [(.tmp 23), (.tmp 24)]) (some (20, false)),
       .act (some 26) (.op (.pure (.pick (.tmp 20) (.const (.bool true)) (.tmp 25)))) none])
     (.cond (.tmp 26)
      (.seq (.steps [
        .act (some 2) (.op (.pure (.move (.const (.bool false))))) none])
      .ret)
      .skip)))))
    (.steps [
      .act (some 27) (.op (.pure (.bin .add (.tmp 11) (.const (.int .i64 1))))) none,
      .act (some 11) (.op (.pure (.move (.tmp 27)))) none])))))))
  (.seq (.steps [
    .act (some 2) (.op (.pure (.move (.const (.bool true))))) none])
  .ret)))) }
theorem c82 : compFn Try.prog (mkPlan Try.prog) [(4, [0, 9, 10, 11])] true 82 = some L82 := by kernel_rfl
/-- (sluiceway/lin.set).with -/
def L83 : LFun := { n := 9, pop := true, res := [.tmp 4], code :=
  (.seq (.steps [
    .act (some 4) (.op (.pure (.move (.const (w64 0#64))))) none])
  (.seq (.steps [
    .act (some 5) (.op (.pure (.move (.tmp 0)))) none,
    .act (some 6) (.op (.pure (.move (.tmp 1)))) none,
    .act (some 7) (.op (.pure (.bin .shl (.const (w64 1#64)) (.tmp 6)))) none,
    .act (some 8) (.op (.pure (.bin .or (.tmp 5) (.tmp 7)))) none,
    .act (some 4) (.op (.pure (.move (.tmp 8)))) none])
  .ret)) }
theorem c83 : compFn Try.prog (mkPlan Try.prog) [] true 83 = some L83 := by kernel_rfl
/-- (*sluiceway/lin.finder[sluiceway/spec.Fifo]).find -/
def L84 : LFun := { n := 99, pop := false, res := [.tmp 6], code :=
  (.seq (.steps [
    .act (some 5) (.op (.new (.box (.tmp 2)))) none,
    .act (some 6) (.op (.pure (.move (.const (.bool false))))) none])
  (.seq (.seq (.steps [
    .act (some 11) (.op (.pure (.move (.tmp 0)))) none,
    .act (some 12) (.op (.pure (.nilCheck (.tmp 11)))) none,
    .act (some 13) (.op (.pure (.fieldAddr 2 (.tmp 12)))) none,
    .act (some 14) (.op (.read (.load1 (.tmp 13)))) none,
    .act (some 15) (.op (.pure (.move (.tmp 1)))) none,
    .act (some 16) (.op (.pure (.bin .andNot (.tmp 14) (.tmp 15)))) none,
    .act (some 17) (.op (.pure (.bin .eql (.tmp 16) (.const (w64 0#64))))) none])
  (.cond (.tmp 17)
   (.seq (.steps [
     .act (some 6) (.op (.pure (.move (.const (.bool true))))) none])
   .ret)
   .skip))
  (.seq (.steps [
    .act (some 18) (.op (.pure (.move (.tmp 0)))) none,
    .act (some 19) (.op (.pure (.move (.tmp 1)))) none,
    .act (some 20) (.op (.read (.loadN 2 (.tmp 5)))) none,
    .act (some 21) (.call (.func 100) [(.tmp 18), (.tmp 19), (.tmp 20)]) none,
    .act (some 7) (.op (.pure (.move (.tmp 21)))) none])
  (.seq (.seq (.steps [
    .act (some 22) (.op (.pure (.move (.tmp 0)))) none,
    .act (some 23) (.op (.pure (.nilCheck (.tmp 22)))) none,
    .act (some 24) (.op (.pure (.fieldAddr 5 (.tmp 23)))) none,
    .act (some 25) (.op (.read (.load1 (.tmp 24)))) none,
    .act (some 26) (.op (.pure (.move (.tmp 7)))) none,
    .act (some 27) (.op (.read (.lookup true (.bool false) false (.tmp 25) (.tmp 26)))) none])
  (.cond (.tmp 27)
   (.seq (.steps [
     .act (some 6) (.op (.pure (.move (.const (.bool false))))) none])
   .ret)
   .skip))
  (.seq .skip
  (.seq (.seq (.steps [
    .act (some 28) (.op (.pure (.move (.tmp 0)))) none,
    .act (some 29) (.op (.pure (.nilCheck (.tmp 28)))) none,
    .act (some 30) (.op (.pure (.fieldAddr 0 (.tmp 29)))) none,
    .act (some 31) (.op (.read (.load1 (.tmp 30)))) none,
    .act (some 32) (.op (.pure (.len false (.tmp 31)))) none,
    .act (some 33) (.op (.pure (.move (.const (.int .i64 0))))) none])
  (.block 0 (.loop [0, 1, 5, 7, 32, 33] (.seq (.steps [
      .act (some 34) (.op (.pure (.bin .lss (.tmp 33) (.tmp 32)))) none])
    (.seq (.cond (.tmp 34)
     .skip
     (.exit 0))
    (.seq (.block 1 (.seq (.steps [
       .act (some 35) (.op (.pure (.move (.tmp 33)))) none,
       .act (some 8) (.op (.pure (.move (.tmp 35)))) none])
     (.seq (.seq (.steps [
       .act (some 36) (.op (.pure (.move (.tmp 1)))) none,
       .act (some 37) (.op (.pure (.move (.tmp 8)))) none,
       .act (some 38) (.call (.func 101) [(.tmp 36), (.tmp 37)]) none,
       .act (some 39) (.op (.pure (.move (.tmp 38)))) none,
       .act (some 40) (.op (.pure (.move (.tmp 0)))) (some (39, false)),
       .act (some 41) (.op (.pure (.nilCheck (.tmp 40)))) (some (39, false)),
       .act (some 42) (.op (.pure (.fieldAddr 1 (.tmp 41)))) (some (39, false)),
       .act (some 43) (.op (.read (.load1 (.tmp 42)))) (some (39, false)),
       .act (some 44) (.op (.pure (.move (.tmp 8)))) (some (39, false)),
       .act (some 45) (.op (.pure (.idxSl 1 (.tmp 43) (.tmp 44)))) (some (39, false)),
       .act (some 46) (.op (.read (.load1 (.tmp 45)))) (some (39, false)),
       .act (some 47) (.op (.pure (.move (.tmp 1)))) (some (39, false)),
       .act (some 48) (.op (.pure (.bin .andNot (.tmp 46) (.tmp 47)))) (some (39, false)),
       .act (some 49) (.op (.pure (.bin .neq (.tmp 48) (.const (w64 0#64))))) (some (39, false)),
       .act (some 50) (.op (.pure (.pick (.tmp 39) (.const (.bool true)) (.tmp 49)))) none])
     (.cond (.tmp 50)
      (.exit 1)
      .skip))
     (.seq (.steps [
       .act (some 52) (.op (.pure (.move (.tmp 0)))) none,
       .act (some 53) (.op (.pure (.nilCheck (.tmp 52)))) none,
       .act (some 54) (.op (.pure (.fieldAddr 3 (.tmp 53)))) none,
       .act (some 55) (.op (.read (.load1 (.tmp 54)))) none,
       .act (some 56) (.op (.read (.loadN 2 (.tmp 5)))) none,
       .act (some 57) (.op (.pure (.move (.tmp 8)))) none,
       .act (some 9) (.op (.new (.alloc [(.int .i64 0), (.slice none 0 0)]))) none,
       .act (some 58) (.call (.tmp 55) [(.tmp 56), (.tmp 57)]) none,
       .act (some 51) (.op (.pure (.move (.tmp 58)))) none,
       .act (some 59) (.op (.pure (.extract (.tmp 51) 0))) none,
       .act (some 60) (.op (.pure (.extract (.tmp 51) 1))) none,
       .act none (.op (.eff (.store 2 (.tmp 9) (.tmp 59)))) none,
       .act (some 10) (.op (.pure (.move (.tmp 60)))) none])
     (.seq (.seq (.steps [
       .act (some 61) (.op (.pure (.move (.tmp 10)))) none,
       .act (some 62) (.op (.pure (.not (.tmp 61)))) none])
     (.cond (.tmp 62)
      (.exit 1)
      .skip))
     (.seq (.steps [
       .act (some 63) (.op (.pure (.move (.tmp 0)))) none,
       .act (some 64) (.op (.pure (.move (.tmp 0)))) none,
       .act (some 65) (.op (.pure (.nilCheck (.tmp 64)))) none,
       .act (some 66) (.op (.pure (.fieldAddr 6 (.tmp 65)))) none,
       .act (some 67) (.op (.read (.load1 (.tmp 66)))) none,
       .act (some 68) (.op (.pure (.move (.tmp 8)))) none,
       .act (some 69) (.op (.new (.mkSlice 1 1 [(.int .i64 0)] [(0, 1, (.tmp 68))]))) none,
       .act (some 70) (.op (.eff (.append 1 8 (.tmp 67) (.tmp 69)))) none,
       .act (some 71) (.op (.pure (.nilCheck (.tmp 63)))) none,
       .act (some 72) (.op (.pure (.fieldAddr 6 (.tmp 71)))) none,
       .act none (.op (.eff (.store 1 (.tmp 72) (.tmp 70)))) none])
     (.seq (.seq (.steps [
       .act (some 73) (.op (.pure (.move (.tmp 0)))) none,
       .act (some 74) (.op (.pure (.move (.tmp 1)))) none,
       .act (some 75) (.op (.pure (.move (.tmp 8)))) none,
       .act (some 77) (.op (.read (.loadN 2 (.tmp 9)))) none,
       .act (some 76) (.call (.func 83) [(.tmp 74), (.tmp 75)]) none,
       .again 77 (.loadN 2 (.tmp 9)) none,
       .act (some 78) (.call (.func 84) [(.tmp 73), (.tmp 76), (.tmp 77)]) none])
     (.cond (.tmp 78)
      (.seq (.steps [
        .act (some 6) (.op (.pure (.move (.const (.bool true))))) none])
      .ret)
      .skip))
     (.steps [
       .act (some 79) (.op (.pure (.move (.tmp 0)))) none,
       .act (some 80) (.op (.pure (.move (.tmp 0)))) none,
       .act (some 81) (.op (.pure (.nilCheck (.tmp 80)))) none,
       .act (some 82) (.op (.pure (.fieldAddr 6 (.tmp 81)))) none,
       .act (some 83) (.op (.read (.load1 (.tmp 82)))) none,
       .act (some 84) (.op (.pure (.move (.tmp 0)))) none,
       .act (some 85) (.op (.pure (.nilCheck (.tmp 84)))) none,
       .act (some 86) (.op (.pure (.fieldAddr 6 (.tmp 85)))) none,
       .act (some 87) (.op (.read (.load1 (.tmp 86)))) none,
       .act (some 88) (.op (.pure (.len false (.tmp 87)))) none,
       .act (some 89) (.op (.pure (.bin .sub (.tmp 88) (.const (.int .i64 1))))) none,
       .act (some 90) (.op (.read (.slSl 1 (.tmp 83) none (some (.tmp 89)) none))) none,
       .act (some 91) (.op (.pure (.nilCheck (.tmp 79)))) none,
       .act (some 92) (.op (.pure (.fieldAddr 6 (.tmp 91)))) none,
       .act none (.op (.eff (.store 1 (.tmp 92) (.tmp 90)))) none]))))))))
    (.steps [
      .act (some 93) (.op (.pure (.bin .add (.tmp 33) (.const (.int .i64 1))))) none,
      .act (some 33) (.op (.pure (.move (.tmp 93)))) none])))))))
  (.seq (.steps [
    .act (some 94) (.op (.pure (.move (.tmp 0)))) none,
    .act (some 95) (.op (.pure (.nilCheck (.tmp 94)))) none,
    .act (some 96) (.op (.pure (.fieldAddr 5 (.tmp 95)))) none,
    .act (some 97) (.op (.read (.load1 (.tmp 96)))) none,
    .act (some 98) (.op (.pure (.move (.tmp 7)))) none,
    .act none (.op (.eff (.mapUpdate true (.tmp 97) (.tmp 98) (.const (.bool true))))) none])
  (.seq (.steps [
    .act (some 6) (.op (.pure (.move (.const (.bool false))))) none])
  .ret)))))))) }
theorem c84 : compFn Try.prog (mkPlan Try.prog) [(7, [0, 1, 5, 7, 32, 33])] false 84 = some L84 := by kernel_rfl
/-- sluiceway/lin.may$1 -/
def L85 : LFun := { n := 23, pop := false, res := [.loadN 2 6, .tmp 7], code :=
  (.seq (.steps [
    .act (some 4) (.op (.new (.box (.tmp 0)))) none,
    .act (some 6) (.op (.new (.alloc [(.int .i64 0), (.slice none 0 0)]))) none,
    .act (some 7) (.op (.pure (.move (.const (.bool false))))) none])
  (.seq (.steps [
    .act (some 8) (.op (.read (.loadN 2 (.tmp 4)))) none,
    .act (some 9) (.op (.read (.load1 (.tmp 2)))) none,
    .act (some 10) (.op (.pure (.move (.tmp 1)))) none,
    .act (some 11) (.op (.pure (.idxSl 8 (.tmp 9) (.tmp 10)))) none,
    .act (some 12) (.op (.read (.loadN 8 (.tmp 11)))) none,
    .act (some 13) (.op (.read (.load1 (.tmp 3)))) none,
    .act (some 14) (.op (.read (.load1 (.tmp 2)))) none,
    .act (some 15) (.op (.pure (.move (.tmp 1)))) none,
    .act (some 17) (.op (.read (.load1 (.tmp 2)))) none,
    .act (some 18) (.op (.pure (.move (.tmp 1)))) none,
    .act (some 16) (.call (.func 87) [(.tmp 14), (.tmp 15), (.const (.int .i64 0))]) none,
    .again 17 (.load1 (.tmp 2)) none,
    .again 13 (.load1 (.tmp 3)) none,
    .again 12 (.loadN 8 (.tmp 11)) none,
    .again 9 (.load1 (.tmp 2)) none,
    .again 8 (.loadN 2 (.tmp 4)) none,
    .act (some 19) (.call (.func 87) [(.tmp 17), (.tmp 18), (.const (.int .i64 1))]) none,
    .again 13 (.load1 (.tmp 3)) none,
    .again 12 (.loadN 8 (.tmp 11)) none,
    .again 9 (.load1 (.tmp 2)) none,
    .again 8 (.loadN 2 (.tmp 4)) none,
    .act (some 20) (.call (.func 86) [(.tmp 8), (.tmp 12), (.tmp 13), (.tmp 16), (.tmp 19)]) none,
    .act (some 21) (.op (.pure (.extract (.tmp 20) 0))) none,
    .act (some 22) (.op (.pure (.extract (.tmp 20) 1))) none,
    .act none (.op (.eff (.store 2 (.tmp 6) (.tmp 21)))) none,
    .act (some 7) (.op (.pure (.move (.tmp 22)))) none])
  .ret)) }
theorem c85 : compFn Try.prog (mkPlan Try.prog) [] false 85 = some L85 := by kernel_rfl
/-- (sluiceway/spec.Fifo).May -/
def L86 : LFun := { n := 61, pop := false, res := [.loadN 2 10, .tmp 11], code :=
  (.seq (.steps [
    .act (some 5) (.op (.new (.box (.tmp 0)))) none,
    .act (some 6) (.op (.new (.box (.tmp 1)))) none,
    .act (some 10) (.op (.new (.alloc [(.int .i64 0), (.slice none 0 0)]))) none,
    .act (some 11) (.op (.pure (.move (.const (.bool false))))) none])
  (.seq (.steps [
    .act (some 16) (.op (.read (.loadN 2 (.tmp 5)))) none,
    .act (some 17) (.op (.pure (.fieldAddr 1 (.tmp 6)))) none,
    .act (some 18) (.op (.read (.load1 (.tmp 17)))) none,
    .act (some 19) (.op (.pure (.fieldAddr 2 (.tmp 6)))) none,
    .act (some 20) (.op (.read (.load1 (.tmp 19)))) none,
    .act (some 21) (.call (.func 31) [(.tmp 16), (.tmp 18), (.tmp 20)]) none,
    .act (some 15) (.op (.pure (.move (.tmp 21)))) none,
    .act (some 22) (.op (.pure (.extract (.tmp 15) 0))) none,
    .act (some 23) (.op (.pure (.extract (.tmp 15) 1))) none,
    .act (some 24) (.op (.pure (.extract (.tmp 15) 2))) none,
    .act (some 12) (.op (.new (.alloc [(.int .i64 0), (.slice none 0 0)]))) none,
    .act none (.op (.eff (.store 2 (.tmp 12) (.tmp 22)))) none,
    .act (some 13) (.op (.pure (.move (.tmp 23)))) none,
    .act (some 14) (.op (.pure (.move (.tmp 24)))) none])
  (.seq (.block 0 (.seq (.seq (.steps [
     .act (some 26) (.op (.pure (.fieldAddr 5 (.tmp 6)))) none,
     .act (some 27) (.op (.read (.load1 (.tmp 26)))) none,
     .act (some 28) (.op (.pure (.not (.tmp 27)))) none,
     .act (some 29) (.op (.pure (.move (.tmp 28)))) none,
     .act (some 30) (.op (.pure (.move (.tmp 13)))) (some (29, true)),
     .act (some 31) (.op (.pure (.bin .eql (.tmp 30) (.const (.int .i64 0))))) (some (29, true)),
     .act (some 32) (.op (.pure (.pick (.tmp 29) (.tmp 31) (.const (.bool false))))) none,
     .act (some 25) (.op (.pure (.move (.tmp 32)))) none])
   (.cond (.tmp 25)
    .skip
    (.steps [
      .act (some 33) (.op (.pure (.fieldAddr 5 (.tmp 6)))) none,
      .act (some 34) (.op (.read (.load1 (.tmp 33)))) none,
      .act (some 35) (.op (.pure (.move (.tmp 34)))) none,
      .act (some 36) (.op (.pure (.move (.tmp 13)))) (some (35, true)),
      .act (some 37) (.op (.pure (.fieldAddr 6 (.tmp 6)))) (some (35, true)),
      .act (some 38) (.op (.read (.load1 (.tmp 37)))) (some (35, true)),
      .act (some 39) (.op (.pure (.bin .eql (.tmp 36) (.tmp 38)))) (some (35, true)),
      .act (some 40) (.op (.pure (.pick (.tmp 35) (.tmp 39) (.const (.bool false))))) none,
      .act (some 41) (.op (.pure (.move (.tmp 40)))) none,
      .act (some 42) (.op (.pure (.move (.tmp 14)))) (some (41, true)),
      .act (some 43) (.op (.pure (.fieldAddr 7 (.tmp 6)))) (some (41, true)),
      .act (some 44) (.op (.read (.load1 (.tmp 43)))) (some (41, true)),
      .act (some 45) (.op (.pure (.bin .eql (.tmp 42) (.tmp 44)))) (some (41, true)),
      .act (some 46) (.op (.pure (.pick (.tmp 41) (.tmp 45) (.const (.bool false))))) none,
      .act (some 25) (.op (.pure (.move (.tmp 46)))) none])))
   (.cond (.tmp 25)
    (.seq (.steps [
      .act (some 47) (.op (.read (.loadN 2 (.tmp 12)))) none,
      .act none (.op (.eff (.store 2 (.tmp 10) (.tmp 47)))) none,
      .act (some 11) (.op (.pure (.move (.const (.bool true))))) none])
    .ret)
    (.seq (.steps [
      .act (some 49) (.op (.pure (.fieldAddr 5 (.tmp 6)))) none,
      .act (some 50) (.op (.read (.load1 (.tmp 49)))) none,
      .act (some 51) (.op (.pure (.move (.tmp 50)))) none,
      .act (some 52) (.op (.read (.loadN 2 (.tmp 5)))) (some (51, true)),
      .act (some 53) (.op (.read (.loadN 8 (.tmp 6)))) (some (51, true)),
      .act (some 54) (.op (.pure (.move (.tmp 2)))) (some (51, true)),
      .act (some 55) (.op (.pure (.move (.tmp 3)))) (some (51, true)),
      .act (some 56) (.op (.pure (.move (.tmp 4)))) (some (51, true)),
      .act (some 57) (.call (.func 102) [(.tmp 52), (.tmp 53), (.tmp 54), (.tmp 55), (.tmp 56)]) (some (51, true)),
      .act (some 58) (.op (.pure (.pick (.tmp 51) (.tmp 57) (.const (.bool false))))) none,
      .act (some 48) (.op (.pure (.move (.tmp 58)))) none])
    (.cond (.tmp 48)
     (.seq (.steps [
       .act (some 59) (.op (.read (.loadN 2 (.tmp 5)))) none,
       .act none (.op (.eff (.store 2 (.tmp 10) (.tmp 59)))) none,
       .act (some 11) (.op (.pure (.move (.const (.bool true))))) none])
     .ret)
     .skip)))))
  (.seq (.steps [
    .act (some 60) (.op (.pure (.build [(.int .i64 0), (.slice none 0 0)] []))) none,
    .act none (.op (.eff (.store 2 (.tmp 10) (.tmp 60)))) none,
    .act (some 11) (.op (.pure (.move (.const (.bool false))))) none])
  .ret)))) }
theorem c86 : compFn Try.prog (mkPlan Try.prog) [] false 86 = some L86 := by kernel_rfl
/-- sluiceway/hist.Among -/
def L87 : LFun := { n := 50, pop := true, res := [.tmp 6], code :=
  (.seq (.steps [
    .act (some 6) (.op (.pure (.move (.const (.int .i64 0))))) none])
  (.seq (.seq (.steps [
    .act (some 10) (.op (.pure (.move (.tmp 1)))) none,
    .act (some 11) (.op (.pure (.bin .lss (.tmp 10) (.const (.int .i64 0))))) none,
    .act (some 12) (.op (.pure (.move (.tmp 11)))) none,
    .act (some 13) (.op (.pure (.move (.tmp 1)))) (some (12, false)),
    .act (some 14) (.op (.pure (.move (.tmp 0)))) (some (12, false)),
    .act (some 15) (.op (.pure (.len false (.tmp 14)))) (some (12, false)),
    .act (some 16) (.op (.pure (.bin .geq (.tmp 13) (.tmp 15)))) (some (12, false)),
    .act (some 17) (.op (.pure (.pick (.tmp 12) (.const (.bool true)) (.tmp 16)))) none])
  (.cond (.tmp 17)
   (.seq (.steps [
     .act (some 6) (.op (.pure (.move (.const (.int .i64 0))))) none])
   .ret)
   .skip))
  (.seq (.steps [
    .act (some 7) (.op (.pure (.move (.const (.int .i64 0))))) none])
  (.seq (.seq (.steps [
    .act (some 18) (.op (.pure (.move (.tmp 0)))) none,
    .act (some 19) (.op (.pure (.len false (.tmp 18)))) none,
    .act (some 20) (.op (.pure (.move (.const (.int .i64 0))))) none])
  (.block 0 (.loop [0, 1, 2, 7, 18, 19, 20] (.seq (.steps [
      .act (some 21) (.op (.pure (.bin .lss (.tmp 20) (.tmp 19)))) none])
    (.seq (.cond (.tmp 21)
     .skip
     (.exit 0))
    (.seq (.block 1 (.seq (.steps [
       .act (some 22) (.op (.pure (.move (.tmp 20)))) none,
       .act (some 23) (.op (.pure (.idxSl 8 (.tmp 18) (.tmp 20)))) none,
       .act (some 24) (.op (.read (.loadN 8 (.tmp 23)))) none,
       .act (some 9) (.op (.new (.alloc [(.int .i64 0), (.int .i64 0), (w64 0#64), (.int .i64 0), (.int .i64 0), (.bool false), (.int .i64 0), (w64 0#64)]))) none,
       .act (some 8) (.op (.pure (.move (.tmp 22)))) none,
       .act none (.op (.eff (.store 8 (.tmp 9) (.tmp 24)))) none])
     (.seq (.steps [
       .act (some 25) (.op (.pure (.move (.tmp 8)))) none,
       .act (some 26) (.op (.pure (.move (.tmp 1)))) none,
       .act (some 27) (.op (.pure (.bin .neq (.tmp 25) (.tmp 26)))) none,
       .act (some 28) (.op (.pure (.move (.tmp 27)))) none,
       .act (some 29) (.op (.pure (.move (.tmp 2)))) (some (28, true)),
       .act (some 30) (.op (.pure (.bin .lss (.tmp 29) (.const (.int .i64 0))))) (some (28, true)),
       .act (some 31) (.op (.pure (.move (.tmp 30)))) (some (28, true)),
       .act (some 32) (.op (.pure (.fieldAddr 1 (.tmp 9)))) (some (31, false)),
       .act (some 33) (.op (.read (.load1 (.tmp 32)))) (some (31, false)),
       .act (some 34) (.op (.pure (.move (.tmp 2)))) (some (31, false)),
       .act (some 35) (.op (.pure (.bin .eql (.tmp 33) (.tmp 34)))) (some (31, false)),
       .act (some 36) (.op (.pure (.pick (.tmp 31) (.const (.bool true)) (.tmp 35)))) (some (28, true)),
       .act (some 37) (.op (.pure (.pick (.tmp 28) (.tmp 36) (.const (.bool false))))) none,
       .act (some 38) (.op (.pure (.move (.tmp 37)))) none,
       .act (some 39) (.op (.read (.loadN 8 (.tmp 9)))) (some (38, true)),
       .act (some 40) (.op (.pure (.move (.tmp 0)))) (some (38, true)),
       .act (some 41) (.op (.pure (.move (.tmp 1)))) (some (38, true)),
       .act (some 42) (.op (.pure (.idxSl 8 (.tmp 40) (.tmp 41)))) (some (38, true)),
       .act (some 43) (.op (.read (.loadN 8 (.tmp 42)))) (some (38, true)),
       .act (some 44) (.call (.func 97) [(.tmp 39), (.tmp 43)]) (some (38, true)),
       .act (some 45) (.op (.pure (.pick (.tmp 38) (.tmp 44) (.const (.bool false))))) none])
     (.cond (.tmp 45)
      (.steps [
        .act (some 46) (.op (.pure (.move (.tmp 7)))) none,
        .act (some 47) (.op (.pure (.bin .add (.tmp 46) (.const (.int .i64 1))))) none,
        .act (some 7) (.op (.pure (.move (.tmp 47)))) none])
      .skip))))
    (.steps [
      .act (some 48) (.op (.pure (.bin .add (.tmp 20) (.const (.int .i64 1))))) none,
      .act (some 20) (.op (.pure (.move (.tmp 48)))) none])))))))
  (.seq (.steps [
    .act (some 49) (.op (.pure (.move (.tmp 7)))) none,
    .act (some 6) (.op (.pure (.move (.tmp 49)))) none])
  .ret))))) }
theorem c87 : compFn Try.prog (mkPlan Try.prog) [(5, [0, 1, 2, 7, 18, 19, 20])] true 87 = some L87 := by kernel_rfl
/-- sluiceway/spec.lay -/
def L88 : LFun := { n := 16, pop := false, res := [.tmp 4], code :=
  (.seq (.steps [
    .act (some 4) (.op (.pure (.move (.const (.slice none 0 0))))) none])
  (.seq (.seq (.steps [
    .act (some 5) (.op (.pure (.move (.const (.int .i64 0))))) none])
  (.block 0 (.loop [0, 1, 5] (.seq (.steps [
      .act (some 6) (.op (.pure (.bin .lss (.tmp 5) (.const (.int .i64 8))))) none])
    (.seq (.cond (.tmp 6)
     .skip
     (.exit 0))
    (.seq (.block 1 (.seq (.steps [
       .act (some 7) (.op (.pure (.move (.tmp 0)))) none,
       .act (some 8) (.op (.pure (.move (.tmp 1)))) none,
       .act (some 9) (.op (.pure (.conv .u8 (.tmp 8)))) none,
       .act (some 10) (.op (.new (.mkSlice 1 1 [(b8 0)] [(0, 1, (.tmp 9))]))) none,
       .act (some 11) (.op (.eff (.append 1 1 (.tmp 7) (.tmp 10)))) none,
       .act (some 0) (.op (.pure (.move (.tmp 11)))) none])
     (.steps [
       .act (some 12) (.op (.pure (.move (.tmp 1)))) none,
       .act (some 13) (.op (.pure (.bin .shr (.tmp 12) (.const (w64 8#64))))) none,
       .act (some 1) (.op (.pure (.move (.tmp 13)))) none])))
    (.steps [
      .act (some 14) (.op (.pure (.bin .add (.tmp 5) (.const (.int .i64 1))))) none,
      .act (some 5) (.op (.pure (.move (.tmp 14)))) none])))))))
  (.seq (.steps [
    .act (some 15) (.op (.pure (.move (.tmp 0)))) none,
    .act (some 4) (.op (.pure (.move (.tmp 15)))) none])
  .ret))) }
theorem c88 : compFn Try.prog (mkPlan Try.prog) [(2, [0, 1, 5])] false 88 = some L88 := by kernel_rfl
/-- (*sluiceway/mem.Mem).Barred -/
def L89 : LFun := { n := 22, pop := true, res := [.tmp 4], code :=
  (.seq (.steps [
    .act (some 4) (.op (.pure (.move (.const (.bool false))))) none])
  (.seq (.steps [
    .act (some 5) (.op (.pure (.move (.tmp 1)))) none,
    .act (some 6) (.op (.pure (.bin .lss (.tmp 5) (.const (.int .i64 0))))) none,
    .act (some 7) (.op (.pure (.move (.tmp 6)))) none,
    .act (some 8) (.op (.pure (.move (.tmp 1)))) (some (7, false)),
    .act (some 9) (.op (.pure (.move (.tmp 0)))) (some (7, false)),
    .act (some 10) (.call (.func 39) [(.tmp 9)]) (some (7, false)),
    .act (some 11) (.op (.pure (.bin .geq (.tmp 8) (.tmp 10)))) (some (7, false)),
    .act (some 12) (.op (.pure (.pick (.tmp 7) (.const (.bool true)) (.tmp 11)))) none,
    .act (some 13) (.op (.pure (.move (.tmp 12)))) none,
    .act (some 14) (.op (.pure (.move (.tmp 0)))) (some (13, false)),
    .act (some 15) (.op (.pure (.nilCheck (.tmp 14)))) (some (13, false)),
    .act (some 16) (.op (.pure (.fieldAddr 1 (.tmp 15)))) (some (13, false)),
    .act (some 17) (.op (.read (.load1 (.tmp 16)))) (some (13, false)),
    .act (some 18) (.op (.pure (.move (.tmp 1)))) (some (13, false)),
    .act (some 19) (.op (.pure (.idxSl 1 (.tmp 17) (.tmp 18)))) (some (13, false)),
    .act (some 20) (.op (.read (.load1 (.tmp 19)))) (some (13, false)),
    .act (some 21) (.op (.pure (.pick (.tmp 13) (.const (.bool true)) (.tmp 20)))) none,
    .act (some 4) (.op (.pure (.move (.tmp 21)))) none])
  .ret)) }
theorem c89 : compFn Try.prog (mkPlan Try.prog) [] true 89 = some L89 := by kernel_rfl
/-- (*sluiceway/mem.Mem).fall -/
def L90 : LFun := { n := 16, pop := true, res := [], code :=
  (.seq (.steps [
    .act (some 4) (.op (.pure (.move (.tmp 0)))) none,
    .act (some 5) (.op (.pure (.nilCheck (.tmp 4)))) none,
    .act (some 6) (.op (.pure (.fieldAddr 9 (.tmp 5)))) none,
    .act (some 7) (.op (.read (.load1 (.tmp 6)))) none,
    .act (some 8) (.op (.pure (.not (.tmp 7)))) none])
  (.cond (.tmp 8)
   (.steps [
     .act (some 9) (.op (.pure (.move (.tmp 0)))) none,
     .act (some 10) (.op (.pure (.move (.tmp 0)))) none,
     .act (some 11) (.op (.pure (.move (.tmp 1)))) none,
     .act (some 12) (.op (.pure (.nilCheck (.tmp 9)))) none,
     .act (some 13) (.op (.pure (.fieldAddr 8 (.tmp 12)))) none,
     .act none (.op (.eff (.store 1 (.tmp 13) (.tmp 11)))) none,
     .act (some 14) (.op (.pure (.nilCheck (.tmp 10)))) none,
     .act (some 15) (.op (.pure (.fieldAddr 9 (.tmp 14)))) none,
     .act none (.op (.eff (.store 1 (.tmp 15) (.const (.bool true))))) none])
   .skip)) }
theorem c90 : compFn Try.prog (mkPlan Try.prog) [] true 90 = some L90 := by kernel_rfl
/-- (*sluiceway/mem.Mem).Or$1 -/
def L91 : LFun := { n := 13, pop := true, res := [], code :=
  (.seq (.steps [
    .act (some 4) (.op (.pure (.move (.tmp 0)))) none,
    .act (some 5) (.op (.pure (.nilCheck (.tmp 4)))) none,
    .act (some 6) (.op (.read (.load1 (.tmp 5)))) none,
    .act none (.op (.eff (.store 1 (.tmp 1) (.tmp 6)))) none])
  (.steps [
    .act (some 7) (.op (.pure (.move (.tmp 0)))) none,
    .act (some 8) (.op (.pure (.nilCheck (.tmp 7)))) none,
    .act (some 9) (.op (.read (.load1 (.tmp 8)))) none,
    .act (some 10) (.op (.read (.load1 (.tmp 2)))) none,
    .act (some 11) (.op (.pure (.bin .or (.tmp 9) (.tmp 10)))) none,
    .act (some 12) (.op (.pure (.nilCheck (.tmp 7)))) none,
    .act none (.op (.eff (.store 1 (.tmp 12) (.tmp 11)))) none])) }
theorem c91 : compFn Try.prog (mkPlan Try.prog) [] true 91 = some L91 := by kernel_rfl
/-- (*sluiceway/mem.Mem).Add$1 -/
def L92 : LFun := { n := 13, pop := true, res := [], code :=
  (.seq (.steps [
    .act (some 4) (.op (.pure (.move (.tmp 0)))) none,
    .act (some 5) (.op (.pure (.nilCheck (.tmp 4)))) none,
    .act (some 6) (.op (.read (.load1 (.tmp 5)))) none,
    .act none (.op (.eff (.store 1 (.tmp 1) (.tmp 6)))) none])
  (.steps [
    .act (some 7) (.op (.pure (.move (.tmp 0)))) none,
    .act (some 8) (.op (.pure (.nilCheck (.tmp 7)))) none,
    .act (some 9) (.op (.read (.load1 (.tmp 8)))) none,
    .act (some 10) (.op (.read (.load1 (.tmp 2)))) none,
    .act (some 11) (.op (.pure (.bin .add (.tmp 9) (.tmp 10)))) none,
    .act (some 12) (.op (.pure (.nilCheck (.tmp 7)))) none,
    .act none (.op (.eff (.store 1 (.tmp 12) (.tmp 11)))) none])) }
theorem c92 : compFn Try.prog (mkPlan Try.prog) [] true 92 = some L92 := by kernel_rfl
/-- (*sluiceway/mem.Mem).Load$1 -/
def L93 : LFun := { n := 6, pop := true, res := [], code :=
  (.steps [
    .act (some 3) (.op (.pure (.move (.tmp 0)))) none,
    .act (some 4) (.op (.pure (.nilCheck (.tmp 3)))) none,
    .act (some 5) (.op (.read (.load1 (.tmp 4)))) none,
    .act none (.op (.eff (.store 1 (.tmp 1) (.tmp 5)))) none]) }
theorem c93 : compFn Try.prog (mkPlan Try.prog) [] true 93 = some L93 := by kernel_rfl
/-- (*sluiceway/crq.Op).own -/
def L94 : LFun := { n := 20, pop := true, res := [.tmp 2], code :=
  (.seq (.steps [
    .act (some 2) (.op (.pure (.move (.const (.bool false))))) none])
  (.seq (.steps [
    .act (some 3) (.op (.pure (.move (.tmp 0)))) none,
    .act (some 4) (.op (.pure (.nilCheck (.tmp 3)))) none,
    .act (some 5) (.op (.pure (.fieldAddr 7 (.tmp 4)))) none,
    .act (some 6) (.op (.read (.load1 (.tmp 5)))) none,
    .act (some 7) (.op (.pure (.bin .neq (.tmp 6) (.const (w64 0#64))))) none,
    .act (some 8) (.op (.pure (.move (.tmp 7)))) none,
    .act (some 9) (.op (.pure (.move (.tmp 0)))) (some (8, true)),
    .act (some 10) (.op (.pure (.nilCheck (.tmp 9)))) (some (8, true)),
    .act (some 11) (.op (.pure (.fieldAddr 8 (.tmp 10)))) (some (8, true)),
    .act (some 12) (.op (.read (.load1 (.tmp 11)))) (some (8, true)),
    .act (some 14) (.op (.pure (.move (.tmp 0)))) (some (8, true)),
    .act (some 15) (.op (.pure (.nilCheck (.tmp 14)))) (some (8, true)),
    .act (some 16) (.op (.pure (.fieldAddr 6 (.tmp 15)))) (some (8, true)),
    .act (some 17) (.op (.read (.load1 (.tmp 16)))) (some (8, true)),
    .act (some 13) (.call (.func 77) [(.tmp 12)]) (some (8, true)),
    .act (some 18) (.op (.pure (.bin .eql (.tmp 13) (.tmp 17)))) (some (8, true)),
    .act (some 19) (.op (.pure (.pick (.tmp 8) (.tmp 18) (.const (.bool false))))) none,
    .act (some 2) (.op (.pure (.move (.tmp 19)))) none,
    .again 17 (.load1 (.tmp 16)) (some (8, true))])
  .ret)) }
theorem c94 : compFn Try.prog (mkPlan Try.prog) [] true 94 = some L94 := by kernel_rfl
/-- (*sluiceway/mem.Mem).Swap -/
def L95 : LFun := { n := 14, pop := true, res := [.load1 8], code :=
  (.seq (.steps [
    .act (some 6) (.op (.new (.box (.tmp 2)))) none,
    .act (some 7) (.op (.new (.box (.tmp 3)))) none,
    .act (some 8) (.op (.new (.alloc [(.bool false)]))) none])
  (.seq (.steps [
    .act (some 9) (.op (.pure (.move (.tmp 0)))) none,
    .act (some 10) (.op (.pure (.move (.tmp 1)))) none,
    .act (some 11) (.op (.pure (.mkFunc 103 [] [(.tmp 6), (.tmp 8), (.tmp 7)]))) none,
    .act (some 12) (.call (.func 67) [(.tmp 9), (.const (.int .i64 2)), (.tmp 10), (.tmp 11)]) none])
  (.seq (.steps [
    .act (some 13) (.op (.read (.load1 (.tmp 8)))) none,
    .act none (.op (.eff (.store 1 (.tmp 8) (.tmp 13)))) none])
  .ret))) }
theorem c95 : compFn Try.prog (mkPlan Try.prog) [] true 95 = some L95 := by kernel_rfl
/-- sluiceway/hist.Right$1 -/
def L96 : LFun := { n := 14, pop := true, res := [.tmp 3], code :=
  (.seq (.steps [
    .act (some 2) (.op (.new (.box (.tmp 0)))) none,
    .act (some 3) (.op (.pure (.move (.const (.bool false))))) none])
  (.seq (.steps [
    .act (some 4) (.op (.pure (.fieldAddr 0 (.tmp 2)))) none,
    .act (some 5) (.op (.read (.load1 (.tmp 4)))) none,
    .act (some 6) (.op (.pure (.fieldAddr 0 (.tmp 1)))) none,
    .act (some 7) (.op (.read (.load1 (.tmp 6)))) none,
    .act (some 8) (.op (.pure (.bin .eql (.tmp 5) (.tmp 7)))) none,
    .act (some 9) (.op (.pure (.move (.tmp 8)))) none,
    .act (some 10) (.op (.read (.loadN 8 (.tmp 2)))) (some (9, true)),
    .act (some 11) (.op (.read (.loadN 8 (.tmp 1)))) (some (9, true)),
    .act (some 12) (.call (.func 97) [(.tmp 10), (.tmp 11)]) (some (9, true)),
    .act (some 13) (.op (.pure (.pick (.tmp 9) (.tmp 12) (.const (.bool false))))) none,
    .act (some 3) (.op (.pure (.move (.tmp 13)))) none])
  .ret)) }
theorem c96 : compFn Try.prog (mkPlan Try.prog) [] true 96 = some L96 := by kernel_rfl
/-- sluiceway/hist.Meets -/
def L97 : LFun := { n := 15, pop := true, res := [.tmp 4], code :=
  (.seq (.steps [
    .act (some 2) (.op (.new (.box (.tmp 0)))) none,
    .act (some 3) (.op (.new (.box (.tmp 1)))) none,
    .act (some 4) (.op (.pure (.move (.const (.bool false))))) none])
  (.seq (.steps [
    .act (some 5) (.op (.read (.loadN 8 (.tmp 2)))) none,
    .act (some 6) (.op (.read (.loadN 8 (.tmp 3)))) none,
    .act (some 7) (.call (.func 36) [(.tmp 5), (.tmp 6)]) none,
    .act (some 8) (.op (.pure (.not (.tmp 7)))) none,
    .act (some 9) (.op (.pure (.move (.tmp 8)))) none,
    .act (some 10) (.op (.read (.loadN 8 (.tmp 3)))) (some (9, true)),
    .act (some 11) (.op (.read (.loadN 8 (.tmp 2)))) (some (9, true)),
    .act (some 12) (.call (.func 36) [(.tmp 10), (.tmp 11)]) (some (9, true)),
    .act (some 13) (.op (.pure (.not (.tmp 12)))) (some (9, true)),
    .act (some 14) (.op (.pure (.pick (.tmp 9) (.tmp 13) (.const (.bool false))))) none,
    .act (some 4) (.op (.pure (.move (.tmp 14)))) none])
  .ret)) }
theorem c97 : compFn Try.prog (mkPlan Try.prog) [] true 97 = some L97 := by kernel_rfl
/-- (sluiceway/hist.Call).right -/
def L98 : LFun := { n := 34, pop := true, res := [.tmp 2], code :=
  (.seq (.steps [
    .act (some 1) (.op (.new (.box (.tmp 0)))) none,
    .act (some 2) (.op (.pure (.move (.const (.bool false))))) none])
  (.seq (.seq (.steps [
    .act (some 3) (.op (.pure (.fieldAddr 0 (.tmp 1)))) none,
    .act (some 4) (.op (.read (.load1 (.tmp 3)))) none,
    .act (some 5) (.op (.pure (.bin .lss (.tmp 4) (.const (.int .i64 0))))) none,
    .act (some 6) (.op (.pure (.move (.tmp 5)))) none,
    .act (some 7) (.op (.pure (.fieldAddr 0 (.tmp 1)))) (some (6, false)),
    .act (some 8) (.op (.read (.load1 (.tmp 7)))) (some (6, false)),
    .act (some 9) (.op (.pure (.bin .geq (.tmp 8) (.const (.int .i64 64))))) (some (6, false)),
    .act (some 10) (.op (.pure (.pick (.tmp 6) (.const (.bool true)) (.tmp 9)))) none,
    .act (some 11) (.op (.pure (.move (.tmp 10)))) none,
    .act (some 12) (.op (.pure (.fieldAddr 3 (.tmp 1)))) (some (11, false)),
    .act (some 13) (.op (.read (.load1 (.tmp 12)))) (some (11, false)),
    .act (some 14) (.op (.pure (.bin .lss (.tmp 13) (.const (.int .i64 0))))) (some (11, false)),
    .act (some 15) (.op (.pure (.pick (.tmp 11) (.const (.bool true)) (.tmp 14)))) none])
  (.cond (.tmp 15)
   (.seq (.steps [
     .act (some 2) (.op (.pure (.move (.const (.bool false))))) none])
   .ret)
   .skip))
  (.seq (.seq (.steps [
    .act (some 16) (.op (.pure (.fieldAddr 5 (.tmp 1)))) none,
    .act (some 17) (.op (.read (.load1 (.tmp 16)))) none])
  (.cond (.tmp 17)
   (.seq (.steps [
     .act (some 18) (.op (.pure (.fieldAddr 4 (.tmp 1)))) none,
     .act (some 19) (.op (.read (.load1 (.tmp 18)))) none,
     .act (some 20) (.op (.pure (.fieldAddr 3 (.tmp 1)))) none,
     .act (some 21) (.op (.read (.load1 (.tmp 20)))) none,
     .act (some 22) (.op (.pure (.bin .geq (.tmp 19) (.tmp 21)))) none,
     .act (some 2) (.op (.pure (.move (.tmp 22)))) none])
   .ret)
   .skip))
  (.seq (.steps [
    .act (some 23) (.op (.read (.loadN 8 (.tmp 1)))) none,
    .act (some 24) (.op (.pure (.fieldAddr 0 (.tmp 1)))) none,
    .act (some 25) (.op (.read (.load1 (.tmp 24)))) none,
    .act (some 26) (.op (.pure (.fieldAddr 1 (.tmp 1)))) none,
    .act (some 27) (.op (.read (.load1 (.tmp 26)))) none,
    .act (some 28) (.op (.pure (.fieldAddr 2 (.tmp 1)))) none,
    .act (some 29) (.op (.read (.load1 (.tmp 28)))) none,
    .act (some 30) (.op (.pure (.fieldAddr 3 (.tmp 1)))) none,
    .act (some 31) (.op (.read (.load1 (.tmp 30)))) none,
    .act (some 32) (.op (.pure (.build [(.int .i64 0), (.int .i64 0), (w64 0#64), (.int .i64 0), (.int .i64 0), (.bool false), (.int .i64 0), (w64 0#64)] [(0, 1, (.tmp 25)), (1, 1, (.tmp 27)), (2, 1, (.tmp 29)), (3, 1, (.tmp 31))]))) none,
    .act (some 33) (.op (.pure (.eqAgg [false, false, false, false, false, true, false, false] false (.tmp 23) (.tmp 32)))) none,
    .act (some 2) (.op (.pure (.move (.tmp 33)))) none])
  .ret)))) }
theorem c98 : compFn Try.prog (mkPlan Try.prog) [] true 98 = some L98 := by kernel_rfl
/-- slices.ContainsFunc[[]sluiceway/hist.Call,sluiceway/hist.Call] -/
def L99 : LFun := { n := 9, pop := true, res := [.tmp 4], code :=
  (.seq (.steps [
    .act (some 4) (.op (.pure (.move (.const (.bool false))))) none])
  (.seq (.steps [
    .act (some 5) (.op (.pure (.move (.tmp 0)))) none,
    .act (some 6) (.op (.pure (.move (.tmp 1)))) none,
    .act (some 7) (.call (.func 104) [(.tmp 5), (.tmp 6)]) none,
    .act (some 8) (.op (.pure (.bin .geq (.tmp 7) (.const (.int .i64 0))))) none,
    .act (some 4) (.op (.pure (.move (.tmp 8)))) none])
  .ret)) }
theorem c99 : compFn Try.prog (mkPlan Try.prog) [] true 99 = some L99 := by kernel_rfl
/-- (*sluiceway/lin.finder[sluiceway/spec.Fifo]).name -/
def L100 : LFun := { n := 34, pop := true, res := [.tmp 6], code :=
  (.seq (.steps [
    .act (some 5) (.op (.new (.box (.tmp 2)))) none,
    .act (some 6) (.op (.pure (.move (.const (strV []))))) none])
  (.seq (.steps [
    .act (some 7) (.op (.pure (.move (.const (.slice none 0 0))))) none])
  (.seq (.seq (.steps [
    .act (some 9) (.op (.pure (.move (.tmp 1)))) none,
    .act (some 8) (.op (.pure (.move (.tmp 9)))) none])
  (.block 0 (.loop [0, 5, 7, 8] (.seq (.seq (.steps [
      .act (some 10) (.op (.pure (.move (.tmp 8)))) none,
      .act (some 11) (.op (.pure (.bin .gtr (.tmp 10) (.const (w64 0#64))))) none])
    (.cond (.tmp 11)
     .skip
     (.exit 0)))
    (.seq (.block 1 (.steps [
       .act (some 14) (.op (.pure (.move (.tmp 7)))) none,
       .act (some 15) (.op (.pure (.move (.tmp 8)))) none,
       .act (some 16) (.op (.pure (.conv .u8 (.tmp 15)))) none,
       .act (some 17) (.op (.new (.mkSlice 1 1 [(b8 0)] [(0, 1, (.tmp 16))]))) none,
       .act (some 18) (.op (.eff (.append 1 1 (.tmp 14) (.tmp 17)))) none,
       .act (some 7) (.op (.pure (.move (.tmp 18)))) none]))
    (.steps [
      .act (some 12) (.op (.pure (.move (.tmp 8)))) none,
      .act (some 13) (.op (.pure (.bin .shr (.tmp 12) (.const (w64 8#64))))) none,
      .act (some 8) (.op (.pure (.move (.tmp 13)))) none]))))))
  (.seq (.steps [
    .act (some 19) (.op (.pure (.move (.tmp 7)))) none,
    .act (some 20) (.op (.pure (.len false (.tmp 19)))) none,
    .act (some 21) (.op (.pure (.conv .u8 (.tmp 20)))) none,
    .act (some 22) (.op (.new (.mkSlice 1 1 [(b8 0)] [(0, 1, (.tmp 21))]))) none,
    .act (some 23) (.op (.read (.b2s (.tmp 22)))) none,
    .act (some 24) (.op (.pure (.move (.tmp 7)))) none,
    .act (some 25) (.op (.read (.b2s (.tmp 24)))) none,
    .act (some 26) (.op (.pure (.strOp .add (.tmp 23) (.tmp 25)))) none,
    .act (some 27) (.op (.pure (.move (.tmp 0)))) none,
    .act (some 28) (.op (.pure (.nilCheck (.tmp 27)))) none,
    .act (some 29) (.op (.pure (.fieldAddr 4 (.tmp 28)))) none,
    .act (some 30) (.op (.read (.load1 (.tmp 29)))) none,
    .act (some 31) (.op (.read (.loadN 2 (.tmp 5)))) none,
    .act (some 32) (.call (.tmp 30) [(.tmp 31)]) none,
    .act (some 33) (.op (.pure (.strOp .add (.tmp 26) (.tmp 32)))) none,
    .act (some 6) (.op (.pure (.move (.tmp 33)))) none,
    .again 25 (.b2s (.tmp 24)) none,
    .again 23 (.b2s (.tmp 22)) none])
  .ret)))) }
theorem c100 : compFn Try.prog (mkPlan Try.prog) [(3, [0, 5, 7, 8])] true 100 = some L100 := by kernel_rfl
/-- (sluiceway/lin.set).has -/
def L101 : LFun := { n := 10, pop := true, res := [.tmp 4], code :=
  (.seq (.steps [
    .act (some 4) (.op (.pure (.move (.const (.bool false))))) none])
  (.seq (.steps [
    .act (some 5) (.op (.pure (.move (.tmp 0)))) none,
    .act (some 6) (.op (.pure (.move (.tmp 1)))) none,
    .act (some 7) (.op (.pure (.bin .shr (.tmp 5) (.tmp 6)))) none,
    .act (some 8) (.op (.pure (.bin .and (.tmp 7) (.const (w64 1#64))))) none,
    .act (some 9) (.op (.pure (.bin .eql (.tmp 8) (.const (w64 1#64))))) none,
    .act (some 4) (.op (.pure (.move (.tmp 9)))) none])
  .ret)) }
theorem c101 : compFn Try.prog (mkPlan Try.prog) [] true 101 = some L101 := by kernel_rfl
/-- (sluiceway/spec.Fifo).let -/
def L102 : LFun := { n := 84, pop := true, res := [.tmp 10], code :=
  (.seq (.steps [
    .act (some 5) (.op (.new (.box (.tmp 0)))) none,
    .act (some 6) (.op (.new (.box (.tmp 1)))) none,
    .act (some 10) (.op (.pure (.move (.const (.bool false))))) none])
  (.seq (.steps [
    .act (some 11) (.op (.pure (.move (.tmp 3)))) none,
    .act (some 12) (.op (.pure (.minmax true [(.tmp 11), (.const (.int .i64 0))]))) none,
    .act (some 13) (.op (.pure (.move (.tmp 4)))) none,
    .act (some 14) (.op (.pure (.minmax true [(.tmp 13), (.const (.int .i64 0))]))) none,
    .act (some 3) (.op (.pure (.move (.tmp 12)))) none,
    .act (some 4) (.op (.pure (.move (.tmp 14)))) none])
  (.seq (.block 0 (.seq (.steps [
     .act (some 16) (.op (.pure (.fieldAddr 7 (.tmp 6)))) none,
     .act (some 17) (.op (.read (.load1 (.tmp 16)))) none,
     .act (some 18) (.op (.pure (.bin .neq (.tmp 17) (.const (w64 0#64))))) none,
     .act (some 15) (.op (.pure (.move (.tmp 18)))) none])
   (.cond (.tmp 15)
    (.seq (.steps [
      .act (some 10) (.op (.pure (.move (.const (.bool false))))) none])
    .ret)
    (.seq (.steps [
      .act (some 20) (.op (.pure (.fieldAddr 1 (.tmp 6)))) none,
      .act (some 21) (.op (.read (.load1 (.tmp 20)))) none,
      .act (some 22) (.op (.pure (.bin .eql (.tmp 21) (.const (.int .i64 0))))) none,
      .act (some 23) (.op (.pure (.move (.tmp 22)))) none,
      .act (some 24) (.op (.pure (.fieldAddr 6 (.tmp 6)))) (some (23, true)),
      .act (some 25) (.op (.read (.load1 (.tmp 24)))) (some (23, true)),
      .act (some 26) (.op (.pure (.bin .eql (.tmp 25) (.const (.int .i64 15))))) (some (23, true)),
      .act (some 27) (.op (.pure (.pick (.tmp 23) (.tmp 26) (.const (.bool false))))) none,
      .act (some 28) (.op (.pure (.move (.tmp 27)))) none,
      .act (some 29) (.op (.pure (.fieldAddr 0 (.tmp 5)))) (some (28, true)),
      .act (some 30) (.op (.read (.load1 (.tmp 29)))) (some (28, true)),
      .act (some 31) (.op (.pure (.bin .gtr (.tmp 30) (.const (.int .i64 0))))) (some (28, true)),
      .act (some 32) (.op (.pure (.pick (.tmp 28) (.tmp 31) (.const (.bool false))))) none,
      .act (some 33) (.op (.pure (.move (.tmp 32)))) none,
      .act (some 34) (.op (.pure (.move (.tmp 2)))) (some (33, true)),
      .act (some 35) (.op (.pure (.bin .eql (.tmp 34) (.const (.int .i64 1))))) (some (33, true)),
      .act (some 36) (.op (.pure (.pick (.tmp 33) (.tmp 35) (.const (.bool false))))) none,
      .act (some 19) (.op (.pure (.move (.tmp 36)))) none])
    (.cond (.tmp 19)
     (.seq (.steps [
       .act (some 37) (.op (.pure (.move (.tmp 3)))) none,
       .act (some 38) (.op (.read (.loadN 2 (.tmp 5)))) none,
       .act (some 39) (.call (.func 105) [(.tmp 38)]) none,
       .act (some 40) (.op (.pure (.bin .geq (.tmp 37) (.tmp 39)))) none,
       .act (some 41) (.op (.pure (.move (.tmp 40)))) none,
       .act (some 42) (.op (.pure (.move (.tmp 4)))) (some (41, false)),
       .act (some 43) (.op (.read (.loadN 2 (.tmp 5)))) (some (41, false)),
       .act (some 44) (.call (.func 105) [(.tmp 43)]) (some (41, false)),
       .act (some 45) (.op (.pure (.move (.tmp 3)))) (some (41, false)),
       .act (some 46) (.op (.pure (.bin .sub (.tmp 44) (.tmp 45)))) (some (41, false)),
       .act (some 47) (.op (.pure (.bin .geq (.tmp 42) (.tmp 46)))) (some (41, false)),
       .act (some 48) (.op (.pure (.pick (.tmp 41) (.const (.bool true)) (.tmp 47)))) none,
       .act (some 10) (.op (.pure (.move (.tmp 48)))) none])
     .ret)
     (.seq (.steps [
       .act (some 50) (.op (.pure (.fieldAddr 1 (.tmp 6)))) none,
       .act (some 51) (.op (.read (.load1 (.tmp 50)))) none,
       .act (some 52) (.op (.pure (.bin .eql (.tmp 51) (.const (.int .i64 0))))) none,
       .act (some 53) (.op (.pure (.move (.tmp 52)))) none,
       .act (some 54) (.op (.pure (.fieldAddr 6 (.tmp 6)))) (some (53, true)),
       .act (some 55) (.op (.read (.load1 (.tmp 54)))) (some (53, true)),
       .act (some 56) (.op (.pure (.bin .eql (.tmp 55) (.const (.int .i64 15))))) (some (53, true)),
       .act (some 57) (.op (.pure (.pick (.tmp 53) (.tmp 56) (.const (.bool false))))) none,
       .act (some 58) (.op (.pure (.move (.tmp 57)))) none,
       .act (some 59) (.op (.pure (.fieldAddr 0 (.tmp 5)))) (some (58, true)),
       .act (some 60) (.op (.read (.load1 (.tmp 59)))) (some (58, true)),
       .act (some 61) (.op (.pure (.bin .gtr (.tmp 60) (.const (.int .i64 0))))) (some (58, true)),
       .act (some 62) (.op (.pure (.pick (.tmp 58) (.tmp 61) (.const (.bool false))))) none,
       .act (some 63) (.op (.pure (.move (.tmp 62)))) none,
       .act (some 64) (.op (.pure (.move (.tmp 2)))) (some (63, true)),
       .act (some 65) (.op (.pure (.bin .eql (.tmp 64) (.const (.int .i64 2))))) (some (63, true)),
       .act (some 66) (.op (.pure (.pick (.tmp 63) (.tmp 65) (.const (.bool false))))) none,
       .act (some 49) (.op (.pure (.move (.tmp 66)))) none])
     (.cond (.tmp 49)
      (.seq (.steps [
        .act (some 67) (.op (.pure (.move (.tmp 4)))) none,
        .act (some 68) (.op (.pure (.bin .gtr (.tmp 67) (.const (.int .i64 0))))) none,
        .act (some 10) (.op (.pure (.move (.tmp 68)))) none])
      .ret)
      (.seq (.steps [
        .act (some 70) (.op (.pure (.fieldAddr 1 (.tmp 6)))) none,
        .act (some 71) (.op (.read (.load1 (.tmp 70)))) none,
        .act (some 72) (.op (.pure (.bin .eql (.tmp 71) (.const (.int .i64 1))))) none,
        .act (some 73) (.op (.pure (.move (.tmp 72)))) none,
        .act (some 74) (.op (.pure (.fieldAddr 6 (.tmp 6)))) (some (73, true)),
        .act (some 75) (.op (.read (.load1 (.tmp 74)))) (some (73, true)),
        .act (some 76) (.op (.pure (.bin .eql (.tmp 75) (.const (.int .i64 13))))) (some (73, true)),
        .act (some 77) (.op (.pure (.pick (.tmp 73) (.tmp 76) (.const (.bool false))))) none,
        .act (some 78) (.op (.pure (.move (.tmp 77)))) none,
        .act (some 79) (.op (.pure (.move (.tmp 2)))) (some (78, true)),
        .act (some 80) (.op (.pure (.bin .eql (.tmp 79) (.const (.int .i64 2))))) (some (78, true)),
        .act (some 81) (.op (.pure (.pick (.tmp 78) (.tmp 80) (.const (.bool false))))) none,
        .act (some 69) (.op (.pure (.move (.tmp 81)))) none])
      (.cond (.tmp 69)
       (.seq (.steps [
         .act (some 82) (.op (.pure (.move (.tmp 3)))) none,
         .act (some 83) (.op (.pure (.bin .gtr (.tmp 82) (.const (.int .i64 0))))) none,
         .act (some 10) (.op (.pure (.move (.tmp 83)))) none])
       .ret)
       .skip)))))))))
  (.seq (.steps [
    .act (some 10) (.op (.pure (.move (.const (.bool false))))) none])
  .ret)))) }
theorem c102 : compFn Try.prog (mkPlan Try.prog) [] true 102 = some L102 := by kernel_rfl
/-- (*sluiceway/mem.Mem).Swap$1 -/
def L103 : LFun := { n := 14, pop := true, res := [], code :=
  (.seq (.steps [
    .act (some 5) (.op (.pure (.move (.tmp 0)))) none,
    .act (some 6) (.op (.pure (.nilCheck (.tmp 5)))) none,
    .act (some 7) (.op (.read (.load1 (.tmp 6)))) none,
    .act (some 8) (.op (.read (.load1 (.tmp 1)))) none,
    .act (some 9) (.op (.pure (.bin .eql (.tmp 7) (.tmp 8)))) none,
    .act none (.op (.eff (.store 1 (.tmp 2) (.tmp 9)))) none])
  (.seq (.steps [
    .act (some 10) (.op (.read (.load1 (.tmp 2)))) none])
  (.cond (.tmp 10)
   (.steps [
     .act (some 11) (.op (.pure (.move (.tmp 0)))) none,
     .act (some 12) (.op (.read (.load1 (.tmp 3)))) none,
     .act (some 13) (.op (.pure (.nilCheck (.tmp 11)))) none,
     .act none (.op (.eff (.store 1 (.tmp 13) (.tmp 12)))) none])
   .skip))) }
theorem c103 : compFn Try.prog (mkPlan Try.prog) [] true 103 = some L103 := by kernel_rfl
/-- slices.IndexFunc[[]sluiceway/hist.Call,sluiceway/hist.Call] -/
def L104 : LFun := { n := 19, pop := true, res := [.tmp 4], code :=
  (.seq (.steps [
    .act (some 4) (.op (.pure (.move (.const (.int .i64 0))))) none])
  (.seq (.seq (.steps [
    .act (some 6) (.op (.pure (.move (.tmp 0)))) none,
    .act (some 7) (.op (.pure (.len false (.tmp 6)))) none,
    .act (some 8) (.op (.pure (.move (.const (.int .i64 0))))) none])
  (.block 0 (.loop [0, 1, 7, 8] (.seq (.steps [
      .act (some 9) (.op (.pure (.bin .lss (.tmp 8) (.tmp 7)))) none])
    (.seq (.cond (.tmp 9)
     .skip
     (.exit 0))
    (.seq (.block 1 (.seq (.steps [
       .act (some 10) (.op (.pure (.move (.tmp 8)))) none,
       .act (some 5) (.op (.pure (.move (.tmp 10)))) none])
     (.seq (.steps [
       .act (some 11) (.op (.pure (.move (.tmp 1)))) none,
       .act (some 12) (.op (.pure (.move (.tmp 0)))) none,
       .act (some 13) (.op (.pure (.move (.tmp 5)))) none,
       .act (some 14) (.op (.pure (.idxSl 8 (.tmp 12) (.tmp 13)))) none,
       .act (some 15) (.op (.read (.loadN 8 (.tmp 14)))) none,
       .act (some 16) (.call (.tmp 11) [(.tmp 15)]) none])
     (.cond (.tmp 16)
      (.seq (.steps [
        .act (some 17) (.op (.pure (.move (.tmp 5)))) none,
        .act (some 4) (.op (.pure (.move (.tmp 17)))) none])
      .ret)
      .skip))))
    (.steps [
      .act (some 18) (.op (.pure (.bin .add (.tmp 8) (.const (.int .i64 1))))) none,
      .act (some 8) (.op (.pure (.move (.tmp 18)))) none])))))))
  (.seq (.steps [
    .act (some 4) (.op (.pure (.move (.const (.int .i64 (-1)))))) none])
  .ret))) }
theorem c104 : compFn Try.prog (mkPlan Try.prog) [(2, [0, 1, 7, 8])] true 104 = some L104 := by kernel_rfl
/-- (sluiceway/spec.Fifo).room -/
def L105 : LFun := { n := 10, pop := true, res := [.tmp 2], code :=
  (.seq (.steps [
    .act (some 1) (.op (.new (.box (.tmp 0)))) none,
    .act (some 2) (.op (.pure (.move (.const (.int .i64 0))))) none])
  (.seq (.steps [
    .act (some 3) (.op (.pure (.fieldAddr 0 (.tmp 1)))) none,
    .act (some 4) (.op (.read (.load1 (.tmp 3)))) none,
    .act (some 5) (.op (.pure (.fieldAddr 1 (.tmp 1)))) none,
    .act (some 6) (.op (.read (.load1 (.tmp 5)))) none,
    .act (some 7) (.op (.pure (.len false (.tmp 6)))) none,
    .act (some 8) (.op (.pure (.bin .sub (.tmp 4) (.tmp 7)))) none,
    .act (some 9) (.op (.pure (.minmax true [(.const (.int .i64 0)), (.tmp 8)]))) none,
    .act (some 2) (.op (.pure (.move (.tmp 9)))) none])
  .ret)) }
theorem c105 : compFn Try.prog (mkPlan Try.prog) [] true 105 = some L105 := by kernel_rfl
end Go.Proofs.Ytopjhhcncjleaaa
