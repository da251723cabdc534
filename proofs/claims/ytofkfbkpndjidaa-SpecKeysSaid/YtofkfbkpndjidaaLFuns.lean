import Derived.Test.YtofkfbkpndjidaaLP
import Derived.KernelRfl
import Derived.Test.YtofkfbkpndjidaaProg
namespace Go.Proofs.Ytofkfbkpndjidaa
open Go Go.LK Go.Proofs
set_option maxRecDepth 100000
/-- sluiceway/sluicewaylaw05.SpecOrder -/
def L3 : LFun := { n := 149, pop := true, res := [.tmp 4], code :=
  (.seq (.steps [
    .act (some 4) (.op (.pure (.move (.const (.bool false))))) none])
  (.seq (.steps [
    .act (some 16) (.op (.pure (.move (.tmp 0)))) none,
    .act (some 17) (.op (.pure (.bin .and (.tmp 16) (.const (.int .i64 15))))) none,
    .act (some 0) (.op (.pure (.move (.tmp 17)))) none])
  (.seq (.steps [
    .act (some 18) (.op (.pure (.move (.tmp 0)))) none,
    .act (some 19) (.op (.pure (.build [(.int .i64 0), (.slice none 0 0)] [(0, 1, (.tmp 18))]))) none,
    .act (some 5) (.op (.new (.alloc [(.int .i64 0), (.slice none 0 0)]))) none,
    .act none (.op (.eff (.store 2 (.tmp 5) (.tmp 19)))) none])
  (.seq (.steps [
    .act (some 6) (.op (.pure (.move (.const (.int .i64 0))))) none,
    .act (some 7) (.op (.pure (.move (.const (.int .i64 0))))) none])
  (.seq (.steps [
    .act (some 8) (.op (.pure (.move (.const (.slice none 0 0))))) none])
  (.seq (.seq (.steps [
    .act (some 9) (.op (.pure (.move (.const (.int .i64 0))))) none])
  (.block 0 (.loop [0, 1, 5, 6, 7, 8, 9] (.seq (.seq (.steps [
      .act (some 20) (.op (.pure (.move (.tmp 9)))) none,
      .act (some 21) (.op (.pure (.move (.tmp 1)))) none,
      .act (some 22) (.op (.pure (.len false (.tmp 21)))) none,
      .act (some 23) (.op (.pure (.bin .lss (.tmp 20) (.tmp 22)))) none,
      .act (some 24) (.op (.pure (.move (.tmp 23)))) none,
      .act (some 25) (.op (.pure (.move (.tmp 9)))) (some (24, true)),
      .act (some 26) (.op (.pure (.bin .lss (.tmp 25) (.const (.int .i64 80))))) (some (24, true)),
      .act (some 27) (.op (.pure (.pick (.tmp 24) (.tmp 26) (.const (.bool false))))) none])
    (.cond (.tmp 27)
     .skip
     (.exit 0)))
    (.seq (.block 1 (.seq (.seq (.steps [
       .act (some 30) (.op (.pure (.move (.tmp 1)))) none,
       .act (some 31) (.op (.pure (.move (.tmp 9)))) none,
       .act (some 32) (.op (.pure (.idxSl 1 (.tmp 30) (.tmp 31)))) none,
       .act (some 33) (.op (.read (.load1 (.tmp 32)))) none,
       .act (some 34) (.op (.pure (.bin .and (.tmp 33) (.const (w64 1#64))))) none,
       .act (some 35) (.op (.pure (.bin .eql (.tmp 34) (.const (w64 0#64))))) none])
     (.cond (.tmp 35)
      (.seq (.steps [
        .act (some 37) (.op (.read (.loadN 2 (.tmp 5)))) none,
        .act (some 38) (.op (.pure (.move (.tmp 1)))) none,
        .act (some 39) (.op (.pure (.move (.tmp 9)))) none,
        .act (some 40) (.op (.pure (.idxSl 1 (.tmp 38) (.tmp 39)))) none,
        .act (some 41) (.op (.read (.load1 (.tmp 40)))) none,
        .act (some 10) (.op (.new (.alloc [(.int .i64 0), (.slice none 0 0)]))) none,
        .act (some 42) (.call (.func 7) [(.tmp 37), (.const (.int .i64 1)), (.tmp 41)]) none,
        .act (some 36) (.op (.pure (.move (.tmp 42)))) none,
        .act (some 43) (.op (.pure (.extract (.tmp 36) 0))) none,
        .act (some 44) (.op (.pure (.extract (.tmp 36) 1))) none,
        .act (some 45) (.op (.pure (.extract (.tmp 36) 2))) none,
        .act none (.op (.eff (.store 2 (.tmp 10) (.tmp 43)))) none,
        .act (some 11) (.op (.pure (.move (.tmp 44)))) none,
        .act (some 12) (.op (.pure (.move (.tmp 45)))) none])
      (.seq (.seq (.steps [
        .act (some 46) (.op (.pure (.move (.tmp 11)))) none,
        .act (some 47) (.op (.pure (.bin .eql (.tmp 46) (.const (.int .i64 0))))) none,
        .act (some 48) (.op (.pure (.move (.tmp 7)))) none,
        .act (some 49) (.op (.pure (.move (.tmp 6)))) none,
        .act (some 50) (.op (.pure (.bin .lss (.tmp 48) (.tmp 49)))) none,
        .act (some 51) (.op (.pure (.eqB true (.tmp 47) (.tmp 50)))) none,
        .act (some 52) (.op (.pure (.move (.tmp 51)))) none,
        .act (some 53) (.op (.pure (.move (.tmp 11)))) (some (52, false)),
        .act (some 54) (.op (.pure (.bin .eql (.tmp 53) (.const (.int .i64 0))))) (some (52, false)),
        .act (some 55) (.op (.pure (.move (.tmp 54)))) (some (52, false)),
        .act (some 56) (.op (.pure (.move (.tmp 12)))) (some (55, true)),
        .act (some 57) (.op (.pure (.move (.tmp 8)))) (some (55, true)),
        .act (some 58) (.op (.pure (.move (.tmp 7)))) (some (55, true)),
        .act (some 59) (.op (.pure (.idxSl 1 (.tmp 57) (.tmp 58)))) (some (55, true)),
        .act (some 60) (.op (.read (.load1 (.tmp 59)))) (some (55, true)),
        .act (some 61) (.op (.pure (.bin .neq (.tmp 56) (.tmp 60)))) (some (55, true)),
        .act (some 62) (.op (.pure (.pick (.tmp 55) (.tmp 61) (.const (.bool false))))) (some (52, false)),
        .act (some 63) (.op (.pure (.pick (.tmp 52) (.const (.bool true)) (.tmp 62)))) none,
        .act (some 64) (.op (.pure (.move (.tmp 63)))) none,
        .act (some 65) (.op (.pure (.move (.tmp 11)))) (some (64, false)),
        .act (some 66) (.op (.pure (.bin .neq (.tmp 65) (.const (.int .i64 0))))) (some (64, false)),
        .act (some 67) (.op (.pure (.move (.tmp 66)))) (some (64, false)),
        .act (some 68) (.op (.pure (.move (.tmp 11)))) (some (67, true)),
        .act (some 69) (.op (.pure (.bin .neq (.tmp 68) (.const (.int .i64 13))))) (some (67, true)),
        .act (some 70) (.op (.pure (.move (.tmp 69)))) (some (67, true)),
        .act (some 71) (.op (.read (.loadN 2 (.tmp 10)))) (some (70, false)),
        .act (some 72) (.op (.read (.loadN 2 (.tmp 5)))) (some (70, false)),
        .act (some 73) (.call (.func 8) [(.tmp 71), (.tmp 72)]) (some (70, false)),
        .act (some 74) (.op (.pure (.not (.tmp 73)))) (some (70, false)),
        .act (some 75) (.op (.pure (.pick (.tmp 70) (.const (.bool true)) (.tmp 74)))) (some (67, true)),
        .act (some 76) (.op (.pure (.move (.tmp 75)))) (some (67, true)),
        .act (some 77) (.op (.pure (.move (.tmp 12)))) (some (76, false)),
        .act (some 78) (.op (.pure (.bin .neq (.tmp 77) (.const (w64 0#64))))) (some (76, false)),
        .act (some 79) (.op (.pure (.pick (.tmp 76) (.const (.bool true)) (.tmp 78)))) (some (67, true)),
        .act (some 80) (.op (.pure (.pick (.tmp 67) (.tmp 79) (.const (.bool false))))) (some (64, false)),
        .act (some 81) (.op (.pure (.pick (.tmp 64) (.const (.bool true)) (.tmp 80)))) none])
      (.cond (.tmp 81)
       (.seq (.steps [
         .act (some 4) (.op (.pure (.move (.const (.bool false))))) none])
       .ret)
       .skip))
      (.seq (.seq (.steps [
        .act (some 82) (.op (.pure (.move (.tmp 11)))) none,
        .act (some 83) (.op (.pure (.bin .eql (.tmp 82) (.const (.int .i64 0))))) none])
      (.cond (.tmp 83)
       (.steps [
         .act (some 84) (.op (.pure (.move (.tmp 7)))) none,
         .act (some 85) (.op (.pure (.bin .add (.tmp 84) (.const (.int .i64 1))))) none,
         .act (some 7) (.op (.pure (.move (.tmp 85)))) none])
       .skip))
      (.seq (.steps [
        .act (some 86) (.op (.read (.loadN 2 (.tmp 10)))) none,
        .act none (.op (.eff (.store 2 (.tmp 5) (.tmp 86)))) none])
      (.exit 1)))))
      .skip))
     (.seq (.steps [
       .act (some 88) (.op (.read (.loadN 2 (.tmp 5)))) none,
       .act (some 89) (.op (.pure (.move (.tmp 1)))) none,
       .act (some 90) (.op (.pure (.move (.tmp 9)))) none,
       .act (some 91) (.op (.pure (.idxSl 1 (.tmp 89) (.tmp 90)))) none,
       .act (some 92) (.op (.read (.load1 (.tmp 91)))) none,
       .act (some 13) (.op (.new (.alloc [(.int .i64 0), (.slice none 0 0)]))) none,
       .act (some 93) (.call (.func 7) [(.tmp 88), (.const (.int .i64 0)), (.tmp 92)]) none,
       .act (some 87) (.op (.pure (.move (.tmp 93)))) none,
       .act (some 94) (.op (.pure (.extract (.tmp 87) 0))) none,
       .act (some 95) (.op (.pure (.extract (.tmp 87) 1))) none,
       .act (some 96) (.op (.pure (.extract (.tmp 87) 2))) none,
       .act none (.op (.eff (.store 2 (.tmp 13) (.tmp 94)))) none,
       .act (some 14) (.op (.pure (.move (.tmp 95)))) none,
       .act (some 15) (.op (.pure (.move (.tmp 96)))) none])
     (.seq (.seq (.steps [
       .act (some 97) (.op (.pure (.move (.tmp 14)))) none,
       .act (some 98) (.op (.pure (.bin .eql (.tmp 97) (.const (.int .i64 0))))) none,
       .act (some 99) (.op (.pure (.move (.tmp 0)))) none,
       .act (some 100) (.op (.pure (.bin .eql (.tmp 99) (.const (.int .i64 0))))) none,
       .act (some 101) (.op (.pure (.move (.tmp 100)))) none,
       .act (some 102) (.op (.pure (.move (.tmp 6)))) (some (101, false)),
       .act (some 103) (.op (.pure (.move (.tmp 7)))) (some (101, false)),
       .act (some 104) (.op (.pure (.bin .sub (.tmp 102) (.tmp 103)))) (some (101, false)),
       .act (some 105) (.op (.pure (.move (.tmp 0)))) (some (101, false)),
       .act (some 106) (.op (.pure (.bin .lss (.tmp 104) (.tmp 105)))) (some (101, false)),
       .act (some 107) (.op (.pure (.pick (.tmp 101) (.const (.bool true)) (.tmp 106)))) none,
       .act (some 108) (.op (.pure (.eqB true (.tmp 98) (.tmp 107)))) none,
       .act (some 109) (.op (.pure (.move (.tmp 108)))) none,
       .act (some 110) (.op (.pure (.move (.tmp 15)))) (some (109, false)),
       .act (some 111) (.op (.pure (.bin .neq (.tmp 110) (.const (w64 0#64))))) (some (109, false)),
       .act (some 112) (.op (.pure (.pick (.tmp 109) (.const (.bool true)) (.tmp 111)))) none,
       .act (some 113) (.op (.pure (.move (.tmp 112)))) none,
       .act (some 114) (.op (.pure (.move (.tmp 14)))) (some (113, false)),
       .act (some 115) (.op (.pure (.bin .neq (.tmp 114) (.const (.int .i64 0))))) (some (113, false)),
       .act (some 116) (.op (.pure (.move (.tmp 115)))) (some (113, false)),
       .act (some 117) (.op (.pure (.move (.tmp 14)))) (some (116, true)),
       .act (some 118) (.op (.pure (.bin .neq (.tmp 117) (.const (.int .i64 15))))) (some (116, true)),
       .act (some 119) (.op (.pure (.move (.tmp 118)))) (some (116, true)),
       .act (some 120) (.op (.read (.loadN 2 (.tmp 13)))) (some (119, false)),
       .act (some 121) (.op (.read (.loadN 2 (.tmp 5)))) (some (119, false)),
       .act (some 122) (.call (.func 8) [(.tmp 120), (.tmp 121)]) (some (119, false)),
       .act (some 123) (.op (.pure (.not (.tmp 122)))) (some (119, false)),
       .act (some 124) (.op (.pure (.pick (.tmp 119) (.const (.bool true)) (.tmp 123)))) (some (116, true)),
       .act (some 125) (.op (.pure (.pick (.tmp 116) (.tmp 124) (.const (.bool false))))) (some (113, false)),
       .act (some 126) (.op (.pure (.pick (.tmp 113) (.const (.bool true)) (.tmp 125)))) none])
     (.cond (.tmp 126)
      (.seq (.steps [
        .act (some 4) (.op (.pure (.move (.const (.bool false))))) none])
      .ret)
      .skip))
     (.seq (.seq (.steps [
       .act (some 127) (.op (.pure (.move (.tmp 14)))) none,
       .act (some 128) (.op (.pure (.bin .eql (.tmp 127) (.const (.int .i64 0))))) none])
     (.cond (.tmp 128)
      (.seq (.steps [
        .act (some 129) (.op (.pure (.move (.tmp 6)))) none,
        .act (some 130) (.op (.pure (.bin .add (.tmp 129) (.const (.int .i64 1))))) none,
        .act (some 6) (.op (.pure (.move (.tmp 130)))) none])
      (.steps [
        .act (some 131) (.op (.pure (.move (.tmp 8)))) none,
        .act (some 132) (.op (.pure (.move (.tmp 1)))) none,
        .act (some 133) (.op (.pure (.move (.tmp 9)))) none,
        .act (some 134) (.op (.pure (.idxSl 1 (.tmp 132) (.tmp 133)))) none,
        .act (some 135) (.op (.read (.load1 (.tmp 134)))) none,
        .act (some 136) (.op (.new (.mkSlice 1 1 [(w64 0#64)] [(0, 1, (.tmp 135))]))) none,
        .act (some 137) (.op (.eff (.append 1 8 (.tmp 131) (.tmp 136)))) none,
        .act (some 8) (.op (.pure (.move (.tmp 137)))) none]))
      .skip))
     (.steps [
       .act (some 138) (.op (.read (.loadN 2 (.tmp 13)))) none,
       .act none (.op (.eff (.store 2 (.tmp 5) (.tmp 138)))) none]))))))
    (.steps [
      .act (some 28) (.op (.pure (.move (.tmp 9)))) none,
      .act (some 29) (.op (.pure (.bin .add (.tmp 28) (.const (.int .i64 1))))) none,
      .act (some 9) (.op (.pure (.move (.tmp 29)))) none]))))))
  (.seq (.steps [
    .act (some 139) (.op (.pure (.fieldAddr 1 (.tmp 5)))) none,
    .act (some 140) (.op (.read (.load1 (.tmp 139)))) none,
    .act (some 141) (.op (.pure (.len false (.tmp 140)))) none,
    .act (some 142) (.op (.pure (.move (.tmp 6)))) none,
    .act (some 143) (.op (.pure (.move (.tmp 7)))) none,
    .act (some 144) (.op (.pure (.bin .sub (.tmp 142) (.tmp 143)))) none,
    .act (some 145) (.op (.pure (.bin .eql (.tmp 141) (.tmp 144)))) none,
    .act (some 146) (.op (.pure (.move (.tmp 145)))) none,
    .act (some 147) (.call (.func 9) []) (some (146, true)),
    .act (some 148) (.op (.pure (.pick (.tmp 146) (.tmp 147) (.const (.bool false))))) none,
    .act (some 4) (.op (.pure (.move (.tmp 148)))) none])
  .ret))))))) }
theorem c3 : compFn Try.prog (mkPlan Try.prog) [(6, [0, 1, 5, 6, 7, 8, 9])] true 3 = some L3 := by kernel_rfl
/-- sluiceway/sluicewaylaw05.SpecDoes -/
def L4 : LFun := { n := 106, pop := true, res := [.tmp 6], code :=
  (.seq (.steps [
    .act (some 3) (.op (.new (.box (.tmp 0)))) none,
    .act (some 4) (.op (.new (.box (.tmp 1)))) none,
    .act (some 5) (.op (.new (.box (.tmp 2)))) none,
    .act (some 6) (.op (.pure (.move (.const (.bool false))))) none])
  (.seq (.seq (.steps [
    .act (some 18) (.op (.pure (.fieldAddr 1 (.tmp 3)))) none,
    .act (some 19) (.op (.read (.load1 (.tmp 18)))) none,
    .act (some 20) (.op (.pure (.len false (.tmp 19)))) none,
    .act (some 21) (.op (.pure (.bin .gtr (.tmp 20) (.const (.int .i64 200))))) none])
  (.cond (.tmp 21)
   (.seq (.steps [
     .act (some 6) (.op (.pure (.move (.const (.bool true))))) none])
   .ret)
   .skip))
  (.seq (.steps [
    .act (some 22) (.op (.read (.loadN 2 (.tmp 3)))) none,
    .act (some 23) (.call (.func 10) [(.tmp 22)]) none,
    .act (some 7) (.op (.new (.alloc [(.int .i64 0), (.slice none 0 0)]))) none,
    .act none (.op (.eff (.store 2 (.tmp 7) (.tmp 23)))) none])
  (.seq (.steps [
    .act (some 25) (.op (.read (.loadN 2 (.tmp 3)))) none,
    .act (some 26) (.op (.pure (.fieldAddr 1 (.tmp 4)))) none,
    .act (some 27) (.op (.read (.load1 (.tmp 26)))) none,
    .act (some 28) (.op (.pure (.fieldAddr 2 (.tmp 4)))) none,
    .act (some 29) (.op (.read (.load1 (.tmp 28)))) none,
    .act (some 30) (.call (.func 7) [(.tmp 25), (.tmp 27), (.tmp 29)]) none,
    .act (some 24) (.op (.pure (.move (.tmp 30)))) none,
    .act (some 31) (.op (.pure (.extract (.tmp 24) 0))) none,
    .act (some 32) (.op (.pure (.extract (.tmp 24) 1))) none,
    .act (some 33) (.op (.pure (.extract (.tmp 24) 2))) none,
    .act (some 8) (.op (.new (.alloc [(.int .i64 0), (.slice none 0 0)]))) none,
    .act none (.op (.eff (.store 2 (.tmp 8) (.tmp 31)))) none,
    .act (some 9) (.op (.pure (.move (.tmp 32)))) none,
    .act (some 10) (.op (.pure (.move (.tmp 33)))) none])
  (.seq (.steps [
    .act (some 35) (.op (.read (.loadN 2 (.tmp 7)))) none,
    .act (some 36) (.op (.pure (.fieldAddr 1 (.tmp 4)))) none,
    .act (some 37) (.op (.read (.load1 (.tmp 36)))) none,
    .act (some 38) (.op (.pure (.fieldAddr 2 (.tmp 4)))) none,
    .act (some 39) (.op (.read (.load1 (.tmp 38)))) none,
    .act (some 40) (.call (.func 11) [(.tmp 35), (.tmp 37), (.tmp 39)]) none,
    .act (some 34) (.op (.pure (.move (.tmp 40)))) none,
    .act (some 41) (.op (.pure (.extract (.tmp 34) 0))) none,
    .act (some 42) (.op (.pure (.extract (.tmp 34) 1))) none,
    .act (some 43) (.op (.pure (.extract (.tmp 34) 2))) none,
    .act (some 11) (.op (.new (.alloc [(.int .i64 0), (.slice none 0 0)]))) none,
    .act none (.op (.eff (.store 2 (.tmp 11) (.tmp 41)))) none,
    .act (some 12) (.op (.pure (.move (.tmp 42)))) none,
    .act (some 13) (.op (.pure (.move (.tmp 43)))) none])
  (.seq (.steps [
    .act (some 45) (.op (.read (.loadN 2 (.tmp 3)))) none,
    .act (some 46) (.op (.read (.loadN 8 (.tmp 4)))) none,
    .act (some 47) (.op (.pure (.idxArr 3 1 (.tmp 5) (.const (.int .i64 0))))) none,
    .act (some 48) (.op (.read (.load1 (.tmp 47)))) none,
    .act (some 49) (.op (.pure (.idxArr 3 1 (.tmp 5) (.const (.int .i64 1))))) none,
    .act (some 50) (.op (.read (.load1 (.tmp 49)))) none,
    .act (some 51) (.op (.pure (.idxArr 3 1 (.tmp 5) (.const (.int .i64 2))))) none,
    .act (some 52) (.op (.read (.load1 (.tmp 51)))) none,
    .act (some 53) (.call (.func 12) [(.tmp 45), (.tmp 46), (.tmp 48), (.tmp 50), (.tmp 52)]) none,
    .act (some 44) (.op (.pure (.move (.tmp 53)))) none,
    .act (some 54) (.op (.pure (.extract (.tmp 44) 0))) none,
    .act (some 55) (.op (.pure (.extract (.tmp 44) 1))) none,
    .act (some 14) (.op (.new (.alloc [(.int .i64 0), (.slice none 0 0)]))) none,
    .act none (.op (.eff (.store 2 (.tmp 14) (.tmp 54)))) none,
    .act (some 15) (.op (.pure (.move (.tmp 55)))) none])
  (.seq (.steps [
    .act (some 57) (.op (.read (.loadN 2 (.tmp 7)))) none,
    .act (some 58) (.op (.read (.loadN 8 (.tmp 4)))) none,
    .act (some 59) (.op (.new (.mkSlice 8 1 [(.int .i64 0), (.int .i64 0), (w64 0#64), (.int .i64 0), (.int .i64 0), (.bool false), (.int .i64 0), (w64 0#64)] [(0, 8, (.tmp 58))]))) none,
    .act (some 63) (.op (.pure (.idxArr 3 1 (.tmp 5) (.const (.int .i64 0))))) none,
    .act (some 64) (.op (.read (.load1 (.tmp 63)))) none,
    .act (some 65) (.op (.pure (.idxArr 3 1 (.tmp 5) (.const (.int .i64 1))))) none,
    .act (some 66) (.op (.read (.load1 (.tmp 65)))) none,
    .act (some 67) (.op (.pure (.idxArr 3 1 (.tmp 5) (.const (.int .i64 2))))) none,
    .act (some 68) (.op (.read (.load1 (.tmp 67)))) none,
    .act (some 16) (.op (.new (.alloc [(.int .i64 0), (.slice none 0 0)]))) none,
    .act (some 60) (.call (.func 14) [(.tmp 59)]) none,
    .act (some 61) (.op (.pure (.idxSl 8 (.tmp 60) (.const (.int .i64 0))))) none,
    .act (some 62) (.op (.read (.loadN 8 (.tmp 61)))) none,
    .again 68 (.load1 (.tmp 67)) none,
    .again 66 (.load1 (.tmp 65)) none,
    .again 64 (.load1 (.tmp 63)) none,
    .again 57 (.loadN 2 (.tmp 7)) none,
    .act (some 69) (.call (.func 13) [(.tmp 57), (.tmp 62), (.tmp 64), (.tmp 66), (.tmp 68)]) none,
    .act (some 56) (.op (.pure (.move (.tmp 69)))) none,
    .act (some 70) (.op (.pure (.extract (.tmp 56) 0))) none,
    .act (some 71) (.op (.pure (.extract (.tmp 56) 1))) none,
    .act none (.op (.eff (.store 2 (.tmp 16) (.tmp 70)))) none,
    .act (some 17) (.op (.pure (.move (.tmp 71)))) none])
  (.seq (.steps [
    .act (some 72) (.op (.read (.loadN 2 (.tmp 8)))) none,
    .act (some 74) (.op (.read (.loadN 2 (.tmp 11)))) none,
    .act (some 73) (.call (.func 10) [(.tmp 72)]) none,
    .again 74 (.loadN 2 (.tmp 11)) none,
    .act (some 75) (.call (.func 15) [(.tmp 73), (.tmp 74)]) none,
    .act (some 76) (.op (.pure (.move (.tmp 75)))) none,
    .act (some 77) (.op (.pure (.move (.tmp 9)))) (some (76, true)),
    .act (some 78) (.op (.pure (.move (.tmp 12)))) (some (76, true)),
    .act (some 79) (.op (.pure (.bin .eql (.tmp 77) (.tmp 78)))) (some (76, true)),
    .act (some 80) (.op (.pure (.pick (.tmp 76) (.tmp 79) (.const (.bool false))))) none,
    .act (some 81) (.op (.pure (.move (.tmp 80)))) none,
    .act (some 82) (.op (.pure (.move (.tmp 10)))) (some (81, true)),
    .act (some 83) (.op (.pure (.move (.tmp 13)))) (some (81, true)),
    .act (some 84) (.op (.pure (.bin .eql (.tmp 82) (.tmp 83)))) (some (81, true)),
    .act (some 85) (.op (.pure (.pick (.tmp 81) (.tmp 84) (.const (.bool false))))) none,
    .act (some 86) (.op (.pure (.move (.tmp 85)))) none,
    .act (some 87) (.op (.read (.loadN 2 (.tmp 14)))) (some (86, true)),
    .act (some 89) (.op (.read (.loadN 2 (.tmp 16)))) (some (86, true)),
    .act (some 88) (.call (.func 10) [(.tmp 87)]) (some (86, true)),
    .again 89 (.loadN 2 (.tmp 16)) (some (86, true)),
    .act (some 90) (.call (.func 15) [(.tmp 88), (.tmp 89)]) (some (86, true)),
    .act (some 91) (.op (.pure (.pick (.tmp 86) (.tmp 90) (.const (.bool false))))) none,
    .act (some 92) (.op (.pure (.move (.tmp 91)))) none,
    .act (some 93) (.op (.pure (.move (.tmp 15)))) (some (92, true)),
    .act (some 94) (.op (.pure (.move (.tmp 17)))) (some (92, true)),
    .act (some 95) (.op (.pure (.eqB false (.tmp 93) (.tmp 94)))) (some (92, true)),
    .act (some 96) (.op (.pure (.pick (.tmp 92) (.tmp 95) (.const (.bool false))))) none,
    .act (some 97) (.op (.pure (.move (.tmp 96)))) none,
    .act (some 98) (.op (.read (.loadN 2 (.tmp 3)))) (some (97, true)),
    .act (some 100) (.op (.read (.loadN 2 (.tmp 7)))) (some (97, true)),
    .act (some 99) (.call (.func 10) [(.tmp 98)]) (some (97, true)),
    .again 100 (.loadN 2 (.tmp 7)) (some (97, true)),
    .act (some 101) (.call (.func 15) [(.tmp 99), (.tmp 100)]) (some (97, true)),
    .act (some 102) (.op (.pure (.pick (.tmp 97) (.tmp 101) (.const (.bool false))))) none,
    .act (some 103) (.op (.pure (.move (.tmp 102)))) none,
    .act (some 104) (.call (.func 9) []) (some (103, true)),
    .act (some 105) (.op (.pure (.pick (.tmp 103) (.tmp 104) (.const (.bool false))))) none,
    .act (some 6) (.op (.pure (.move (.tmp 105)))) none])
  .ret)))))))) }
theorem c4 : compFn Try.prog (mkPlan Try.prog) [] true 4 = some L4 := by kernel_rfl
/-- sluiceway/sluicewaylaw05.SpecKeys -/
def L5 : LFun := { n := 38, pop := true, res := [.tmp 4], code :=
  (.seq (.steps [
    .act (some 2) (.op (.new (.box (.tmp 0)))) none,
    .act (some 3) (.op (.new (.box (.tmp 1)))) none,
    .act (some 4) (.op (.pure (.move (.const (.bool false))))) none])
  (.seq (.seq (.steps [
    .act (some 6) (.op (.pure (.fieldAddr 1 (.tmp 2)))) none,
    .act (some 7) (.op (.read (.load1 (.tmp 6)))) none,
    .act (some 8) (.op (.pure (.len false (.tmp 7)))) none,
    .act (some 9) (.op (.pure (.bin .gtr (.tmp 8) (.const (.int .i64 200))))) none,
    .act (some 10) (.op (.pure (.move (.tmp 9)))) none,
    .act (some 11) (.op (.pure (.fieldAddr 1 (.tmp 3)))) (some (10, false)),
    .act (some 12) (.op (.read (.load1 (.tmp 11)))) (some (10, false)),
    .act (some 13) (.op (.pure (.len false (.tmp 12)))) (some (10, false)),
    .act (some 14) (.op (.pure (.bin .gtr (.tmp 13) (.const (.int .i64 200))))) (some (10, false)),
    .act (some 15) (.op (.pure (.pick (.tmp 10) (.const (.bool true)) (.tmp 14)))) none])
  (.cond (.tmp 15)
   (.seq (.steps [
     .act (some 4) (.op (.pure (.move (.const (.bool true))))) none])
   .ret)
   .skip))
  (.seq (.steps [
    .act (some 16) (.op (.read (.loadN 2 (.tmp 2)))) none,
    .act (some 18) (.op (.read (.loadN 2 (.tmp 3)))) none,
    .act (some 17) (.call (.func 10) [(.tmp 16)]) none,
    .again 18 (.loadN 2 (.tmp 3)) none,
    .act (some 19) (.call (.func 10) [(.tmp 18)]) none,
    .act (some 20) (.call (.func 15) [(.tmp 17), (.tmp 19)]) none,
    .act (some 5) (.op (.pure (.move (.tmp 20)))) none])
  (.seq (.steps [
    .act (some 21) (.op (.read (.loadN 2 (.tmp 2)))) none,
    .act (some 22) (.op (.read (.loadN 2 (.tmp 3)))) none,
    .act (some 24) (.op (.pure (.move (.tmp 5)))) none,
    .act (some 23) (.call (.func 8) [(.tmp 21), (.tmp 22)]) none,
    .act (some 25) (.op (.pure (.eqB false (.tmp 23) (.tmp 24)))) none,
    .act (some 26) (.op (.pure (.move (.tmp 25)))) none,
    .act (some 27) (.op (.read (.loadN 2 (.tmp 2)))) (some (26, true)),
    .act (some 29) (.op (.read (.loadN 2 (.tmp 3)))) (some (26, true)),
    .act (some 32) (.op (.pure (.move (.tmp 5)))) (some (26, true)),
    .act (some 28) (.call (.func 16) [(.tmp 27)]) (some (26, true)),
    .again 29 (.loadN 2 (.tmp 3)) (some (26, true)),
    .act (some 30) (.call (.func 16) [(.tmp 29)]) (some (26, true)),
    .act (some 31) (.op (.pure (.strOp .eql (.tmp 28) (.tmp 30)))) (some (26, true)),
    .act (some 33) (.op (.pure (.eqB false (.tmp 31) (.tmp 32)))) (some (26, true)),
    .act (some 34) (.op (.pure (.pick (.tmp 26) (.tmp 33) (.const (.bool false))))) none,
    .act (some 35) (.op (.pure (.move (.tmp 34)))) none,
    .act (some 36) (.call (.func 9) []) (some (35, true)),
    .act (some 37) (.op (.pure (.pick (.tmp 35) (.tmp 36) (.const (.bool false))))) none,
    .act (some 4) (.op (.pure (.move (.tmp 37)))) none])
  .ret)))) }
theorem c5 : compFn Try.prog (mkPlan Try.prog) [] true 5 = some L5 := by kernel_rfl
/-- sluiceway/sluicewaylaw05.SpecModes -/
def L6 : LFun := { n := 90, pop := true, res := [.tmp 6], code :=
  (.seq (.steps [
    .act (some 3) (.op (.new (.box (.tmp 0)))) none,
    .act (some 4) (.op (.new (.box (.tmp 1)))) none,
    .act (some 5) (.op (.new (.box (.tmp 2)))) none,
    .act (some 6) (.op (.pure (.move (.const (.bool false))))) none])
  (.seq (.seq (.steps [
    .act (some 18) (.op (.pure (.fieldAddr 1 (.tmp 3)))) none,
    .act (some 19) (.op (.read (.load1 (.tmp 18)))) none,
    .act (some 20) (.op (.pure (.len false (.tmp 19)))) none,
    .act (some 21) (.op (.pure (.bin .gtr (.tmp 20) (.const (.int .i64 200))))) none])
  (.cond (.tmp 21)
   (.seq (.steps [
     .act (some 6) (.op (.pure (.move (.const (.bool true))))) none])
   .ret)
   .skip))
  (.seq (.steps [
    .act (some 23) (.op (.read (.loadN 2 (.tmp 3)))) none,
    .act (some 24) (.op (.read (.loadN 8 (.tmp 4)))) none,
    .act (some 25) (.op (.pure (.idxArr 2 1 (.tmp 5) (.const (.int .i64 0))))) none,
    .act (some 26) (.op (.read (.load1 (.tmp 25)))) none,
    .act (some 27) (.op (.pure (.idxArr 2 1 (.tmp 5) (.const (.int .i64 1))))) none,
    .act (some 28) (.op (.read (.load1 (.tmp 27)))) none,
    .act (some 29) (.call (.func 12) [(.tmp 23), (.tmp 24), (.const (.int .i64 0)), (.tmp 26), (.tmp 28)]) none,
    .act (some 22) (.op (.pure (.move (.tmp 29)))) none,
    .act (some 30) (.op (.pure (.extract (.tmp 22) 0))) none,
    .act (some 31) (.op (.pure (.extract (.tmp 22) 1))) none,
    .act (some 7) (.op (.new (.alloc [(.int .i64 0), (.slice none 0 0)]))) none,
    .act none (.op (.eff (.store 2 (.tmp 7) (.tmp 30)))) none,
    .act (some 8) (.op (.pure (.move (.tmp 31)))) none])
  (.seq (.seq (.steps [
    .act (some 9) (.op (.pure (.move (.const (.int .i64 0))))) none])
  (.block 0 (.loop [3, 4, 5, 7, 8, 9] (.seq (.seq (.steps [
      .act (some 32) (.op (.pure (.move (.tmp 9)))) none,
      .act (some 33) (.op (.pure (.bin .lss (.tmp 32) (.const (.int .i64 3))))) none])
    (.cond (.tmp 33)
     .skip
     (.exit 0)))
    (.seq (.block 1 (.seq (.steps [
       .act (some 37) (.op (.read (.loadN 2 (.tmp 3)))) none,
       .act (some 38) (.op (.read (.loadN 8 (.tmp 4)))) none,
       .act (some 39) (.op (.pure (.move (.tmp 9)))) none,
       .act (some 40) (.op (.pure (.idxArr 2 1 (.tmp 5) (.const (.int .i64 0))))) none,
       .act (some 41) (.op (.read (.load1 (.tmp 40)))) none,
       .act (some 42) (.op (.pure (.idxArr 2 1 (.tmp 5) (.const (.int .i64 1))))) none,
       .act (some 43) (.op (.read (.load1 (.tmp 42)))) none,
       .act (some 44) (.call (.func 12) [(.tmp 37), (.tmp 38), (.tmp 39), (.tmp 41), (.tmp 43)]) none,
       .act (some 36) (.op (.pure (.move (.tmp 44)))) none,
       .act (some 45) (.op (.pure (.extract (.tmp 36) 0))) none,
       .act (some 46) (.op (.pure (.extract (.tmp 36) 1))) none,
       .act (some 10) (.op (.new (.alloc [(.int .i64 0), (.slice none 0 0)]))) none,
       .act none (.op (.eff (.store 2 (.tmp 10) (.tmp 45)))) none,
       .act (some 11) (.op (.pure (.move (.tmp 46)))) none])
     (.seq (.seq (.steps [
       .act (some 47) (.op (.pure (.move (.tmp 8)))) none,
       .act (some 48) (.op (.pure (.move (.tmp 47)))) none,
       .act (some 49) (.op (.pure (.move (.tmp 11)))) (some (48, true)),
       .act (some 50) (.op (.pure (.not (.tmp 49)))) (some (48, true)),
       .act (some 51) (.op (.pure (.move (.tmp 50)))) (some (48, true)),
       .act (some 52) (.op (.read (.loadN 2 (.tmp 10)))) (some (51, false)),
       .act (some 53) (.op (.read (.loadN 2 (.tmp 7)))) (some (51, false)),
       .act (some 54) (.call (.func 8) [(.tmp 52), (.tmp 53)]) (some (51, false)),
       .act (some 55) (.op (.pure (.not (.tmp 54)))) (some (51, false)),
       .act (some 56) (.op (.pure (.pick (.tmp 51) (.const (.bool true)) (.tmp 55)))) (some (48, true)),
       .act (some 57) (.op (.pure (.pick (.tmp 48) (.tmp 56) (.const (.bool false))))) none])
     (.cond (.tmp 57)
      (.seq (.steps [
        .act (some 6) (.op (.pure (.move (.const (.bool false))))) none])
      .ret)
      .skip))
     (.seq (.steps [
       .act (some 58) (.op (.pure (.idxArr 2 1 (.tmp 5) (.const (.int .i64 0))))) none,
       .act (some 59) (.op (.read (.load1 (.tmp 58)))) none,
       .act (some 60) (.op (.pure (.bin .and (.tmp 59) (.const (.int .i64 65535))))) none,
       .act (some 61) (.op (.pure (.idxArr 2 1 (.tmp 5) (.const (.int .i64 1))))) none,
       .act (some 62) (.op (.read (.load1 (.tmp 61)))) none,
       .act (some 63) (.op (.pure (.bin .and (.tmp 62) (.const (.int .i64 65535))))) none,
       .act (some 12) (.op (.pure (.move (.tmp 60)))) none,
       .act (some 13) (.op (.pure (.move (.tmp 63)))) none])
     (.seq (.steps [
       .act (some 65) (.op (.read (.loadN 2 (.tmp 3)))) none,
       .act (some 66) (.op (.read (.loadN 8 (.tmp 4)))) none,
       .act (some 67) (.op (.pure (.move (.tmp 9)))) none,
       .act (some 68) (.op (.pure (.move (.tmp 12)))) none,
       .act (some 69) (.op (.pure (.move (.tmp 13)))) none,
       .act (some 70) (.call (.func 12) [(.tmp 65), (.tmp 66), (.tmp 67), (.tmp 68), (.tmp 69)]) none,
       .act (some 64) (.op (.pure (.move (.tmp 70)))) none,
       .act (some 71) (.op (.pure (.extract (.tmp 64) 0))) none,
       .act (some 72) (.op (.pure (.extract (.tmp 64) 1))) none,
       .act (some 14) (.op (.new (.alloc [(.int .i64 0), (.slice none 0 0)]))) none,
       .act none (.op (.eff (.store 2 (.tmp 14) (.tmp 71)))) none,
       .act (some 15) (.op (.pure (.move (.tmp 72)))) none])
     (.seq (.steps [
       .act (some 74) (.op (.read (.loadN 2 (.tmp 3)))) none,
       .act (some 75) (.op (.read (.loadN 8 (.tmp 4)))) none,
       .act (some 76) (.op (.pure (.move (.tmp 9)))) none,
       .act (some 77) (.op (.pure (.move (.tmp 12)))) none,
       .act (some 78) (.op (.pure (.bin .add (.tmp 77) (.const (.int .i64 1))))) none,
       .act (some 79) (.op (.pure (.move (.tmp 13)))) none,
       .act (some 80) (.op (.pure (.bin .add (.tmp 79) (.const (.int .i64 1))))) none,
       .act (some 81) (.call (.func 12) [(.tmp 74), (.tmp 75), (.tmp 76), (.tmp 78), (.tmp 80)]) none,
       .act (some 73) (.op (.pure (.move (.tmp 81)))) none,
       .act (some 82) (.op (.pure (.extract (.tmp 73) 0))) none,
       .act (some 83) (.op (.pure (.extract (.tmp 73) 1))) none,
       .act (some 16) (.op (.new (.alloc [(.int .i64 0), (.slice none 0 0)]))) none,
       .act none (.op (.eff (.store 2 (.tmp 16) (.tmp 82)))) none,
       .act (some 17) (.op (.pure (.move (.tmp 83)))) none])
     (.seq (.steps [
       .act (some 84) (.op (.pure (.move (.tmp 15)))) none,
       .act (some 85) (.op (.pure (.move (.tmp 84)))) none,
       .act (some 86) (.op (.pure (.move (.tmp 17)))) (some (85, true)),
       .act (some 87) (.op (.pure (.not (.tmp 86)))) (some (85, true)),
       .act (some 88) (.op (.pure (.pick (.tmp 85) (.tmp 87) (.const (.bool false))))) none])
     (.cond (.tmp 88)
      (.seq (.steps [
        .act (some 6) (.op (.pure (.move (.const (.bool false))))) none])
      .ret)
      .skip))))))))
    (.steps [
      .act (some 34) (.op (.pure (.move (.tmp 9)))) none,
      .act (some 35) (.op (.pure (.bin .add (.tmp 34) (.const (.int .i64 1))))) none,
      .act (some 9) (.op (.pure (.move (.tmp 35)))) none]))))))
  (.seq (.steps [
    .act (some 89) (.call (.func 9) []) none,
    .act (some 6) (.op (.pure (.move (.tmp 89)))) none])
  .ret))))) }
theorem c6 : compFn Try.prog (mkPlan Try.prog) [(5, [3, 4, 5, 7, 8, 9])] true 6 = some L6 := by kernel_rfl
/-- (sluiceway/spec.Fifo).Do -/
def L7 : LFun := { n := 43, pop := false, res := [.loadN 2 6, .tmp 7, .tmp 8], code :=
  (.seq (.steps [
    .act (some 3) (.op (.new (.box (.tmp 0)))) none,
    .act (some 6) (.op (.new (.alloc [(.int .i64 0), (.slice none 0 0)]))) none,
    .act (some 7) (.op (.pure (.move (.const (.int .i64 0))))) none,
    .act (some 8) (.op (.pure (.move (.const (w64 0#64))))) none])
  (.seq (.block 0 (.seq (.steps [
     .act (some 10) (.op (.pure (.move (.tmp 1)))) none,
     .act (some 11) (.op (.pure (.bin .eql (.tmp 10) (.const (.int .i64 0))))) none,
     .act (some 12) (.op (.pure (.move (.tmp 11)))) none,
     .act (some 13) (.op (.read (.loadN 2 (.tmp 3)))) (some (12, true)),
     .act (some 14) (.call (.func 17) [(.tmp 13)]) (some (12, true)),
     .act (some 15) (.op (.pure (.pick (.tmp 12) (.tmp 14) (.const (.bool false))))) none,
     .act (some 9) (.op (.pure (.move (.tmp 15)))) none])
   (.cond (.tmp 9)
    (.seq (.steps [
      .act (some 16) (.op (.read (.loadN 2 (.tmp 3)))) none,
      .act none (.op (.eff (.store 2 (.tmp 6) (.tmp 16)))) none,
      .act (some 7) (.op (.pure (.move (.const (.int .i64 15))))) none,
      .act (some 8) (.op (.pure (.move (.const (w64 0#64))))) none])
    .ret)
    (.seq (.steps [
      .act (some 18) (.op (.pure (.move (.tmp 1)))) none,
      .act (some 19) (.op (.pure (.bin .eql (.tmp 18) (.const (.int .i64 0))))) none,
      .act (some 17) (.op (.pure (.move (.tmp 19)))) none])
    (.cond (.tmp 17)
     (.seq (.steps [
       .act (some 20) (.op (.read (.loadN 2 (.tmp 3)))) none,
       .act (some 21) (.op (.pure (.move (.tmp 2)))) none,
       .act (some 22) (.call (.func 18) [(.tmp 20), (.tmp 21)]) none,
       .act none (.op (.eff (.store 2 (.tmp 6) (.tmp 22)))) none,
       .act (some 7) (.op (.pure (.move (.const (.int .i64 0))))) none,
       .act (some 8) (.op (.pure (.move (.const (w64 0#64))))) none])
     .ret)
     (.seq (.steps [
       .act (some 24) (.op (.pure (.move (.tmp 1)))) none,
       .act (some 25) (.op (.pure (.bin .eql (.tmp 24) (.const (.int .i64 1))))) none,
       .act (some 26) (.op (.pure (.move (.tmp 25)))) none,
       .act (some 27) (.op (.pure (.fieldAddr 1 (.tmp 3)))) (some (26, true)),
       .act (some 28) (.op (.read (.load1 (.tmp 27)))) (some (26, true)),
       .act (some 29) (.op (.pure (.len false (.tmp 28)))) (some (26, true)),
       .act (some 30) (.op (.pure (.bin .eql (.tmp 29) (.const (.int .i64 0))))) (some (26, true)),
       .act (some 31) (.op (.pure (.pick (.tmp 26) (.tmp 30) (.const (.bool false))))) none,
       .act (some 23) (.op (.pure (.move (.tmp 31)))) none])
     (.cond (.tmp 23)
      (.seq (.steps [
        .act (some 32) (.op (.read (.loadN 2 (.tmp 3)))) none,
        .act none (.op (.eff (.store 2 (.tmp 6) (.tmp 32)))) none,
        .act (some 7) (.op (.pure (.move (.const (.int .i64 13))))) none,
        .act (some 8) (.op (.pure (.move (.const (w64 0#64))))) none])
      .ret)
      (.seq (.steps [
        .act (some 34) (.op (.pure (.move (.tmp 1)))) none,
        .act (some 35) (.op (.pure (.bin .eql (.tmp 34) (.const (.int .i64 1))))) none,
        .act (some 33) (.op (.pure (.move (.tmp 35)))) none])
      (.cond (.tmp 33)
       (.seq (.steps [
         .act (some 36) (.op (.read (.loadN 2 (.tmp 3)))) none,
         .act (some 38) (.op (.pure (.fieldAddr 1 (.tmp 3)))) none,
         .act (some 39) (.op (.read (.load1 (.tmp 38)))) none,
         .act (some 40) (.op (.pure (.idxSl 1 (.tmp 39) (.const (.int .i64 0))))) none,
         .act (some 41) (.op (.read (.load1 (.tmp 40)))) none,
         .act (some 37) (.call (.func 19) [(.tmp 36)]) none,
         .again 41 (.load1 (.tmp 40)) none,
         .again 39 (.load1 (.tmp 38)) none,
         .act none (.op (.eff (.store 2 (.tmp 6) (.tmp 37)))) none,
         .act (some 7) (.op (.pure (.move (.const (.int .i64 0))))) none,
         .act (some 8) (.op (.pure (.move (.tmp 41)))) none,
         .again 41 (.load1 (.tmp 40)) none,
         .again 39 (.load1 (.tmp 38)) none])
       .ret)
       .skip)))))))))
  (.seq (.steps [
    .act (some 42) (.op (.read (.loadN 2 (.tmp 3)))) none,
    .act none (.op (.eff (.store 2 (.tmp 6) (.tmp 42)))) none,
    .act (some 7) (.op (.pure (.move (.const (.int .i64 2))))) none,
    .act (some 8) (.op (.pure (.move (.const (w64 0#64))))) none])
  .ret))) }
theorem c7 : compFn Try.prog (mkPlan Try.prog) [] false 7 = some L7 := by kernel_rfl
/-- (sluiceway/spec.Fifo).Same -/
def L8 : LFun := { n := 17, pop := true, res := [.tmp 4], code :=
  (.seq (.steps [
    .act (some 2) (.op (.new (.box (.tmp 0)))) none,
    .act (some 3) (.op (.new (.box (.tmp 1)))) none,
    .act (some 4) (.op (.pure (.move (.const (.bool false))))) none])
  (.seq (.steps [
    .act (some 5) (.op (.pure (.fieldAddr 0 (.tmp 2)))) none,
    .act (some 6) (.op (.read (.load1 (.tmp 5)))) none,
    .act (some 7) (.op (.pure (.fieldAddr 0 (.tmp 3)))) none,
    .act (some 8) (.op (.read (.load1 (.tmp 7)))) none,
    .act (some 9) (.op (.pure (.bin .eql (.tmp 6) (.tmp 8)))) none,
    .act (some 10) (.op (.pure (.move (.tmp 9)))) none,
    .act (some 11) (.op (.pure (.fieldAddr 1 (.tmp 2)))) (some (10, true)),
    .act (some 12) (.op (.read (.load1 (.tmp 11)))) (some (10, true)),
    .act (some 13) (.op (.pure (.fieldAddr 1 (.tmp 3)))) (some (10, true)),
    .act (some 14) (.op (.read (.load1 (.tmp 13)))) (some (10, true)),
    .act (some 15) (.call (.func 20) [(.tmp 12), (.tmp 14)]) (some (10, true)),
    .act (some 16) (.op (.pure (.pick (.tmp 10) (.tmp 15) (.const (.bool false))))) none,
    .act (some 4) (.op (.pure (.move (.tmp 16)))) none])
  .ret)) }
theorem c8 : compFn Try.prog (mkPlan Try.prog) [] true 8 = some L8 := by kernel_rfl
/-- sluiceway/sluicewaylaw05.one -/
def L9 : LFun := { n := 54, pop := true, res := [.tmp 0], code :=
  (.seq (.steps [
    .act (some 0) (.op (.pure (.move (.const (.bool false))))) none])
  (.seq (.steps [
    .act (some 11) (.op (.pure (.build [(.int .i64 0), (.slice none 0 0)] [(0, 1, (.const (.int .i64 1)))]))) none,
    .act (some 12) (.call (.func 7) [(.tmp 11), (.const (.int .i64 0)), (.const (w64 5#64))]) none,
    .act (some 10) (.op (.pure (.move (.tmp 12)))) none,
    .act (some 13) (.op (.pure (.extract (.tmp 10) 0))) none,
    .act (some 14) (.op (.pure (.extract (.tmp 10) 1))) none,
    .act (some 15) (.op (.pure (.extract (.tmp 10) 2))) none,
    .act (some 1) (.op (.new (.alloc [(.int .i64 0), (.slice none 0 0)]))) none,
    .act none (.op (.eff (.store 2 (.tmp 1) (.tmp 13)))) none,
    .act (some 2) (.op (.pure (.move (.tmp 14)))) none,
    .act (some 3) (.op (.pure (.move (.tmp 15)))) none])
  (.seq (.steps [
    .act (some 17) (.op (.read (.loadN 2 (.tmp 1)))) none,
    .act (some 18) (.call (.func 7) [(.tmp 17), (.const (.int .i64 0)), (.const (w64 6#64))]) none,
    .act (some 16) (.op (.pure (.move (.tmp 18)))) none,
    .act (some 19) (.op (.pure (.extract (.tmp 16) 0))) none,
    .act (some 20) (.op (.pure (.extract (.tmp 16) 1))) none,
    .act (some 21) (.op (.pure (.extract (.tmp 16) 2))) none,
    .act (some 4) (.op (.new (.alloc [(.int .i64 0), (.slice none 0 0)]))) none,
    .act none (.op (.eff (.store 2 (.tmp 4) (.tmp 19)))) none,
    .act (some 5) (.op (.pure (.move (.tmp 20)))) none,
    .act (some 6) (.op (.pure (.move (.tmp 21)))) none])
  (.seq (.steps [
    .act (some 23) (.op (.read (.loadN 2 (.tmp 1)))) none,
    .act (some 24) (.call (.func 7) [(.tmp 23), (.const (.int .i64 1)), (.const (w64 0#64))]) none,
    .act (some 22) (.op (.pure (.move (.tmp 24)))) none,
    .act (some 25) (.op (.pure (.extract (.tmp 22) 0))) none,
    .act (some 26) (.op (.pure (.extract (.tmp 22) 1))) none,
    .act (some 27) (.op (.pure (.extract (.tmp 22) 2))) none,
    .act (some 7) (.op (.new (.alloc [(.int .i64 0), (.slice none 0 0)]))) none,
    .act none (.op (.eff (.store 2 (.tmp 7) (.tmp 25)))) none,
    .act (some 8) (.op (.pure (.move (.tmp 26)))) none,
    .act (some 9) (.op (.pure (.move (.tmp 27)))) none])
  (.seq (.steps [
    .act (some 28) (.op (.pure (.move (.tmp 2)))) none,
    .act (some 29) (.op (.pure (.bin .eql (.tmp 28) (.const (.int .i64 0))))) none,
    .act (some 30) (.op (.pure (.move (.tmp 29)))) none,
    .act (some 31) (.op (.pure (.move (.tmp 5)))) (some (30, true)),
    .act (some 32) (.op (.pure (.bin .eql (.tmp 31) (.const (.int .i64 15))))) (some (30, true)),
    .act (some 33) (.op (.pure (.pick (.tmp 30) (.tmp 32) (.const (.bool false))))) none,
    .act (some 34) (.op (.pure (.move (.tmp 33)))) none,
    .act (some 35) (.op (.pure (.move (.tmp 8)))) (some (34, true)),
    .act (some 36) (.op (.pure (.bin .eql (.tmp 35) (.const (.int .i64 0))))) (some (34, true)),
    .act (some 37) (.op (.pure (.pick (.tmp 34) (.tmp 36) (.const (.bool false))))) none,
    .act (some 38) (.op (.pure (.move (.tmp 37)))) none,
    .act (some 39) (.op (.pure (.move (.tmp 9)))) (some (38, true)),
    .act (some 40) (.op (.pure (.bin .eql (.tmp 39) (.const (w64 5#64))))) (some (38, true)),
    .act (some 41) (.op (.pure (.pick (.tmp 38) (.tmp 40) (.const (.bool false))))) none,
    .act (some 42) (.op (.pure (.move (.tmp 41)))) none,
    .act (some 43) (.op (.pure (.fieldAddr 1 (.tmp 7)))) (some (42, true)),
    .act (some 44) (.op (.read (.load1 (.tmp 43)))) (some (42, true)),
    .act (some 45) (.op (.pure (.len false (.tmp 44)))) (some (42, true)),
    .act (some 46) (.op (.pure (.bin .eql (.tmp 45) (.const (.int .i64 0))))) (some (42, true)),
    .act (some 47) (.op (.pure (.pick (.tmp 42) (.tmp 46) (.const (.bool false))))) none,
    .act (some 48) (.op (.pure (.move (.tmp 47)))) none,
    .act (some 49) (.op (.pure (.fieldAddr 1 (.tmp 1)))) (some (48, true)),
    .act (some 50) (.op (.read (.load1 (.tmp 49)))) (some (48, true)),
    .act (some 51) (.op (.pure (.len false (.tmp 50)))) (some (48, true)),
    .act (some 52) (.op (.pure (.bin .eql (.tmp 51) (.const (.int .i64 1))))) (some (48, true)),
    .act (some 53) (.op (.pure (.pick (.tmp 48) (.tmp 52) (.const (.bool false))))) none,
    .act (some 0) (.op (.pure (.move (.tmp 53)))) none])
  .ret))))) }
theorem c9 : compFn Try.prog (mkPlan Try.prog) [] true 9 = some L9 := by kernel_rfl
/-- sluiceway/sluicewaylaw05.own -/
def L10 : LFun := { n := 10, pop := false, res := [.loadN 2 2], code :=
  (.seq (.steps [
    .act (some 1) (.op (.new (.box (.tmp 0)))) none,
    .act (some 2) (.op (.new (.alloc [(.int .i64 0), (.slice none 0 0)]))) none])
  (.seq (.steps [
    .act (some 3) (.op (.pure (.fieldAddr 0 (.tmp 1)))) none,
    .act (some 4) (.op (.read (.load1 (.tmp 3)))) none,
    .act (some 5) (.op (.new (.mkSlice 1 0 [] []))) none,
    .act (some 6) (.op (.pure (.fieldAddr 1 (.tmp 1)))) none,
    .act (some 7) (.op (.read (.load1 (.tmp 6)))) none,
    .act (some 8) (.op (.eff (.append 1 8 (.tmp 5) (.tmp 7)))) none,
    .act (some 9) (.op (.pure (.build [(.int .i64 0), (.slice none 0 0)] [(0, 1, (.tmp 4)), (1, 1, (.tmp 8))]))) none,
    .again 4 (.load1 (.tmp 3)) none,
    .act none (.op (.eff (.store 2 (.tmp 2) (.tmp 9)))) none])
  .ret)) }
theorem c10 : compFn Try.prog (mkPlan Try.prog) [] false 10 = some L10 := by kernel_rfl
/-- (sluiceway/sluicewayref05.Fifo).Do -/
def L11 : LFun := { n := 54, pop := false, res := [.loadN 2 6, .tmp 7, .tmp 8], code :=
  (.seq (.steps [
    .act (some 3) (.op (.new (.box (.tmp 0)))) none,
    .act (some 6) (.op (.new (.alloc [(.int .i64 0), (.slice none 0 0)]))) none,
    .act (some 7) (.op (.pure (.move (.const (.int .i64 0))))) none,
    .act (some 8) (.op (.pure (.move (.const (w64 0#64))))) none])
  (.seq (.seq (.steps [
    .act (some 9) (.op (.pure (.move (.tmp 1)))) none])
  (.block 0 (.seq (.steps [
     .act (some 11) (.op (.pure (.bin .eql (.tmp 9) (.const (.int .i64 0))))) none,
     .act (some 10) (.op (.pure (.move (.tmp 11)))) none])
   (.cond (.tmp 10)
    (.seq (.seq (.steps [
      .act (some 12) (.op (.pure (.fieldAddr 0 (.tmp 3)))) none,
      .act (some 13) (.op (.read (.load1 (.tmp 12)))) none,
      .act (some 14) (.op (.pure (.bin .gtr (.tmp 13) (.const (.int .i64 0))))) none,
      .act (some 15) (.op (.pure (.move (.tmp 14)))) none,
      .act (some 16) (.op (.pure (.fieldAddr 1 (.tmp 3)))) (some (15, true)),
      .act (some 17) (.op (.read (.load1 (.tmp 16)))) (some (15, true)),
      .act (some 18) (.op (.pure (.len false (.tmp 17)))) (some (15, true)),
      .act (some 19) (.op (.pure (.fieldAddr 0 (.tmp 3)))) (some (15, true)),
      .act (some 20) (.op (.read (.load1 (.tmp 19)))) (some (15, true)),
      .act (some 21) (.op (.pure (.bin .geq (.tmp 18) (.tmp 20)))) (some (15, true)),
      .act (some 22) (.op (.pure (.pick (.tmp 15) (.tmp 21) (.const (.bool false))))) none])
    (.cond (.tmp 22)
     (.seq (.steps [
       .act (some 23) (.op (.read (.loadN 2 (.tmp 3)))) none,
       .act none (.op (.eff (.store 2 (.tmp 6) (.tmp 23)))) none,
       .act (some 7) (.op (.pure (.move (.const (.int .i64 15))))) none,
       .act (some 8) (.op (.pure (.move (.const (w64 0#64))))) none])
     .ret)
     .skip))
    (.seq (.steps [
      .act (some 24) (.op (.pure (.fieldAddr 0 (.tmp 3)))) none,
      .act (some 25) (.op (.read (.load1 (.tmp 24)))) none,
      .act (some 26) (.op (.new (.mkSlice 1 0 [] []))) none,
      .act (some 27) (.op (.pure (.fieldAddr 1 (.tmp 3)))) none,
      .act (some 28) (.op (.read (.load1 (.tmp 27)))) none,
      .act (some 30) (.op (.pure (.move (.tmp 2)))) none,
      .act (some 31) (.op (.new (.mkSlice 1 1 [(w64 0#64)] [(0, 1, (.tmp 30))]))) none,
      .act (some 29) (.op (.eff (.append 1 8 (.tmp 26) (.tmp 28)))) none,
      .again 25 (.load1 (.tmp 24)) none,
      .act (some 32) (.op (.eff (.append 1 8 (.tmp 29) (.tmp 31)))) none,
      .act (some 33) (.op (.pure (.build [(.int .i64 0), (.slice none 0 0)] [(0, 1, (.tmp 25)), (1, 1, (.tmp 32))]))) none,
      .again 25 (.load1 (.tmp 24)) none,
      .act none (.op (.eff (.store 2 (.tmp 6) (.tmp 33)))) none,
      .act (some 7) (.op (.pure (.move (.const (.int .i64 0))))) none,
      .act (some 8) (.op (.pure (.move (.const (w64 0#64))))) none])
    .ret))
    (.seq (.steps [
      .act (some 35) (.op (.pure (.bin .eql (.tmp 9) (.const (.int .i64 1))))) none,
      .act (some 34) (.op (.pure (.move (.tmp 35)))) none])
    (.cond (.tmp 34)
     (.seq (.seq (.steps [
       .act (some 36) (.op (.pure (.fieldAddr 1 (.tmp 3)))) none,
       .act (some 37) (.op (.read (.load1 (.tmp 36)))) none,
       .act (some 38) (.op (.pure (.len false (.tmp 37)))) none,
       .act (some 39) (.op (.pure (.bin .eql (.tmp 38) (.const (.int .i64 0))))) none])
     (.cond (.tmp 39)
      (.seq (.steps [
        .act (some 40) (.op (.read (.loadN 2 (.tmp 3)))) none,
        .act none (.op (.eff (.store 2 (.tmp 6) (.tmp 40)))) none,
        .act (some 7) (.op (.pure (.move (.const (.int .i64 13))))) none,
        .act (some 8) (.op (.pure (.move (.const (w64 0#64))))) none])
      .ret)
      .skip))
     (.seq (.steps [
       .act (some 41) (.op (.pure (.fieldAddr 0 (.tmp 3)))) none,
       .act (some 42) (.op (.read (.load1 (.tmp 41)))) none,
       .act (some 43) (.op (.new (.mkSlice 1 0 [] []))) none,
       .act (some 44) (.op (.pure (.fieldAddr 1 (.tmp 3)))) none,
       .act (some 45) (.op (.read (.load1 (.tmp 44)))) none,
       .act (some 46) (.op (.read (.slSl 1 (.tmp 45) (some (.const (.int .i64 1))) none none))) none,
       .act (some 49) (.op (.pure (.fieldAddr 1 (.tmp 3)))) none,
       .act (some 50) (.op (.read (.load1 (.tmp 49)))) none,
       .act (some 51) (.op (.pure (.idxSl 1 (.tmp 50) (.const (.int .i64 0))))) none,
       .act (some 52) (.op (.read (.load1 (.tmp 51)))) none,
       .act (some 47) (.op (.eff (.append 1 8 (.tmp 43) (.tmp 46)))) none,
       .act (some 48) (.op (.pure (.build [(.int .i64 0), (.slice none 0 0)] [(0, 1, (.tmp 42)), (1, 1, (.tmp 47))]))) none,
       .again 52 (.load1 (.tmp 51)) none,
       .again 50 (.load1 (.tmp 49)) none,
       .again 42 (.load1 (.tmp 41)) none,
       .act none (.op (.eff (.store 2 (.tmp 6) (.tmp 48)))) none,
       .act (some 7) (.op (.pure (.move (.const (.int .i64 0))))) none,
       .act (some 8) (.op (.pure (.move (.tmp 52)))) none,
       .again 52 (.load1 (.tmp 51)) none,
       .again 50 (.load1 (.tmp 49)) none])
     .ret))
     .skip))))))
  (.seq (.steps [
    .act (some 53) (.op (.read (.loadN 2 (.tmp 3)))) none,
    .act none (.op (.eff (.store 2 (.tmp 6) (.tmp 53)))) none,
    .act (some 7) (.op (.pure (.move (.const (.int .i64 2))))) none,
    .act (some 8) (.op (.pure (.move (.const (w64 0#64))))) none])
  .ret))) }
theorem c11 : compFn Try.prog (mkPlan Try.prog) [] false 11 = some L11 := by kernel_rfl
/-- (sluiceway/spec.Fifo).May -/
def L12 : LFun := { n := 61, pop := false, res := [.loadN 2 10, .tmp 11], code :=
  (.seq (.steps [
    .act (some 5) (.op (.new (.box (.tmp 0)))) none,
    .act (some 6) (.op (.new (.box (.tmp 1)))) none,
    .act (some 10) (.op (.new (.alloc [(.int .i64 0), (.slice none 0 0)]))) none,
    .act (some 11) (.op (.pure (.move (.const (.bool false))))) none])
  (.seq (.steps [
    .act (some 16) (.op (.read (.loadN 2 (.tmp 5)))) none,
    .act (some 17) (.op (.pure (.fieldAddr 1 (.tmp 6)))) none,
    .act (some 18) (.op (.read (.load1 (.tmp 17)))) none,
    .act (some 19) (.op (.pure (.fieldAddr 2 (.tmp 6)))) none,
    .act (some 20) (.op (.read (.load1 (.tmp 19)))) none,
    .act (some 21) (.call (.func 7) [(.tmp 16), (.tmp 18), (.tmp 20)]) none,
    .act (some 15) (.op (.pure (.move (.tmp 21)))) none,
    .act (some 22) (.op (.pure (.extract (.tmp 15) 0))) none,
    .act (some 23) (.op (.pure (.extract (.tmp 15) 1))) none,
    .act (some 24) (.op (.pure (.extract (.tmp 15) 2))) none,
    .act (some 12) (.op (.new (.alloc [(.int .i64 0), (.slice none 0 0)]))) none,
    .act none (.op (.eff (.store 2 (.tmp 12) (.tmp 22)))) none,
    .act (some 13) (.op (.pure (.move (.tmp 23)))) none,
    .act (some 14) (.op (.pure (.move (.tmp 24)))) none])
  (.seq (.block 0 (.seq (.seq (.steps [
     .act (some 26) (.op (.pure (.fieldAddr 5 (.tmp 6)))) none,
     .act (some 27) (.op (.read (.load1 (.tmp 26)))) none,
     .act (some 28) (.op (.pure (.not (.tmp 27)))) none,
     .act (some 29) (.op (.pure (.move (.tmp 28)))) none,
     .act (some 30) (.op (.pure (.move (.tmp 13)))) (some (29, true)),
     .act (some 31) (.op (.pure (.bin .eql (.tmp 30) (.const (.int .i64 0))))) (some (29, true)),
     .act (some 32) (.op (.pure (.pick (.tmp 29) (.tmp 31) (.const (.bool false))))) none,
     .act (some 25) (.op (.pure (.move (.tmp 32)))) none])
   (.cond (.tmp 25)
    .skip
    (.steps [
      .act (some 33) (.op (.pure (.fieldAddr 5 (.tmp 6)))) none,
      .act (some 34) (.op (.read (.load1 (.tmp 33)))) none,
      .act (some 35) (.op (.pure (.move (.tmp 34)))) none,
      .act (some 36) (.op (.pure (.move (.tmp 13)))) (some (35, true)),
      .act (some 37) (.op (.pure (.fieldAddr 6 (.tmp 6)))) (some (35, true)),
      .act (some 38) (.op (.read (.load1 (.tmp 37)))) (some (35, true)),
      .act (some 39) (.op (.pure (.bin .eql (.tmp 36) (.tmp 38)))) (some (35, true)),
      .act (some 40) (.op (.pure (.pick (.tmp 35) (.tmp 39) (.const (.bool false))))) none,
      .act (some 41) (.op (.pure (.move (.tmp 40)))) none,
      .act (some 42) (.op (.pure (.move (.tmp 14)))) (some (41, true)),
      .act (some 43) (.op (.pure (.fieldAddr 7 (.tmp 6)))) (some (41, true)),
      .act (some 44) (.op (.read (.load1 (.tmp 43)))) (some (41, true)),
      .act (some 45) (.op (.pure (.bin .eql (.tmp 42) (.tmp 44)))) (some (41, true)),
      .act (some 46) (.op (.pure (.pick (.tmp 41) (.tmp 45) (.const (.bool false))))) none,
      .act (some 25) (.op (.pure (.move (.tmp 46)))) none])))
   (.cond (.tmp 25)
    (.seq (.steps [
      .act (some 47) (.op (.read (.loadN 2 (.tmp 12)))) none,
      .act none (.op (.eff (.store 2 (.tmp 10) (.tmp 47)))) none,
      .act (some 11) (.op (.pure (.move (.const (.bool true))))) none])
    .ret)
    (.seq (.steps [
      .act (some 49) (.op (.pure (.fieldAddr 5 (.tmp 6)))) none,
      .act (some 50) (.op (.read (.load1 (.tmp 49)))) none,
      .act (some 51) (.op (.pure (.move (.tmp 50)))) none,
      .act (some 52) (.op (.read (.loadN 2 (.tmp 5)))) (some (51, true)),
      .act (some 53) (.op (.read (.loadN 8 (.tmp 6)))) (some (51, true)),
      .act (some 54) (.op (.pure (.move (.tmp 2)))) (some (51, true)),
      .act (some 55) (.op (.pure (.move (.tmp 3)))) (some (51, true)),
      .act (some 56) (.op (.pure (.move (.tmp 4)))) (some (51, true)),
      .act (some 57) (.call (.func 21) [(.tmp 52), (.tmp 53), (.tmp 54), (.tmp 55), (.tmp 56)]) (some (51, true)),
      .act (some 58) (.op (.pure (.pick (.tmp 51) (.tmp 57) (.const (.bool false))))) none,
      .act (some 48) (.op (.pure (.move (.tmp 58)))) none])
    (.cond (.tmp 48)
     (.seq (.steps [
       .act (some 59) (.op (.read (.loadN 2 (.tmp 5)))) none,
       .act none (.op (.eff (.store 2 (.tmp 10) (.tmp 59)))) none,
       .act (some 11) (.op (.pure (.move (.const (.bool true))))) none])
     .ret)
     .skip)))))
  (.seq (.steps [
    .act (some 60) (.op (.pure (.build [(.int .i64 0), (.slice none 0 0)] []))) none,
    .act none (.op (.eff (.store 2 (.tmp 10) (.tmp 60)))) none,
    .act (some 11) (.op (.pure (.move (.const (.bool false))))) none])
  .ret)))) }
theorem c12 : compFn Try.prog (mkPlan Try.prog) [] false 12 = some L12 := by kernel_rfl
/-- (sluiceway/sluicewayref05.Fifo).May -/
def L13 : LFun := { n := 122, pop := false, res := [.loadN 2 10, .tmp 11], code :=
  (.seq (.steps [
    .act (some 5) (.op (.new (.box (.tmp 0)))) none,
    .act (some 6) (.op (.new (.box (.tmp 1)))) none,
    .act (some 10) (.op (.new (.alloc [(.int .i64 0), (.slice none 0 0)]))) none,
    .act (some 11) (.op (.pure (.move (.const (.bool false))))) none])
  (.seq (.steps [
    .act (some 16) (.op (.read (.loadN 2 (.tmp 5)))) none,
    .act (some 17) (.op (.pure (.fieldAddr 1 (.tmp 6)))) none,
    .act (some 18) (.op (.read (.load1 (.tmp 17)))) none,
    .act (some 19) (.op (.pure (.fieldAddr 2 (.tmp 6)))) none,
    .act (some 20) (.op (.read (.load1 (.tmp 19)))) none,
    .act (some 21) (.call (.func 11) [(.tmp 16), (.tmp 18), (.tmp 20)]) none,
    .act (some 15) (.op (.pure (.move (.tmp 21)))) none,
    .act (some 22) (.op (.pure (.extract (.tmp 15) 0))) none,
    .act (some 23) (.op (.pure (.extract (.tmp 15) 1))) none,
    .act (some 24) (.op (.pure (.extract (.tmp 15) 2))) none,
    .act (some 12) (.op (.new (.alloc [(.int .i64 0), (.slice none 0 0)]))) none,
    .act none (.op (.eff (.store 2 (.tmp 12) (.tmp 22)))) none,
    .act (some 13) (.op (.pure (.move (.tmp 23)))) none,
    .act (some 14) (.op (.pure (.move (.tmp 24)))) none])
  (.seq (.seq (.steps [
    .act (some 25) (.op (.pure (.fieldAddr 5 (.tmp 6)))) none,
    .act (some 26) (.op (.read (.load1 (.tmp 25)))) none,
    .act (some 27) (.op (.pure (.not (.tmp 26)))) none])
  (.cond (.tmp 27)
   (.seq (.seq (.steps [
     .act (some 28) (.op (.pure (.move (.tmp 13)))) none,
     .act (some 29) (.op (.pure (.bin .neq (.tmp 28) (.const (.int .i64 0))))) none])
   (.cond (.tmp 29)
    (.seq (.steps [
      .act (some 30) (.op (.pure (.build [(.int .i64 0), (.slice none 0 0)] []))) none,
      .act none (.op (.eff (.store 2 (.tmp 10) (.tmp 30)))) none,
      .act (some 11) (.op (.pure (.move (.const (.bool false))))) none])
    .ret)
    .skip))
   (.seq (.steps [
     .act (some 31) (.op (.read (.loadN 2 (.tmp 12)))) none,
     .act none (.op (.eff (.store 2 (.tmp 10) (.tmp 31)))) none,
     .act (some 11) (.op (.pure (.move (.const (.bool true))))) none])
   .ret))
   .skip))
  (.seq (.seq (.steps [
    .act (some 32) (.op (.pure (.move (.tmp 13)))) none,
    .act (some 33) (.op (.pure (.fieldAddr 6 (.tmp 6)))) none,
    .act (some 34) (.op (.read (.load1 (.tmp 33)))) none,
    .act (some 35) (.op (.pure (.bin .eql (.tmp 32) (.tmp 34)))) none,
    .act (some 36) (.op (.pure (.move (.tmp 35)))) none,
    .act (some 37) (.op (.pure (.move (.tmp 14)))) (some (36, true)),
    .act (some 38) (.op (.pure (.fieldAddr 7 (.tmp 6)))) (some (36, true)),
    .act (some 39) (.op (.read (.load1 (.tmp 38)))) (some (36, true)),
    .act (some 40) (.op (.pure (.bin .eql (.tmp 37) (.tmp 39)))) (some (36, true)),
    .act (some 41) (.op (.pure (.pick (.tmp 36) (.tmp 40) (.const (.bool false))))) none])
  (.cond (.tmp 41)
   (.seq (.steps [
     .act (some 42) (.op (.read (.loadN 2 (.tmp 12)))) none,
     .act none (.op (.eff (.store 2 (.tmp 10) (.tmp 42)))) none,
     .act (some 11) (.op (.pure (.move (.const (.bool true))))) none])
   .ret)
   .skip))
  (.seq (.seq (.steps [
    .act (some 43) (.op (.pure (.fieldAddr 7 (.tmp 6)))) none,
    .act (some 44) (.op (.read (.load1 (.tmp 43)))) none,
    .act (some 45) (.op (.pure (.bin .neq (.tmp 44) (.const (w64 0#64))))) none])
  (.cond (.tmp 45)
   (.seq (.steps [
     .act (some 46) (.op (.pure (.build [(.int .i64 0), (.slice none 0 0)] []))) none,
     .act none (.op (.eff (.store 2 (.tmp 10) (.tmp 46)))) none,
     .act (some 11) (.op (.pure (.move (.const (.bool false))))) none])
   .ret)
   .skip))
  (.seq (.steps [
    .act (some 47) (.op (.pure (.move (.tmp 3)))) none,
    .act (some 48) (.op (.pure (.minmax true [(.tmp 47), (.const (.int .i64 0))]))) none,
    .act (some 3) (.op (.pure (.move (.tmp 48)))) none])
  (.seq (.steps [
    .act (some 49) (.op (.pure (.move (.tmp 4)))) none,
    .act (some 50) (.op (.pure (.minmax true [(.tmp 49), (.const (.int .i64 0))]))) none,
    .act (some 4) (.op (.pure (.move (.tmp 50)))) none])
  (.seq (.seq (.steps [
    .act (some 51) (.op (.pure (.fieldAddr 1 (.tmp 6)))) none,
    .act (some 52) (.op (.read (.load1 (.tmp 51)))) none,
    .act (some 53) (.op (.pure (.bin .eql (.tmp 52) (.const (.int .i64 0))))) none,
    .act (some 54) (.op (.pure (.move (.tmp 53)))) none,
    .act (some 55) (.op (.pure (.fieldAddr 6 (.tmp 6)))) (some (54, true)),
    .act (some 56) (.op (.read (.load1 (.tmp 55)))) (some (54, true)),
    .act (some 57) (.op (.pure (.bin .eql (.tmp 56) (.const (.int .i64 15))))) (some (54, true)),
    .act (some 58) (.op (.pure (.pick (.tmp 54) (.tmp 57) (.const (.bool false))))) none,
    .act (some 59) (.op (.pure (.move (.tmp 58)))) none,
    .act (some 60) (.op (.pure (.fieldAddr 0 (.tmp 5)))) (some (59, true)),
    .act (some 61) (.op (.read (.load1 (.tmp 60)))) (some (59, true)),
    .act (some 62) (.op (.pure (.bin .gtr (.tmp 61) (.const (.int .i64 0))))) (some (59, true)),
    .act (some 63) (.op (.pure (.pick (.tmp 59) (.tmp 62) (.const (.bool false))))) none])
  (.cond (.tmp 63)
   (.seq (.seq (.steps [
     .act (some 64) (.op (.pure (.move (.tmp 2)))) none,
     .act (some 65) (.op (.pure (.bin .eql (.tmp 64) (.const (.int .i64 1))))) none,
     .act (some 66) (.op (.pure (.move (.tmp 65)))) none,
     .act (some 67) (.op (.pure (.fieldAddr 1 (.tmp 5)))) (some (66, true)),
     .act (some 68) (.op (.read (.load1 (.tmp 67)))) (some (66, true)),
     .act (some 69) (.op (.pure (.len false (.tmp 68)))) (some (66, true)),
     .act (some 70) (.op (.pure (.fieldAddr 0 (.tmp 5)))) (some (66, true)),
     .act (some 71) (.op (.read (.load1 (.tmp 70)))) (some (66, true)),
     .act (some 72) (.op (.pure (.bin .geq (.tmp 69) (.tmp 71)))) (some (66, true)),
     .act (some 73) (.op (.pure (.move (.tmp 72)))) (some (66, true)),
     .act (some 74) (.op (.pure (.move (.tmp 3)))) (some (73, false)),
     .act (some 75) (.op (.pure (.fieldAddr 0 (.tmp 5)))) (some (73, false)),
     .act (some 76) (.op (.read (.load1 (.tmp 75)))) (some (73, false)),
     .act (some 77) (.op (.pure (.fieldAddr 1 (.tmp 5)))) (some (73, false)),
     .act (some 78) (.op (.read (.load1 (.tmp 77)))) (some (73, false)),
     .act (some 79) (.op (.pure (.len false (.tmp 78)))) (some (73, false)),
     .act (some 80) (.op (.pure (.bin .sub (.tmp 76) (.tmp 79)))) (some (73, false)),
     .act (some 81) (.op (.pure (.bin .geq (.tmp 74) (.tmp 80)))) (some (73, false)),
     .act (some 82) (.op (.pure (.pick (.tmp 73) (.const (.bool true)) (.tmp 81)))) (some (66, true)),
     .act (some 83) (.op (.pure (.move (.tmp 82)))) (some (66, true)),
     .act (some 84) (.op (.pure (.move (.tmp 4)))) (some (83, false)),
     .act (some 85) (.op (.pure (.fieldAddr 0 (.tmp 5)))) (some (83, false)),
     .act (some 86) (.op (.read (.load1 (.tmp 85)))) (some (83, false)),
     .act (some 87) (.op (.pure (.fieldAddr 1 (.tmp 5)))) (some (83, false)),
     .act (some 88) (.op (.read (.load1 (.tmp 87)))) (some (83, false)),
     .act (some 89) (.op (.pure (.len false (.tmp 88)))) (some (83, false)),
     .act (some 90) (.op (.pure (.bin .sub (.tmp 86) (.tmp 89)))) (some (83, false)),
     .act (some 91) (.op (.pure (.move (.tmp 3)))) (some (83, false)),
     .act (some 92) (.op (.pure (.bin .sub (.tmp 90) (.tmp 91)))) (some (83, false)),
     .act (some 93) (.op (.pure (.bin .geq (.tmp 84) (.tmp 92)))) (some (83, false)),
     .act (some 94) (.op (.pure (.pick (.tmp 83) (.const (.bool true)) (.tmp 93)))) (some (66, true)),
     .act (some 95) (.op (.pure (.pick (.tmp 66) (.tmp 94) (.const (.bool false))))) none])
   (.cond (.tmp 95)
    (.seq (.steps [
      .act (some 96) (.op (.read (.loadN 2 (.tmp 5)))) none,
      .act none (.op (.eff (.store 2 (.tmp 10) (.tmp 96)))) none,
      .act (some 11) (.op (.pure (.move (.const (.bool true))))) none])
    .ret)
    .skip))
   (.seq (.steps [
     .act (some 97) (.op (.pure (.move (.tmp 2)))) none,
     .act (some 98) (.op (.pure (.bin .eql (.tmp 97) (.const (.int .i64 2))))) none,
     .act (some 99) (.op (.pure (.move (.tmp 98)))) none,
     .act (some 100) (.op (.pure (.move (.tmp 4)))) (some (99, true)),
     .act (some 101) (.op (.pure (.bin .gtr (.tmp 100) (.const (.int .i64 0))))) (some (99, true)),
     .act (some 102) (.op (.pure (.pick (.tmp 99) (.tmp 101) (.const (.bool false))))) none])
   (.cond (.tmp 102)
    (.seq (.steps [
      .act (some 103) (.op (.read (.loadN 2 (.tmp 5)))) none,
      .act none (.op (.eff (.store 2 (.tmp 10) (.tmp 103)))) none,
      .act (some 11) (.op (.pure (.move (.const (.bool true))))) none])
    .ret)
    .skip)))
   .skip))
  (.seq (.seq (.steps [
    .act (some 104) (.op (.pure (.fieldAddr 1 (.tmp 6)))) none,
    .act (some 105) (.op (.read (.load1 (.tmp 104)))) none,
    .act (some 106) (.op (.pure (.bin .eql (.tmp 105) (.const (.int .i64 1))))) none,
    .act (some 107) (.op (.pure (.move (.tmp 106)))) none,
    .act (some 108) (.op (.pure (.fieldAddr 6 (.tmp 6)))) (some (107, true)),
    .act (some 109) (.op (.read (.load1 (.tmp 108)))) (some (107, true)),
    .act (some 110) (.op (.pure (.bin .eql (.tmp 109) (.const (.int .i64 13))))) (some (107, true)),
    .act (some 111) (.op (.pure (.pick (.tmp 107) (.tmp 110) (.const (.bool false))))) none,
    .act (some 112) (.op (.pure (.move (.tmp 111)))) none,
    .act (some 113) (.op (.pure (.move (.tmp 2)))) (some (112, true)),
    .act (some 114) (.op (.pure (.bin .eql (.tmp 113) (.const (.int .i64 2))))) (some (112, true)),
    .act (some 115) (.op (.pure (.pick (.tmp 112) (.tmp 114) (.const (.bool false))))) none,
    .act (some 116) (.op (.pure (.move (.tmp 115)))) none,
    .act (some 117) (.op (.pure (.move (.tmp 3)))) (some (116, true)),
    .act (some 118) (.op (.pure (.bin .gtr (.tmp 117) (.const (.int .i64 0))))) (some (116, true)),
    .act (some 119) (.op (.pure (.pick (.tmp 116) (.tmp 118) (.const (.bool false))))) none])
  (.cond (.tmp 119)
   (.seq (.steps [
     .act (some 120) (.op (.read (.loadN 2 (.tmp 5)))) none,
     .act none (.op (.eff (.store 2 (.tmp 10) (.tmp 120)))) none,
     .act (some 11) (.op (.pure (.move (.const (.bool true))))) none])
   .ret)
   .skip))
  (.seq (.steps [
    .act (some 121) (.op (.pure (.build [(.int .i64 0), (.slice none 0 0)] []))) none,
    .act none (.op (.eff (.store 2 (.tmp 10) (.tmp 121)))) none,
    .act (some 11) (.op (.pure (.move (.const (.bool false))))) none])
  .ret)))))))))) }
theorem c13 : compFn Try.prog (mkPlan Try.prog) [] false 13 = some L13 := by kernel_rfl
/-- sluiceway/sluicewaylaw04.Own -/
def L14 : LFun := { n := 37, pop := false, res := [.tmp 2], code :=
  (.seq (.steps [
    .act (some 2) (.op (.pure (.move (.const (.slice none 0 0))))) none])
  (.seq (.steps [
    .act (some 3) (.op (.pure (.move (.const (.slice none 0 0))))) none])
  (.seq (.seq (.steps [
    .act (some 4) (.op (.pure (.move (.const (.int .i64 0))))) none])
  (.block 0 (.loop [0, 3, 4] (.seq (.seq (.steps [
      .act (some 6) (.op (.pure (.move (.tmp 4)))) none,
      .act (some 7) (.op (.pure (.move (.tmp 0)))) none,
      .act (some 8) (.op (.pure (.len false (.tmp 7)))) none,
      .act (some 9) (.op (.pure (.bin .lss (.tmp 6) (.tmp 8)))) none])
    (.cond (.tmp 9)
     .skip
     (.exit 0)))
    (.seq (.block 1 (.seq (.steps [
       .act (some 12) (.op (.pure (.move (.tmp 0)))) none,
       .act (some 13) (.op (.pure (.move (.tmp 4)))) none,
       .act (some 14) (.op (.pure (.idxSl 8 (.tmp 12) (.tmp 13)))) none,
       .act (some 15) (.op (.read (.loadN 8 (.tmp 14)))) none,
       .act (some 5) (.op (.new (.alloc [(.int .i64 0), (.int .i64 0), (w64 0#64), (.int .i64 0), (.int .i64 0), (.bool false), (.int .i64 0), (w64 0#64)]))) none,
       .act none (.op (.eff (.store 8 (.tmp 5) (.tmp 15)))) none])
     (.steps [
       .act (some 16) (.op (.pure (.move (.tmp 3)))) none,
       .act (some 17) (.op (.pure (.fieldAddr 0 (.tmp 5)))) none,
       .act (some 18) (.op (.read (.load1 (.tmp 17)))) none,
       .act (some 19) (.op (.pure (.fieldAddr 1 (.tmp 5)))) none,
       .act (some 20) (.op (.read (.load1 (.tmp 19)))) none,
       .act (some 21) (.op (.pure (.fieldAddr 2 (.tmp 5)))) none,
       .act (some 22) (.op (.read (.load1 (.tmp 21)))) none,
       .act (some 23) (.op (.pure (.fieldAddr 3 (.tmp 5)))) none,
       .act (some 24) (.op (.read (.load1 (.tmp 23)))) none,
       .act (some 25) (.op (.pure (.fieldAddr 4 (.tmp 5)))) none,
       .act (some 26) (.op (.read (.load1 (.tmp 25)))) none,
       .act (some 27) (.op (.pure (.fieldAddr 5 (.tmp 5)))) none,
       .act (some 28) (.op (.read (.load1 (.tmp 27)))) none,
       .act (some 29) (.op (.pure (.fieldAddr 6 (.tmp 5)))) none,
       .act (some 30) (.op (.read (.load1 (.tmp 29)))) none,
       .act (some 31) (.op (.pure (.fieldAddr 7 (.tmp 5)))) none,
       .act (some 32) (.op (.read (.load1 (.tmp 31)))) none,
       .act (some 33) (.op (.pure (.build [(.int .i64 0), (.int .i64 0), (w64 0#64), (.int .i64 0), (.int .i64 0), (.bool false), (.int .i64 0), (w64 0#64)] [(0, 1, (.tmp 18)), (1, 1, (.tmp 20)), (2, 1, (.tmp 22)), (3, 1, (.tmp 24)), (4, 1, (.tmp 26)), (5, 1, (.tmp 28)), (6, 1, (.tmp 30)), (7, 1, (.tmp 32))]))) none,
       .act (some 34) (.op (.new (.mkSlice 8 1 [(.int .i64 0), (.int .i64 0), (w64 0#64), (.int .i64 0), (.int .i64 0), (.bool false), (.int .i64 0), (w64 0#64)] [(0, 8, (.tmp 33))]))) none,
       .act (some 35) (.op (.eff (.append 8 64 (.tmp 16) (.tmp 34)))) none,
       .act (some 3) (.op (.pure (.move (.tmp 35)))) none])))
    (.steps [
      .act (some 10) (.op (.pure (.move (.tmp 4)))) none,
      .act (some 11) (.op (.pure (.bin .add (.tmp 10) (.const (.int .i64 1))))) none,
      .act (some 4) (.op (.pure (.move (.tmp 11)))) none]))))))
  (.seq (.steps [
    .act (some 36) (.op (.pure (.move (.tmp 3)))) none,
    .act (some 2) (.op (.pure (.move (.tmp 36)))) none])
  .ret)))) }
theorem c14 : compFn Try.prog (mkPlan Try.prog) [(3, [0, 3, 4])] false 14 = some L14 := by kernel_rfl
/-- (sluiceway/sluicewayref05.Fifo).Same -/
def L15 : LFun := { n := 38, pop := true, res := [.tmp 4], code :=
  (.seq (.steps [
    .act (some 2) (.op (.new (.box (.tmp 0)))) none,
    .act (some 3) (.op (.new (.box (.tmp 1)))) none,
    .act (some 4) (.op (.pure (.move (.const (.bool false))))) none])
  (.seq (.seq (.steps [
    .act (some 6) (.op (.pure (.fieldAddr 0 (.tmp 2)))) none,
    .act (some 7) (.op (.read (.load1 (.tmp 6)))) none,
    .act (some 8) (.op (.pure (.fieldAddr 0 (.tmp 3)))) none,
    .act (some 9) (.op (.read (.load1 (.tmp 8)))) none,
    .act (some 10) (.op (.pure (.bin .neq (.tmp 7) (.tmp 9)))) none,
    .act (some 11) (.op (.pure (.move (.tmp 10)))) none,
    .act (some 12) (.op (.pure (.fieldAddr 1 (.tmp 2)))) (some (11, false)),
    .act (some 13) (.op (.read (.load1 (.tmp 12)))) (some (11, false)),
    .act (some 14) (.op (.pure (.len false (.tmp 13)))) (some (11, false)),
    .act (some 15) (.op (.pure (.fieldAddr 1 (.tmp 3)))) (some (11, false)),
    .act (some 16) (.op (.read (.load1 (.tmp 15)))) (some (11, false)),
    .act (some 17) (.op (.pure (.len false (.tmp 16)))) (some (11, false)),
    .act (some 18) (.op (.pure (.bin .neq (.tmp 14) (.tmp 17)))) (some (11, false)),
    .act (some 19) (.op (.pure (.pick (.tmp 11) (.const (.bool true)) (.tmp 18)))) none])
  (.cond (.tmp 19)
   (.seq (.steps [
     .act (some 4) (.op (.pure (.move (.const (.bool false))))) none])
   .ret)
   .skip))
  (.seq (.seq (.steps [
    .act (some 5) (.op (.pure (.move (.const (.int .i64 0))))) none])
  (.block 0 (.loop [2, 3, 5] (.seq (.seq (.steps [
      .act (some 20) (.op (.pure (.move (.tmp 5)))) none,
      .act (some 21) (.op (.pure (.fieldAddr 1 (.tmp 2)))) none,
      .act (some 22) (.op (.read (.load1 (.tmp 21)))) none,
      .act (some 23) (.op (.pure (.len false (.tmp 22)))) none,
      .act (some 24) (.op (.pure (.bin .lss (.tmp 20) (.tmp 23)))) none])
    (.cond (.tmp 24)
     .skip
     (.exit 0)))
    (.seq (.block 1 (.seq (.steps [
       .act (some 27) (.op (.pure (.fieldAddr 1 (.tmp 2)))) none,
       .act (some 28) (.op (.read (.load1 (.tmp 27)))) none,
       .act (some 29) (.op (.pure (.move (.tmp 5)))) none,
       .act (some 30) (.op (.pure (.idxSl 1 (.tmp 28) (.tmp 29)))) none,
       .act (some 31) (.op (.read (.load1 (.tmp 30)))) none,
       .act (some 32) (.op (.pure (.fieldAddr 1 (.tmp 3)))) none,
       .act (some 33) (.op (.read (.load1 (.tmp 32)))) none,
       .act (some 34) (.op (.pure (.move (.tmp 5)))) none,
       .act (some 35) (.op (.pure (.idxSl 1 (.tmp 33) (.tmp 34)))) none,
       .act (some 36) (.op (.read (.load1 (.tmp 35)))) none,
       .act (some 37) (.op (.pure (.bin .neq (.tmp 31) (.tmp 36)))) none])
     (.cond (.tmp 37)
      (.seq (.steps [
        .act (some 4) (.op (.pure (.move (.const (.bool false))))) none])
      .ret)
      .skip)))
    (.steps [
      .act (some 25) (.op (.pure (.move (.tmp 5)))) none,
      .act (some 26) (.op (.pure (.bin .add (.tmp 25) (.const (.int .i64 1))))) none,
      .act (some 5) (.op (.pure (.move (.tmp 26)))) none]))))))
  (.seq (.steps [
    .act (some 4) (.op (.pure (.move (.const (.bool true))))) none])
  .ret)))) }
theorem c15 : compFn Try.prog (mkPlan Try.prog) [(4, [2, 3, 5])] true 15 = some L15 := by kernel_rfl
/-- (sluiceway/spec.Fifo).Key -/
def L16 : LFun := { n := 23, pop := true, res := [.tmp 2], code :=
  (.seq (.steps [
    .act (some 1) (.op (.new (.box (.tmp 0)))) none,
    .act (some 2) (.op (.pure (.move (.const (strV []))))) none])
  (.seq (.steps [
    .act (some 6) (.op (.pure (.fieldAddr 0 (.tmp 1)))) none,
    .act (some 7) (.op (.read (.load1 (.tmp 6)))) none,
    .act (some 8) (.op (.pure (.conv .u64 (.tmp 7)))) none,
    .act (some 9) (.call (.func 22) [(.const (.slice none 0 0)), (.tmp 8)]) none,
    .act (some 3) (.op (.pure (.move (.tmp 9)))) none])
  (.seq (.seq (.steps [
    .act (some 10) (.op (.pure (.fieldAddr 1 (.tmp 1)))) none,
    .act (some 11) (.op (.read (.load1 (.tmp 10)))) none,
    .act (some 12) (.op (.pure (.len false (.tmp 11)))) none,
    .act (some 13) (.op (.pure (.move (.const (.int .i64 0))))) none])
  (.block 0 (.loop [3, 11, 12, 13] (.seq (.steps [
      .act (some 14) (.op (.pure (.bin .lss (.tmp 13) (.tmp 12)))) none])
    (.seq (.cond (.tmp 14)
     .skip
     (.exit 0))
    (.seq (.block 1 (.seq (.steps [
       .act (some 15) (.op (.pure (.idxSl 1 (.tmp 11) (.tmp 13)))) none,
       .act (some 16) (.op (.read (.load1 (.tmp 15)))) none,
       .act (some 5) (.op (.pure (.move (.tmp 16)))) none])
     (.steps [
       .act (some 17) (.op (.pure (.move (.tmp 3)))) none,
       .act (some 18) (.op (.pure (.move (.tmp 5)))) none,
       .act (some 19) (.call (.func 22) [(.tmp 17), (.tmp 18)]) none,
       .act (some 3) (.op (.pure (.move (.tmp 19)))) none])))
    (.steps [
      .act (some 20) (.op (.pure (.bin .add (.tmp 13) (.const (.int .i64 1))))) none,
      .act (some 13) (.op (.pure (.move (.tmp 20)))) none])))))))
  (.seq (.steps [
    .act (some 21) (.op (.pure (.move (.tmp 3)))) none,
    .act (some 22) (.op (.read (.b2s (.tmp 21)))) none,
    .act (some 2) (.op (.pure (.move (.tmp 22)))) none])
  .ret)))) }
theorem c16 : compFn Try.prog (mkPlan Try.prog) [(3, [3, 11, 12, 13])] true 16 = some L16 := by kernel_rfl
/-- (sluiceway/spec.Fifo).full -/
def L17 : LFun := { n := 14, pop := true, res := [.tmp 2], code :=
  (.seq (.steps [
    .act (some 1) (.op (.new (.box (.tmp 0)))) none,
    .act (some 2) (.op (.pure (.move (.const (.bool false))))) none])
  (.seq (.steps [
    .act (some 3) (.op (.pure (.fieldAddr 0 (.tmp 1)))) none,
    .act (some 4) (.op (.read (.load1 (.tmp 3)))) none,
    .act (some 5) (.op (.pure (.bin .gtr (.tmp 4) (.const (.int .i64 0))))) none,
    .act (some 6) (.op (.pure (.move (.tmp 5)))) none,
    .act (some 7) (.op (.pure (.fieldAddr 1 (.tmp 1)))) (some (6, true)),
    .act (some 8) (.op (.read (.load1 (.tmp 7)))) (some (6, true)),
    .act (some 9) (.op (.pure (.len false (.tmp 8)))) (some (6, true)),
    .act (some 10) (.op (.pure (.fieldAddr 0 (.tmp 1)))) (some (6, true)),
    .act (some 11) (.op (.read (.load1 (.tmp 10)))) (some (6, true)),
    .act (some 12) (.op (.pure (.bin .geq (.tmp 9) (.tmp 11)))) (some (6, true)),
    .act (some 13) (.op (.pure (.pick (.tmp 6) (.tmp 12) (.const (.bool false))))) none,
    .act (some 2) (.op (.pure (.move (.tmp 13)))) none])
  .ret)) }
theorem c17 : compFn Try.prog (mkPlan Try.prog) [] true 17 = some L17 := by kernel_rfl
/-- (sluiceway/spec.Fifo).with -/
def L18 : LFun := { n := 25, pop := false, res := [.loadN 2 4], code :=
  (.seq (.steps [
    .act (some 2) (.op (.new (.box (.tmp 0)))) none,
    .act (some 4) (.op (.new (.alloc [(.int .i64 0), (.slice none 0 0)]))) none])
  (.seq (.steps [
    .act (some 6) (.op (.pure (.fieldAddr 1 (.tmp 2)))) none,
    .act (some 7) (.op (.read (.load1 (.tmp 6)))) none,
    .act (some 8) (.op (.pure (.len false (.tmp 7)))) none,
    .act (some 9) (.op (.pure (.fieldAddr 1 (.tmp 2)))) none,
    .act (some 10) (.op (.read (.load1 (.tmp 9)))) none,
    .act (some 11) (.op (.pure (.len false (.tmp 10)))) none,
    .act (some 12) (.op (.pure (.bin .add (.tmp 11) (.const (.int .i64 1))))) none,
    .act (some 13) (.op (.new (.makeSlice 1 8 [(w64 0#64)] (.tmp 8) (.tmp 12)))) none,
    .act (some 5) (.op (.pure (.move (.tmp 13)))) none])
  (.seq (.steps [
    .act (some 14) (.op (.pure (.move (.tmp 5)))) none,
    .act (some 15) (.op (.pure (.fieldAddr 1 (.tmp 2)))) none,
    .act (some 16) (.op (.read (.load1 (.tmp 15)))) none,
    .act (some 17) (.op (.eff (.copy 1 (.tmp 14) (.tmp 16)))) none])
  (.seq (.steps [
    .act (some 18) (.op (.pure (.fieldAddr 0 (.tmp 2)))) none,
    .act (some 19) (.op (.read (.load1 (.tmp 18)))) none,
    .act (some 20) (.op (.pure (.move (.tmp 5)))) none,
    .act (some 21) (.op (.pure (.move (.tmp 1)))) none,
    .act (some 22) (.op (.new (.mkSlice 1 1 [(w64 0#64)] [(0, 1, (.tmp 21))]))) none,
    .act (some 23) (.op (.eff (.append 1 8 (.tmp 20) (.tmp 22)))) none,
    .act (some 24) (.op (.pure (.build [(.int .i64 0), (.slice none 0 0)] [(0, 1, (.tmp 19)), (1, 1, (.tmp 23))]))) none,
    .again 19 (.load1 (.tmp 18)) none,
    .act none (.op (.eff (.store 2 (.tmp 4) (.tmp 24)))) none])
  .ret)))) }
theorem c18 : compFn Try.prog (mkPlan Try.prog) [] false 18 = some L18 := by kernel_rfl
/-- (sluiceway/spec.Fifo).rest -/
def L19 : LFun := { n := 16, pop := false, res := [.loadN 2 2], code :=
  (.seq (.steps [
    .act (some 1) (.op (.new (.box (.tmp 0)))) none,
    .act (some 2) (.op (.new (.alloc [(.int .i64 0), (.slice none 0 0)]))) none])
  (.seq (.steps [
    .act (some 3) (.op (.pure (.fieldAddr 0 (.tmp 1)))) none,
    .act (some 4) (.op (.read (.load1 (.tmp 3)))) none,
    .act (some 5) (.op (.pure (.fieldAddr 1 (.tmp 1)))) none,
    .act (some 6) (.op (.read (.load1 (.tmp 5)))) none,
    .act (some 7) (.op (.pure (.fieldAddr 1 (.tmp 1)))) none,
    .act (some 8) (.op (.read (.load1 (.tmp 7)))) none,
    .act (some 9) (.op (.pure (.len false (.tmp 8)))) none,
    .act (some 10) (.op (.pure (.fieldAddr 1 (.tmp 1)))) none,
    .act (some 11) (.op (.read (.load1 (.tmp 10)))) none,
    .act (some 12) (.op (.pure (.len false (.tmp 11)))) none,
    .act (some 13) (.op (.read (.slSl 1 (.tmp 6) (some (.const (.int .i64 1))) (some (.tmp 9)) (some (.tmp 12))))) none,
    .act (some 14) (.call (.func 23) [(.tmp 13)]) none,
    .act (some 15) (.op (.pure (.build [(.int .i64 0), (.slice none 0 0)] [(0, 1, (.tmp 4)), (1, 1, (.tmp 14))]))) none,
    .again 4 (.load1 (.tmp 3)) none,
    .act none (.op (.eff (.store 2 (.tmp 2) (.tmp 15)))) none])
  .ret)) }
theorem c19 : compFn Try.prog (mkPlan Try.prog) [] false 19 = some L19 := by kernel_rfl
/-- slices.Equal[[]uint64,uint64] -/
def L20 : LFun := { n := 26, pop := true, res := [.tmp 4], code :=
  (.seq (.steps [
    .act (some 4) (.op (.pure (.move (.const (.bool false))))) none])
  (.seq (.seq (.steps [
    .act (some 6) (.op (.pure (.move (.tmp 0)))) none,
    .act (some 7) (.op (.pure (.len false (.tmp 6)))) none,
    .act (some 8) (.op (.pure (.move (.tmp 1)))) none,
    .act (some 9) (.op (.pure (.len false (.tmp 8)))) none,
    .act (some 10) (.op (.pure (.bin .neq (.tmp 7) (.tmp 9)))) none])
  (.cond (.tmp 10)
   (.seq (.steps [
     .act (some 4) (.op (.pure (.move (.const (.bool false))))) none])
   .ret)
   .skip))
  (.seq (.seq (.steps [
    .act (some 11) (.op (.pure (.move (.tmp 0)))) none,
    .act (some 12) (.op (.pure (.len false (.tmp 11)))) none,
    .act (some 13) (.op (.pure (.move (.const (.int .i64 0))))) none])
  (.block 0 (.loop [0, 1, 12, 13] (.seq (.steps [
      .act (some 14) (.op (.pure (.bin .lss (.tmp 13) (.tmp 12)))) none])
    (.seq (.cond (.tmp 14)
     .skip
     (.exit 0))
    (.seq (.block 1 (.seq (.steps [
       .act (some 15) (.op (.pure (.move (.tmp 13)))) none,
       .act (some 5) (.op (.pure (.move (.tmp 15)))) none])
     (.seq (.steps [
       .act (some 16) (.op (.pure (.move (.tmp 0)))) none,
       .act (some 17) (.op (.pure (.move (.tmp 5)))) none,
       .act (some 18) (.op (.pure (.idxSl 1 (.tmp 16) (.tmp 17)))) none,
       .act (some 19) (.op (.read (.load1 (.tmp 18)))) none,
       .act (some 20) (.op (.pure (.move (.tmp 1)))) none,
       .act (some 21) (.op (.pure (.move (.tmp 5)))) none,
       .act (some 22) (.op (.pure (.idxSl 1 (.tmp 20) (.tmp 21)))) none,
       .act (some 23) (.op (.read (.load1 (.tmp 22)))) none,
       .act (some 24) (.op (.pure (.bin .neq (.tmp 19) (.tmp 23)))) none])
     (.cond (.tmp 24)
      (.seq (.steps [
        .act (some 4) (.op (.pure (.move (.const (.bool false))))) none])
      .ret)
      .skip))))
    (.steps [
      .act (some 25) (.op (.pure (.bin .add (.tmp 13) (.const (.int .i64 1))))) none,
      .act (some 13) (.op (.pure (.move (.tmp 25)))) none])))))))
  (.seq (.steps [
    .act (some 4) (.op (.pure (.move (.const (.bool true))))) none])
  .ret)))) }
theorem c20 : compFn Try.prog (mkPlan Try.prog) [(4, [0, 1, 12, 13])] true 20 = some L20 := by kernel_rfl
/-- (sluiceway/spec.Fifo).let -/
def L21 : LFun := { n := 84, pop := true, res := [.tmp 10], code :=
  (.seq (.steps [
    .act (some 5) (.op (.new (.box (.tmp 0)))) none,
    .act (some 6) (.op (.new (.box (.tmp 1)))) none,
    .act (some 10) (.op (.pure (.move (.const (.bool false))))) none])
  (.seq (.steps [
    .act (some 11) (.op (.pure (.move (.tmp 3)))) none,
    .act (some 12) (.op (.pure (.minmax true [(.tmp 11), (.const (.int .i64 0))]))) none,
    .act (some 13) (.op (.pure (.move (.tmp 4)))) none,
    .act (some 14) (.op (.pure (.minmax true [(.tmp 13), (.const (.int .i64 0))]))) none,
    .act (some 3) (.op (.pure (.move (.tmp 12)))) none,
    .act (some 4) (.op (.pure (.move (.tmp 14)))) none])
  (.seq (.block 0 (.seq (.steps [
     .act (some 16) (.op (.pure (.fieldAddr 7 (.tmp 6)))) none,
     .act (some 17) (.op (.read (.load1 (.tmp 16)))) none,
     .act (some 18) (.op (.pure (.bin .neq (.tmp 17) (.const (w64 0#64))))) none,
     .act (some 15) (.op (.pure (.move (.tmp 18)))) none])
   (.cond (.tmp 15)
    (.seq (.steps [
      .act (some 10) (.op (.pure (.move (.const (.bool false))))) none])
    .ret)
    (.seq (.steps [
      .act (some 20) (.op (.pure (.fieldAddr 1 (.tmp 6)))) none,
      .act (some 21) (.op (.read (.load1 (.tmp 20)))) none,
      .act (some 22) (.op (.pure (.bin .eql (.tmp 21) (.const (.int .i64 0))))) none,
      .act (some 23) (.op (.pure (.move (.tmp 22)))) none,
      .act (some 24) (.op (.pure (.fieldAddr 6 (.tmp 6)))) (some (23, true)),
      .act (some 25) (.op (.read (.load1 (.tmp 24)))) (some (23, true)),
      .act (some 26) (.op (.pure (.bin .eql (.tmp 25) (.const (.int .i64 15))))) (some (23, true)),
      .act (some 27) (.op (.pure (.pick (.tmp 23) (.tmp 26) (.const (.bool false))))) none,
      .act (some 28) (.op (.pure (.move (.tmp 27)))) none,
      .act (some 29) (.op (.pure (.fieldAddr 0 (.tmp 5)))) (some (28, true)),
      .act (some 30) (.op (.read (.load1 (.tmp 29)))) (some (28, true)),
      .act (some 31) (.op (.pure (.bin .gtr (.tmp 30) (.const (.int .i64 0))))) (some (28, true)),
      .act (some 32) (.op (.pure (.pick (.tmp 28) (.tmp 31) (.const (.bool false))))) none,
      .act (some 33) (.op (.pure (.move (.tmp 32)))) none,
      .act (some 34) (.op (.pure (.move (.tmp 2)))) (some (33, true)),
      .act (some 35) (.op (.pure (.bin .eql (.tmp 34) (.const (.int .i64 1))))) (some (33, true)),
      .act (some 36) (.op (.pure (.pick (.tmp 33) (.tmp 35) (.const (.bool false))))) none,
      .act (some 19) (.op (.pure (.move (.tmp 36)))) none])
    (.cond (.tmp 19)
     (.seq (.steps [
       .act (some 37) (.op (.pure (.move (.tmp 3)))) none,
       .act (some 38) (.op (.read (.loadN 2 (.tmp 5)))) none,
       .act (some 39) (.call (.func 24) [(.tmp 38)]) none,
       .act (some 40) (.op (.pure (.bin .geq (.tmp 37) (.tmp 39)))) none,
       .act (some 41) (.op (.pure (.move (.tmp 40)))) none,
       .act (some 42) (.op (.pure (.move (.tmp 4)))) (some (41, false)),
       .act (some 43) (.op (.read (.loadN 2 (.tmp 5)))) (some (41, false)),
       .act (some 44) (.call (.func 24) [(.tmp 43)]) (some (41, false)),
       .act (some 45) (.op (.pure (.move (.tmp 3)))) (some (41, false)),
       .act (some 46) (.op (.pure (.bin .sub (.tmp 44) (.tmp 45)))) (some (41, false)),
       .act (some 47) (.op (.pure (.bin .geq (.tmp 42) (.tmp 46)))) (some (41, false)),
       .act (some 48) (.op (.pure (.pick (.tmp 41) (.const (.bool true)) (.tmp 47)))) none,
       .act (some 10) (.op (.pure (.move (.tmp 48)))) none])
     .ret)
     (.seq (.steps [
       .act (some 50) (.op (.pure (.fieldAddr 1 (.tmp 6)))) none,
       .act (some 51) (.op (.read (.load1 (.tmp 50)))) none,
       .act (some 52) (.op (.pure (.bin .eql (.tmp 51) (.const (.int .i64 0))))) none,
       .act (some 53) (.op (.pure (.move (.tmp 52)))) none,
       .act (some 54) (.op (.pure (.fieldAddr 6 (.tmp 6)))) (some (53, true)),
       .act (some 55) (.op (.read (.load1 (.tmp 54)))) (some (53, true)),
       .act (some 56) (.op (.pure (.bin .eql (.tmp 55) (.const (.int .i64 15))))) (some (53, true)),
       .act (some 57) (.op (.pure (.pick (.tmp 53) (.tmp 56) (.const (.bool false))))) none,
       .act (some 58) (.op (.pure (.move (.tmp 57)))) none,
       .act (some 59) (.op (.pure (.fieldAddr 0 (.tmp 5)))) (some (58, true)),
       .act (some 60) (.op (.read (.load1 (.tmp 59)))) (some (58, true)),
       .act (some 61) (.op (.pure (.bin .gtr (.tmp 60) (.const (.int .i64 0))))) (some (58, true)),
       .act (some 62) (.op (.pure (.pick (.tmp 58) (.tmp 61) (.const (.bool false))))) none,
       .act (some 63) (.op (.pure (.move (.tmp 62)))) none,
       .act (some 64) (.op (.pure (.move (.tmp 2)))) (some (63, true)),
       .act (some 65) (.op (.pure (.bin .eql (.tmp 64) (.const (.int .i64 2))))) (some (63, true)),
       .act (some 66) (.op (.pure (.pick (.tmp 63) (.tmp 65) (.const (.bool false))))) none,
       .act (some 49) (.op (.pure (.move (.tmp 66)))) none])
     (.cond (.tmp 49)
      (.seq (.steps [
        .act (some 67) (.op (.pure (.move (.tmp 4)))) none,
        .act (some 68) (.op (.pure (.bin .gtr (.tmp 67) (.const (.int .i64 0))))) none,
        .act (some 10) (.op (.pure (.move (.tmp 68)))) none])
      .ret)
      (.seq (.steps [
        .act (some 70) (.op (.pure (.fieldAddr 1 (.tmp 6)))) none,
        .act (some 71) (.op (.read (.load1 (.tmp 70)))) none,
        .act (some 72) (.op (.pure (.bin .eql (.tmp 71) (.const (.int .i64 1))))) none,
        .act (some 73) (.op (.pure (.move (.tmp 72)))) none,
        .act (some 74) (.op (.pure (.fieldAddr 6 (.tmp 6)))) (some (73, true)),
        .act (some 75) (.op (.read (.load1 (.tmp 74)))) (some (73, true)),
        .act (some 76) (.op (.pure (.bin .eql (.tmp 75) (.const (.int .i64 13))))) (some (73, true)),
        .act (some 77) (.op (.pure (.pick (.tmp 73) (.tmp 76) (.const (.bool false))))) none,
        .act (some 78) (.op (.pure (.move (.tmp 77)))) none,
        .act (some 79) (.op (.pure (.move (.tmp 2)))) (some (78, true)),
        .act (some 80) (.op (.pure (.bin .eql (.tmp 79) (.const (.int .i64 2))))) (some (78, true)),
        .act (some 81) (.op (.pure (.pick (.tmp 78) (.tmp 80) (.const (.bool false))))) none,
        .act (some 69) (.op (.pure (.move (.tmp 81)))) none])
      (.cond (.tmp 69)
       (.seq (.steps [
         .act (some 82) (.op (.pure (.move (.tmp 3)))) none,
         .act (some 83) (.op (.pure (.bin .gtr (.tmp 82) (.const (.int .i64 0))))) none,
         .act (some 10) (.op (.pure (.move (.tmp 83)))) none])
       .ret)
       .skip)))))))))
  (.seq (.steps [
    .act (some 10) (.op (.pure (.move (.const (.bool false))))) none])
  .ret)))) }
theorem c21 : compFn Try.prog (mkPlan Try.prog) [] true 21 = some L21 := by kernel_rfl
/-- sluiceway/spec.lay -/
def L22 : LFun := { n := 16, pop := false, res := [.tmp 4], code :=
  (.seq (.steps [
    .act (some 4) (.op (.pure (.move (.const (.slice none 0 0))))) none])
  (.seq (.seq (.steps [
    .act (some 5) (.op (.pure (.move (.const (.int .i64 0))))) none])
  (.block 0 (.loop [0, 1, 5] (.seq (.steps [
      .act (some 6) (.op (.pure (.bin .lss (.tmp 5) (.const (.int .i64 8))))) none])
    (.seq (.cond (.tmp 6)
     .skip
     (.exit 0))
    (.seq (.block 1 (.seq (.steps [
       .act (some 7) (.op (.pure (.move (.tmp 0)))) none,
       .act (some 8) (.op (.pure (.move (.tmp 1)))) none,
       .act (some 9) (.op (.pure (.conv .u8 (.tmp 8)))) none,
       .act (some 10) (.op (.new (.mkSlice 1 1 [(b8 0)] [(0, 1, (.tmp 9))]))) none,
       .act (some 11) (.op (.eff (.append 1 1 (.tmp 7) (.tmp 10)))) none,
       .act (some 0) (.op (.pure (.move (.tmp 11)))) none])
     (.steps [
       .act (some 12) (.op (.pure (.move (.tmp 1)))) none,
       .act (some 13) (.op (.pure (.bin .shr (.tmp 12) (.const (w64 8#64))))) none,
       .act (some 1) (.op (.pure (.move (.tmp 13)))) none])))
    (.steps [
      .act (some 14) (.op (.pure (.bin .add (.tmp 5) (.const (.int .i64 1))))) none,
      .act (some 5) (.op (.pure (.move (.tmp 14)))) none])))))))
  (.seq (.steps [
    .act (some 15) (.op (.pure (.move (.tmp 0)))) none,
    .act (some 4) (.op (.pure (.move (.tmp 15)))) none])
  .ret))) }
theorem c22 : compFn Try.prog (mkPlan Try.prog) [(2, [0, 1, 5])] false 22 = some L22 := by kernel_rfl
/-- slices.Clone[[]uint64,uint64] -/
def L23 : LFun := { n := 8, pop := false, res := [.tmp 2], code :=
  (.seq (.steps [
    .act (some 2) (.op (.pure (.move (.const (.slice none 0 0))))) none])
  (.seq (.seq (.steps [
    .act (some 3) (.op (.pure (.move (.tmp 0)))) none,
    .act (some 4) (.op (.pure (.eqNil .s false (.tmp 3) (.const (.slice none 0 0))))) none])
  (.cond (.tmp 4)
   (.seq (.steps [
     .act (some 2) (.op (.pure (.move (.const (.slice none 0 0))))) none])
   .ret)
   .skip))
  (.seq (.steps [
    .act (some 5) (.op (.new (.mkSlice 1 0 [] []))) none,
    .act (some 6) (.op (.pure (.move (.tmp 0)))) none,
    .act (some 7) (.op (.eff (.append 1 8 (.tmp 5) (.tmp 6)))) none,
    .act (some 2) (.op (.pure (.move (.tmp 7)))) none])
  .ret))) }
theorem c23 : compFn Try.prog (mkPlan Try.prog) [] false 23 = some L23 := by kernel_rfl
/-- (sluiceway/spec.Fifo).room -/
def L24 : LFun := { n := 10, pop := true, res := [.tmp 2], code :=
  (.seq (.steps [
    .act (some 1) (.op (.new (.box (.tmp 0)))) none,
    .act (some 2) (.op (.pure (.move (.const (.int .i64 0))))) none])
  (.seq (.steps [
    .act (some 3) (.op (.pure (.fieldAddr 0 (.tmp 1)))) none,
    .act (some 4) (.op (.read (.load1 (.tmp 3)))) none,
    .act (some 5) (.op (.pure (.fieldAddr 1 (.tmp 1)))) none,
    .act (some 6) (.op (.read (.load1 (.tmp 5)))) none,
    .act (some 7) (.op (.pure (.len false (.tmp 6)))) none,
    .act (some 8) (.op (.pure (.bin .sub (.tmp 4) (.tmp 7)))) none,
    .act (some 9) (.op (.pure (.minmax true [(.const (.int .i64 0)), (.tmp 8)]))) none,
    .act (some 2) (.op (.pure (.move (.tmp 9)))) none])
  .ret)) }
theorem c24 : compFn Try.prog (mkPlan Try.prog) [] true 24 = some L24 := by kernel_rfl
end Go.Proofs.Ytofkfbkpndjidaa
