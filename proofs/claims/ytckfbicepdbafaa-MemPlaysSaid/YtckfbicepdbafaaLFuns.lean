import Derived.Test.YtckfbicepdbafaaLP
import Derived.KernelRfl
import Derived.Test.YtckfbicepdbafaaProg
namespace Go.Proofs.Ytckfbicepdbafaa
open Go Go.LK Go.Proofs
set_option maxRecDepth 100000
/-- sluiceway/sluicewaylaw02.MemSwaps -/
def L3 : LFun := { n := 101, pop := true, res := [.tmp 4], code :=
  (.seq (.steps [
    .act (some 4) (.op (.pure (.move (.const (.bool false))))) none])
  (.seq (.steps [
    .act (some 11) (.call (.func 8) [(.const (.int .i64 4))]) none,
    .act (some 10) (.op (.pure (.move (.tmp 11)))) none,
    .act (some 12) (.op (.pure (.extract (.tmp 10) 0))) none,
    .act (some 13) (.op (.pure (.extract (.tmp 10) 1))) none,
    .act (some 5) (.op (.pure (.move (.tmp 12)))) none,
    .act (some 6) (.op (.pure (.move (.tmp 13)))) none])
  (.seq (.seq (.steps [
    .act (some 14) (.op (.pure (.move (.tmp 6)))) none,
    .act (some 15) (.op (.pure (.bin .neq (.tmp 14) (.const (.int .i64 0))))) none,
    .act (some 16) (.op (.pure (.move (.tmp 15)))) none,
    .act (some 17) (.op (.pure (.move (.tmp 5)))) (some (16, false)),
    .act (some 18) (.op (.pure (.eqNil .p false (.tmp 17) (.const (.pointer none))))) (some (16, false)),
    .act (some 19) (.op (.pure (.pick (.tmp 16) (.const (.bool true)) (.tmp 18)))) none])
  (.cond (.tmp 19)
   (.seq (.steps [
     .act (some 4) (.op (.pure (.move (.const (.bool false))))) none])
   .ret)
   .skip))
  (.seq (.steps [
    .act (some 20) (.op (.pure (.move (.tmp 5)))) none,
    .act (some 21) (.op (.pure (.move (.tmp 0)))) none,
    .act (some 22) (.call (.func 9) [(.tmp 20), (.const (.int .i64 0)), (.tmp 21)]) none])
  (.seq (.seq (.steps [
    .act (some 23) (.op (.pure (.move (.tmp 5)))) none,
    .act (some 24) (.op (.pure (.move (.tmp 0)))) none,
    .act (some 25) (.op (.pure (.move (.tmp 0)))) none,
    .act (some 26) (.op (.pure (.bin .add (.tmp 25) (.const (w64 1#64))))) none,
    .act (some 27) (.call (.func 10) [(.tmp 23), (.const (.int .i64 0)), (.tmp 24), (.tmp 26)]) none,
    .act (some 28) (.op (.pure (.not (.tmp 27)))) none,
    .act (some 29) (.op (.pure (.move (.tmp 28)))) none,
    .act (some 30) (.op (.pure (.move (.tmp 5)))) (some (29, false)),
    .act (some 31) (.op (.pure (.move (.tmp 0)))) (some (29, false)),
    .act (some 32) (.op (.pure (.move (.tmp 0)))) (some (29, false)),
    .act (some 33) (.op (.pure (.bin .add (.tmp 32) (.const (w64 2#64))))) (some (29, false)),
    .act (some 34) (.call (.func 10) [(.tmp 30), (.const (.int .i64 0)), (.tmp 31), (.tmp 33)]) (some (29, false)),
    .act (some 35) (.op (.pure (.pick (.tmp 29) (.const (.bool true)) (.tmp 34)))) none,
    .act (some 36) (.op (.pure (.move (.tmp 35)))) none,
    .act (some 37) (.op (.pure (.move (.tmp 5)))) (some (36, false)),
    .act (some 38) (.call (.func 11) [(.tmp 37), (.const (.int .i64 0))]) (some (36, false)),
    .act (some 39) (.op (.pure (.move (.tmp 0)))) (some (36, false)),
    .act (some 40) (.op (.pure (.bin .add (.tmp 39) (.const (w64 1#64))))) (some (36, false)),
    .act (some 41) (.op (.pure (.bin .neq (.tmp 38) (.tmp 40)))) (some (36, false)),
    .act (some 42) (.op (.pure (.pick (.tmp 36) (.const (.bool true)) (.tmp 41)))) none])
  (.cond (.tmp 42)
   (.seq (.steps [
     .act (some 4) (.op (.pure (.move (.const (.bool false))))) none])
   .ret)
   .skip))
  (.seq (.steps [
    .act (some 7) (.op (.pure (.move (.const (w64 0#64))))) none,
    .act (some 8) (.op (.pure (.move (.const (w64 0#64))))) none])
  (.seq (.seq (.steps [
    .act (some 9) (.op (.pure (.move (.const (.int .i64 0))))) none])
  (.block 0 (.loop [1, 5, 7, 8, 9] (.seq (.seq (.steps [
      .act (some 43) (.op (.pure (.move (.tmp 9)))) none,
      .act (some 44) (.op (.pure (.move (.tmp 1)))) none,
      .act (some 45) (.op (.pure (.len false (.tmp 44)))) none,
      .act (some 46) (.op (.pure (.bin .lss (.tmp 43) (.tmp 45)))) none,
      .act (some 47) (.op (.pure (.move (.tmp 46)))) none,
      .act (some 48) (.op (.pure (.move (.tmp 9)))) (some (47, true)),
      .act (some 49) (.op (.pure (.bin .lss (.tmp 48) (.const (.int .i64 100))))) (some (47, true)),
      .act (some 50) (.op (.pure (.pick (.tmp 47) (.tmp 49) (.const (.bool false))))) none])
    (.cond (.tmp 50)
     .skip
     (.exit 0)))
    (.seq (.block 1 (.seq (.seq (.steps [
       .act (some 53) (.op (.pure (.move (.tmp 5)))) none,
       .act (some 54) (.op (.pure (.move (.tmp 1)))) none,
       .act (some 55) (.op (.pure (.move (.tmp 9)))) none,
       .act (some 56) (.op (.pure (.idxSl 1 (.tmp 54) (.tmp 55)))) none,
       .act (some 57) (.op (.read (.load1 (.tmp 56)))) none,
       .act (some 58) (.call (.func 12) [(.tmp 53), (.const (.int .i64 1)), (.tmp 57)]) none,
       .act (some 59) (.op (.pure (.move (.tmp 7)))) none,
       .act (some 60) (.op (.pure (.bin .neq (.tmp 58) (.tmp 59)))) none,
       .act (some 61) (.op (.pure (.move (.tmp 60)))) none,
       .act (some 62) (.op (.pure (.move (.tmp 5)))) (some (61, false)),
       .act (some 63) (.op (.pure (.move (.tmp 1)))) (some (61, false)),
       .act (some 64) (.op (.pure (.move (.tmp 9)))) (some (61, false)),
       .act (some 65) (.op (.pure (.idxSl 1 (.tmp 63) (.tmp 64)))) (some (61, false)),
       .act (some 66) (.op (.read (.load1 (.tmp 65)))) (some (61, false)),
       .act (some 67) (.call (.func 13) [(.tmp 62), (.const (.int .i64 2)), (.tmp 66)]) (some (61, false)),
       .act (some 68) (.op (.pure (.move (.tmp 8)))) (some (61, false)),
       .act (some 69) (.op (.pure (.bin .neq (.tmp 67) (.tmp 68)))) (some (61, false)),
       .act (some 70) (.op (.pure (.pick (.tmp 61) (.const (.bool true)) (.tmp 69)))) none])
     (.cond (.tmp 70)
      (.seq (.steps [
        .act (some 4) (.op (.pure (.move (.const (.bool false))))) none])
      .ret)
      .skip))
     (.steps [
       .act (some 71) (.op (.pure (.move (.tmp 7)))) none,
       .act (some 72) (.op (.pure (.move (.tmp 1)))) none,
       .act (some 73) (.op (.pure (.move (.tmp 9)))) none,
       .act (some 74) (.op (.pure (.idxSl 1 (.tmp 72) (.tmp 73)))) none,
       .act (some 75) (.op (.read (.load1 (.tmp 74)))) none,
       .act (some 76) (.op (.pure (.bin .add (.tmp 71) (.tmp 75)))) none,
       .act (some 77) (.op (.pure (.move (.tmp 8)))) none,
       .act (some 78) (.op (.pure (.move (.tmp 1)))) none,
       .act (some 79) (.op (.pure (.move (.tmp 9)))) none,
       .act (some 80) (.op (.pure (.idxSl 1 (.tmp 78) (.tmp 79)))) none,
       .act (some 81) (.op (.read (.load1 (.tmp 80)))) none,
       .act (some 82) (.op (.pure (.bin .or (.tmp 77) (.tmp 81)))) none,
       .act (some 7) (.op (.pure (.move (.tmp 76)))) none,
       .act (some 8) (.op (.pure (.move (.tmp 82)))) none])))
    (.steps [
      .act (some 51) (.op (.pure (.move (.tmp 9)))) none,
      .act (some 52) (.op (.pure (.bin .add (.tmp 51) (.const (.int .i64 1))))) none,
      .act (some 9) (.op (.pure (.move (.tmp 52)))) none]))))))
  (.seq (.steps [
    .act (some 83) (.op (.pure (.move (.tmp 5)))) none,
    .act (some 84) (.call (.func 11) [(.tmp 83), (.const (.int .i64 1))]) none,
    .act (some 85) (.op (.pure (.move (.tmp 7)))) none,
    .act (some 86) (.op (.pure (.bin .eql (.tmp 84) (.tmp 85)))) none,
    .act (some 87) (.op (.pure (.move (.tmp 86)))) none,
    .act (some 88) (.op (.pure (.move (.tmp 5)))) (some (87, true)),
    .act (some 89) (.call (.func 11) [(.tmp 88), (.const (.int .i64 2))]) (some (87, true)),
    .act (some 90) (.op (.pure (.move (.tmp 8)))) (some (87, true)),
    .act (some 91) (.op (.pure (.bin .eql (.tmp 89) (.tmp 90)))) (some (87, true)),
    .act (some 92) (.op (.pure (.pick (.tmp 87) (.tmp 91) (.const (.bool false))))) none,
    .act (some 93) (.op (.pure (.move (.tmp 92)))) none,
    .act (some 94) (.op (.pure (.move (.tmp 5)))) (some (93, true)),
    .act (some 95) (.call (.func 14) [(.tmp 94)]) (some (93, true)),
    .act (some 96) (.op (.pure (.bin .eql (.tmp 95) (.const (.int .i64 (-1)))))) (some (93, true)),
    .act (some 97) (.op (.pure (.pick (.tmp 93) (.tmp 96) (.const (.bool false))))) none,
    .act (some 98) (.op (.pure (.move (.tmp 97)))) none,
    .act (some 99) (.call (.func 15) []) (some (98, true)),
    .act (some 100) (.op (.pure (.pick (.tmp 98) (.tmp 99) (.const (.bool false))))) none,
    .act (some 4) (.op (.pure (.move (.tmp 100)))) none])
  .ret)))))))) }
theorem c3 : compFn Try.prog (mkPlan Try.prog) [(9, [1, 5, 7, 8, 9])] true 3 = some L3 := by kernel_rfl
/-- sluiceway/sluicewaylaw02.MemApart -/
def L4 : LFun := { n := 202, pop := true, res := [.tmp 4], code :=
  (.seq (.steps [
    .act (some 3) (.op (.new (.box (.tmp 1)))) none,
    .act (some 4) (.op (.pure (.move (.const (.bool false))))) none])
  (.seq (.seq (.steps [
    .act (some 14) (.op (.pure (.move (.tmp 0)))) none,
    .act (some 15) (.op (.pure (.len false (.tmp 14)))) none,
    .act (some 16) (.op (.pure (.bin .eql (.tmp 15) (.const (.int .i64 0))))) none,
    .act (some 17) (.op (.pure (.move (.tmp 16)))) none,
    .act (some 18) (.op (.pure (.move (.tmp 0)))) (some (17, false)),
    .act (some 19) (.op (.pure (.len false (.tmp 18)))) (some (17, false)),
    .act (some 20) (.op (.pure (.bin .gtr (.tmp 19) (.const (.int .i64 200))))) (some (17, false)),
    .act (some 21) (.op (.pure (.pick (.tmp 17) (.const (.bool true)) (.tmp 20)))) none])
  (.cond (.tmp 21)
   (.seq (.steps [
     .act (some 22) (.call (.func 15) []) none,
     .act (some 4) (.op (.pure (.move (.tmp 22)))) none])
   .ret)
   .skip))
  (.seq (.steps [
    .act (some 24) (.op (.pure (.move (.tmp 0)))) none,
    .act (some 25) (.op (.pure (.len false (.tmp 24)))) none,
    .act (some 26) (.call (.func 8) [(.tmp 25)]) none,
    .act (some 23) (.op (.pure (.move (.tmp 26)))) none,
    .act (some 27) (.op (.pure (.extract (.tmp 23) 0))) none,
    .act (some 28) (.op (.pure (.extract (.tmp 23) 1))) none,
    .act (some 5) (.op (.pure (.move (.tmp 27)))) none,
    .act (some 6) (.op (.pure (.move (.tmp 28)))) none])
  (.seq (.seq (.steps [
    .act (some 29) (.op (.pure (.move (.tmp 6)))) none,
    .act (some 30) (.op (.pure (.bin .neq (.tmp 29) (.const (.int .i64 0))))) none,
    .act (some 31) (.op (.pure (.move (.tmp 30)))) none,
    .act (some 32) (.op (.pure (.move (.tmp 5)))) (some (31, false)),
    .act (some 33) (.op (.pure (.eqNil .p false (.tmp 32) (.const (.pointer none))))) (some (31, false)),
    .act (some 34) (.op (.pure (.pick (.tmp 31) (.const (.bool true)) (.tmp 33)))) none])
  (.cond (.tmp 34)
   (.seq (.steps [
     .act (some 4) (.op (.pure (.move (.const (.bool false))))) none])
   .ret)
   .skip))
  (.seq (.seq (.steps [
    .act (some 7) (.op (.pure (.move (.const (.int .i64 0))))) none])
  (.block 0 (.loop [0, 3, 5, 7] (.seq (.seq (.steps [
      .act (some 35) (.op (.pure (.move (.tmp 7)))) none,
      .act (some 36) (.op (.pure (.move (.tmp 0)))) none,
      .act (some 37) (.op (.pure (.len false (.tmp 36)))) none,
      .act (some 38) (.op (.pure (.bin .lss (.tmp 35) (.tmp 37)))) none])
    (.cond (.tmp 38)
     .skip
     (.exit 0)))
    (.seq (.block 1 (.steps [
       .act (some 41) (.op (.pure (.move (.tmp 5)))) none,
       .act (some 42) (.op (.pure (.move (.tmp 7)))) none,
       .act (some 43) (.op (.pure (.move (.tmp 0)))) none,
       .act (some 44) (.op (.pure (.move (.tmp 7)))) none,
       .act (some 45) (.op (.pure (.idxSl 1 (.tmp 43) (.tmp 44)))) none,
       .act (some 46) (.op (.read (.load1 (.tmp 45)))) none,
       .act (some 47) (.call (.func 9) [(.tmp 41), (.tmp 42), (.tmp 46)]) none]))
    (.steps [
      .act (some 39) (.op (.pure (.move (.tmp 7)))) none,
      .act (some 40) (.op (.pure (.bin .add (.tmp 39) (.const (.int .i64 1))))) none,
      .act (some 7) (.op (.pure (.move (.tmp 40)))) none]))))))
  (.seq (.steps [
    .act (some 48) (.op (.pure (.move (.tmp 5)))) none,
    .act (some 49) (.call (.func 16) [(.tmp 48)]) none,
    .act (some 8) (.op (.pure (.move (.tmp 49)))) none])
  (.seq (.steps [
    .act (some 50) (.op (.pure (.move (.tmp 5)))) none,
    .act (some 51) (.call (.func 17) [(.tmp 50)]) none,
    .act (some 9) (.op (.pure (.move (.tmp 51)))) none])
  (.seq (.steps [
    .act (some 52) (.op (.pure (.fieldAddr 1 (.tmp 3)))) none,
    .act (some 53) (.op (.read (.load1 (.tmp 52)))) none,
    .act (some 54) (.op (.pure (.move (.tmp 0)))) none,
    .act (some 55) (.op (.pure (.len false (.tmp 54)))) none,
    .act (some 56) (.op (.pure (.bin .rem (.tmp 53) (.tmp 55)))) none,
    .act (some 57) (.op (.pure (.move (.tmp 0)))) none,
    .act (some 58) (.op (.pure (.len false (.tmp 57)))) none,
    .act (some 59) (.op (.pure (.bin .add (.tmp 56) (.tmp 58)))) none,
    .act (some 60) (.op (.pure (.move (.tmp 0)))) none,
    .act (some 61) (.op (.pure (.len false (.tmp 60)))) none,
    .act (some 62) (.op (.pure (.bin .rem (.tmp 59) (.tmp 61)))) none,
    .act (some 10) (.op (.pure (.move (.tmp 62)))) none])
  (.seq (.seq (.steps [
    .act (some 63) (.op (.pure (.fieldAddr 0 (.tmp 3)))) none,
    .act (some 64) (.op (.read (.load1 (.tmp 63)))) none,
    .act (some 65) (.op (.pure (.bin .and (.tmp 64) (.const (.int .i64 7))))) none,
    .act (some 66) (.op (.pure (.bin .rem (.tmp 65) (.const (.int .i64 6))))) none])
  (.block 2 (.seq (.steps [
     .act (some 71) (.op (.pure (.bin .eql (.tmp 66) (.const (.int .i64 1))))) none,
     .act (some 70) (.op (.pure (.move (.tmp 71)))) none])
   (.cond (.tmp 70)
    (.steps [
      .act (some 72) (.op (.pure (.move (.tmp 5)))) none,
      .act (some 73) (.op (.pure (.move (.tmp 10)))) none,
      .act (some 74) (.op (.pure (.fieldAddr 3 (.tmp 3)))) none,
      .act (some 75) (.op (.pure (.idxArr 4 1 (.tmp 74) (.const (.int .i64 0))))) none,
      .act (some 76) (.op (.read (.load1 (.tmp 75)))) none,
      .act (some 77) (.call (.func 9) [(.tmp 72), (.tmp 73), (.tmp 76)]) none])
    (.seq (.steps [
      .act (some 79) (.op (.pure (.bin .eql (.tmp 66) (.const (.int .i64 2))))) none,
      .act (some 78) (.op (.pure (.move (.tmp 79)))) none])
    (.cond (.tmp 78)
     (.steps [
       .act (some 80) (.op (.pure (.move (.tmp 5)))) none,
       .act (some 81) (.op (.pure (.move (.tmp 10)))) none,
       .act (some 82) (.op (.pure (.fieldAddr 3 (.tmp 3)))) none,
       .act (some 83) (.op (.pure (.idxArr 4 1 (.tmp 82) (.const (.int .i64 0))))) none,
       .act (some 84) (.op (.read (.load1 (.tmp 83)))) none,
       .act (some 85) (.op (.pure (.fieldAddr 3 (.tmp 3)))) none,
       .act (some 86) (.op (.pure (.idxArr 4 1 (.tmp 85) (.const (.int .i64 1))))) none,
       .act (some 87) (.op (.read (.load1 (.tmp 86)))) none,
       .act (some 88) (.call (.func 10) [(.tmp 80), (.tmp 81), (.tmp 84), (.tmp 87)]) none])
     (.seq (.steps [
       .act (some 90) (.op (.pure (.bin .eql (.tmp 66) (.const (.int .i64 3))))) none,
       .act (some 89) (.op (.pure (.move (.tmp 90)))) none])
     (.cond (.tmp 89)
      (.steps [
        .act (some 91) (.op (.pure (.move (.tmp 5)))) none,
        .act (some 92) (.op (.pure (.move (.tmp 10)))) none,
        .act (some 93) (.op (.pure (.fieldAddr 3 (.tmp 3)))) none,
        .act (some 94) (.op (.pure (.idxArr 4 1 (.tmp 93) (.const (.int .i64 0))))) none,
        .act (some 95) (.op (.read (.load1 (.tmp 94)))) none,
        .act (some 96) (.call (.func 12) [(.tmp 91), (.tmp 92), (.tmp 95)]) none])
      (.seq (.steps [
        .act (some 98) (.op (.pure (.bin .eql (.tmp 66) (.const (.int .i64 4))))) none,
        .act (some 97) (.op (.pure (.move (.tmp 98)))) none])
      (.cond (.tmp 97)
       (.steps [
         .act (some 99) (.op (.pure (.move (.tmp 5)))) none,
         .act (some 100) (.op (.pure (.move (.tmp 10)))) none,
         .act (some 101) (.op (.pure (.fieldAddr 3 (.tmp 3)))) none,
         .act (some 102) (.op (.pure (.idxArr 4 1 (.tmp 101) (.const (.int .i64 0))))) none,
         .act (some 103) (.op (.read (.load1 (.tmp 102)))) none,
         .act (some 104) (.call (.func 13) [(.tmp 99), (.tmp 100), (.tmp 103)]) none])
       (.seq (.steps [
         .act (some 106) (.op (.pure (.bin .eql (.tmp 66) (.const (.int .i64 5))))) none,
         .act (some 105) (.op (.pure (.move (.tmp 106)))) none])
       (.cond (.tmp 105)
        (.steps [
          .act (some 107) (.op (.pure (.move (.tmp 5)))) none,
          .act (some 108) (.op (.pure (.move (.tmp 10)))) none,
          .act (some 109) (.op (.pure (.fieldAddr 3 (.tmp 3)))) none,
          .act (some 110) (.op (.pure (.idxArr 4 1 (.tmp 109) (.const (.int .i64 0))))) none,
          .act (some 111) (.op (.read (.load1 (.tmp 110)))) none,
          .act (some 112) (.op (.pure (.fieldAddr 3 (.tmp 3)))) none,
          .act (some 113) (.op (.pure (.idxArr 4 1 (.tmp 112) (.const (.int .i64 1))))) none,
          .act (some 114) (.op (.read (.load1 (.tmp 113)))) none,
          .act (some 115) (.op (.pure (.build [(w64 0#64), (w64 0#64)] [(0, 1, (.tmp 111)), (1, 1, (.tmp 114))]))) none,
          .act (some 116) (.op (.pure (.fieldAddr 3 (.tmp 3)))) none,
          .act (some 117) (.op (.pure (.idxArr 4 1 (.tmp 116) (.const (.int .i64 2))))) none,
          .act (some 118) (.op (.read (.load1 (.tmp 117)))) none,
          .act (some 119) (.op (.pure (.fieldAddr 3 (.tmp 3)))) none,
          .act (some 120) (.op (.pure (.idxArr 4 1 (.tmp 119) (.const (.int .i64 3))))) none,
          .act (some 121) (.op (.read (.load1 (.tmp 120)))) none,
          .act (some 122) (.op (.pure (.build [(w64 0#64), (w64 0#64)] [(0, 1, (.tmp 118)), (1, 1, (.tmp 121))]))) none,
          .act (some 123) (.call (.func 18) [(.tmp 107), (.tmp 108), (.tmp 115), (.tmp 122)]) none])
        (.steps [
          .act (some 67) (.op (.pure (.move (.tmp 5)))) none,
          .act (some 68) (.op (.pure (.move (.tmp 10)))) none,
          .act (some 69) (.call (.func 11) [(.tmp 67), (.tmp 68)]) none])))))))))))))
  (.seq (.steps [
    .act (some 124) (.op (.pure (.move (.tmp 5)))) none,
    .act (some 125) (.op (.pure (.move (.tmp 0)))) none,
    .act (some 126) (.op (.pure (.len false (.tmp 125)))) none,
    .act (some 127) (.call (.func 19) [(.tmp 124), (.const (.int .i64 0)), (.tmp 126)]) none,
    .act (some 128) (.op (.pure (.move (.tmp 8)))) none,
    .act (some 129) (.op (.pure (.move (.tmp 0)))) none,
    .act (some 130) (.op (.pure (.len false (.tmp 129)))) none,
    .act (some 131) (.call (.func 19) [(.tmp 128), (.const (.int .i64 0)), (.tmp 130)]) none,
    .act (some 11) (.op (.pure (.move (.tmp 127)))) none,
    .act (some 12) (.op (.pure (.move (.tmp 131)))) none])
  (.seq (.seq (.steps [
    .act (some 132) (.op (.pure (.move (.tmp 11)))) none,
    .act (some 133) (.op (.pure (.len false (.tmp 132)))) none,
    .act (some 134) (.op (.pure (.move (.tmp 0)))) none,
    .act (some 135) (.op (.pure (.len false (.tmp 134)))) none,
    .act (some 136) (.op (.pure (.bin .neq (.tmp 133) (.tmp 135)))) none,
    .act (some 137) (.op (.pure (.move (.tmp 136)))) none,
    .act (some 138) (.op (.pure (.move (.tmp 12)))) (some (137, false)),
    .act (some 139) (.op (.pure (.len false (.tmp 138)))) (some (137, false)),
    .act (some 140) (.op (.pure (.move (.tmp 0)))) (some (137, false)),
    .act (some 141) (.op (.pure (.len false (.tmp 140)))) (some (137, false)),
    .act (some 142) (.op (.pure (.bin .neq (.tmp 139) (.tmp 141)))) (some (137, false)),
    .act (some 143) (.op (.pure (.pick (.tmp 137) (.const (.bool true)) (.tmp 142)))) none,
    .act (some 144) (.op (.pure (.move (.tmp 143)))) none,
    .act (some 145) (.op (.pure (.move (.tmp 5)))) (some (144, false)),
    .act (some 146) (.call (.func 17) [(.tmp 145)]) (some (144, false)),
    .act (some 147) (.op (.pure (.move (.tmp 9)))) (some (144, false)),
    .act (some 148) (.op (.pure (.bin .add (.tmp 147) (.const (.int .i64 1))))) (some (144, false)),
    .act (some 149) (.op (.pure (.bin .neq (.tmp 146) (.tmp 148)))) (some (144, false)),
    .act (some 150) (.op (.pure (.pick (.tmp 144) (.const (.bool true)) (.tmp 149)))) none,
    .act (some 151) (.op (.pure (.move (.tmp 150)))) none,
    .act (some 152) (.op (.pure (.move (.tmp 8)))) (some (151, false)),
    .act (some 153) (.call (.func 17) [(.tmp 152)]) (some (151, false)),
    .act (some 154) (.op (.pure (.move (.tmp 9)))) (some (151, false)),
    .act (some 155) (.op (.pure (.bin .neq (.tmp 153) (.tmp 154)))) (some (151, false)),
    .act (some 156) (.op (.pure (.pick (.tmp 151) (.const (.bool true)) (.tmp 155)))) none])
  (.cond (.tmp 156)
   (.seq (.steps [
     .act (some 4) (.op (.pure (.move (.const (.bool false))))) none])
   .ret)
   .skip))
  (.seq (.seq (.steps [
    .act (some 13) (.op (.pure (.move (.const (.int .i64 0))))) none])
  (.block 3 (.loop [0, 3, 10, 11, 12, 13] (.seq (.seq (.steps [
      .act (some 157) (.op (.pure (.move (.tmp 13)))) none,
      .act (some 158) (.op (.pure (.move (.tmp 0)))) none,
      .act (some 159) (.op (.pure (.len false (.tmp 158)))) none,
      .act (some 160) (.op (.pure (.bin .lss (.tmp 157) (.tmp 159)))) none])
    (.cond (.tmp 160)
     .skip
     (.exit 3)))
    (.seq (.block 4 (.seq (.steps [
       .act (some 163) (.op (.pure (.move (.tmp 12)))) none,
       .act (some 164) (.op (.pure (.move (.tmp 13)))) none,
       .act (some 165) (.op (.pure (.idxSl 1 (.tmp 163) (.tmp 164)))) none,
       .act (some 166) (.op (.read (.load1 (.tmp 165)))) none,
       .act (some 167) (.op (.pure (.move (.tmp 0)))) none,
       .act (some 168) (.op (.pure (.move (.tmp 13)))) none,
       .act (some 169) (.op (.pure (.idxSl 1 (.tmp 167) (.tmp 168)))) none,
       .act (some 170) (.op (.read (.load1 (.tmp 169)))) none,
       .act (some 171) (.op (.pure (.bin .neq (.tmp 166) (.tmp 170)))) none,
       .act (some 172) (.op (.pure (.move (.tmp 171)))) none,
       .act (some 173) (.op (.pure (.move (.tmp 13)))) (some (172, false)),
       .act (some 174) (.op (.pure (.move (.tmp 10)))) (some (172, false)),
       .act (some 175) (.op (.pure (.bin .neq (.tmp 173) (.tmp 174)))) (some (172, false)),
       .act (some 176) (.op (.pure (.move (.tmp 175)))) (some (172, false)),
       .act (some 177) (.op (.pure (.move (.tmp 13)))) (some (176, true)),
       .act (some 178) (.op (.pure (.move (.tmp 10)))) (some (176, true)),
       .act (some 179) (.op (.pure (.bin .add (.tmp 178) (.const (.int .i64 1))))) (some (176, true)),
       .act (some 180) (.op (.pure (.bin .neq (.tmp 177) (.tmp 179)))) (some (176, true)),
       .act (some 181) (.op (.pure (.move (.tmp 180)))) (some (176, true)),
       .act (some 182) (.op (.pure (.fieldAddr 0 (.tmp 3)))) (some (181, false)),
       .act (some 183) (.op (.read (.load1 (.tmp 182)))) (some (181, false)),
       .act (some 184) (.op (.pure (.bin .and (.tmp 183) (.const (.int .i64 7))))) (some (181, false)),
       .act (some 185) (.op (.pure (.bin .rem (.tmp 184) (.const (.int .i64 6))))) (some (181, false)),
       .act (some 186) (.op (.pure (.bin .neq (.tmp 185) (.const (.int .i64 5))))) (some (181, false)),
       .act (some 187) (.op (.pure (.pick (.tmp 181) (.const (.bool true)) (.tmp 186)))) (some (176, true)),
       .act (some 188) (.op (.pure (.pick (.tmp 176) (.tmp 187) (.const (.bool false))))) (some (172, false)),
       .act (some 189) (.op (.pure (.move (.tmp 188)))) (some (172, false)),
       .act (some 190) (.op (.pure (.move (.tmp 11)))) (some (189, true)),
       .act (some 191) (.op (.pure (.move (.tmp 13)))) (some (189, true)),
       .act (some 192) (.op (.pure (.idxSl 1 (.tmp 190) (.tmp 191)))) (some (189, true)),
       .act (some 193) (.op (.read (.load1 (.tmp 192)))) (some (189, true)),
       .act (some 194) (.op (.pure (.move (.tmp 0)))) (some (189, true)),
       .act (some 195) (.op (.pure (.move (.tmp 13)))) (some (189, true)),
       .act (some 196) (.op (.pure (.idxSl 1 (.tmp 194) (.tmp 195)))) (some (189, true)),
       .act (some 197) (.op (.read (.load1 (.tmp 196)))) (some (189, true)),
       .act (some 198) (.op (.pure (.bin .neq (.tmp 193) (.tmp 197)))) (some (189, true)),
       .act (some 199) (.op (.pure (.pick (.tmp 189) (.tmp 198) (.const (.bool false))))) (some (172, false)),
       .act (some 200) (.op (.pure (.pick (.tmp 172) (.const (.bool true)) (.tmp 199)))) none])
     (.cond (.tmp 200)
      (.seq (.steps [
        .act (some 4) (.op (.pure (.move (.const (.bool false))))) none])
      .ret)
      .skip)))
    (.steps [
      .act (some 161) (.op (.pure (.move (.tmp 13)))) none,
      .act (some 162) (.op (.pure (.bin .add (.tmp 161) (.const (.int .i64 1))))) none,
      .act (some 13) (.op (.pure (.move (.tmp 162)))) none]))))))
  (.seq (.steps [
    .act (some 201) (.call (.func 15) []) none,
    .act (some 4) (.op (.pure (.move (.tmp 201)))) none])
  .ret))))))))))))) }
theorem c4 : compFn Try.prog (mkPlan Try.prog) [(7, [0, 3, 5, 7]), (29, [0, 3, 10, 11, 12, 13])] true 4 = some L4 := by kernel_rfl
/-- sluiceway/sluicewaylaw02.MemPlays -/
def L5 : LFun := { n := 172, pop := true, res := [.tmp 4], code :=
  (.seq (.steps [
    .act (some 4) (.op (.pure (.move (.const (.bool false))))) none])
  (.seq (.steps [
    .act (some 17) (.op (.pure (.move (.tmp 0)))) none,
    .act (some 18) (.call (.func 8) [(.tmp 17)]) none,
    .act (some 16) (.op (.pure (.move (.tmp 18)))) none,
    .act (some 19) (.op (.pure (.extract (.tmp 16) 0))) none,
    .act (some 20) (.op (.pure (.extract (.tmp 16) 1))) none,
    .act (some 5) (.op (.pure (.move (.tmp 19)))) none,
    .act (some 6) (.op (.pure (.move (.tmp 20)))) none])
  (.seq (.steps [
    .act (some 22) (.op (.pure (.move (.tmp 0)))) none,
    .act (some 23) (.call (.func 20) [(.tmp 22)]) none,
    .act (some 21) (.op (.pure (.move (.tmp 23)))) none,
    .act (some 24) (.op (.pure (.extract (.tmp 21) 0))) none,
    .act (some 25) (.op (.pure (.extract (.tmp 21) 1))) none,
    .act (some 7) (.op (.new (.alloc [(.slice none 0 0), (.slice none 0 0), (.int .i64 0), (.int .i64 0), (.int .i64 0), (.int .i64 0), (.int .i64 0), (.int .i64 0), (.int .i64 0), (.bool false)]))) none,
    .act none (.op (.eff (.store 10 (.tmp 7) (.tmp 24)))) none,
    .act (some 8) (.op (.pure (.move (.tmp 25)))) none])
  (.seq (.seq (.steps [
    .act (some 26) (.op (.pure (.move (.tmp 6)))) none,
    .act (some 27) (.op (.pure (.move (.tmp 8)))) none,
    .act (some 28) (.op (.pure (.bin .neq (.tmp 26) (.tmp 27)))) none])
  (.cond (.tmp 28)
   (.seq (.steps [
     .act (some 4) (.op (.pure (.move (.const (.bool false))))) none])
   .ret)
   .skip))
  (.seq (.seq (.steps [
    .act (some 29) (.op (.pure (.move (.tmp 8)))) none,
    .act (some 30) (.op (.pure (.bin .neq (.tmp 29) (.const (.int .i64 0))))) none])
  (.cond (.tmp 30)
   (.seq (.steps [
     .act (some 31) (.op (.pure (.move (.tmp 5)))) none,
     .act (some 32) (.op (.pure (.eqNil .p false (.tmp 31) (.const (.pointer none))))) none,
     .act (some 33) (.op (.pure (.move (.tmp 32)))) none,
     .act (some 34) (.call (.func 15) []) (some (33, true)),
     .act (some 35) (.op (.pure (.pick (.tmp 33) (.tmp 34) (.const (.bool false))))) none,
     .act (some 4) (.op (.pure (.move (.tmp 35)))) none])
   .ret)
   .skip))
  (.seq (.seq (.steps [
    .act (some 36) (.op (.pure (.move (.tmp 0)))) none,
    .act (some 37) (.op (.pure (.bin .gtr (.tmp 36) (.const (.int .i64 4096))))) none])
  (.cond (.tmp 37)
   (.seq (.steps [
     .act (some 38) (.op (.pure (.move (.tmp 5)))) none,
     .act (some 39) (.call (.func 21) [(.tmp 38)]) none,
     .act (some 40) (.op (.pure (.move (.tmp 0)))) none,
     .act (some 41) (.op (.pure (.bin .eql (.tmp 39) (.tmp 40)))) none,
     .act (some 42) (.op (.pure (.move (.tmp 41)))) none,
     .act (some 43) (.call (.func 15) []) (some (42, true)),
     .act (some 44) (.op (.pure (.pick (.tmp 42) (.tmp 43) (.const (.bool false))))) none,
     .act (some 4) (.op (.pure (.move (.tmp 44)))) none])
   .ret)
   .skip))
  (.seq (.seq (.steps [
    .act (some 9) (.op (.pure (.move (.const (.int .i64 0))))) none])
  (.block 0 (.loop [0, 1, 5, 7, 9] (.seq (.seq (.steps [
      .act (some 45) (.op (.pure (.move (.tmp 9)))) none,
      .act (some 46) (.op (.pure (.move (.tmp 1)))) none,
      .act (some 47) (.op (.pure (.len false (.tmp 46)))) none,
      .act (some 48) (.op (.pure (.bin .lss (.tmp 45) (.tmp 47)))) none,
      .act (some 49) (.op (.pure (.move (.tmp 48)))) none,
      .act (some 50) (.op (.pure (.move (.tmp 9)))) (some (49, true)),
      .act (some 51) (.op (.pure (.bin .lss (.tmp 50) (.const (.int .i64 60))))) (some (49, true)),
      .act (some 52) (.op (.pure (.pick (.tmp 49) (.tmp 51) (.const (.bool false))))) none])
    (.cond (.tmp 52)
     .skip
     (.exit 0)))
    (.seq (.block 1 (.seq (.steps [
       .act (some 56) (.op (.pure (.move (.tmp 5)))) none,
       .act (some 57) (.op (.read (.loadN 10 (.tmp 7)))) none,
       .act (some 58) (.op (.pure (.move (.tmp 1)))) none,
       .act (some 59) (.op (.pure (.move (.tmp 9)))) none,
       .act (some 60) (.op (.pure (.idxSl 7 (.tmp 58) (.tmp 59)))) none,
       .act (some 61) (.op (.read (.loadN 7 (.tmp 60)))) none,
       .act (some 10) (.op (.new (.alloc [(.slice none 0 0), (.slice none 0 0), (.int .i64 0), (.int .i64 0), (.int .i64 0), (.int .i64 0), (.int .i64 0), (.int .i64 0), (.int .i64 0), (.bool false)]))) none,
       .act (some 62) (.call (.func 22) [(.tmp 56), (.tmp 57), (.tmp 61)]) none,
       .act (some 55) (.op (.pure (.move (.tmp 62)))) none,
       .act (some 63) (.op (.pure (.extract (.tmp 55) 0))) none,
       .act (some 64) (.op (.pure (.extract (.tmp 55) 1))) none,
       .act none (.op (.eff (.store 10 (.tmp 10) (.tmp 63)))) none,
       .act (some 11) (.op (.pure (.move (.tmp 64)))) none])
     (.seq (.seq (.steps [
       .act (some 65) (.op (.pure (.move (.tmp 11)))) none,
       .act (some 66) (.op (.pure (.not (.tmp 65)))) none])
     (.cond (.tmp 66)
      (.seq (.steps [
        .act (some 4) (.op (.pure (.move (.const (.bool false))))) none])
      .ret)
      .skip))
     (.seq (.steps [
       .act (some 67) (.op (.read (.loadN 10 (.tmp 10)))) none,
       .act none (.op (.eff (.store 10 (.tmp 7) (.tmp 67)))) none])
     (.seq (.steps [
       .act (some 68) (.op (.pure (.move (.tmp 5)))) none,
       .act (some 70) (.op (.pure (.fieldAddr 8 (.tmp 7)))) none,
       .act (some 71) (.op (.read (.load1 (.tmp 70)))) none,
       .act (some 69) (.call (.func 14) [(.tmp 68)]) none,
       .act (some 72) (.op (.pure (.bin .neq (.tmp 69) (.tmp 71)))) none,
       .act (some 73) (.op (.pure (.move (.tmp 72)))) none,
       .act (some 74) (.op (.pure (.move (.tmp 5)))) (some (73, false)),
       .act (some 75) (.op (.pure (.move (.tmp 1)))) (some (73, false)),
       .act (some 76) (.op (.pure (.move (.tmp 9)))) (some (73, false)),
       .act (some 77) (.op (.pure (.idxSl 7 (.tmp 75) (.tmp 76)))) (some (73, false)),
       .act (some 78) (.op (.pure (.fieldAddr 1 (.tmp 77)))) (some (73, false)),
       .act (some 79) (.op (.read (.load1 (.tmp 78)))) (some (73, false)),
       .act (some 81) (.op (.pure (.move (.tmp 1)))) (some (73, false)),
       .act (some 82) (.op (.pure (.move (.tmp 9)))) (some (73, false)),
       .act (some 83) (.op (.pure (.idxSl 7 (.tmp 81) (.tmp 82)))) (some (73, false)),
       .act (some 84) (.op (.pure (.fieldAddr 1 (.tmp 83)))) (some (73, false)),
       .act (some 85) (.op (.read (.load1 (.tmp 84)))) (some (73, false)),
       .act (some 86) (.op (.pure (.bin .lss (.tmp 85) (.const (.int .i64 0))))) (some (73, false)),
       .again 71 (.load1 (.tmp 70)) none,
       .act (some 80) (.call (.func 23) [(.tmp 74), (.tmp 79)]) (some (73, false)),
       .act (some 87) (.op (.pure (.move (.tmp 86)))) (some (73, false)),
       .act (some 88) (.op (.pure (.move (.tmp 1)))) (some (87, false)),
       .act (some 89) (.op (.pure (.move (.tmp 9)))) (some (87, false)),
       .act (some 90) (.op (.pure (.idxSl 7 (.tmp 88) (.tmp 89)))) (some (87, false)),
       .act (some 91) (.op (.pure (.fieldAddr 1 (.tmp 90)))) (some (87, false)),
       .act (some 92) (.op (.read (.load1 (.tmp 91)))) (some (87, false)),
       .act (some 93) (.op (.pure (.move (.tmp 0)))) (some (87, false)),
       .act (some 94) (.op (.pure (.bin .geq (.tmp 92) (.tmp 93)))) (some (87, false)),
       .act (some 95) (.op (.pure (.pick (.tmp 87) (.const (.bool true)) (.tmp 94)))) (some (73, false)),
       .act (some 96) (.op (.pure (.move (.tmp 95)))) (some (73, false)),
       .act (some 97) (.op (.pure (.fieldAddr 1 (.tmp 7)))) (some (96, false)),
       .act (some 98) (.op (.read (.load1 (.tmp 97)))) (some (96, false)),
       .act (some 99) (.op (.pure (.move (.tmp 1)))) (some (96, false)),
       .act (some 100) (.op (.pure (.move (.tmp 9)))) (some (96, false)),
       .act (some 101) (.op (.pure (.idxSl 7 (.tmp 99) (.tmp 100)))) (some (96, false)),
       .act (some 102) (.op (.pure (.fieldAddr 1 (.tmp 101)))) (some (96, false)),
       .act (some 103) (.op (.read (.load1 (.tmp 102)))) (some (96, false)),
       .act (some 104) (.op (.pure (.idxSl 1 (.tmp 98) (.tmp 103)))) (some (96, false)),
       .act (some 105) (.op (.read (.load1 (.tmp 104)))) (some (96, false)),
       .act (some 106) (.op (.pure (.pick (.tmp 96) (.const (.bool true)) (.tmp 105)))) (some (73, false)),
       .act (some 107) (.op (.pure (.eqB true (.tmp 80) (.tmp 106)))) (some (73, false)),
       .act (some 108) (.op (.pure (.pick (.tmp 73) (.const (.bool true)) (.tmp 107)))) none,
       .again 85 (.load1 (.tmp 84)) (some (73, false))])
     (.cond (.tmp 108)
      (.seq (.steps [
        .act (some 4) (.op (.pure (.move (.const (.bool false))))) none])
      .ret)
      .skip))))))
    (.steps [
      .act (some 53) (.op (.pure (.move (.tmp 9)))) none,
      .act (some 54) (.op (.pure (.bin .add (.tmp 53) (.const (.int .i64 1))))) none,
      .act (some 9) (.op (.pure (.move (.tmp 54)))) none]))))))
  (.seq (.steps [
    .act (some 109) (.op (.pure (.move (.tmp 5)))) none,
    .act (some 110) (.op (.pure (.move (.tmp 0)))) none,
    .act (some 111) (.call (.func 19) [(.tmp 109), (.const (.int .i64 0)), (.tmp 110)]) none,
    .act (some 12) (.op (.pure (.move (.tmp 111)))) none])
  (.seq (.seq (.steps [
    .act (some 112) (.op (.pure (.move (.tmp 12)))) none,
    .act (some 113) (.op (.pure (.len false (.tmp 112)))) none,
    .act (some 114) (.op (.pure (.move (.tmp 0)))) none,
    .act (some 115) (.op (.pure (.bin .neq (.tmp 113) (.tmp 114)))) none,
    .act (some 116) (.op (.pure (.move (.tmp 115)))) none,
    .act (some 117) (.op (.pure (.move (.tmp 5)))) (some (116, false)),
    .act (some 118) (.call (.func 21) [(.tmp 117)]) (some (116, false)),
    .act (some 119) (.op (.pure (.move (.tmp 0)))) (some (116, false)),
    .act (some 120) (.op (.pure (.bin .neq (.tmp 118) (.tmp 119)))) (some (116, false)),
    .act (some 121) (.op (.pure (.pick (.tmp 116) (.const (.bool true)) (.tmp 120)))) none])
  (.cond (.tmp 121)
   (.seq (.steps [
     .act (some 4) (.op (.pure (.move (.const (.bool false))))) none])
   .ret)
   .skip))
  (.seq (.seq (.steps [
    .act (some 13) (.op (.pure (.move (.const (.int .i64 0))))) none])
  (.block 2 (.loop [0, 5, 7, 12, 13] (.seq (.seq (.steps [
      .act (some 122) (.op (.pure (.move (.tmp 13)))) none,
      .act (some 123) (.op (.pure (.move (.tmp 0)))) none,
      .act (some 124) (.op (.pure (.bin .lss (.tmp 122) (.tmp 123)))) none])
    (.cond (.tmp 124)
     .skip
     (.exit 2)))
    (.seq (.block 3 (.seq (.steps [
       .act (some 127) (.op (.pure (.move (.tmp 12)))) none,
       .act (some 128) (.op (.pure (.move (.tmp 13)))) none,
       .act (some 129) (.op (.pure (.idxSl 1 (.tmp 127) (.tmp 128)))) none,
       .act (some 130) (.op (.read (.load1 (.tmp 129)))) none,
       .act (some 131) (.op (.pure (.fieldAddr 0 (.tmp 7)))) none,
       .act (some 132) (.op (.read (.load1 (.tmp 131)))) none,
       .act (some 133) (.op (.pure (.move (.tmp 13)))) none,
       .act (some 134) (.op (.pure (.idxSl 1 (.tmp 132) (.tmp 133)))) none,
       .act (some 135) (.op (.read (.load1 (.tmp 134)))) none,
       .act (some 136) (.op (.pure (.bin .neq (.tmp 130) (.tmp 135)))) none])
     (.cond (.tmp 136)
      (.seq (.steps [
        .act (some 4) (.op (.pure (.move (.const (.bool false))))) none])
      .ret)
      .skip)))
    (.steps [
      .act (some 125) (.op (.pure (.move (.tmp 13)))) none,
      .act (some 126) (.op (.pure (.bin .add (.tmp 125) (.const (.int .i64 1))))) none,
      .act (some 13) (.op (.pure (.move (.tmp 126)))) none]))))))
  (.seq (.steps [
    .act (some 14) (.op (.pure (.move (.const (.int .i64 0))))) none])
  (.seq (.seq (.steps [
    .act (some 15) (.op (.pure (.move (.const (.int .i64 0))))) none])
  (.block 4 (.loop [5, 7, 14, 15] (.seq (.seq (.steps [
      .act (some 137) (.op (.pure (.move (.tmp 15)))) none,
      .act (some 138) (.op (.pure (.bin .lss (.tmp 137) (.const (.int .i64 6))))) none])
    (.cond (.tmp 138)
     .skip
     (.exit 4)))
    (.seq (.block 5 (.seq (.steps [
       .act (some 141) (.op (.pure (.move (.tmp 14)))) none,
       .act (some 142) (.op (.pure (.move (.tmp 15)))) none,
       .act (some 143) (.op (.pure (.fieldAddr 2 (.tmp 7)))) none,
       .act (some 144) (.op (.pure (.idxArr 6 1 (.tmp 143) (.tmp 142)))) none,
       .act (some 145) (.op (.read (.load1 (.tmp 144)))) none,
       .act (some 146) (.op (.pure (.bin .add (.tmp 141) (.tmp 145)))) none,
       .act (some 14) (.op (.pure (.move (.tmp 146)))) none])
     (.seq (.steps [
       .act (some 147) (.op (.pure (.move (.tmp 5)))) none,
       .act (some 148) (.op (.pure (.move (.tmp 15)))) none,
       .act (some 150) (.op (.pure (.move (.tmp 15)))) none,
       .act (some 151) (.op (.pure (.fieldAddr 2 (.tmp 7)))) none,
       .act (some 152) (.op (.pure (.idxArr 6 1 (.tmp 151) (.tmp 150)))) none,
       .act (some 153) (.op (.read (.load1 (.tmp 152)))) none,
       .act (some 149) (.call (.func 24) [(.tmp 147), (.tmp 148)]) none,
       .act (some 154) (.op (.pure (.bin .neq (.tmp 149) (.tmp 153)))) none,
       .again 153 (.load1 (.tmp 152)) none])
     (.cond (.tmp 154)
      (.seq (.steps [
        .act (some 4) (.op (.pure (.move (.const (.bool false))))) none])
      .ret)
      .skip))))
    (.steps [
      .act (some 139) (.op (.pure (.move (.tmp 15)))) none,
      .act (some 140) (.op (.pure (.bin .add (.tmp 139) (.const (.int .i64 1))))) none,
      .act (some 15) (.op (.pure (.move (.tmp 140)))) none]))))))
  (.seq (.steps [
    .act (some 155) (.op (.pure (.move (.tmp 5)))) none,
    .act (some 156) (.call (.func 17) [(.tmp 155)]) none,
    .act (some 157) (.op (.pure (.move (.tmp 14)))) none,
    .act (some 158) (.op (.pure (.bin .eql (.tmp 156) (.tmp 157)))) none,
    .act (some 159) (.op (.pure (.move (.tmp 158)))) none,
    .act (some 160) (.op (.pure (.move (.tmp 5)))) (some (159, true)),
    .act (some 161) (.call (.func 24) [(.tmp 160), (.const (.int .i64 6))]) (some (159, true)),
    .act (some 162) (.op (.pure (.bin .eql (.tmp 161) (.const (.int .i64 0))))) (some (159, true)),
    .act (some 163) (.op (.pure (.pick (.tmp 159) (.tmp 162) (.const (.bool false))))) none,
    .act (some 164) (.op (.pure (.move (.tmp 163)))) none,
    .act (some 165) (.op (.pure (.move (.tmp 5)))) (some (164, true)),
    .act (some 166) (.call (.func 24) [(.tmp 165), (.const (.int .i64 (-1)))]) (some (164, true)),
    .act (some 167) (.op (.pure (.bin .eql (.tmp 166) (.const (.int .i64 0))))) (some (164, true)),
    .act (some 168) (.op (.pure (.pick (.tmp 164) (.tmp 167) (.const (.bool false))))) none,
    .act (some 169) (.op (.pure (.move (.tmp 168)))) none,
    .act (some 170) (.call (.func 15) []) (some (169, true)),
    .act (some 171) (.op (.pure (.pick (.tmp 169) (.tmp 170) (.const (.bool false))))) none,
    .act (some 4) (.op (.pure (.move (.tmp 171)))) none])
  .ret))))))))))))) }
theorem c5 : compFn Try.prog (mkPlan Try.prog) [(10, [0, 1, 5, 7, 9]), (22, [0, 5, 7, 12, 13]), (28, [5, 7, 14, 15])] true 5 = some L5 := by kernel_rfl
/-- sluiceway/sluicewaylaw02.MemBars -/
def L6 : LFun := { n := 161, pop := true, res := [.tmp 4], code :=
  (.seq (.steps [
    .act (some 4) (.op (.pure (.move (.const (.bool false))))) none])
  (.seq (.steps [
    .act (some 12) (.call (.func 8) [(.const (.int .i64 8))]) none,
    .act (some 11) (.op (.pure (.move (.tmp 12)))) none,
    .act (some 13) (.op (.pure (.extract (.tmp 11) 0))) none,
    .act (some 14) (.op (.pure (.extract (.tmp 11) 1))) none,
    .act (some 5) (.op (.pure (.move (.tmp 13)))) none,
    .act (some 6) (.op (.pure (.move (.tmp 14)))) none])
  (.seq (.seq (.steps [
    .act (some 15) (.op (.pure (.move (.tmp 6)))) none,
    .act (some 16) (.op (.pure (.bin .neq (.tmp 15) (.const (.int .i64 0))))) none,
    .act (some 17) (.op (.pure (.move (.tmp 16)))) none,
    .act (some 18) (.op (.pure (.move (.tmp 5)))) (some (17, false)),
    .act (some 19) (.op (.pure (.eqNil .p false (.tmp 18) (.const (.pointer none))))) (some (17, false)),
    .act (some 20) (.op (.pure (.pick (.tmp 17) (.const (.bool true)) (.tmp 19)))) none])
  (.cond (.tmp 20)
   (.seq (.steps [
     .act (some 4) (.op (.pure (.move (.const (.bool false))))) none])
   .ret)
   .skip))
  (.seq (.steps [
    .act (some 21) (.op (.pure (.move (.tmp 1)))) none,
    .act (some 22) (.op (.pure (.bin .and (.tmp 21) (.const (.int .i64 3))))) none,
    .act (some 1) (.op (.pure (.move (.tmp 22)))) none])
  (.seq (.steps [
    .act (some 23) (.op (.pure (.move (.tmp 5)))) none,
    .act (some 24) (.op (.pure (.move (.tmp 1)))) none,
    .act (some 25) (.call (.func 9) [(.tmp 23), (.tmp 24), (.const (w64 7#64))]) none])
  (.seq (.seq (.steps [
    .act (some 26) (.op (.pure (.move (.tmp 5)))) none,
    .act (some 27) (.op (.pure (.move (.tmp 1)))) none,
    .act (some 28) (.call (.func 25) [(.tmp 26), (.tmp 27), (.const (.int .i64 2))]) none,
    .act (some 29) (.op (.pure (.bin .neq (.tmp 28) (.const (.int .i64 0))))) none])
  (.cond (.tmp 29)
   (.seq (.steps [
     .act (some 4) (.op (.pure (.move (.const (.bool false))))) none])
   .ret)
   .skip))
  (.seq (.steps [
    .act (some 7) (.op (.pure (.move (.const (.int .i64 (-1)))))) none])
  (.seq (.seq (.steps [
    .act (some 8) (.op (.pure (.move (.const (.int .i64 0))))) none])
  (.block 0 (.loop [0, 1, 5, 7, 8] (.seq (.seq (.steps [
      .act (some 30) (.op (.pure (.move (.tmp 8)))) none,
      .act (some 31) (.op (.pure (.move (.tmp 0)))) none,
      .act (some 32) (.op (.pure (.len false (.tmp 31)))) none,
      .act (some 33) (.op (.pure (.bin .lss (.tmp 30) (.tmp 32)))) none,
      .act (some 34) (.op (.pure (.move (.tmp 33)))) none,
      .act (some 35) (.op (.pure (.move (.tmp 8)))) (some (34, true)),
      .act (some 36) (.op (.pure (.bin .lss (.tmp 35) (.const (.int .i64 40))))) (some (34, true)),
      .act (some 37) (.op (.pure (.pick (.tmp 34) (.tmp 36) (.const (.bool false))))) none])
    (.cond (.tmp 37)
     .skip
     (.exit 0)))
    (.seq (.block 1 (.seq (.steps [
       .act (some 40) (.op (.pure (.move (.tmp 0)))) none,
       .act (some 41) (.op (.pure (.move (.tmp 8)))) none,
       .act (some 42) (.op (.pure (.idxSl 7 (.tmp 40) (.tmp 41)))) none,
       .act (some 43) (.op (.pure (.fieldAddr 1 (.tmp 42)))) none,
       .act (some 44) (.op (.read (.load1 (.tmp 43)))) none,
       .act (some 45) (.op (.pure (.bin .and (.tmp 44) (.const (.int .i64 7))))) none,
       .act (some 9) (.op (.pure (.move (.tmp 45)))) none])
     (.seq (.seq (.steps [
       .act (some 46) (.op (.pure (.move (.tmp 0)))) none,
       .act (some 47) (.op (.pure (.move (.tmp 8)))) none,
       .act (some 48) (.op (.pure (.idxSl 7 (.tmp 46) (.tmp 47)))) none,
       .act (some 49) (.op (.pure (.fieldAddr 0 (.tmp 48)))) none,
       .act (some 50) (.op (.read (.load1 (.tmp 49)))) none,
       .act (some 51) (.op (.pure (.bin .and (.tmp 50) (.const (.int .i64 7))))) none,
       .act (some 52) (.op (.pure (.bin .rem (.tmp 51) (.const (.int .i64 5))))) none])
     (.block 2 (.seq (.steps [
        .act (some 63) (.op (.pure (.bin .eql (.tmp 52) (.const (.int .i64 0))))) none,
        .act (some 62) (.op (.pure (.move (.tmp 63)))) none])
      (.cond (.tmp 62)
       (.steps [
         .act (some 64) (.op (.pure (.move (.tmp 5)))) none,
         .act (some 65) (.op (.pure (.move (.tmp 9)))) none,
         .act (some 66) (.call (.func 11) [(.tmp 64), (.tmp 65)]) none])
       (.seq (.steps [
         .act (some 68) (.op (.pure (.bin .eql (.tmp 52) (.const (.int .i64 1))))) none,
         .act (some 67) (.op (.pure (.move (.tmp 68)))) none])
       (.cond (.tmp 67)
        (.steps [
          .act (some 69) (.op (.pure (.move (.tmp 5)))) none,
          .act (some 70) (.op (.pure (.move (.tmp 9)))) none,
          .act (some 71) (.op (.pure (.move (.tmp 0)))) none,
          .act (some 72) (.op (.pure (.move (.tmp 8)))) none,
          .act (some 73) (.op (.pure (.idxSl 7 (.tmp 71) (.tmp 72)))) none,
          .act (some 74) (.op (.pure (.fieldAddr 3 (.tmp 73)))) none,
          .act (some 75) (.op (.pure (.idxArr 4 1 (.tmp 74) (.const (.int .i64 0))))) none,
          .act (some 76) (.op (.read (.load1 (.tmp 75)))) none,
          .act (some 77) (.call (.func 9) [(.tmp 69), (.tmp 70), (.tmp 76)]) none])
        (.seq (.steps [
          .act (some 79) (.op (.pure (.bin .eql (.tmp 52) (.const (.int .i64 2))))) none,
          .act (some 78) (.op (.pure (.move (.tmp 79)))) none])
        (.cond (.tmp 78)
         (.steps [
           .act (some 80) (.op (.pure (.move (.tmp 5)))) none,
           .act (some 81) (.op (.pure (.move (.tmp 9)))) none,
           .act (some 82) (.op (.pure (.move (.tmp 0)))) none,
           .act (some 83) (.op (.pure (.move (.tmp 8)))) none,
           .act (some 84) (.op (.pure (.idxSl 7 (.tmp 82) (.tmp 83)))) none,
           .act (some 85) (.op (.pure (.fieldAddr 3 (.tmp 84)))) none,
           .act (some 86) (.op (.pure (.idxArr 4 1 (.tmp 85) (.const (.int .i64 0))))) none,
           .act (some 87) (.op (.read (.load1 (.tmp 86)))) none,
           .act (some 88) (.op (.pure (.move (.tmp 0)))) none,
           .act (some 89) (.op (.pure (.move (.tmp 8)))) none,
           .act (some 90) (.op (.pure (.idxSl 7 (.tmp 88) (.tmp 89)))) none,
           .act (some 91) (.op (.pure (.fieldAddr 3 (.tmp 90)))) none,
           .act (some 92) (.op (.pure (.idxArr 4 1 (.tmp 91) (.const (.int .i64 1))))) none,
           .act (some 93) (.op (.read (.load1 (.tmp 92)))) none,
           .act (some 94) (.call (.func 10) [(.tmp 80), (.tmp 81), (.tmp 87), (.tmp 93)]) none])
         (.seq (.steps [
           .act (some 96) (.op (.pure (.bin .eql (.tmp 52) (.const (.int .i64 3))))) none,
           .act (some 95) (.op (.pure (.move (.tmp 96)))) none])
         (.cond (.tmp 95)
          (.steps [
            .act (some 97) (.op (.pure (.move (.tmp 5)))) none,
            .act (some 98) (.op (.pure (.move (.tmp 9)))) none,
            .act (some 99) (.op (.pure (.move (.tmp 0)))) none,
            .act (some 100) (.op (.pure (.move (.tmp 8)))) none,
            .act (some 101) (.op (.pure (.idxSl 7 (.tmp 99) (.tmp 100)))) none,
            .act (some 102) (.op (.pure (.fieldAddr 3 (.tmp 101)))) none,
            .act (some 103) (.op (.pure (.idxArr 4 1 (.tmp 102) (.const (.int .i64 0))))) none,
            .act (some 104) (.op (.read (.load1 (.tmp 103)))) none,
            .act (some 105) (.call (.func 12) [(.tmp 97), (.tmp 98), (.tmp 104)]) none])
          (.steps [
            .act (some 53) (.op (.pure (.move (.tmp 5)))) none,
            .act (some 54) (.op (.pure (.move (.tmp 9)))) none,
            .act (some 55) (.op (.pure (.move (.tmp 0)))) none,
            .act (some 56) (.op (.pure (.move (.tmp 8)))) none,
            .act (some 57) (.op (.pure (.idxSl 7 (.tmp 55) (.tmp 56)))) none,
            .act (some 58) (.op (.pure (.fieldAddr 3 (.tmp 57)))) none,
            .act (some 59) (.op (.pure (.idxArr 4 1 (.tmp 58) (.const (.int .i64 0))))) none,
            .act (some 60) (.op (.read (.load1 (.tmp 59)))) none,
            .act (some 61) (.call (.func 13) [(.tmp 53), (.tmp 54), (.tmp 60)]) none])))))))))))
     (.seq (.seq (.steps [
       .act (some 106) (.op (.pure (.move (.tmp 7)))) none,
       .act (some 107) (.op (.pure (.bin .lss (.tmp 106) (.const (.int .i64 0))))) none,
       .act (some 108) (.op (.pure (.move (.tmp 107)))) none,
       .act (some 109) (.op (.pure (.move (.tmp 9)))) (some (108, true)),
       .act (some 110) (.op (.pure (.move (.tmp 1)))) (some (108, true)),
       .act (some 111) (.op (.pure (.bin .eql (.tmp 109) (.tmp 110)))) (some (108, true)),
       .act (some 112) (.op (.pure (.move (.tmp 111)))) (some (108, true)),
       .act (some 113) (.op (.pure (.move (.tmp 9)))) (some (112, false)),
       .act (some 114) (.op (.pure (.move (.tmp 1)))) (some (112, false)),
       .act (some 115) (.op (.pure (.bin .add (.tmp 114) (.const (.int .i64 1))))) (some (112, false)),
       .act (some 116) (.op (.pure (.bin .eql (.tmp 113) (.tmp 115)))) (some (112, false)),
       .act (some 117) (.op (.pure (.pick (.tmp 112) (.const (.bool true)) (.tmp 116)))) (some (108, true)),
       .act (some 118) (.op (.pure (.pick (.tmp 108) (.tmp 117) (.const (.bool false))))) none])
     (.cond (.tmp 118)
      (.steps [
        .act (some 119) (.op (.pure (.move (.tmp 9)))) none,
        .act (some 7) (.op (.pure (.move (.tmp 119)))) none])
      .skip))
     (.seq (.steps [
       .act (some 120) (.op (.pure (.move (.tmp 5)))) none,
       .act (some 121) (.call (.func 14) [(.tmp 120)]) none,
       .act (some 122) (.op (.pure (.move (.tmp 7)))) none,
       .act (some 123) (.op (.pure (.bin .neq (.tmp 121) (.tmp 122)))) none])
     (.cond (.tmp 123)
      (.seq (.steps [
        .act (some 4) (.op (.pure (.move (.const (.bool false))))) none])
      .ret)
      .skip))))))
    (.steps [
      .act (some 38) (.op (.pure (.move (.tmp 8)))) none,
      .act (some 39) (.op (.pure (.bin .add (.tmp 38) (.const (.int .i64 1))))) none,
      .act (some 8) (.op (.pure (.move (.tmp 39)))) none]))))))
  (.seq (.steps [
    .act (some 124) (.op (.pure (.move (.tmp 5)))) none,
    .act (some 125) (.op (.pure (.move (.tmp 1)))) none,
    .act (some 126) (.call (.func 19) [(.tmp 124), (.tmp 125), (.const (.int .i64 2))]) none,
    .act (some 10) (.op (.pure (.move (.tmp 126)))) none])
  (.seq (.seq (.steps [
    .act (some 127) (.op (.pure (.move (.tmp 10)))) none,
    .act (some 128) (.op (.pure (.len false (.tmp 127)))) none,
    .act (some 129) (.op (.pure (.bin .neq (.tmp 128) (.const (.int .i64 2))))) none,
    .act (some 130) (.op (.pure (.move (.tmp 129)))) none,
    .act (some 131) (.op (.pure (.move (.tmp 10)))) (some (130, false)),
    .act (some 132) (.op (.pure (.idxSl 1 (.tmp 131) (.const (.int .i64 0))))) (some (130, false)),
    .act (some 133) (.op (.read (.load1 (.tmp 132)))) (some (130, false)),
    .act (some 134) (.op (.pure (.bin .neq (.tmp 133) (.const (w64 7#64))))) (some (130, false)),
    .act (some 135) (.op (.pure (.pick (.tmp 130) (.const (.bool true)) (.tmp 134)))) none,
    .act (some 136) (.op (.pure (.move (.tmp 135)))) none,
    .act (some 137) (.op (.pure (.move (.tmp 10)))) (some (136, false)),
    .act (some 138) (.op (.pure (.idxSl 1 (.tmp 137) (.const (.int .i64 1))))) (some (136, false)),
    .act (some 139) (.op (.read (.load1 (.tmp 138)))) (some (136, false)),
    .act (some 140) (.op (.pure (.bin .neq (.tmp 139) (.const (w64 0#64))))) (some (136, false)),
    .act (some 141) (.op (.pure (.pick (.tmp 136) (.const (.bool true)) (.tmp 140)))) none,
    .act (some 142) (.op (.pure (.move (.tmp 141)))) none,
    .act (some 143) (.op (.pure (.move (.tmp 5)))) (some (142, false)),
    .act (some 144) (.op (.pure (.move (.tmp 1)))) (some (142, false)),
    .act (some 145) (.call (.func 26) [(.tmp 143), (.tmp 144), (.const (.int .i64 2))]) (some (142, false)),
    .act (some 146) (.op (.pure (.bin .neq (.tmp 145) (.const (.int .i64 0))))) (some (142, false)),
    .act (some 147) (.op (.pure (.pick (.tmp 142) (.const (.bool true)) (.tmp 146)))) none])
  (.cond (.tmp 147)
   (.seq (.steps [
     .act (some 4) (.op (.pure (.move (.const (.bool false))))) none])
   .ret)
   .skip))
  (.seq (.steps [
    .act (some 148) (.op (.pure (.move (.tmp 5)))) none,
    .act (some 149) (.op (.pure (.move (.tmp 1)))) none,
    .act (some 150) (.call (.func 11) [(.tmp 148), (.tmp 149)]) none,
    .act (some 151) (.op (.pure (.bin .eql (.tmp 150) (.const (w64 0#64))))) none,
    .act (some 152) (.op (.pure (.move (.tmp 151)))) none,
    .act (some 153) (.op (.pure (.move (.tmp 5)))) (some (152, true)),
    .act (some 154) (.call (.func 14) [(.tmp 153)]) (some (152, true)),
    .act (some 155) (.op (.pure (.move (.tmp 7)))) (some (152, true)),
    .act (some 156) (.op (.pure (.bin .eql (.tmp 154) (.tmp 155)))) (some (152, true)),
    .act (some 157) (.op (.pure (.pick (.tmp 152) (.tmp 156) (.const (.bool false))))) none,
    .act (some 158) (.op (.pure (.move (.tmp 157)))) none,
    .act (some 159) (.call (.func 15) []) (some (158, true)),
    .act (some 160) (.op (.pure (.pick (.tmp 158) (.tmp 159) (.const (.bool false))))) none,
    .act (some 4) (.op (.pure (.move (.tmp 160)))) none])
  .ret))))))))))) }
theorem c6 : compFn Try.prog (mkPlan Try.prog) [(10, [0, 1, 5, 7, 8])] true 6 = some L6 := by kernel_rfl
/-- sluiceway/sluicewaylaw02.MemNobody -/
def L7 : LFun := { n := 109, pop := true, res := [.tmp 2], code :=
  (.seq (.steps [
    .act (some 1) (.op (.new (.box (.tmp 0)))) none,
    .act (some 2) (.op (.pure (.move (.const (.bool false))))) none])
  (.seq (.seq (.steps [
    .act (some 3) (.op (.pure (.move (.const (.int .i64 0))))) none])
  (.block 0 (.loop [1, 3] (.seq (.seq (.steps [
      .act (some 5) (.op (.pure (.move (.tmp 3)))) none,
      .act (some 6) (.op (.pure (.bin .lss (.tmp 5) (.const (.int .i64 2))))) none])
    (.cond (.tmp 6)
     .skip
     (.exit 0)))
    (.seq (.block 1 (.seq (.steps [
       .act (some 9) (.op (.pure (.build [(.slice none 0 0), (.slice none 0 0), (.int .i64 0), (.int .i64 0), (.int .i64 0), (.int .i64 0), (.int .i64 0), (.int .i64 0), (.int .i64 0), (.bool false)] []))) none,
       .act (some 10) (.op (.new (.box (.tmp 9)))) none,
       .act (some 4) (.op (.pure (.move (.tmp 10)))) none])
     (.seq (.seq (.steps [
       .act (some 11) (.op (.pure (.move (.tmp 3)))) none,
       .act (some 12) (.op (.pure (.bin .eql (.tmp 11) (.const (.int .i64 1))))) none])
     (.cond (.tmp 12)
      (.steps [
        .act (some 4) (.op (.pure (.move (.const (.pointer none))))) none])
      .skip))
     (.seq (.steps [
       .act (some 13) (.op (.pure (.move (.tmp 4)))) none,
       .act (some 14) (.op (.pure (.fieldAddr 1 (.tmp 1)))) none,
       .act (some 15) (.op (.read (.load1 (.tmp 14)))) none,
       .act (some 16) (.op (.pure (.fieldAddr 3 (.tmp 1)))) none,
       .act (some 17) (.op (.pure (.idxArr 4 1 (.tmp 16) (.const (.int .i64 0))))) none,
       .act (some 18) (.op (.read (.load1 (.tmp 17)))) none,
       .act (some 19) (.call (.func 9) [(.tmp 13), (.tmp 15), (.tmp 18)]) none])
     (.seq (.steps [
       .act (some 20) (.op (.pure (.move (.tmp 4)))) none,
       .act (some 21) (.op (.pure (.fieldAddr 1 (.tmp 1)))) none,
       .act (some 22) (.op (.read (.load1 (.tmp 21)))) none,
       .act (some 23) (.call (.func 11) [(.tmp 20), (.tmp 22)]) none,
       .act (some 24) (.op (.pure (.bin .neq (.tmp 23) (.const (w64 0#64))))) none,
       .act (some 25) (.op (.pure (.move (.tmp 24)))) none,
       .act (some 26) (.op (.pure (.move (.tmp 4)))) (some (25, false)),
       .act (some 27) (.op (.pure (.fieldAddr 1 (.tmp 1)))) (some (25, false)),
       .act (some 28) (.op (.read (.load1 (.tmp 27)))) (some (25, false)),
       .act (some 29) (.call (.func 12) [(.tmp 26), (.tmp 28), (.const (w64 1#64))]) (some (25, false)),
       .act (some 30) (.op (.pure (.bin .neq (.tmp 29) (.const (w64 0#64))))) (some (25, false)),
       .act (some 31) (.op (.pure (.pick (.tmp 25) (.const (.bool true)) (.tmp 30)))) none,
       .act (some 32) (.op (.pure (.move (.tmp 31)))) none,
       .act (some 33) (.op (.pure (.move (.tmp 4)))) (some (32, false)),
       .act (some 34) (.op (.pure (.fieldAddr 1 (.tmp 1)))) (some (32, false)),
       .act (some 35) (.op (.read (.load1 (.tmp 34)))) (some (32, false)),
       .act (some 36) (.call (.func 13) [(.tmp 33), (.tmp 35), (.const (w64 1#64))]) (some (32, false)),
       .act (some 37) (.op (.pure (.bin .neq (.tmp 36) (.const (w64 0#64))))) (some (32, false)),
       .act (some 38) (.op (.pure (.pick (.tmp 32) (.const (.bool true)) (.tmp 37)))) none,
       .act (some 39) (.op (.pure (.move (.tmp 38)))) none,
       .act (some 40) (.op (.pure (.move (.tmp 4)))) (some (39, false)),
       .act (some 41) (.op (.pure (.fieldAddr 1 (.tmp 1)))) (some (39, false)),
       .act (some 42) (.op (.read (.load1 (.tmp 41)))) (some (39, false)),
       .act (some 43) (.call (.func 10) [(.tmp 40), (.tmp 42), (.const (w64 0#64)), (.const (w64 1#64))]) (some (39, false)),
       .act (some 44) (.op (.pure (.pick (.tmp 39) (.const (.bool true)) (.tmp 43)))) none,
       .act (some 45) (.op (.pure (.move (.tmp 44)))) none,
       .act (some 46) (.op (.pure (.move (.tmp 4)))) (some (45, false)),
       .act (some 47) (.op (.pure (.fieldAddr 1 (.tmp 1)))) (some (45, false)),
       .act (some 48) (.op (.read (.load1 (.tmp 47)))) (some (45, false)),
       .act (some 49) (.op (.pure (.build [(w64 0#64), (w64 0#64)] []))) (some (45, false)),
       .act (some 50) (.op (.pure (.build [(w64 0#64), (w64 0#64)] [(0, 1, (.const (w64 1#64)))]))) (some (45, false)),
       .act (some 51) (.call (.func 18) [(.tmp 46), (.tmp 48), (.tmp 49), (.tmp 50)]) (some (45, false)),
       .act (some 52) (.op (.pure (.pick (.tmp 45) (.const (.bool true)) (.tmp 51)))) none,
       .act (some 53) (.op (.pure (.move (.tmp 52)))) none,
       .act (some 54) (.op (.pure (.move (.tmp 4)))) (some (53, false)),
       .act (some 55) (.call (.func 21) [(.tmp 54)]) (some (53, false)),
       .act (some 56) (.op (.pure (.bin .neq (.tmp 55) (.const (.int .i64 0))))) (some (53, false)),
       .act (some 57) (.op (.pure (.pick (.tmp 53) (.const (.bool true)) (.tmp 56)))) none,
       .act (some 58) (.op (.pure (.move (.tmp 57)))) none,
       .act (some 59) (.op (.pure (.move (.tmp 4)))) (some (58, false)),
       .act (some 60) (.op (.pure (.fieldAddr 1 (.tmp 1)))) (some (58, false)),
       .act (some 61) (.op (.read (.load1 (.tmp 60)))) (some (58, false)),
       .act (some 62) (.op (.pure (.fieldAddr 2 (.tmp 1)))) (some (58, false)),
       .act (some 63) (.op (.read (.load1 (.tmp 62)))) (some (58, false)),
       .act (some 64) (.call (.func 19) [(.tmp 59), (.tmp 61), (.tmp 63)]) (some (58, false)),
       .act (some 65) (.op (.pure (.len false (.tmp 64)))) (some (58, false)),
       .act (some 66) (.op (.pure (.bin .neq (.tmp 65) (.const (.int .i64 0))))) (some (58, false)),
       .act (some 67) (.op (.pure (.pick (.tmp 58) (.const (.bool true)) (.tmp 66)))) none,
       .act (some 68) (.op (.pure (.move (.tmp 67)))) none,
       .act (some 69) (.op (.pure (.move (.tmp 4)))) (some (68, false)),
       .act (some 70) (.call (.func 17) [(.tmp 69)]) (some (68, false)),
       .act (some 71) (.op (.pure (.bin .neq (.tmp 70) (.const (.int .i64 0))))) (some (68, false)),
       .act (some 72) (.op (.pure (.pick (.tmp 68) (.const (.bool true)) (.tmp 71)))) none,
       .act (some 73) (.op (.pure (.move (.tmp 72)))) none,
       .act (some 74) (.op (.pure (.move (.tmp 4)))) (some (73, false)),
       .act (some 75) (.call (.func 14) [(.tmp 74)]) (some (73, false)),
       .act (some 76) (.op (.pure (.bin .neq (.tmp 75) (.const (.int .i64 (-1)))))) (some (73, false)),
       .act (some 77) (.op (.pure (.pick (.tmp 73) (.const (.bool true)) (.tmp 76)))) none,
       .act (some 78) (.op (.pure (.move (.tmp 77)))) none,
       .act (some 79) (.op (.pure (.move (.tmp 4)))) (some (78, false)),
       .act (some 80) (.call (.func 16) [(.tmp 79)]) (some (78, false)),
       .act (some 81) (.op (.pure (.eqNil .p true (.tmp 80) (.const (.pointer none))))) (some (78, false)),
       .act (some 82) (.op (.pure (.pick (.tmp 78) (.const (.bool true)) (.tmp 81)))) none,
       .act (some 83) (.op (.pure (.move (.tmp 82)))) none,
       .act (some 84) (.op (.pure (.move (.tmp 4)))) (some (83, false)),
       .act (some 85) (.op (.pure (.fieldAddr 1 (.tmp 1)))) (some (83, false)),
       .act (some 86) (.op (.read (.load1 (.tmp 85)))) (some (83, false)),
       .act (some 87) (.call (.func 23) [(.tmp 84), (.tmp 86)]) (some (83, false)),
       .act (some 88) (.op (.pure (.not (.tmp 87)))) (some (83, false)),
       .act (some 89) (.op (.pure (.pick (.tmp 83) (.const (.bool true)) (.tmp 88)))) none,
       .act (some 90) (.op (.pure (.move (.tmp 89)))) none,
       .act (some 91) (.op (.pure (.move (.tmp 4)))) (some (90, false)),
       .act (some 92) (.op (.pure (.fieldAddr 1 (.tmp 1)))) (some (90, false)),
       .act (some 93) (.op (.read (.load1 (.tmp 92)))) (some (90, false)),
       .act (some 94) (.op (.pure (.fieldAddr 2 (.tmp 1)))) (some (90, false)),
       .act (some 95) (.op (.read (.load1 (.tmp 94)))) (some (90, false)),
       .act (some 96) (.call (.func 25) [(.tmp 91), (.tmp 93), (.tmp 95)]) (some (90, false)),
       .act (some 97) (.op (.pure (.bin .neq (.tmp 96) (.const (.int .i64 1))))) (some (90, false)),
       .act (some 98) (.op (.pure (.pick (.tmp 90) (.const (.bool true)) (.tmp 97)))) none,
       .act (some 99) (.op (.pure (.move (.tmp 98)))) none,
       .act (some 100) (.op (.pure (.move (.tmp 4)))) (some (99, false)),
       .act (some 101) (.op (.pure (.fieldAddr 1 (.tmp 1)))) (some (99, false)),
       .act (some 102) (.op (.read (.load1 (.tmp 101)))) (some (99, false)),
       .act (some 103) (.op (.pure (.fieldAddr 2 (.tmp 1)))) (some (99, false)),
       .act (some 104) (.op (.read (.load1 (.tmp 103)))) (some (99, false)),
       .act (some 105) (.call (.func 26) [(.tmp 100), (.tmp 102), (.tmp 104)]) (some (99, false)),
       .act (some 106) (.op (.pure (.bin .neq (.tmp 105) (.const (.int .i64 1))))) (some (99, false)),
       .act (some 107) (.op (.pure (.pick (.tmp 99) (.const (.bool true)) (.tmp 106)))) none])
     (.cond (.tmp 107)
      (.seq (.steps [
        .act (some 2) (.op (.pure (.move (.const (.bool false))))) none])
      .ret)
      .skip))))))
    (.steps [
      .act (some 7) (.op (.pure (.move (.tmp 3)))) none,
      .act (some 8) (.op (.pure (.bin .add (.tmp 7) (.const (.int .i64 1))))) none,
      .act (some 3) (.op (.pure (.move (.tmp 8)))) none]))))))
  (.seq (.steps [
    .act (some 108) (.call (.func 15) []) none,
    .act (some 2) (.op (.pure (.move (.tmp 108)))) none])
  .ret))) }
theorem c7 : compFn Try.prog (mkPlan Try.prog) [(2, [1, 3])] true 7 = some L7 := by kernel_rfl
/-- sluiceway/mem.New -/
def L8 : LFun := { n := 16, pop := false, res := [.tmp 2, .tmp 3], code :=
  (.seq (.steps [
    .act (some 2) (.op (.pure (.move (.const (.pointer none))))) none,
    .act (some 3) (.op (.pure (.move (.const (.int .i64 0))))) none])
  (.seq (.seq (.steps [
    .act (some 4) (.op (.pure (.move (.tmp 0)))) none,
    .act (some 5) (.op (.pure (.bin .lss (.tmp 4) (.const (.int .i64 1))))) none,
    .act (some 6) (.op (.pure (.move (.tmp 5)))) none,
    .act (some 7) (.op (.pure (.move (.tmp 0)))) (some (6, false)),
    .act (some 8) (.op (.pure (.bin .gtr (.tmp 7) (.const (.int .i64 65536))))) (some (6, false)),
    .act (some 9) (.op (.pure (.pick (.tmp 6) (.const (.bool true)) (.tmp 8)))) none])
  (.cond (.tmp 9)
   (.seq (.steps [
     .act (some 2) (.op (.pure (.move (.const (.pointer none))))) none,
     .act (some 3) (.op (.pure (.move (.const (.int .i64 2))))) none])
   .ret)
   .skip))
  (.seq (.steps [
    .act (some 10) (.op (.pure (.move (.tmp 0)))) none,
    .act (some 11) (.op (.new (.makeSlice 1 8 [(w64 0#64)] (.tmp 10) (.tmp 10)))) none,
    .act (some 12) (.op (.pure (.move (.tmp 0)))) none,
    .act (some 13) (.op (.new (.makeSlice 1 1 [(.bool false)] (.tmp 12) (.tmp 12)))) none,
    .act (some 14) (.op (.pure (.build [(.slice none 0 0), (.slice none 0 0), (.int .i64 0), (.int .i64 0), (.int .i64 0), (.int .i64 0), (.int .i64 0), (.int .i64 0), (.int .i64 0), (.bool false)] [(0, 1, (.tmp 11)), (1, 1, (.tmp 13)), (8, 1, (.const (.int .i64 (-1))))]))) none,
    .act (some 15) (.op (.new (.box (.tmp 14)))) none,
    .act (some 2) (.op (.pure (.move (.tmp 15)))) none,
    .act (some 3) (.op (.pure (.move (.const (.int .i64 0))))) none])
  .ret))) }
theorem c8 : compFn Try.prog (mkPlan Try.prog) [] false 8 = some L8 := by kernel_rfl
/-- (*sluiceway/mem.Mem).Store -/
def L9 : LFun := { n := 10, pop := true, res := [], code :=
  (.seq (.steps [
    .act (some 5) (.op (.new (.box (.tmp 2)))) none])
  (.steps [
    .act (some 6) (.op (.pure (.move (.tmp 0)))) none,
    .act (some 7) (.op (.pure (.move (.tmp 1)))) none,
    .act (some 8) (.op (.pure (.mkFunc 28 [] [(.tmp 5)]))) none,
    .act (some 9) (.call (.func 27) [(.tmp 6), (.const (.int .i64 1)), (.tmp 7), (.tmp 8)]) none])) }
theorem c9 : compFn Try.prog (mkPlan Try.prog) [] true 9 = some L9 := by kernel_rfl
/-- (*sluiceway/mem.Mem).Swap -/
def L10 : LFun := { n := 14, pop := true, res := [.load1 8], code :=
  (.seq (.steps [
    .act (some 6) (.op (.new (.box (.tmp 2)))) none,
    .act (some 7) (.op (.new (.box (.tmp 3)))) none,
    .act (some 8) (.op (.new (.alloc [(.bool false)]))) none])
  (.seq (.steps [
    .act (some 9) (.op (.pure (.move (.tmp 0)))) none,
    .act (some 10) (.op (.pure (.move (.tmp 1)))) none,
    .act (some 11) (.op (.pure (.mkFunc 29 [] [(.tmp 6), (.tmp 8), (.tmp 7)]))) none,
    .act (some 12) (.call (.func 27) [(.tmp 9), (.const (.int .i64 2)), (.tmp 10), (.tmp 11)]) none])
  (.seq (.steps [
    .act (some 13) (.op (.read (.load1 (.tmp 8)))) none,
    .act none (.op (.eff (.store 1 (.tmp 8) (.tmp 13)))) none])
  .ret))) }
theorem c10 : compFn Try.prog (mkPlan Try.prog) [] true 10 = some L10 := by kernel_rfl
/-- (*sluiceway/mem.Mem).Load -/
def L11 : LFun := { n := 10, pop := true, res := [.load1 4], code :=
  (.seq (.steps [
    .act (some 4) (.op (.new (.alloc [(w64 0#64)]))) none])
  (.seq (.steps [
    .act (some 5) (.op (.pure (.move (.tmp 0)))) none,
    .act (some 6) (.op (.pure (.move (.tmp 1)))) none,
    .act (some 7) (.op (.pure (.mkFunc 30 [] [(.tmp 4)]))) none,
    .act (some 8) (.call (.func 27) [(.tmp 5), (.const (.int .i64 0)), (.tmp 6), (.tmp 7)]) none])
  (.seq (.steps [
    .act (some 9) (.op (.read (.load1 (.tmp 4)))) none,
    .act none (.op (.eff (.store 1 (.tmp 4) (.tmp 9)))) none])
  .ret))) }
theorem c11 : compFn Try.prog (mkPlan Try.prog) [] true 11 = some L11 := by kernel_rfl
/-- (*sluiceway/mem.Mem).Add -/
def L12 : LFun := { n := 12, pop := true, res := [.load1 6], code :=
  (.seq (.steps [
    .act (some 5) (.op (.new (.box (.tmp 2)))) none,
    .act (some 6) (.op (.new (.alloc [(w64 0#64)]))) none])
  (.seq (.steps [
    .act (some 7) (.op (.pure (.move (.tmp 0)))) none,
    .act (some 8) (.op (.pure (.move (.tmp 1)))) none,
    .act (some 9) (.op (.pure (.mkFunc 31 [] [(.tmp 6), (.tmp 5)]))) none,
    .act (some 10) (.call (.func 27) [(.tmp 7), (.const (.int .i64 3)), (.tmp 8), (.tmp 9)]) none])
  (.seq (.steps [
    .act (some 11) (.op (.read (.load1 (.tmp 6)))) none,
    .act none (.op (.eff (.store 1 (.tmp 6) (.tmp 11)))) none])
  .ret))) }
theorem c12 : compFn Try.prog (mkPlan Try.prog) [] true 12 = some L12 := by kernel_rfl
/-- (*sluiceway/mem.Mem).Or -/
def L13 : LFun := { n := 12, pop := true, res := [.load1 6], code :=
  (.seq (.steps [
    .act (some 5) (.op (.new (.box (.tmp 2)))) none,
    .act (some 6) (.op (.new (.alloc [(w64 0#64)]))) none])
  (.seq (.steps [
    .act (some 7) (.op (.pure (.move (.tmp 0)))) none,
    .act (some 8) (.op (.pure (.move (.tmp 1)))) none,
    .act (some 9) (.op (.pure (.mkFunc 32 [] [(.tmp 6), (.tmp 5)]))) none,
    .act (some 10) (.call (.func 27) [(.tmp 7), (.const (.int .i64 4)), (.tmp 8), (.tmp 9)]) none])
  (.seq (.steps [
    .act (some 11) (.op (.read (.load1 (.tmp 6)))) none,
    .act none (.op (.eff (.store 1 (.tmp 6) (.tmp 11)))) none])
  .ret))) }
theorem c13 : compFn Try.prog (mkPlan Try.prog) [] true 13 = some L13 := by kernel_rfl
/-- (*sluiceway/mem.Mem).Trap -/
def L14 : LFun := { n := 9, pop := true, res := [.tmp 2], code :=
  (.seq (.steps [
    .act (some 2) (.op (.pure (.move (.const (.int .i64 0))))) none])
  (.seq (.seq (.steps [
    .act (some 3) (.op (.pure (.move (.tmp 0)))) none,
    .act (some 4) (.call (.func 33) [(.tmp 3)]) none])
  (.cond (.tmp 4)
   (.seq (.steps [
     .act (some 2) (.op (.pure (.move (.const (.int .i64 (-1)))))) none])
   .ret)
   .skip))
  (.seq (.steps [
    .act (some 5) (.op (.pure (.move (.tmp 0)))) none,
    .act (some 6) (.op (.pure (.nilCheck (.tmp 5)))) none,
    .act (some 7) (.op (.pure (.fieldAddr 8 (.tmp 6)))) none,
    .act (some 8) (.op (.read (.load1 (.tmp 7)))) none,
    .act (some 2) (.op (.pure (.move (.tmp 8)))) none])
  .ret))) }
theorem c14 : compFn Try.prog (mkPlan Try.prog) [] true 14 = some L14 := by kernel_rfl
/-- sluiceway/sluicewaylaw02.one -/
def L15 : LFun := { n := 56, pop := true, res := [.tmp 0], code :=
  (.seq (.steps [
    .act (some 0) (.op (.pure (.move (.const (.bool false))))) none])
  (.seq (.steps [
    .act (some 4) (.call (.func 8) [(.const (.int .i64 8))]) none,
    .act (some 3) (.op (.pure (.move (.tmp 4)))) none,
    .act (some 5) (.op (.pure (.extract (.tmp 3) 0))) none,
    .act (some 6) (.op (.pure (.extract (.tmp 3) 1))) none,
    .act (some 1) (.op (.pure (.move (.tmp 5)))) none,
    .act (some 2) (.op (.pure (.move (.tmp 6)))) none])
  (.seq (.seq (.steps [
    .act (some 7) (.op (.pure (.move (.tmp 2)))) none,
    .act (some 8) (.op (.pure (.bin .neq (.tmp 7) (.const (.int .i64 0))))) none,
    .act (some 9) (.op (.pure (.move (.tmp 8)))) none,
    .act (some 10) (.op (.pure (.move (.tmp 1)))) (some (9, false)),
    .act (some 11) (.op (.pure (.eqNil .p false (.tmp 10) (.const (.pointer none))))) (some (9, false)),
    .act (some 12) (.op (.pure (.pick (.tmp 9) (.const (.bool true)) (.tmp 11)))) none])
  (.cond (.tmp 12)
   (.seq (.steps [
     .act (some 0) (.op (.pure (.move (.const (.bool false))))) none])
   .ret)
   .skip))
  (.seq (.steps [
    .act (some 13) (.op (.pure (.move (.tmp 1)))) none,
    .act (some 14) (.call (.func 12) [(.tmp 13), (.const (.int .i64 3)), (.const (w64 5#64))]) none,
    .act (some 15) (.op (.pure (.bin .eql (.tmp 14) (.const (w64 0#64))))) none,
    .act (some 16) (.op (.pure (.move (.tmp 15)))) none,
    .act (some 17) (.op (.pure (.move (.tmp 1)))) (some (16, true)),
    .act (some 18) (.call (.func 11) [(.tmp 17), (.const (.int .i64 3))]) (some (16, true)),
    .act (some 19) (.op (.pure (.bin .eql (.tmp 18) (.const (w64 5#64))))) (some (16, true)),
    .act (some 20) (.op (.pure (.pick (.tmp 16) (.tmp 19) (.const (.bool false))))) none,
    .act (some 21) (.op (.pure (.move (.tmp 20)))) none,
    .act (some 22) (.op (.pure (.move (.tmp 1)))) (some (21, true)),
    .act (some 23) (.call (.func 10) [(.tmp 22), (.const (.int .i64 3)), (.const (w64 5#64)), (.const (w64 7#64))]) (some (21, true)),
    .act (some 24) (.op (.pure (.pick (.tmp 21) (.tmp 23) (.const (.bool false))))) none,
    .act (some 25) (.op (.pure (.move (.tmp 24)))) none,
    .act (some 26) (.op (.pure (.move (.tmp 1)))) (some (25, true)),
    .act (some 27) (.call (.func 10) [(.tmp 26), (.const (.int .i64 3)), (.const (w64 5#64)), (.const (w64 8#64))]) (some (25, true)),
    .act (some 28) (.op (.pure (.not (.tmp 27)))) (some (25, true)),
    .act (some 29) (.op (.pure (.pick (.tmp 25) (.tmp 28) (.const (.bool false))))) none,
    .act (some 30) (.op (.pure (.move (.tmp 29)))) none,
    .act (some 31) (.op (.pure (.move (.tmp 1)))) (some (30, true)),
    .act (some 32) (.op (.pure (.build [(w64 0#64), (w64 0#64)] [(0, 1, (.const (w64 0#64))), (1, 1, (.const (w64 7#64)))]))) (some (30, true)),
    .act (some 33) (.op (.pure (.build [(w64 0#64), (w64 0#64)] [(0, 1, (.const (w64 1#64))), (1, 1, (.const (w64 2#64)))]))) (some (30, true)),
    .act (some 34) (.call (.func 18) [(.tmp 31), (.const (.int .i64 2)), (.tmp 32), (.tmp 33)]) (some (30, true)),
    .act (some 35) (.op (.pure (.pick (.tmp 30) (.tmp 34) (.const (.bool false))))) none,
    .act (some 36) (.op (.pure (.move (.tmp 35)))) none,
    .act (some 37) (.op (.pure (.move (.tmp 1)))) (some (36, true)),
    .act (some 38) (.call (.func 13) [(.tmp 37), (.const (.int .i64 2)), (.const (w64 6#64))]) (some (36, true)),
    .act (some 39) (.op (.pure (.bin .eql (.tmp 38) (.const (w64 1#64))))) (some (36, true)),
    .act (some 40) (.op (.pure (.pick (.tmp 36) (.tmp 39) (.const (.bool false))))) none,
    .act (some 41) (.op (.pure (.move (.tmp 40)))) none,
    .act (some 42) (.op (.pure (.move (.tmp 1)))) (some (41, true)),
    .act (some 43) (.call (.func 11) [(.tmp 42), (.const (.int .i64 2))]) (some (41, true)),
    .act (some 44) (.op (.pure (.bin .eql (.tmp 43) (.const (w64 7#64))))) (some (41, true)),
    .act (some 45) (.op (.pure (.pick (.tmp 41) (.tmp 44) (.const (.bool false))))) none,
    .act (some 46) (.op (.pure (.move (.tmp 45)))) none,
    .act (some 47) (.op (.pure (.move (.tmp 1)))) (some (46, true)),
    .act (some 48) (.call (.func 17) [(.tmp 47)]) (some (46, true)),
    .act (some 49) (.op (.pure (.bin .eql (.tmp 48) (.const (.int .i64 7))))) (some (46, true)),
    .act (some 50) (.op (.pure (.pick (.tmp 46) (.tmp 49) (.const (.bool false))))) none,
    .act (some 51) (.op (.pure (.move (.tmp 50)))) none,
    .act (some 52) (.op (.pure (.move (.tmp 1)))) (some (51, true)),
    .act (some 53) (.call (.func 14) [(.tmp 52)]) (some (51, true)),
    .act (some 54) (.op (.pure (.bin .eql (.tmp 53) (.const (.int .i64 (-1)))))) (some (51, true)),
    .act (some 55) (.op (.pure (.pick (.tmp 51) (.tmp 54) (.const (.bool false))))) none,
    .act (some 0) (.op (.pure (.move (.tmp 55)))) none])
  .ret)))) }
theorem c15 : compFn Try.prog (mkPlan Try.prog) [] true 15 = some L15 := by kernel_rfl
/-- (*sluiceway/mem.Mem).Clone -/
def L16 : LFun := { n := 21, pop := false, res := [.tmp 2], code :=
  (.seq (.steps [
    .act (some 2) (.op (.pure (.move (.const (.pointer none))))) none])
  (.seq (.seq (.steps [
    .act (some 4) (.op (.pure (.move (.tmp 0)))) none,
    .act (some 5) (.call (.func 33) [(.tmp 4)]) none])
  (.cond (.tmp 5)
   (.seq (.steps [
     .act (some 2) (.op (.pure (.move (.const (.pointer none))))) none])
   .ret)
   .skip))
  (.seq (.steps [
    .act (some 6) (.op (.pure (.move (.tmp 0)))) none,
    .act (some 7) (.op (.pure (.nilCheck (.tmp 6)))) none,
    .act (some 8) (.op (.read (.loadN 10 (.tmp 7)))) none,
    .act (some 3) (.op (.new (.alloc [(.slice none 0 0), (.slice none 0 0), (.int .i64 0), (.int .i64 0), (.int .i64 0), (.int .i64 0), (.int .i64 0), (.int .i64 0), (.int .i64 0), (.bool false)]))) none,
    .act none (.op (.eff (.store 10 (.tmp 3) (.tmp 8)))) none])
  (.seq (.steps [
    .act (some 9) (.op (.pure (.move (.tmp 0)))) none,
    .act (some 10) (.op (.pure (.nilCheck (.tmp 9)))) none,
    .act (some 11) (.op (.pure (.fieldAddr 0 (.tmp 10)))) none,
    .act (some 12) (.op (.read (.load1 (.tmp 11)))) none,
    .act (some 14) (.op (.pure (.move (.tmp 0)))) none,
    .act (some 15) (.op (.pure (.nilCheck (.tmp 14)))) none,
    .act (some 16) (.op (.pure (.fieldAddr 1 (.tmp 15)))) none,
    .act (some 17) (.op (.read (.load1 (.tmp 16)))) none,
    .act (some 13) (.call (.func 34) [(.tmp 12)]) none,
    .again 17 (.load1 (.tmp 16)) none,
    .act (some 18) (.call (.func 35) [(.tmp 17)]) none,
    .act (some 19) (.op (.pure (.fieldAddr 0 (.tmp 3)))) none,
    .act none (.op (.eff (.store 1 (.tmp 19) (.tmp 13)))) none,
    .act (some 20) (.op (.pure (.fieldAddr 1 (.tmp 3)))) none,
    .act none (.op (.eff (.store 1 (.tmp 20) (.tmp 18)))) none])
  (.seq (.steps [
    .act (some 2) (.op (.pure (.move (.tmp 3)))) none])
  .ret))))) }
theorem c16 : compFn Try.prog (mkPlan Try.prog) [] false 16 = some L16 := by kernel_rfl
/-- (*sluiceway/mem.Mem).Steps -/
def L17 : LFun := { n := 15, pop := true, res := [.tmp 2], code :=
  (.seq (.steps [
    .act (some 2) (.op (.pure (.move (.const (.int .i64 0))))) none])
  (.seq (.steps [
    .act (some 3) (.op (.pure (.move (.const (.int .i64 0))))) none])
  (.seq (.seq (.steps [
    .act (some 5) (.op (.pure (.move (.const (.int .i64 0))))) none])
  (.block 0 (.loop [0, 3, 5] (.seq (.steps [
      .act (some 6) (.op (.pure (.bin .lss (.tmp 5) (.const (.int .i64 6))))) none])
    (.seq (.cond (.tmp 6)
     .skip
     (.exit 0))
    (.seq (.block 1 (.seq (.steps [
       .act (some 7) (.op (.pure (.move (.tmp 5)))) none,
       .act (some 4) (.op (.pure (.move (.tmp 7)))) none])
     (.steps [
       .act (some 8) (.op (.pure (.move (.tmp 3)))) none,
       .act (some 9) (.op (.pure (.move (.tmp 0)))) none,
       .act (some 10) (.op (.pure (.move (.tmp 4)))) none,
       .act (some 11) (.call (.func 24) [(.tmp 9), (.tmp 10)]) none,
       .act (some 12) (.op (.pure (.bin .add (.tmp 8) (.tmp 11)))) none,
       .act (some 3) (.op (.pure (.move (.tmp 12)))) none])))
    (.steps [
      .act (some 13) (.op (.pure (.bin .add (.tmp 5) (.const (.int .i64 1))))) none,
      .act (some 5) (.op (.pure (.move (.tmp 13)))) none])))))))
  (.seq (.steps [
    .act (some 14) (.op (.pure (.move (.tmp 3)))) none,
    .act (some 2) (.op (.pure (.move (.tmp 14)))) none])
  .ret)))) }
theorem c17 : compFn Try.prog (mkPlan Try.prog) [(3, [0, 3, 5])] true 17 = some L17 := by kernel_rfl
/-- (*sluiceway/mem.Mem).Pair -/
def L18 : LFun := { n := 68, pop := true, res := [.tmp 8], code :=
  (.seq (.steps [
    .act (some 6) (.op (.new (.box (.tmp 2)))) none,
    .act (some 7) (.op (.new (.box (.tmp 3)))) none,
    .act (some 8) (.op (.pure (.move (.const (.bool false))))) none])
  (.seq (.block 0 (.seq (.steps [
     .act (some 11) (.op (.pure (.move (.tmp 0)))) none,
     .act (some 12) (.call (.func 33) [(.tmp 11)]) none,
     .act (some 10) (.op (.pure (.move (.tmp 12)))) none])
   (.cond (.tmp 10)
    (.seq (.steps [
      .act (some 8) (.op (.pure (.move (.const (.bool false))))) none])
    .ret)
    (.seq (.steps [
      .act (some 14) (.op (.pure (.move (.tmp 0)))) none,
      .act (some 15) (.op (.pure (.move (.tmp 1)))) none,
      .act (some 16) (.call (.func 23) [(.tmp 14), (.tmp 15)]) none,
      .act (some 17) (.op (.pure (.move (.tmp 16)))) none,
      .act (some 18) (.op (.pure (.move (.tmp 1)))) (some (17, false)),
      .act (some 19) (.op (.pure (.bin .rem (.tmp 18) (.const (.int .i64 2))))) (some (17, false)),
      .act (some 20) (.op (.pure (.bin .neq (.tmp 19) (.const (.int .i64 0))))) (some (17, false)),
      .act (some 21) (.op (.pure (.pick (.tmp 17) (.const (.bool true)) (.tmp 20)))) none,
      .act (some 13) (.op (.pure (.move (.tmp 21)))) none])
    (.cond (.tmp 13)
     (.seq (.steps [
       .act (some 22) (.op (.pure (.move (.tmp 0)))) none,
       .act (some 23) (.op (.pure (.nilCheck (.tmp 22)))) none,
       .act (some 24) (.op (.pure (.fieldAddr 2 (.tmp 23)))) none,
       .act (some 25) (.op (.pure (.idxArr 6 1 (.tmp 24) (.const (.int .i64 5))))) none,
       .act (some 26) (.op (.read (.load1 (.tmp 25)))) none,
       .act (some 27) (.op (.pure (.bin .add (.tmp 26) (.const (.int .i64 1))))) none,
       .act (some 28) (.op (.pure (.nilCheck (.tmp 22)))) none,
       .act (some 29) (.op (.pure (.fieldAddr 2 (.tmp 28)))) none,
       .act (some 30) (.op (.pure (.idxArr 6 1 (.tmp 29) (.const (.int .i64 5))))) none,
       .act none (.op (.eff (.store 1 (.tmp 30) (.tmp 27)))) none])
     (.seq (.steps [
       .act (some 31) (.op (.pure (.move (.tmp 0)))) none,
       .act (some 32) (.op (.pure (.move (.tmp 1)))) none,
       .act (some 33) (.call (.func 36) [(.tmp 31), (.tmp 32)]) none])
     (.seq (.steps [
       .act (some 8) (.op (.pure (.move (.const (.bool false))))) none])
     .ret)))
     .skip)))))
  (.seq (.steps [
    .act (some 34) (.op (.pure (.move (.tmp 0)))) none,
    .act (some 35) (.op (.pure (.nilCheck (.tmp 34)))) none,
    .act (some 36) (.op (.pure (.fieldAddr 2 (.tmp 35)))) none,
    .act (some 37) (.op (.pure (.idxArr 6 1 (.tmp 36) (.const (.int .i64 5))))) none,
    .act (some 38) (.op (.read (.load1 (.tmp 37)))) none,
    .act (some 39) (.op (.pure (.bin .add (.tmp 38) (.const (.int .i64 1))))) none,
    .act (some 40) (.op (.pure (.nilCheck (.tmp 34)))) none,
    .act (some 41) (.op (.pure (.fieldAddr 2 (.tmp 40)))) none,
    .act (some 42) (.op (.pure (.idxArr 6 1 (.tmp 41) (.const (.int .i64 5))))) none,
    .act none (.op (.eff (.store 1 (.tmp 42) (.tmp 39)))) none])
  (.seq (.seq (.steps [
    .act (some 43) (.op (.pure (.move (.tmp 0)))) none,
    .act (some 44) (.op (.pure (.move (.tmp 1)))) none,
    .act (some 45) (.op (.pure (.bin .add (.tmp 44) (.const (.int .i64 1))))) none,
    .act (some 46) (.call (.func 23) [(.tmp 43), (.tmp 45)]) none])
  (.cond (.tmp 46)
   (.seq (.steps [
     .act (some 47) (.op (.pure (.move (.tmp 0)))) none,
     .act (some 48) (.op (.pure (.move (.tmp 1)))) none,
     .act (some 49) (.op (.pure (.bin .add (.tmp 48) (.const (.int .i64 1))))) none,
     .act (some 50) (.call (.func 36) [(.tmp 47), (.tmp 49)]) none])
   (.seq (.steps [
     .act (some 8) (.op (.pure (.move (.const (.bool false))))) none])
   .ret))
   .skip))
  (.seq (.steps [
    .act (some 51) (.op (.pure (.move (.tmp 0)))) none,
    .act (some 52) (.op (.pure (.nilCheck (.tmp 51)))) none,
    .act (some 53) (.op (.pure (.fieldAddr 0 (.tmp 52)))) none,
    .act (some 54) (.op (.read (.load1 (.tmp 53)))) none,
    .act (some 55) (.op (.pure (.move (.tmp 1)))) none,
    .act (some 56) (.op (.pure (.move (.tmp 1)))) none,
    .act (some 57) (.op (.pure (.bin .add (.tmp 56) (.const (.int .i64 2))))) none,
    .act (some 58) (.op (.read (.slSl 1 (.tmp 54) (some (.tmp 55)) (some (.tmp 57)) none))) none,
    .act (some 59) (.op (.pure (.arrPtr 2 (.tmp 58)))) none,
    .act (some 9) (.op (.pure (.move (.tmp 59)))) none])
  (.seq (.seq (.steps [
    .act (some 60) (.op (.pure (.move (.tmp 9)))) none,
    .act (some 61) (.op (.pure (.nilCheck (.tmp 60)))) none,
    .act (some 62) (.op (.read (.loadN 2 (.tmp 61)))) none,
    .act (some 63) (.op (.read (.loadN 2 (.tmp 6)))) none,
    .act (some 64) (.op (.pure (.eqAgg [false, false] true (.tmp 62) (.tmp 63)))) none])
  (.cond (.tmp 64)
   (.seq (.steps [
     .act (some 8) (.op (.pure (.move (.const (.bool false))))) none])
   .ret)
   .skip))
  (.seq (.steps [
    .act (some 65) (.op (.pure (.move (.tmp 9)))) none,
    .act (some 66) (.op (.read (.loadN 2 (.tmp 7)))) none,
    .act (some 67) (.op (.pure (.nilCheck (.tmp 65)))) none,
    .act none (.op (.eff (.store 2 (.tmp 67) (.tmp 66)))) none])
  (.seq (.steps [
    .act (some 8) (.op (.pure (.move (.const (.bool true))))) none])
  .ret)))))))) }
theorem c18 : compFn Try.prog (mkPlan Try.prog) [] true 18 = some L18 := by kernel_rfl
/-- (*sluiceway/mem.Mem).Peek -/
def L19 : LFun := { n := 37, pop := false, res := [.tmp 6], code :=
  (.seq (.steps [
    .act (some 6) (.op (.pure (.move (.const (.slice none 0 0))))) none])
  (.seq (.seq (.steps [
    .act (some 7) (.op (.pure (.move (.tmp 1)))) none,
    .act (some 8) (.op (.pure (.bin .lss (.tmp 7) (.const (.int .i64 0))))) none,
    .act (some 9) (.op (.pure (.move (.tmp 8)))) none,
    .act (some 10) (.op (.pure (.move (.tmp 2)))) (some (9, false)),
    .act (some 11) (.op (.pure (.bin .lss (.tmp 10) (.const (.int .i64 1))))) (some (9, false)),
    .act (some 12) (.op (.pure (.pick (.tmp 9) (.const (.bool true)) (.tmp 11)))) none,
    .act (some 13) (.op (.pure (.move (.tmp 12)))) none,
    .act (some 14) (.op (.pure (.move (.tmp 1)))) (some (13, false)),
    .act (some 15) (.op (.pure (.move (.tmp 0)))) (some (13, false)),
    .act (some 16) (.call (.func 21) [(.tmp 15)]) (some (13, false)),
    .act (some 17) (.op (.pure (.bin .geq (.tmp 14) (.tmp 16)))) (some (13, false)),
    .act (some 18) (.op (.pure (.pick (.tmp 13) (.const (.bool true)) (.tmp 17)))) none])
  (.cond (.tmp 18)
   (.seq (.steps [
     .act (some 6) (.op (.pure (.move (.const (.slice none 0 0))))) none])
   .ret)
   .skip))
  (.seq (.steps [
    .act (some 19) (.op (.pure (.move (.tmp 0)))) none,
    .act (some 20) (.op (.pure (.nilCheck (.tmp 19)))) none,
    .act (some 21) (.op (.pure (.fieldAddr 0 (.tmp 20)))) none,
    .act (some 22) (.op (.read (.load1 (.tmp 21)))) none,
    .act (some 23) (.op (.pure (.move (.tmp 1)))) none,
    .act (some 24) (.op (.pure (.move (.tmp 1)))) none,
    .act (some 25) (.op (.pure (.move (.tmp 2)))) none,
    .act (some 26) (.op (.pure (.move (.tmp 0)))) none,
    .act (some 27) (.op (.pure (.nilCheck (.tmp 26)))) none,
    .act (some 28) (.op (.pure (.fieldAddr 0 (.tmp 27)))) none,
    .act (some 29) (.op (.read (.load1 (.tmp 28)))) none,
    .act (some 30) (.op (.pure (.len false (.tmp 29)))) none,
    .act (some 31) (.op (.pure (.move (.tmp 1)))) none,
    .act (some 32) (.op (.pure (.bin .sub (.tmp 30) (.tmp 31)))) none,
    .act (some 33) (.op (.pure (.minmax false [(.tmp 25), (.tmp 32)]))) none,
    .act (some 34) (.op (.pure (.bin .add (.tmp 24) (.tmp 33)))) none,
    .act (some 35) (.op (.read (.slSl 1 (.tmp 22) (some (.tmp 23)) (some (.tmp 34)) none))) none,
    .act (some 36) (.call (.func 34) [(.tmp 35)]) none,
    .act (some 6) (.op (.pure (.move (.tmp 36)))) none])
  .ret))) }
theorem c19 : compFn Try.prog (mkPlan Try.prog) [] false 19 = some L19 := by kernel_rfl
/-- sluiceway/sluicewayref02.New -/
def L20 : LFun := { n := 16, pop := false, res := [.loadN 10 2, .tmp 3], code :=
  (.seq (.steps [
    .act (some 2) (.op (.new (.alloc [(.slice none 0 0), (.slice none 0 0), (.int .i64 0), (.int .i64 0), (.int .i64 0), (.int .i64 0), (.int .i64 0), (.int .i64 0), (.int .i64 0), (.bool false)]))) none,
    .act (some 3) (.op (.pure (.move (.const (.int .i64 0))))) none])
  (.seq (.seq (.steps [
    .act (some 4) (.op (.pure (.move (.tmp 0)))) none,
    .act (some 5) (.op (.pure (.bin .lss (.tmp 4) (.const (.int .i64 1))))) none,
    .act (some 6) (.op (.pure (.move (.tmp 5)))) none,
    .act (some 7) (.op (.pure (.move (.tmp 0)))) (some (6, false)),
    .act (some 8) (.op (.pure (.bin .gtr (.tmp 7) (.const (.int .i64 65536))))) (some (6, false)),
    .act (some 9) (.op (.pure (.pick (.tmp 6) (.const (.bool true)) (.tmp 8)))) none])
  (.cond (.tmp 9)
   (.seq (.steps [
     .act (some 10) (.op (.pure (.build [(.slice none 0 0), (.slice none 0 0), (.int .i64 0), (.int .i64 0), (.int .i64 0), (.int .i64 0), (.int .i64 0), (.int .i64 0), (.int .i64 0), (.bool false)] []))) none,
     .act none (.op (.eff (.store 10 (.tmp 2) (.tmp 10)))) none,
     .act (some 3) (.op (.pure (.move (.const (.int .i64 2))))) none])
   .ret)
   .skip))
  (.seq (.steps [
    .act (some 11) (.op (.pure (.move (.tmp 0)))) none,
    .act (some 12) (.op (.new (.makeSlice 1 8 [(w64 0#64)] (.tmp 11) (.tmp 11)))) none,
    .act (some 13) (.op (.pure (.move (.tmp 0)))) none,
    .act (some 14) (.op (.new (.makeSlice 1 1 [(.bool false)] (.tmp 13) (.tmp 13)))) none,
    .act (some 15) (.op (.pure (.build [(.slice none 0 0), (.slice none 0 0), (.int .i64 0), (.int .i64 0), (.int .i64 0), (.int .i64 0), (.int .i64 0), (.int .i64 0), (.int .i64 0), (.bool false)] [(0, 1, (.tmp 12)), (1, 1, (.tmp 14)), (8, 1, (.const (.int .i64 (-1))))]))) none,
    .act none (.op (.eff (.store 10 (.tmp 2) (.tmp 15)))) none,
    .act (some 3) (.op (.pure (.move (.const (.int .i64 0))))) none])
  .ret))) }
theorem c20 : compFn Try.prog (mkPlan Try.prog) [] false 20 = some L20 := by kernel_rfl
/-- (*sluiceway/mem.Mem).Len -/
def L21 : LFun := { n := 10, pop := true, res := [.tmp 2], code :=
  (.seq (.steps [
    .act (some 2) (.op (.pure (.move (.const (.int .i64 0))))) none])
  (.seq (.seq (.steps [
    .act (some 3) (.op (.pure (.move (.tmp 0)))) none,
    .act (some 4) (.op (.pure (.eqNil .p false (.tmp 3) (.const (.pointer none))))) none])
  (.cond (.tmp 4)
   (.seq (.steps [
     .act (some 2) (.op (.pure (.move (.const (.int .i64 0))))) none])
   .ret)
   .skip))
  (.seq (.steps [
    .act (some 5) (.op (.pure (.move (.tmp 0)))) none,
    .act (some 6) (.op (.pure (.nilCheck (.tmp 5)))) none,
    .act (some 7) (.op (.pure (.fieldAddr 0 (.tmp 6)))) none,
    .act (some 8) (.op (.read (.load1 (.tmp 7)))) none,
    .act (some 9) (.op (.pure (.len false (.tmp 8)))) none,
    .act (some 2) (.op (.pure (.move (.tmp 9)))) none])
  .ret))) }
theorem c21 : compFn Try.prog (mkPlan Try.prog) [] true 21 = some L21 := by kernel_rfl
/-- sluiceway/sluicewaylaw02.step -/
def L22 : LFun := { n := 154, pop := false, res := [.loadN 10 6, .tmp 7], code :=
  (.seq (.steps [
    .act (some 4) (.op (.new (.box (.tmp 1)))) none,
    .act (some 5) (.op (.new (.box (.tmp 2)))) none,
    .act (some 6) (.op (.new (.alloc [(.slice none 0 0), (.slice none 0 0), (.int .i64 0), (.int .i64 0), (.int .i64 0), (.int .i64 0), (.int .i64 0), (.int .i64 0), (.int .i64 0), (.bool false)]))) none,
    .act (some 7) (.op (.pure (.move (.const (.bool false))))) none])
  (.seq (.seq (.steps [
    .act (some 15) (.op (.pure (.fieldAddr 0 (.tmp 5)))) none,
    .act (some 16) (.op (.read (.load1 (.tmp 15)))) none])
  (.block 0 (.seq (.steps [
     .act (some 18) (.op (.pure (.bin .eql (.tmp 16) (.const (.int .i64 6))))) none,
     .act (some 17) (.op (.pure (.move (.tmp 18)))) none])
   (.cond (.tmp 17)
    (.seq (.steps [
      .act (some 20) (.op (.read (.loadN 10 (.tmp 4)))) none,
      .act (some 21) (.op (.pure (.fieldAddr 1 (.tmp 5)))) none,
      .act (some 22) (.op (.read (.load1 (.tmp 21)))) none,
      .act (some 23) (.op (.pure (.fieldAddr 2 (.tmp 5)))) none,
      .act (some 24) (.op (.read (.load1 (.tmp 23)))) none,
      .act (some 25) (.call (.func 37) [(.tmp 20), (.tmp 22), (.tmp 24), (.const (.bool true))]) none,
      .act (some 19) (.op (.pure (.move (.tmp 25)))) none,
      .act (some 26) (.op (.pure (.extract (.tmp 19) 0))) none,
      .act (some 27) (.op (.pure (.extract (.tmp 19) 1))) none,
      .act (some 8) (.op (.new (.alloc [(.slice none 0 0), (.slice none 0 0), (.int .i64 0), (.int .i64 0), (.int .i64 0), (.int .i64 0), (.int .i64 0), (.int .i64 0), (.int .i64 0), (.bool false)]))) none,
      .act none (.op (.eff (.store 10 (.tmp 8) (.tmp 26)))) none,
      .act (some 9) (.op (.pure (.move (.tmp 27)))) none])
    (.seq (.steps [
      .act (some 28) (.op (.read (.loadN 10 (.tmp 8)))) none,
      .act (some 29) (.op (.pure (.move (.tmp 0)))) none,
      .act (some 30) (.op (.pure (.fieldAddr 1 (.tmp 5)))) none,
      .act (some 31) (.op (.read (.load1 (.tmp 30)))) none,
      .act (some 32) (.op (.pure (.fieldAddr 2 (.tmp 5)))) none,
      .act (some 33) (.op (.read (.load1 (.tmp 32)))) none,
      .act (some 35) (.op (.pure (.move (.tmp 9)))) none,
      .act (some 34) (.call (.func 25) [(.tmp 29), (.tmp 31), (.tmp 33)]) none,
      .act (some 36) (.op (.pure (.bin .eql (.tmp 34) (.tmp 35)))) none,
      .again 28 (.loadN 10 (.tmp 8)) none,
      .act none (.op (.eff (.store 10 (.tmp 6) (.tmp 28)))) none,
      .act (some 7) (.op (.pure (.move (.tmp 36)))) none])
    .ret))
    (.seq (.steps [
      .act (some 38) (.op (.pure (.bin .eql (.tmp 16) (.const (.int .i64 7))))) none,
      .act (some 37) (.op (.pure (.move (.tmp 38)))) none])
    (.cond (.tmp 37)
     (.seq (.steps [
       .act (some 40) (.op (.read (.loadN 10 (.tmp 4)))) none,
       .act (some 41) (.op (.pure (.fieldAddr 1 (.tmp 5)))) none,
       .act (some 42) (.op (.read (.load1 (.tmp 41)))) none,
       .act (some 43) (.op (.pure (.fieldAddr 2 (.tmp 5)))) none,
       .act (some 44) (.op (.read (.load1 (.tmp 43)))) none,
       .act (some 45) (.call (.func 37) [(.tmp 40), (.tmp 42), (.tmp 44), (.const (.bool false))]) none,
       .act (some 39) (.op (.pure (.move (.tmp 45)))) none,
       .act (some 46) (.op (.pure (.extract (.tmp 39) 0))) none,
       .act (some 47) (.op (.pure (.extract (.tmp 39) 1))) none,
       .act (some 10) (.op (.new (.alloc [(.slice none 0 0), (.slice none 0 0), (.int .i64 0), (.int .i64 0), (.int .i64 0), (.int .i64 0), (.int .i64 0), (.int .i64 0), (.int .i64 0), (.bool false)]))) none,
       .act none (.op (.eff (.store 10 (.tmp 10) (.tmp 46)))) none,
       .act (some 11) (.op (.pure (.move (.tmp 47)))) none])
     (.seq (.steps [
       .act (some 48) (.op (.read (.loadN 10 (.tmp 10)))) none,
       .act (some 49) (.op (.pure (.move (.tmp 0)))) none,
       .act (some 50) (.op (.pure (.fieldAddr 1 (.tmp 5)))) none,
       .act (some 51) (.op (.read (.load1 (.tmp 50)))) none,
       .act (some 52) (.op (.pure (.fieldAddr 2 (.tmp 5)))) none,
       .act (some 53) (.op (.read (.load1 (.tmp 52)))) none,
       .act (some 55) (.op (.pure (.move (.tmp 11)))) none,
       .act (some 54) (.call (.func 26) [(.tmp 49), (.tmp 51), (.tmp 53)]) none,
       .act (some 56) (.op (.pure (.bin .eql (.tmp 54) (.tmp 55)))) none,
       .again 48 (.loadN 10 (.tmp 10)) none,
       .act none (.op (.eff (.store 10 (.tmp 6) (.tmp 48)))) none,
       .act (some 7) (.op (.pure (.move (.tmp 56)))) none])
     .ret))
     .skip))))))
  (.seq (.steps [
    .act (some 58) (.op (.read (.loadN 10 (.tmp 4)))) none,
    .act (some 59) (.op (.pure (.fieldAddr 0 (.tmp 5)))) none,
    .act (some 60) (.op (.read (.load1 (.tmp 59)))) none,
    .act (some 61) (.op (.pure (.fieldAddr 1 (.tmp 5)))) none,
    .act (some 62) (.op (.read (.load1 (.tmp 61)))) none,
    .act (some 63) (.op (.pure (.fieldAddr 3 (.tmp 5)))) none,
    .act (some 64) (.op (.read (.loadN 4 (.tmp 63)))) none,
    .act (some 65) (.op (.pure (.build [(.int .i64 0), (.int .i64 0), (w64 0#64), (w64 0#64), (w64 0#64), (w64 0#64)] [(0, 1, (.tmp 60)), (1, 1, (.tmp 62)), (2, 4, (.tmp 64))]))) none,
    .act (some 66) (.call (.func 38) [(.tmp 58), (.tmp 65)]) none,
    .act (some 57) (.op (.pure (.move (.tmp 66)))) none,
    .act (some 67) (.op (.pure (.extract (.tmp 57) 0))) none,
    .act (some 68) (.op (.pure (.extract (.tmp 57) 1))) none,
    .act (some 69) (.op (.pure (.extract (.tmp 57) 2))) none,
    .act (some 12) (.op (.new (.alloc [(.slice none 0 0), (.slice none 0 0), (.int .i64 0), (.int .i64 0), (.int .i64 0), (.int .i64 0), (.int .i64 0), (.int .i64 0), (.int .i64 0), (.bool false)]))) none,
    .act none (.op (.eff (.store 10 (.tmp 12) (.tmp 67)))) none,
    .act (some 13) (.op (.pure (.move (.tmp 68)))) none,
    .act (some 14) (.op (.pure (.move (.tmp 69)))) none])
  (.seq (.seq (.steps [
    .act (some 70) (.op (.pure (.fieldAddr 0 (.tmp 5)))) none,
    .act (some 71) (.op (.read (.load1 (.tmp 70)))) none])
  (.block 1 (.seq (.steps [
     .act (some 73) (.op (.pure (.bin .eql (.tmp 71) (.const (.int .i64 0))))) none,
     .act (some 72) (.op (.pure (.move (.tmp 73)))) none])
   (.cond (.tmp 72)
    (.seq (.steps [
      .act (some 74) (.op (.read (.loadN 10 (.tmp 12)))) none,
      .act (some 75) (.op (.pure (.move (.tmp 0)))) none,
      .act (some 76) (.op (.pure (.fieldAddr 1 (.tmp 5)))) none,
      .act (some 77) (.op (.read (.load1 (.tmp 76)))) none,
      .act (some 79) (.op (.pure (.move (.tmp 13)))) none,
      .act (some 78) (.call (.func 11) [(.tmp 75), (.tmp 77)]) none,
      .act (some 80) (.op (.pure (.bin .eql (.tmp 78) (.tmp 79)))) none,
      .again 74 (.loadN 10 (.tmp 12)) none,
      .act none (.op (.eff (.store 10 (.tmp 6) (.tmp 74)))) none,
      .act (some 7) (.op (.pure (.move (.tmp 80)))) none])
    .ret)
    (.seq (.steps [
      .act (some 82) (.op (.pure (.bin .eql (.tmp 71) (.const (.int .i64 1))))) none,
      .act (some 81) (.op (.pure (.move (.tmp 82)))) none])
    (.cond (.tmp 81)
     (.seq (.steps [
       .act (some 83) (.op (.pure (.move (.tmp 0)))) none,
       .act (some 84) (.op (.pure (.fieldAddr 1 (.tmp 5)))) none,
       .act (some 85) (.op (.read (.load1 (.tmp 84)))) none,
       .act (some 86) (.op (.pure (.fieldAddr 3 (.tmp 5)))) none,
       .act (some 87) (.op (.pure (.idxArr 4 1 (.tmp 86) (.const (.int .i64 0))))) none,
       .act (some 88) (.op (.read (.load1 (.tmp 87)))) none,
       .act (some 89) (.call (.func 9) [(.tmp 83), (.tmp 85), (.tmp 88)]) none])
     (.seq (.steps [
       .act (some 90) (.op (.read (.loadN 10 (.tmp 12)))) none,
       .act none (.op (.eff (.store 10 (.tmp 6) (.tmp 90)))) none,
       .act (some 7) (.op (.pure (.move (.const (.bool true))))) none])
     .ret))
     (.seq (.steps [
       .act (some 92) (.op (.pure (.bin .eql (.tmp 71) (.const (.int .i64 2))))) none,
       .act (some 91) (.op (.pure (.move (.tmp 92)))) none])
     (.cond (.tmp 91)
      (.seq (.steps [
        .act (some 93) (.op (.read (.loadN 10 (.tmp 12)))) none,
        .act (some 94) (.op (.pure (.move (.tmp 0)))) none,
        .act (some 95) (.op (.pure (.fieldAddr 1 (.tmp 5)))) none,
        .act (some 96) (.op (.read (.load1 (.tmp 95)))) none,
        .act (some 97) (.op (.pure (.fieldAddr 3 (.tmp 5)))) none,
        .act (some 98) (.op (.pure (.idxArr 4 1 (.tmp 97) (.const (.int .i64 0))))) none,
        .act (some 99) (.op (.read (.load1 (.tmp 98)))) none,
        .act (some 100) (.op (.pure (.fieldAddr 3 (.tmp 5)))) none,
        .act (some 101) (.op (.pure (.idxArr 4 1 (.tmp 100) (.const (.int .i64 1))))) none,
        .act (some 102) (.op (.read (.load1 (.tmp 101)))) none,
        .act (some 104) (.op (.pure (.move (.tmp 14)))) none,
        .act (some 103) (.call (.func 10) [(.tmp 94), (.tmp 96), (.tmp 99), (.tmp 102)]) none,
        .act (some 105) (.op (.pure (.eqB false (.tmp 103) (.tmp 104)))) none,
        .again 93 (.loadN 10 (.tmp 12)) none,
        .act none (.op (.eff (.store 10 (.tmp 6) (.tmp 93)))) none,
        .act (some 7) (.op (.pure (.move (.tmp 105)))) none])
      .ret)
      (.seq (.steps [
        .act (some 107) (.op (.pure (.bin .eql (.tmp 71) (.const (.int .i64 3))))) none,
        .act (some 106) (.op (.pure (.move (.tmp 107)))) none])
      (.cond (.tmp 106)
       (.seq (.steps [
         .act (some 108) (.op (.read (.loadN 10 (.tmp 12)))) none,
         .act (some 109) (.op (.pure (.move (.tmp 0)))) none,
         .act (some 110) (.op (.pure (.fieldAddr 1 (.tmp 5)))) none,
         .act (some 111) (.op (.read (.load1 (.tmp 110)))) none,
         .act (some 112) (.op (.pure (.fieldAddr 3 (.tmp 5)))) none,
         .act (some 113) (.op (.pure (.idxArr 4 1 (.tmp 112) (.const (.int .i64 0))))) none,
         .act (some 114) (.op (.read (.load1 (.tmp 113)))) none,
         .act (some 116) (.op (.pure (.move (.tmp 13)))) none,
         .act (some 115) (.call (.func 12) [(.tmp 109), (.tmp 111), (.tmp 114)]) none,
         .act (some 117) (.op (.pure (.bin .eql (.tmp 115) (.tmp 116)))) none,
         .again 108 (.loadN 10 (.tmp 12)) none,
         .act none (.op (.eff (.store 10 (.tmp 6) (.tmp 108)))) none,
         .act (some 7) (.op (.pure (.move (.tmp 117)))) none])
       .ret)
       (.seq (.steps [
         .act (some 119) (.op (.pure (.bin .eql (.tmp 71) (.const (.int .i64 4))))) none,
         .act (some 118) (.op (.pure (.move (.tmp 119)))) none])
       (.cond (.tmp 118)
        (.seq (.steps [
          .act (some 120) (.op (.read (.loadN 10 (.tmp 12)))) none,
          .act (some 121) (.op (.pure (.move (.tmp 0)))) none,
          .act (some 122) (.op (.pure (.fieldAddr 1 (.tmp 5)))) none,
          .act (some 123) (.op (.read (.load1 (.tmp 122)))) none,
          .act (some 124) (.op (.pure (.fieldAddr 3 (.tmp 5)))) none,
          .act (some 125) (.op (.pure (.idxArr 4 1 (.tmp 124) (.const (.int .i64 0))))) none,
          .act (some 126) (.op (.read (.load1 (.tmp 125)))) none,
          .act (some 128) (.op (.pure (.move (.tmp 13)))) none,
          .act (some 127) (.call (.func 13) [(.tmp 121), (.tmp 123), (.tmp 126)]) none,
          .act (some 129) (.op (.pure (.bin .eql (.tmp 127) (.tmp 128)))) none,
          .again 120 (.loadN 10 (.tmp 12)) none,
          .act none (.op (.eff (.store 10 (.tmp 6) (.tmp 120)))) none,
          .act (some 7) (.op (.pure (.move (.tmp 129)))) none])
        .ret)
        (.seq (.steps [
          .act (some 131) (.op (.pure (.bin .eql (.tmp 71) (.const (.int .i64 5))))) none,
          .act (some 130) (.op (.pure (.move (.tmp 131)))) none])
        (.cond (.tmp 130)
         (.seq (.steps [
           .act (some 132) (.op (.read (.loadN 10 (.tmp 12)))) none,
           .act (some 133) (.op (.pure (.move (.tmp 0)))) none,
           .act (some 134) (.op (.pure (.fieldAddr 1 (.tmp 5)))) none,
           .act (some 135) (.op (.read (.load1 (.tmp 134)))) none,
           .act (some 136) (.op (.pure (.fieldAddr 3 (.tmp 5)))) none,
           .act (some 137) (.op (.pure (.idxArr 4 1 (.tmp 136) (.const (.int .i64 0))))) none,
           .act (some 138) (.op (.read (.load1 (.tmp 137)))) none,
           .act (some 139) (.op (.pure (.fieldAddr 3 (.tmp 5)))) none,
           .act (some 140) (.op (.pure (.idxArr 4 1 (.tmp 139) (.const (.int .i64 1))))) none,
           .act (some 141) (.op (.read (.load1 (.tmp 140)))) none,
           .act (some 142) (.op (.pure (.build [(w64 0#64), (w64 0#64)] [(0, 1, (.tmp 138)), (1, 1, (.tmp 141))]))) none,
           .act (some 143) (.op (.pure (.fieldAddr 3 (.tmp 5)))) none,
           .act (some 144) (.op (.pure (.idxArr 4 1 (.tmp 143) (.const (.int .i64 2))))) none,
           .act (some 145) (.op (.read (.load1 (.tmp 144)))) none,
           .act (some 146) (.op (.pure (.fieldAddr 3 (.tmp 5)))) none,
           .act (some 147) (.op (.pure (.idxArr 4 1 (.tmp 146) (.const (.int .i64 3))))) none,
           .act (some 148) (.op (.read (.load1 (.tmp 147)))) none,
           .act (some 149) (.op (.pure (.build [(w64 0#64), (w64 0#64)] [(0, 1, (.tmp 145)), (1, 1, (.tmp 148))]))) none,
           .act (some 151) (.op (.pure (.move (.tmp 14)))) none,
           .act (some 150) (.call (.func 18) [(.tmp 133), (.tmp 135), (.tmp 142), (.tmp 149)]) none,
           .act (some 152) (.op (.pure (.eqB false (.tmp 150) (.tmp 151)))) none,
           .again 132 (.loadN 10 (.tmp 12)) none,
           .act none (.op (.eff (.store 10 (.tmp 6) (.tmp 132)))) none,
           .act (some 7) (.op (.pure (.move (.tmp 152)))) none])
         .ret)
         .skip))))))))))))))
  (.seq (.steps [
    .act (some 153) (.op (.read (.loadN 10 (.tmp 12)))) none,
    .act none (.op (.eff (.store 10 (.tmp 6) (.tmp 153)))) none,
    .act (some 7) (.op (.pure (.move (.const (.bool true))))) none])
  .ret))))) }
theorem c22 : compFn Try.prog (mkPlan Try.prog) [] false 22 = some L22 := by kernel_rfl
/-- (*sluiceway/mem.Mem).Barred -/
def L23 : LFun := { n := 22, pop := true, res := [.tmp 4], code :=
  (.seq (.steps [
    .act (some 4) (.op (.pure (.move (.const (.bool false))))) none])
  (.seq (.steps [
    .act (some 5) (.op (.pure (.move (.tmp 1)))) none,
    .act (some 6) (.op (.pure (.bin .lss (.tmp 5) (.const (.int .i64 0))))) none,
    .act (some 7) (.op (.pure (.move (.tmp 6)))) none,
    .act (some 8) (.op (.pure (.move (.tmp 1)))) (some (7, false)),
    .act (some 9) (.op (.pure (.move (.tmp 0)))) (some (7, false)),
    .act (some 10) (.call (.func 21) [(.tmp 9)]) (some (7, false)),
    .act (some 11) (.op (.pure (.bin .geq (.tmp 8) (.tmp 10)))) (some (7, false)),
    .act (some 12) (.op (.pure (.pick (.tmp 7) (.const (.bool true)) (.tmp 11)))) none,
    .act (some 13) (.op (.pure (.move (.tmp 12)))) none,
    .act (some 14) (.op (.pure (.move (.tmp 0)))) (some (13, false)),
    .act (some 15) (.op (.pure (.nilCheck (.tmp 14)))) (some (13, false)),
    .act (some 16) (.op (.pure (.fieldAddr 1 (.tmp 15)))) (some (13, false)),
    .act (some 17) (.op (.read (.load1 (.tmp 16)))) (some (13, false)),
    .act (some 18) (.op (.pure (.move (.tmp 1)))) (some (13, false)),
    .act (some 19) (.op (.pure (.idxSl 1 (.tmp 17) (.tmp 18)))) (some (13, false)),
    .act (some 20) (.op (.read (.load1 (.tmp 19)))) (some (13, false)),
    .act (some 21) (.op (.pure (.pick (.tmp 13) (.const (.bool true)) (.tmp 20)))) none,
    .act (some 4) (.op (.pure (.move (.tmp 21)))) none])
  .ret)) }
theorem c23 : compFn Try.prog (mkPlan Try.prog) [] true 23 = some L23 := by kernel_rfl
/-- (*sluiceway/mem.Mem).Count -/
def L24 : LFun := { n := 21, pop := true, res := [.tmp 4], code :=
  (.seq (.steps [
    .act (some 4) (.op (.pure (.move (.const (.int .i64 0))))) none])
  (.seq (.seq (.steps [
    .act (some 5) (.op (.pure (.move (.tmp 0)))) none,
    .act (some 6) (.call (.func 33) [(.tmp 5)]) none,
    .act (some 7) (.op (.pure (.move (.tmp 6)))) none,
    .act (some 8) (.op (.pure (.move (.tmp 1)))) (some (7, false)),
    .act (some 9) (.op (.pure (.bin .lss (.tmp 8) (.const (.int .i64 0))))) (some (7, false)),
    .act (some 10) (.op (.pure (.pick (.tmp 7) (.const (.bool true)) (.tmp 9)))) none,
    .act (some 11) (.op (.pure (.move (.tmp 10)))) none,
    .act (some 12) (.op (.pure (.move (.tmp 1)))) (some (11, false)),
    .act (some 13) (.op (.pure (.bin .geq (.tmp 12) (.const (.int .i64 6))))) (some (11, false)),
    .act (some 14) (.op (.pure (.pick (.tmp 11) (.const (.bool true)) (.tmp 13)))) none])
  (.cond (.tmp 14)
   (.seq (.steps [
     .act (some 4) (.op (.pure (.move (.const (.int .i64 0))))) none])
   .ret)
   .skip))
  (.seq (.steps [
    .act (some 15) (.op (.pure (.move (.tmp 0)))) none,
    .act (some 16) (.op (.pure (.move (.tmp 1)))) none,
    .act (some 17) (.op (.pure (.nilCheck (.tmp 15)))) none,
    .act (some 18) (.op (.pure (.fieldAddr 2 (.tmp 17)))) none,
    .act (some 19) (.op (.pure (.idxArr 6 1 (.tmp 18) (.tmp 16)))) none,
    .act (some 20) (.op (.read (.load1 (.tmp 19)))) none,
    .act (some 4) (.op (.pure (.move (.tmp 20)))) none])
  .ret))) }
theorem c24 : compFn Try.prog (mkPlan Try.prog) [] true 24 = some L24 := by kernel_rfl
/-- (*sluiceway/mem.Mem).Bar -/
def L25 : LFun := { n := 11, pop := true, res := [.tmp 6], code :=
  (.seq (.steps [
    .act (some 6) (.op (.pure (.move (.const (.int .i64 0))))) none])
  (.seq (.steps [
    .act (some 7) (.op (.pure (.move (.tmp 0)))) none,
    .act (some 8) (.op (.pure (.move (.tmp 1)))) none,
    .act (some 9) (.op (.pure (.move (.tmp 2)))) none,
    .act (some 10) (.call (.func 39) [(.tmp 7), (.tmp 8), (.tmp 9), (.const (.bool true))]) none,
    .act (some 6) (.op (.pure (.move (.tmp 10)))) none])
  .ret)) }
theorem c25 : compFn Try.prog (mkPlan Try.prog) [] true 25 = some L25 := by kernel_rfl
/-- (*sluiceway/mem.Mem).Free -/
def L26 : LFun := { n := 24, pop := true, res := [.tmp 6], code :=
  (.seq (.steps [
    .act (some 6) (.op (.pure (.move (.const (.int .i64 0))))) none])
  (.seq (.steps [
    .act (some 8) (.op (.pure (.move (.tmp 0)))) none,
    .act (some 9) (.op (.pure (.move (.tmp 1)))) none,
    .act (some 10) (.op (.pure (.move (.tmp 2)))) none,
    .act (some 11) (.call (.func 39) [(.tmp 8), (.tmp 9), (.tmp 10), (.const (.bool false))]) none,
    .act (some 7) (.op (.pure (.move (.tmp 11)))) none])
  (.seq (.seq (.steps [
    .act (some 12) (.op (.pure (.move (.tmp 7)))) none,
    .act (some 13) (.op (.pure (.bin .eql (.tmp 12) (.const (.int .i64 0))))) none])
  (.cond (.tmp 13)
   (.steps [
     .act (some 14) (.op (.pure (.move (.tmp 0)))) none,
     .act (some 15) (.op (.pure (.nilCheck (.tmp 14)))) none,
     .act (some 16) (.op (.pure (.fieldAddr 0 (.tmp 15)))) none,
     .act (some 17) (.op (.read (.load1 (.tmp 16)))) none,
     .act (some 18) (.op (.pure (.move (.tmp 1)))) none,
     .act (some 19) (.op (.pure (.move (.tmp 1)))) none,
     .act (some 20) (.op (.pure (.move (.tmp 2)))) none,
     .act (some 21) (.op (.pure (.bin .add (.tmp 19) (.tmp 20)))) none,
     .act (some 22) (.op (.read (.slSl 1 (.tmp 17) (some (.tmp 18)) (some (.tmp 21)) none))) none,
     .act none (.op (.eff (.clear 1 [(w64 0#64)] (.tmp 22)))) none])
   .skip))
  (.seq (.steps [
    .act (some 23) (.op (.pure (.move (.tmp 7)))) none,
    .act (some 6) (.op (.pure (.move (.tmp 23)))) none])
  .ret)))) }
theorem c26 : compFn Try.prog (mkPlan Try.prog) [] true 26 = some L26 := by kernel_rfl
/-- (*sluiceway/mem.Mem).use -/
def L27 : LFun := { n := 34, pop := true, res := [], code :=
  (.seq (.seq (.steps [
    .act (some 8) (.op (.pure (.move (.tmp 0)))) none,
    .act (some 9) (.call (.func 33) [(.tmp 8)]) none])
  (.cond (.tmp 9)
   .ret
   .skip))
  (.seq (.steps [
    .act (some 10) (.op (.pure (.move (.tmp 0)))) none,
    .act (some 11) (.op (.pure (.move (.tmp 1)))) none,
    .act (some 12) (.op (.pure (.nilCheck (.tmp 10)))) none,
    .act (some 13) (.op (.pure (.fieldAddr 2 (.tmp 12)))) none,
    .act (some 14) (.op (.pure (.idxArr 6 1 (.tmp 13) (.tmp 11)))) none,
    .act (some 15) (.op (.read (.load1 (.tmp 14)))) none,
    .act (some 16) (.op (.pure (.bin .add (.tmp 15) (.const (.int .i64 1))))) none,
    .act (some 17) (.op (.pure (.nilCheck (.tmp 10)))) none,
    .act (some 18) (.op (.pure (.fieldAddr 2 (.tmp 17)))) none,
    .act (some 19) (.op (.pure (.idxArr 6 1 (.tmp 18) (.tmp 11)))) none,
    .act none (.op (.eff (.store 1 (.tmp 19) (.tmp 16)))) none])
  (.seq (.seq (.steps [
    .act (some 20) (.op (.pure (.move (.tmp 0)))) none,
    .act (some 21) (.op (.pure (.move (.tmp 2)))) none,
    .act (some 22) (.call (.func 23) [(.tmp 20), (.tmp 21)]) none])
  (.cond (.tmp 22)
   (.seq (.steps [
     .act (some 23) (.op (.pure (.move (.tmp 0)))) none,
     .act (some 24) (.op (.pure (.move (.tmp 2)))) none,
     .act (some 25) (.call (.func 36) [(.tmp 23), (.tmp 24)]) none])
   .ret)
   .skip))
  (.steps [
    .act (some 26) (.op (.pure (.move (.tmp 3)))) none,
    .act (some 27) (.op (.pure (.move (.tmp 0)))) none,
    .act (some 28) (.op (.pure (.nilCheck (.tmp 27)))) none,
    .act (some 29) (.op (.pure (.fieldAddr 0 (.tmp 28)))) none,
    .act (some 30) (.op (.read (.load1 (.tmp 29)))) none,
    .act (some 31) (.op (.pure (.move (.tmp 2)))) none,
    .act (some 32) (.op (.pure (.idxSl 1 (.tmp 30) (.tmp 31)))) none,
    .act (some 33) (.call (.tmp 26) [(.tmp 32)]) none])))) }
theorem c27 : compFn Try.prog (mkPlan Try.prog) [] true 27 = some L27 := by kernel_rfl
/-- (*sluiceway/mem.Mem).Store$1 -/
def L28 : LFun := { n := 6, pop := true, res := [], code :=
  (.steps [
    .act (some 3) (.op (.pure (.move (.tmp 0)))) none,
    .act (some 4) (.op (.read (.load1 (.tmp 1)))) none,
    .act (some 5) (.op (.pure (.nilCheck (.tmp 3)))) none,
    .act none (.op (.eff (.store 1 (.tmp 5) (.tmp 4)))) none]) }
theorem c28 : compFn Try.prog (mkPlan Try.prog) [] true 28 = some L28 := by kernel_rfl
/-- (*sluiceway/mem.Mem).Swap$1 -/
def L29 : LFun := { n := 14, pop := true, res := [], code :=
  (.seq (.steps [
    .act (some 5) (.op (.pure (.move (.tmp 0)))) none,
    .act (some 6) (.op (.pure (.nilCheck (.tmp 5)))) none,
    .act (some 7) (.op (.read (.load1 (.tmp 6)))) none,
    .act (some 8) (.op (.read (.load1 (.tmp 1)))) none,
    .act (some 9) (.op (.pure (.bin .eql (.tmp 7) (.tmp 8)))) none,
    .act none (.op (.eff (.store 1 (.tmp 2) (.tmp 9)))) none])
  (.seq (.steps [
    .act (some 10) (.op (.read (.load1 (.tmp 2)))) none])
  (.cond (.tmp 10)
   (.steps [
     .act (some 11) (.op (.pure (.move (.tmp 0)))) none,
     .act (some 12) (.op (.read (.load1 (.tmp 3)))) none,
     .act (some 13) (.op (.pure (.nilCheck (.tmp 11)))) none,
     .act none (.op (.eff (.store 1 (.tmp 13) (.tmp 12)))) none])
   .skip))) }
theorem c29 : compFn Try.prog (mkPlan Try.prog) [] true 29 = some L29 := by kernel_rfl
/-- (*sluiceway/mem.Mem).Load$1 -/
def L30 : LFun := { n := 6, pop := true, res := [], code :=
  (.steps [
    .act (some 3) (.op (.pure (.move (.tmp 0)))) none,
    .act (some 4) (.op (.pure (.nilCheck (.tmp 3)))) none,
    .act (some 5) (.op (.read (.load1 (.tmp 4)))) none,
    .act none (.op (.eff (.store 1 (.tmp 1) (.tmp 5)))) none]) }
theorem c30 : compFn Try.prog (mkPlan Try.prog) [] true 30 = some L30 := by kernel_rfl
/-- (*sluiceway/mem.Mem).Add$1 -/
def L31 : LFun := { n := 13, pop := true, res := [], code :=
  (.seq (.steps [
    .act (some 4) (.op (.pure (.move (.tmp 0)))) none,
    .act (some 5) (.op (.pure (.nilCheck (.tmp 4)))) none,
    .act (some 6) (.op (.read (.load1 (.tmp 5)))) none,
    .act none (.op (.eff (.store 1 (.tmp 1) (.tmp 6)))) none])
  (.steps [
    .act (some 7) (.op (.pure (.move (.tmp 0)))) none,
    .act (some 8) (.op (.pure (.nilCheck (.tmp 7)))) none,
    .act (some 9) (.op (.read (.load1 (.tmp 8)))) none,
    .act (some 10) (.op (.read (.load1 (.tmp 2)))) none,
    .act (some 11) (.op (.pure (.bin .add (.tmp 9) (.tmp 10)))) none,
    .act (some 12) (.op (.pure (.nilCheck (.tmp 7)))) none,
    .act none (.op (.eff (.store 1 (.tmp 12) (.tmp 11)))) none])) }
theorem c31 : compFn Try.prog (mkPlan Try.prog) [] true 31 = some L31 := by kernel_rfl
/-- (*sluiceway/mem.Mem).Or$1 -/
def L32 : LFun := { n := 13, pop := true, res := [], code :=
  (.seq (.steps [
    .act (some 4) (.op (.pure (.move (.tmp 0)))) none,
    .act (some 5) (.op (.pure (.nilCheck (.tmp 4)))) none,
    .act (some 6) (.op (.read (.load1 (.tmp 5)))) none,
    .act none (.op (.eff (.store 1 (.tmp 1) (.tmp 6)))) none])
  (.steps [
    .act (some 7) (.op (.pure (.move (.tmp 0)))) none,
    .act (some 8) (.op (.pure (.nilCheck (.tmp 7)))) none,
    .act (some 9) (.op (.read (.load1 (.tmp 8)))) none,
    .act (some 10) (.op (.read (.load1 (.tmp 2)))) none,
    .act (some 11) (.op (.pure (.bin .or (.tmp 9) (.tmp 10)))) none,
    .act (some 12) (.op (.pure (.nilCheck (.tmp 7)))) none,
    .act none (.op (.eff (.store 1 (.tmp 12) (.tmp 11)))) none])) }
theorem c32 : compFn Try.prog (mkPlan Try.prog) [] true 32 = some L32 := by kernel_rfl
/-- (*sluiceway/mem.Mem).none -/
def L33 : LFun := { n := 13, pop := true, res := [.tmp 2], code :=
  (.seq (.steps [
    .act (some 2) (.op (.pure (.move (.const (.bool false))))) none])
  (.seq (.steps [
    .act (some 3) (.op (.pure (.move (.tmp 0)))) none,
    .act (some 4) (.op (.pure (.eqNil .p false (.tmp 3) (.const (.pointer none))))) none,
    .act (some 5) (.op (.pure (.move (.tmp 4)))) none,
    .act (some 6) (.op (.pure (.move (.tmp 0)))) (some (5, false)),
    .act (some 7) (.op (.pure (.nilCheck (.tmp 6)))) (some (5, false)),
    .act (some 8) (.op (.pure (.fieldAddr 0 (.tmp 7)))) (some (5, false)),
    .act (some 9) (.op (.read (.load1 (.tmp 8)))) (some (5, false)),
    .act (some 10) (.op (.pure (.len false (.tmp 9)))) (some (5, false)),
    .act (some 11) (.op (.pure (.bin .eql (.tmp 10) (.const (.int .i64 0))))) (some (5, false)),
    .act (some 12) (.op (.pure (.pick (.tmp 5) (.const (.bool true)) (.tmp 11)))) none,
    .act (some 2) (.op (.pure (.move (.tmp 12)))) none])
  .ret)) }
theorem c33 : compFn Try.prog (mkPlan Try.prog) [] true 33 = some L33 := by kernel_rfl
/-- slices.Clone[[]uint64,uint64] -/
def L34 : LFun := { n := 8, pop := false, res := [.tmp 2], code :=
  (.seq (.steps [
    .act (some 2) (.op (.pure (.move (.const (.slice none 0 0))))) none])
  (.seq (.seq (.steps [
    .act (some 3) (.op (.pure (.move (.tmp 0)))) none,
    .act (some 4) (.op (.pure (.eqNil .s false (.tmp 3) (.const (.slice none 0 0))))) none])
  (.cond (.tmp 4)
   (.seq (.steps [
     .act (some 2) (.op (.pure (.move (.const (.slice none 0 0))))) none])
   .ret)
   .skip))
  (.seq (.steps [
    .act (some 5) (.op (.new (.mkSlice 1 0 [] []))) none,
    .act (some 6) (.op (.pure (.move (.tmp 0)))) none,
    .act (some 7) (.op (.eff (.append 1 8 (.tmp 5) (.tmp 6)))) none,
    .act (some 2) (.op (.pure (.move (.tmp 7)))) none])
  .ret))) }
theorem c34 : compFn Try.prog (mkPlan Try.prog) [] false 34 = some L34 := by kernel_rfl
/-- slices.Clone[[]bool,bool] -/
def L35 : LFun := { n := 8, pop := false, res := [.tmp 2], code :=
  (.seq (.steps [
    .act (some 2) (.op (.pure (.move (.const (.slice none 0 0))))) none])
  (.seq (.seq (.steps [
    .act (some 3) (.op (.pure (.move (.tmp 0)))) none,
    .act (some 4) (.op (.pure (.eqNil .s false (.tmp 3) (.const (.slice none 0 0))))) none])
  (.cond (.tmp 4)
   (.seq (.steps [
     .act (some 2) (.op (.pure (.move (.const (.slice none 0 0))))) none])
   .ret)
   .skip))
  (.seq (.steps [
    .act (some 5) (.op (.new (.mkSlice 1 0 [] []))) none,
    .act (some 6) (.op (.pure (.move (.tmp 0)))) none,
    .act (some 7) (.op (.eff (.append 1 1 (.tmp 5) (.tmp 6)))) none,
    .act (some 2) (.op (.pure (.move (.tmp 7)))) none])
  .ret))) }
theorem c35 : compFn Try.prog (mkPlan Try.prog) [] false 35 = some L35 := by kernel_rfl
/-- (*sluiceway/mem.Mem).fall -/
def L36 : LFun := { n := 16, pop := true, res := [], code :=
  (.seq (.steps [
    .act (some 4) (.op (.pure (.move (.tmp 0)))) none,
    .act (some 5) (.op (.pure (.nilCheck (.tmp 4)))) none,
    .act (some 6) (.op (.pure (.fieldAddr 9 (.tmp 5)))) none,
    .act (some 7) (.op (.read (.load1 (.tmp 6)))) none,
    .act (some 8) (.op (.pure (.not (.tmp 7)))) none])
  (.cond (.tmp 8)
   (.steps [
     .act (some 9) (.op (.pure (.move (.tmp 0)))) none,
     .act (some 10) (.op (.pure (.move (.tmp 0)))) none,
     .act (some 11) (.op (.pure (.move (.tmp 1)))) none,
     .act (some 12) (.op (.pure (.nilCheck (.tmp 9)))) none,
     .act (some 13) (.op (.pure (.fieldAddr 8 (.tmp 12)))) none,
     .act none (.op (.eff (.store 1 (.tmp 13) (.tmp 11)))) none,
     .act (some 14) (.op (.pure (.nilCheck (.tmp 10)))) none,
     .act (some 15) (.op (.pure (.fieldAddr 9 (.tmp 14)))) none,
     .act none (.op (.eff (.store 1 (.tmp 15) (.const (.bool true))))) none])
   .skip)) }
theorem c36 : compFn Try.prog (mkPlan Try.prog) [] true 36 = some L36 := by kernel_rfl
/-- (sluiceway/sluicewayref02.Mem).Set -/
def L37 : LFun := { n := 64, pop := false, res := [.loadN 10 8, .tmp 9], code :=
  (.seq (.steps [
    .act (some 4) (.op (.new (.box (.tmp 0)))) none,
    .act (some 8) (.op (.new (.alloc [(.slice none 0 0), (.slice none 0 0), (.int .i64 0), (.int .i64 0), (.int .i64 0), (.int .i64 0), (.int .i64 0), (.int .i64 0), (.int .i64 0), (.bool false)]))) none,
    .act (some 9) (.op (.pure (.move (.const (.int .i64 0))))) none])
  (.seq (.seq (.steps [
    .act (some 11) (.op (.pure (.move (.tmp 2)))) none,
    .act (some 12) (.op (.pure (.bin .lss (.tmp 11) (.const (.int .i64 1))))) none,
    .act (some 13) (.op (.pure (.move (.tmp 12)))) none,
    .act (some 14) (.op (.pure (.move (.tmp 1)))) (some (13, false)),
    .act (some 15) (.op (.pure (.bin .lss (.tmp 14) (.const (.int .i64 0))))) (some (13, false)),
    .act (some 16) (.op (.pure (.pick (.tmp 13) (.const (.bool true)) (.tmp 15)))) none,
    .act (some 17) (.op (.pure (.move (.tmp 16)))) none,
    .act (some 18) (.op (.pure (.move (.tmp 1)))) (some (17, false)),
    .act (some 19) (.op (.pure (.fieldAddr 0 (.tmp 4)))) (some (17, false)),
    .act (some 20) (.op (.read (.load1 (.tmp 19)))) (some (17, false)),
    .act (some 21) (.op (.pure (.len false (.tmp 20)))) (some (17, false)),
    .act (some 22) (.op (.pure (.bin .geq (.tmp 18) (.tmp 21)))) (some (17, false)),
    .act (some 23) (.op (.pure (.pick (.tmp 17) (.const (.bool true)) (.tmp 22)))) none,
    .act (some 24) (.op (.pure (.move (.tmp 23)))) none,
    .act (some 25) (.op (.pure (.move (.tmp 2)))) (some (24, false)),
    .act (some 26) (.op (.pure (.fieldAddr 0 (.tmp 4)))) (some (24, false)),
    .act (some 27) (.op (.read (.load1 (.tmp 26)))) (some (24, false)),
    .act (some 28) (.op (.pure (.len false (.tmp 27)))) (some (24, false)),
    .act (some 29) (.op (.pure (.move (.tmp 1)))) (some (24, false)),
    .act (some 30) (.op (.pure (.bin .sub (.tmp 28) (.tmp 29)))) (some (24, false)),
    .act (some 31) (.op (.pure (.bin .gtr (.tmp 25) (.tmp 30)))) (some (24, false)),
    .act (some 32) (.op (.pure (.pick (.tmp 24) (.const (.bool true)) (.tmp 31)))) none])
  (.cond (.tmp 32)
   (.seq (.steps [
     .act (some 33) (.op (.read (.loadN 10 (.tmp 4)))) none,
     .act none (.op (.eff (.store 10 (.tmp 8) (.tmp 33)))) none,
     .act (some 9) (.op (.pure (.move (.const (.int .i64 2))))) none])
   .ret)
   .skip))
  (.seq (.steps [
    .act (some 34) (.op (.new (.mkSlice 1 0 [] []))) none,
    .act (some 35) (.op (.pure (.fieldAddr 0 (.tmp 4)))) none,
    .act (some 36) (.op (.read (.load1 (.tmp 35)))) none,
    .act (some 37) (.op (.eff (.append 1 8 (.tmp 34) (.tmp 36)))) none,
    .act (some 38) (.op (.pure (.fieldAddr 0 (.tmp 4)))) none,
    .act none (.op (.eff (.store 1 (.tmp 38) (.tmp 37)))) none])
  (.seq (.steps [
    .act (some 39) (.op (.new (.mkSlice 1 0 [] []))) none,
    .act (some 40) (.op (.pure (.fieldAddr 1 (.tmp 4)))) none,
    .act (some 41) (.op (.read (.load1 (.tmp 40)))) none,
    .act (some 42) (.op (.eff (.append 1 1 (.tmp 39) (.tmp 41)))) none,
    .act (some 43) (.op (.pure (.fieldAddr 1 (.tmp 4)))) none,
    .act none (.op (.eff (.store 1 (.tmp 43) (.tmp 42)))) none])
  (.seq (.seq (.steps [
    .act (some 44) (.op (.pure (.move (.tmp 1)))) none,
    .act (some 10) (.op (.pure (.move (.tmp 44)))) none])
  (.block 0 (.loop [1, 2, 3, 4, 8, 10] (.seq (.seq (.steps [
      .act (some 45) (.op (.pure (.move (.tmp 10)))) none,
      .act (some 46) (.op (.pure (.move (.tmp 1)))) none,
      .act (some 47) (.op (.pure (.move (.tmp 2)))) none,
      .act (some 48) (.op (.pure (.bin .add (.tmp 46) (.tmp 47)))) none,
      .act (some 49) (.op (.pure (.bin .lss (.tmp 45) (.tmp 48)))) none])
    (.cond (.tmp 49)
     .skip
     (.exit 0)))
    (.seq (.block 1 (.seq (.steps [
       .act (some 52) (.op (.pure (.fieldAddr 1 (.tmp 4)))) none,
       .act (some 53) (.op (.read (.load1 (.tmp 52)))) none,
       .act (some 54) (.op (.pure (.move (.tmp 10)))) none,
       .act (some 55) (.op (.pure (.move (.tmp 3)))) none,
       .act (some 56) (.op (.pure (.idxSl 1 (.tmp 53) (.tmp 54)))) none,
       .act none (.op (.eff (.store 1 (.tmp 56) (.tmp 55)))) none])
     (.seq (.steps [
       .act (some 57) (.op (.pure (.move (.tmp 3)))) none,
       .act (some 58) (.op (.pure (.not (.tmp 57)))) none])
     (.cond (.tmp 58)
      (.steps [
        .act (some 59) (.op (.pure (.fieldAddr 0 (.tmp 4)))) none,
        .act (some 60) (.op (.read (.load1 (.tmp 59)))) none,
        .act (some 61) (.op (.pure (.move (.tmp 10)))) none,
        .act (some 62) (.op (.pure (.idxSl 1 (.tmp 60) (.tmp 61)))) none,
        .act none (.op (.eff (.store 1 (.tmp 62) (.const (w64 0#64))))) none])
      .skip))))
    (.steps [
      .act (some 50) (.op (.pure (.move (.tmp 10)))) none,
      .act (some 51) (.op (.pure (.bin .add (.tmp 50) (.const (.int .i64 1))))) none,
      .act (some 10) (.op (.pure (.move (.tmp 51)))) none]))))))
  (.seq (.steps [
    .act (some 63) (.op (.read (.loadN 10 (.tmp 4)))) none,
    .act none (.op (.eff (.store 10 (.tmp 8) (.tmp 63)))) none,
    .act (some 9) (.op (.pure (.move (.const (.int .i64 0))))) none])
  .ret)))))) }
theorem c37 : compFn Try.prog (mkPlan Try.prog) [(6, [1, 2, 3, 4, 8, 10])] false 37 = some L37 := by kernel_rfl
/-- (sluiceway/sluicewayref02.Mem).Step -/
def L38 : LFun := { n := 167, pop := false, res := [.loadN 10 4, .tmp 5, .tmp 6], code :=
  (.seq (.steps [
    .act (some 2) (.op (.new (.box (.tmp 0)))) none,
    .act (some 3) (.op (.new (.box (.tmp 1)))) none,
    .act (some 4) (.op (.new (.alloc [(.slice none 0 0), (.slice none 0 0), (.int .i64 0), (.int .i64 0), (.int .i64 0), (.int .i64 0), (.int .i64 0), (.int .i64 0), (.int .i64 0), (.bool false)]))) none,
    .act (some 5) (.op (.pure (.move (.const (w64 0#64))))) none,
    .act (some 6) (.op (.pure (.move (.const (.bool false))))) none])
  (.seq (.seq (.steps [
    .act (some 13) (.op (.pure (.fieldAddr 0 (.tmp 3)))) none,
    .act (some 14) (.op (.read (.load1 (.tmp 13)))) none,
    .act (some 15) (.op (.pure (.bin .lss (.tmp 14) (.const (.int .i64 0))))) none,
    .act (some 16) (.op (.pure (.move (.tmp 15)))) none,
    .act (some 17) (.op (.pure (.fieldAddr 0 (.tmp 3)))) (some (16, false)),
    .act (some 18) (.op (.read (.load1 (.tmp 17)))) (some (16, false)),
    .act (some 19) (.op (.pure (.bin .gtr (.tmp 18) (.const (.int .i64 5))))) (some (16, false)),
    .act (some 20) (.op (.pure (.pick (.tmp 16) (.const (.bool true)) (.tmp 19)))) none])
  (.cond (.tmp 20)
   (.seq (.steps [
     .act (some 21) (.op (.read (.loadN 10 (.tmp 2)))) none,
     .act none (.op (.eff (.store 10 (.tmp 4) (.tmp 21)))) none,
     .act (some 5) (.op (.pure (.move (.const (w64 0#64))))) none,
     .act (some 6) (.op (.pure (.move (.const (.bool false))))) none])
   .ret)
   .skip))
  (.seq (.steps [
    .act (some 22) (.op (.pure (.fieldAddr 0 (.tmp 3)))) none,
    .act (some 23) (.op (.read (.load1 (.tmp 22)))) none,
    .act (some 24) (.op (.pure (.fieldAddr 2 (.tmp 2)))) none,
    .act (some 25) (.op (.pure (.idxArr 6 1 (.tmp 24) (.tmp 23)))) none,
    .act (some 26) (.op (.read (.load1 (.tmp 25)))) none,
    .act (some 27) (.op (.pure (.bin .add (.tmp 26) (.const (.int .i64 1))))) none,
    .act (some 28) (.op (.pure (.fieldAddr 2 (.tmp 2)))) none,
    .act (some 29) (.op (.pure (.idxArr 6 1 (.tmp 28) (.tmp 23)))) none,
    .act none (.op (.eff (.store 1 (.tmp 29) (.tmp 27)))) none])
  (.seq (.steps [
    .act (some 30) (.op (.pure (.fieldAddr 1 (.tmp 3)))) none,
    .act (some 31) (.op (.read (.load1 (.tmp 30)))) none,
    .act (some 7) (.op (.pure (.move (.tmp 31)))) none])
  (.seq (.steps [
    .act (some 32) (.op (.read (.loadN 10 (.tmp 2)))) none,
    .act (some 33) (.op (.pure (.fieldAddr 1 (.tmp 3)))) none,
    .act (some 34) (.op (.read (.load1 (.tmp 33)))) none,
    .act (some 35) (.call (.func 40) [(.tmp 32), (.tmp 34)]) none,
    .act (some 36) (.op (.pure (.move (.tmp 35)))) none,
    .act (some 37) (.op (.pure (.fieldAddr 0 (.tmp 3)))) (some (36, false)),
    .act (some 38) (.op (.read (.load1 (.tmp 37)))) (some (36, false)),
    .act (some 39) (.op (.pure (.bin .eql (.tmp 38) (.const (.int .i64 5))))) (some (36, false)),
    .act (some 40) (.op (.pure (.move (.tmp 39)))) (some (36, false)),
    .act (some 41) (.op (.pure (.fieldAddr 1 (.tmp 3)))) (some (40, true)),
    .act (some 42) (.op (.read (.load1 (.tmp 41)))) (some (40, true)),
    .act (some 43) (.op (.pure (.bin .rem (.tmp 42) (.const (.int .i64 2))))) (some (40, true)),
    .act (some 44) (.op (.pure (.bin .neq (.tmp 43) (.const (.int .i64 0))))) (some (40, true)),
    .act (some 45) (.op (.pure (.pick (.tmp 40) (.tmp 44) (.const (.bool false))))) (some (36, false)),
    .act (some 46) (.op (.pure (.pick (.tmp 36) (.const (.bool true)) (.tmp 45)))) none,
    .act (some 8) (.op (.pure (.move (.tmp 46)))) none])
  (.seq (.seq (.steps [
    .act (some 47) (.op (.pure (.move (.tmp 8)))) none,
    .act (some 48) (.op (.pure (.not (.tmp 47)))) none,
    .act (some 49) (.op (.pure (.move (.tmp 48)))) none,
    .act (some 50) (.op (.pure (.fieldAddr 0 (.tmp 3)))) (some (49, true)),
    .act (some 51) (.op (.read (.load1 (.tmp 50)))) (some (49, true)),
    .act (some 52) (.op (.pure (.bin .eql (.tmp 51) (.const (.int .i64 5))))) (some (49, true)),
    .act (some 53) (.op (.pure (.pick (.tmp 49) (.tmp 52) (.const (.bool false))))) none,
    .act (some 54) (.op (.pure (.move (.tmp 53)))) none,
    .act (some 55) (.op (.read (.loadN 10 (.tmp 2)))) (some (54, true)),
    .act (some 56) (.op (.pure (.fieldAddr 1 (.tmp 3)))) (some (54, true)),
    .act (some 57) (.op (.read (.load1 (.tmp 56)))) (some (54, true)),
    .act (some 58) (.op (.pure (.bin .add (.tmp 57) (.const (.int .i64 1))))) (some (54, true)),
    .act (some 59) (.call (.func 40) [(.tmp 55), (.tmp 58)]) (some (54, true)),
    .act (some 60) (.op (.pure (.pick (.tmp 54) (.tmp 59) (.const (.bool false))))) none])
  (.cond (.tmp 60)
   (.seq (.steps [
     .act (some 8) (.op (.pure (.move (.const (.bool true))))) none])
   (.steps [
     .act (some 61) (.op (.pure (.fieldAddr 1 (.tmp 3)))) none,
     .act (some 62) (.op (.read (.load1 (.tmp 61)))) none,
     .act (some 63) (.op (.pure (.bin .add (.tmp 62) (.const (.int .i64 1))))) none,
     .act (some 7) (.op (.pure (.move (.tmp 63)))) none]))
   .skip))
  (.seq (.seq (.steps [
    .act (some 64) (.op (.pure (.move (.tmp 8)))) none])
  (.cond (.tmp 64)
   (.seq (.seq (.steps [
     .act (some 65) (.op (.pure (.fieldAddr 9 (.tmp 2)))) none,
     .act (some 66) (.op (.read (.load1 (.tmp 65)))) none,
     .act (some 67) (.op (.pure (.not (.tmp 66)))) none])
   (.cond (.tmp 67)
    (.seq (.steps [
      .act (some 68) (.op (.pure (.move (.tmp 7)))) none,
      .act (some 69) (.op (.pure (.fieldAddr 8 (.tmp 2)))) none,
      .act none (.op (.eff (.store 1 (.tmp 69) (.tmp 68)))) none])
    (.steps [
      .act (some 70) (.op (.pure (.fieldAddr 9 (.tmp 2)))) none,
      .act none (.op (.eff (.store 1 (.tmp 70) (.const (.bool true))))) none]))
    .skip))
   (.seq (.steps [
     .act (some 71) (.op (.read (.loadN 10 (.tmp 2)))) none,
     .act none (.op (.eff (.store 10 (.tmp 4) (.tmp 71)))) none,
     .act (some 5) (.op (.pure (.move (.const (w64 0#64))))) none,
     .act (some 6) (.op (.pure (.move (.const (.bool false))))) none])
   .ret))
   .skip))
  (.seq (.steps [
    .act (some 72) (.op (.pure (.fieldAddr 0 (.tmp 2)))) none,
    .act (some 73) (.op (.read (.load1 (.tmp 72)))) none,
    .act (some 74) (.op (.pure (.fieldAddr 1 (.tmp 3)))) none,
    .act (some 75) (.op (.read (.load1 (.tmp 74)))) none,
    .act (some 76) (.op (.pure (.idxSl 1 (.tmp 73) (.tmp 75)))) none,
    .act (some 77) (.op (.read (.load1 (.tmp 76)))) none,
    .act (some 9) (.op (.pure (.move (.tmp 77)))) none])
  (.seq (.steps [
    .act (some 78) (.op (.pure (.move (.tmp 9)))) none,
    .act (some 10) (.op (.pure (.move (.tmp 78)))) none])
  (.seq (.steps [
    .act (some 11) (.op (.pure (.move (.const (w64 0#64))))) none])
  (.seq (.steps [
    .act (some 12) (.op (.pure (.move (.const (.bool false))))) none])
  (.seq (.seq (.steps [
    .act (some 79) (.op (.pure (.fieldAddr 0 (.tmp 3)))) none,
    .act (some 80) (.op (.read (.load1 (.tmp 79)))) none])
  (.block 0 (.seq (.steps [
     .act (some 104) (.op (.pure (.bin .eql (.tmp 80) (.const (.int .i64 0))))) none,
     .act (some 103) (.op (.pure (.move (.tmp 104)))) none])
   (.cond (.tmp 103)
    (.steps [
      .act (some 105) (.op (.pure (.move (.tmp 9)))) none,
      .act (some 11) (.op (.pure (.move (.tmp 105)))) none])
    (.seq (.steps [
      .act (some 107) (.op (.pure (.bin .eql (.tmp 80) (.const (.int .i64 1))))) none,
      .act (some 106) (.op (.pure (.move (.tmp 107)))) none])
    (.cond (.tmp 106)
     (.steps [
       .act (some 108) (.op (.pure (.fieldAddr 2 (.tmp 3)))) none,
       .act (some 109) (.op (.pure (.idxArr 4 1 (.tmp 108) (.const (.int .i64 0))))) none,
       .act (some 110) (.op (.read (.load1 (.tmp 109)))) none,
       .act (some 10) (.op (.pure (.move (.tmp 110)))) none])
     (.seq (.steps [
       .act (some 112) (.op (.pure (.bin .eql (.tmp 80) (.const (.int .i64 2))))) none,
       .act (some 111) (.op (.pure (.move (.tmp 112)))) none])
     (.cond (.tmp 111)
      (.seq (.steps [
        .act (some 113) (.op (.pure (.move (.tmp 9)))) none,
        .act (some 114) (.op (.pure (.fieldAddr 2 (.tmp 3)))) none,
        .act (some 115) (.op (.pure (.idxArr 4 1 (.tmp 114) (.const (.int .i64 0))))) none,
        .act (some 116) (.op (.read (.load1 (.tmp 115)))) none,
        .act (some 117) (.op (.pure (.bin .eql (.tmp 113) (.tmp 116)))) none,
        .act (some 12) (.op (.pure (.move (.tmp 117)))) none])
      (.seq (.steps [
        .act (some 118) (.op (.pure (.move (.tmp 12)))) none])
      (.cond (.tmp 118)
       (.steps [
         .act (some 119) (.op (.pure (.fieldAddr 2 (.tmp 3)))) none,
         .act (some 120) (.op (.pure (.idxArr 4 1 (.tmp 119) (.const (.int .i64 1))))) none,
         .act (some 121) (.op (.read (.load1 (.tmp 120)))) none,
         .act (some 10) (.op (.pure (.move (.tmp 121)))) none])
       .skip)))
      (.seq (.steps [
        .act (some 123) (.op (.pure (.bin .eql (.tmp 80) (.const (.int .i64 3))))) none,
        .act (some 122) (.op (.pure (.move (.tmp 123)))) none])
      (.cond (.tmp 122)
       (.seq (.steps [
         .act (some 124) (.op (.pure (.move (.tmp 9)))) none,
         .act (some 11) (.op (.pure (.move (.tmp 124)))) none])
       (.steps [
         .act (some 125) (.op (.pure (.move (.tmp 9)))) none,
         .act (some 126) (.op (.pure (.fieldAddr 2 (.tmp 3)))) none,
         .act (some 127) (.op (.pure (.idxArr 4 1 (.tmp 126) (.const (.int .i64 0))))) none,
         .act (some 128) (.op (.read (.load1 (.tmp 127)))) none,
         .act (some 129) (.op (.pure (.bin .add (.tmp 125) (.tmp 128)))) none,
         .act (some 10) (.op (.pure (.move (.tmp 129)))) none]))
       (.seq (.steps [
         .act (some 131) (.op (.pure (.bin .eql (.tmp 80) (.const (.int .i64 4))))) none,
         .act (some 130) (.op (.pure (.move (.tmp 131)))) none])
       (.cond (.tmp 130)
        (.seq (.steps [
          .act (some 132) (.op (.pure (.move (.tmp 9)))) none,
          .act (some 11) (.op (.pure (.move (.tmp 132)))) none])
        (.steps [
          .act (some 133) (.op (.pure (.move (.tmp 9)))) none,
          .act (some 134) (.op (.pure (.fieldAddr 2 (.tmp 3)))) none,
          .act (some 135) (.op (.pure (.idxArr 4 1 (.tmp 134) (.const (.int .i64 0))))) none,
          .act (some 136) (.op (.read (.load1 (.tmp 135)))) none,
          .act (some 137) (.op (.pure (.bin .or (.tmp 133) (.tmp 136)))) none,
          .act (some 10) (.op (.pure (.move (.tmp 137)))) none]))
        (.seq (.steps [
          .act (some 81) (.op (.pure (.move (.tmp 9)))) none,
          .act (some 82) (.op (.pure (.fieldAddr 2 (.tmp 3)))) none,
          .act (some 83) (.op (.pure (.idxArr 4 1 (.tmp 82) (.const (.int .i64 0))))) none,
          .act (some 84) (.op (.read (.load1 (.tmp 83)))) none,
          .act (some 85) (.op (.pure (.bin .eql (.tmp 81) (.tmp 84)))) none,
          .act (some 86) (.op (.pure (.move (.tmp 85)))) none,
          .act (some 87) (.op (.pure (.fieldAddr 0 (.tmp 2)))) (some (86, true)),
          .act (some 88) (.op (.read (.load1 (.tmp 87)))) (some (86, true)),
          .act (some 89) (.op (.pure (.fieldAddr 1 (.tmp 3)))) (some (86, true)),
          .act (some 90) (.op (.read (.load1 (.tmp 89)))) (some (86, true)),
          .act (some 91) (.op (.pure (.bin .add (.tmp 90) (.const (.int .i64 1))))) (some (86, true)),
          .act (some 92) (.op (.pure (.idxSl 1 (.tmp 88) (.tmp 91)))) (some (86, true)),
          .act (some 93) (.op (.read (.load1 (.tmp 92)))) (some (86, true)),
          .act (some 94) (.op (.pure (.fieldAddr 2 (.tmp 3)))) (some (86, true)),
          .act (some 95) (.op (.pure (.idxArr 4 1 (.tmp 94) (.const (.int .i64 1))))) (some (86, true)),
          .act (some 96) (.op (.read (.load1 (.tmp 95)))) (some (86, true)),
          .act (some 97) (.op (.pure (.bin .eql (.tmp 93) (.tmp 96)))) (some (86, true)),
          .act (some 98) (.op (.pure (.pick (.tmp 86) (.tmp 97) (.const (.bool false))))) none,
          .act (some 12) (.op (.pure (.move (.tmp 98)))) none])
        (.seq (.steps [
          .act (some 99) (.op (.pure (.move (.tmp 12)))) none])
        (.cond (.tmp 99)
         (.steps [
           .act (some 100) (.op (.pure (.fieldAddr 2 (.tmp 3)))) none,
           .act (some 101) (.op (.pure (.idxArr 4 1 (.tmp 100) (.const (.int .i64 2))))) none,
           .act (some 102) (.op (.read (.load1 (.tmp 101)))) none,
           .act (some 10) (.op (.pure (.move (.tmp 102)))) none])
         .skip)))))))))))))))
  (.seq (.steps [
    .act (some 138) (.op (.new (.mkSlice 1 0 [] []))) none,
    .act (some 139) (.op (.pure (.fieldAddr 0 (.tmp 2)))) none,
    .act (some 140) (.op (.read (.load1 (.tmp 139)))) none,
    .act (some 141) (.op (.eff (.append 1 8 (.tmp 138) (.tmp 140)))) none,
    .act (some 142) (.op (.pure (.fieldAddr 0 (.tmp 2)))) none,
    .act none (.op (.eff (.store 1 (.tmp 142) (.tmp 141)))) none])
  (.seq (.steps [
    .act (some 143) (.op (.pure (.fieldAddr 0 (.tmp 2)))) none,
    .act (some 144) (.op (.read (.load1 (.tmp 143)))) none,
    .act (some 145) (.op (.pure (.fieldAddr 1 (.tmp 3)))) none,
    .act (some 146) (.op (.read (.load1 (.tmp 145)))) none,
    .act (some 147) (.op (.pure (.move (.tmp 10)))) none,
    .act (some 148) (.op (.pure (.idxSl 1 (.tmp 144) (.tmp 146)))) none,
    .act none (.op (.eff (.store 1 (.tmp 148) (.tmp 147)))) none])
  (.seq (.seq (.steps [
    .act (some 149) (.op (.pure (.fieldAddr 0 (.tmp 3)))) none,
    .act (some 150) (.op (.read (.load1 (.tmp 149)))) none,
    .act (some 151) (.op (.pure (.bin .eql (.tmp 150) (.const (.int .i64 5))))) none,
    .act (some 152) (.op (.pure (.move (.tmp 151)))) none,
    .act (some 153) (.op (.pure (.move (.tmp 12)))) (some (152, true)),
    .act (some 154) (.op (.pure (.pick (.tmp 152) (.tmp 153) (.const (.bool false))))) none])
  (.cond (.tmp 154)
   (.steps [
     .act (some 155) (.op (.pure (.fieldAddr 0 (.tmp 2)))) none,
     .act (some 156) (.op (.read (.load1 (.tmp 155)))) none,
     .act (some 157) (.op (.pure (.fieldAddr 1 (.tmp 3)))) none,
     .act (some 158) (.op (.read (.load1 (.tmp 157)))) none,
     .act (some 159) (.op (.pure (.bin .add (.tmp 158) (.const (.int .i64 1))))) none,
     .act (some 160) (.op (.pure (.fieldAddr 2 (.tmp 3)))) none,
     .act (some 161) (.op (.pure (.idxArr 4 1 (.tmp 160) (.const (.int .i64 3))))) none,
     .act (some 162) (.op (.read (.load1 (.tmp 161)))) none,
     .act (some 163) (.op (.pure (.idxSl 1 (.tmp 156) (.tmp 159)))) none,
     .act none (.op (.eff (.store 1 (.tmp 163) (.tmp 162)))) none])
   .skip))
  (.seq (.steps [
    .act (some 164) (.op (.read (.loadN 10 (.tmp 2)))) none,
    .act (some 165) (.op (.pure (.move (.tmp 11)))) none,
    .act (some 166) (.op (.pure (.move (.tmp 12)))) none,
    .act none (.op (.eff (.store 10 (.tmp 4) (.tmp 164)))) none,
    .act (some 5) (.op (.pure (.move (.tmp 165)))) none,
    .act (some 6) (.op (.pure (.move (.tmp 166)))) none])
  .ret)))))))))))))))) }
theorem c38 : compFn Try.prog (mkPlan Try.prog) [] false 38 = some L38 := by kernel_rfl
/-- (*sluiceway/mem.Mem).set -/
def L39 : LFun := { n := 33, pop := true, res := [.tmp 8], code :=
  (.seq (.steps [
    .act (some 8) (.op (.pure (.move (.const (.int .i64 0))))) none])
  (.seq (.steps [
    .act (some 11) (.op (.pure (.move (.tmp 0)))) none,
    .act (some 12) (.op (.pure (.move (.tmp 1)))) none,
    .act (some 13) (.op (.pure (.move (.tmp 2)))) none,
    .act (some 14) (.call (.func 41) [(.tmp 11), (.tmp 12), (.tmp 13)]) none,
    .act (some 9) (.op (.pure (.move (.tmp 14)))) none])
  (.seq (.seq (.steps [
    .act (some 15) (.op (.pure (.move (.tmp 9)))) none,
    .act (some 16) (.op (.pure (.bin .eql (.tmp 15) (.const (.int .i64 0))))) none])
  (.cond (.tmp 16)
   (.seq (.steps [
     .act (some 17) (.op (.pure (.move (.tmp 1)))) none,
     .act (some 10) (.op (.pure (.move (.tmp 17)))) none])
   (.block 0 (.loop [0, 1, 2, 3, 9, 10] (.seq (.seq (.steps [
       .act (some 18) (.op (.pure (.move (.tmp 10)))) none,
       .act (some 19) (.op (.pure (.move (.tmp 1)))) none,
       .act (some 20) (.op (.pure (.move (.tmp 2)))) none,
       .act (some 21) (.op (.pure (.bin .add (.tmp 19) (.tmp 20)))) none,
       .act (some 22) (.op (.pure (.bin .lss (.tmp 18) (.tmp 21)))) none])
     (.cond (.tmp 22)
      .skip
      (.exit 0)))
     (.seq (.block 1 (.steps [
        .act (some 25) (.op (.pure (.move (.tmp 0)))) none,
        .act (some 26) (.op (.pure (.nilCheck (.tmp 25)))) none,
        .act (some 27) (.op (.pure (.fieldAddr 1 (.tmp 26)))) none,
        .act (some 28) (.op (.read (.load1 (.tmp 27)))) none,
        .act (some 29) (.op (.pure (.move (.tmp 10)))) none,
        .act (some 30) (.op (.pure (.move (.tmp 3)))) none,
        .act (some 31) (.op (.pure (.idxSl 1 (.tmp 28) (.tmp 29)))) none,
        .act none (.op (.eff (.store 1 (.tmp 31) (.tmp 30)))) none]))
     (.steps [
       .act (some 23) (.op (.pure (.move (.tmp 10)))) none,
       .act (some 24) (.op (.pure (.bin .add (.tmp 23) (.const (.int .i64 1))))) none,
       .act (some 10) (.op (.pure (.move (.tmp 24)))) none]))))))
   .skip))
  (.seq (.steps [
    .act (some 32) (.op (.pure (.move (.tmp 9)))) none,
    .act (some 8) (.op (.pure (.move (.tmp 32)))) none])
  .ret)))) }
theorem c39 : compFn Try.prog (mkPlan Try.prog) [(4, [0, 1, 2, 3, 9, 10])] true 39 = some L39 := by kernel_rfl
/-- (sluiceway/sluicewayref02.Mem).bad -/
def L40 : LFun := { n := 21, pop := true, res := [.tmp 4], code :=
  (.seq (.steps [
    .act (some 2) (.op (.new (.box (.tmp 0)))) none,
    .act (some 4) (.op (.pure (.move (.const (.bool false))))) none])
  (.seq (.steps [
    .act (some 5) (.op (.pure (.move (.tmp 1)))) none,
    .act (some 6) (.op (.pure (.bin .lss (.tmp 5) (.const (.int .i64 0))))) none,
    .act (some 7) (.op (.pure (.move (.tmp 6)))) none,
    .act (some 8) (.op (.pure (.move (.tmp 1)))) (some (7, false)),
    .act (some 9) (.op (.pure (.fieldAddr 0 (.tmp 2)))) (some (7, false)),
    .act (some 10) (.op (.read (.load1 (.tmp 9)))) (some (7, false)),
    .act (some 11) (.op (.pure (.len false (.tmp 10)))) (some (7, false)),
    .act (some 12) (.op (.pure (.bin .geq (.tmp 8) (.tmp 11)))) (some (7, false)),
    .act (some 13) (.op (.pure (.pick (.tmp 7) (.const (.bool true)) (.tmp 12)))) none,
    .act (some 14) (.op (.pure (.move (.tmp 13)))) none,
    .act (some 15) (.op (.pure (.fieldAddr 1 (.tmp 2)))) (some (14, false)),
    .act (some 16) (.op (.read (.load1 (.tmp 15)))) (some (14, false)),
    .act (some 17) (.op (.pure (.move (.tmp 1)))) (some (14, false)),
    .act (some 18) (.op (.pure (.idxSl 1 (.tmp 16) (.tmp 17)))) (some (14, false)),
    .act (some 19) (.op (.read (.load1 (.tmp 18)))) (some (14, false)),
    .act (some 20) (.op (.pure (.pick (.tmp 14) (.const (.bool true)) (.tmp 19)))) none,
    .act (some 4) (.op (.pure (.move (.tmp 20)))) none])
  .ret)) }
theorem c40 : compFn Try.prog (mkPlan Try.prog) [] true 40 = some L40 := by kernel_rfl
/-- (*sluiceway/mem.Mem).may -/
def L41 : LFun := { n := 37, pop := true, res := [.tmp 6], code :=
  (.seq (.steps [
    .act (some 6) (.op (.pure (.move (.const (.int .i64 0))))) none])
  (.seq (.block 0 (.seq (.steps [
     .act (some 8) (.op (.pure (.move (.tmp 0)))) none,
     .act (some 9) (.call (.func 33) [(.tmp 8)]) none,
     .act (some 7) (.op (.pure (.move (.tmp 9)))) none])
   (.cond (.tmp 7)
    (.seq (.steps [
      .act (some 6) (.op (.pure (.move (.const (.int .i64 1))))) none])
    .ret)
    (.seq (.steps [
      .act (some 11) (.op (.pure (.move (.tmp 2)))) none,
      .act (some 12) (.op (.pure (.bin .lss (.tmp 11) (.const (.int .i64 1))))) none,
      .act (some 13) (.op (.pure (.move (.tmp 12)))) none,
      .act (some 14) (.op (.pure (.move (.tmp 1)))) (some (13, false)),
      .act (some 15) (.op (.pure (.bin .lss (.tmp 14) (.const (.int .i64 0))))) (some (13, false)),
      .act (some 16) (.op (.pure (.pick (.tmp 13) (.const (.bool true)) (.tmp 15)))) none,
      .act (some 17) (.op (.pure (.move (.tmp 16)))) none,
      .act (some 18) (.op (.pure (.move (.tmp 1)))) (some (17, false)),
      .act (some 19) (.op (.pure (.move (.tmp 0)))) (some (17, false)),
      .act (some 20) (.op (.pure (.nilCheck (.tmp 19)))) (some (17, false)),
      .act (some 21) (.op (.pure (.fieldAddr 0 (.tmp 20)))) (some (17, false)),
      .act (some 22) (.op (.read (.load1 (.tmp 21)))) (some (17, false)),
      .act (some 23) (.op (.pure (.len false (.tmp 22)))) (some (17, false)),
      .act (some 24) (.op (.pure (.bin .geq (.tmp 18) (.tmp 23)))) (some (17, false)),
      .act (some 25) (.op (.pure (.pick (.tmp 17) (.const (.bool true)) (.tmp 24)))) none,
      .act (some 26) (.op (.pure (.move (.tmp 25)))) none,
      .act (some 27) (.op (.pure (.move (.tmp 2)))) (some (26, false)),
      .act (some 28) (.op (.pure (.move (.tmp 0)))) (some (26, false)),
      .act (some 29) (.op (.pure (.nilCheck (.tmp 28)))) (some (26, false)),
      .act (some 30) (.op (.pure (.fieldAddr 0 (.tmp 29)))) (some (26, false)),
      .act (some 31) (.op (.read (.load1 (.tmp 30)))) (some (26, false)),
      .act (some 32) (.op (.pure (.len false (.tmp 31)))) (some (26, false)),
      .act (some 33) (.op (.pure (.move (.tmp 1)))) (some (26, false)),
      .act (some 34) (.op (.pure (.bin .sub (.tmp 32) (.tmp 33)))) (some (26, false)),
      .act (some 35) (.op (.pure (.bin .gtr (.tmp 27) (.tmp 34)))) (some (26, false)),
      .act (some 36) (.op (.pure (.pick (.tmp 26) (.const (.bool true)) (.tmp 35)))) none,
      .act (some 10) (.op (.pure (.move (.tmp 36)))) none])
    (.cond (.tmp 10)
     (.seq (.steps [
       .act (some 6) (.op (.pure (.move (.const (.int .i64 2))))) none])
     .ret)
     .skip)))))
  (.seq (.steps [
    .act (some 6) (.op (.pure (.move (.const (.int .i64 0))))) none])
  .ret))) }
theorem c41 : compFn Try.prog (mkPlan Try.prog) [] true 41 = some L41 := by kernel_rfl
end Go.Proofs.Ytckfbicepdbafaa
