import Derived.Test.YtlkfmeobkgglfaaLP
import Derived.KernelRfl
import Derived.Test.YtlkfmeobkgglfaaProg
namespace Go.Proofs.Ytlkfmeobkgglfaa
open Go Go.LK Go.Proofs
set_option maxRecDepth 100000
/-- sluiceway/sluicewaylaw04.HistRight -/
def L3 : LFun := { n := 143, pop := true, res := [.tmp 2], code :=
  (.seq (.steps [
    .act (some 2) (.op (.pure (.move (.const (.bool false))))) none])
  (.seq (.steps [
    .act (some 10) (.call (.func 8) []) none,
    .act (some 3) (.op (.pure (.move (.tmp 10)))) none])
  (.seq (.seq (.steps [
    .act (some 4) (.op (.pure (.move (.const (.int .i64 0))))) none])
  (.block 0 (.loop [0, 3, 4] (.seq (.seq (.steps [
      .act (some 11) (.op (.pure (.move (.tmp 4)))) none,
      .act (some 12) (.op (.pure (.move (.tmp 0)))) none,
      .act (some 13) (.op (.pure (.len false (.tmp 12)))) none,
      .act (some 14) (.op (.pure (.bin .lss (.tmp 11) (.tmp 13)))) none,
      .act (some 15) (.op (.pure (.move (.tmp 14)))) none,
      .act (some 16) (.op (.pure (.move (.tmp 4)))) (some (15, true)),
      .act (some 17) (.op (.pure (.bin .lss (.tmp 16) (.const (.int .i64 80))))) (some (15, true)),
      .act (some 18) (.op (.pure (.pick (.tmp 15) (.tmp 17) (.const (.bool false))))) none])
    (.cond (.tmp 18)
     .skip
     (.exit 0)))
    (.seq (.block 1 (.seq (.steps [
       .act (some 21) (.op (.pure (.move (.tmp 0)))) none,
       .act (some 22) (.op (.pure (.move (.tmp 4)))) none,
       .act (some 23) (.op (.pure (.idxSl 4 (.tmp 21) (.tmp 22)))) none,
       .act (some 24) (.op (.read (.loadN 4 (.tmp 23)))) none,
       .act (some 5) (.op (.new (.alloc [(.int .i64 0), (.int .i64 0), (.int .i64 0), (w64 0#64)]))) none,
       .act none (.op (.eff (.store 4 (.tmp 5) (.tmp 24)))) none])
     (.seq (.steps [
       .act (some 25) (.op (.pure (.fieldAddr 0 (.tmp 5)))) none,
       .act (some 26) (.op (.read (.load1 (.tmp 25)))) none])
     (.block 2 (.seq (.steps [
        .act (some 30) (.op (.pure (.bin .eql (.tmp 26) (.const (.int .i64 0))))) none,
        .act (some 29) (.op (.pure (.move (.tmp 30)))) none])
      (.cond (.tmp 29)
       (.steps [
         .act (some 31) (.op (.pure (.move (.tmp 3)))) none,
         .act (some 32) (.op (.pure (.fieldAddr 1 (.tmp 5)))) none,
         .act (some 33) (.op (.read (.load1 (.tmp 32)))) none,
         .act (some 34) (.op (.pure (.fieldAddr 2 (.tmp 5)))) none,
         .act (some 35) (.op (.read (.load1 (.tmp 34)))) none,
         .act (some 36) (.op (.pure (.fieldAddr 3 (.tmp 5)))) none,
         .act (some 37) (.op (.read (.load1 (.tmp 36)))) none,
         .act (some 38) (.call (.func 9) [(.tmp 31), (.tmp 33), (.tmp 35), (.tmp 37)]) none])
       (.seq (.steps [
         .act (some 40) (.op (.pure (.bin .eql (.tmp 26) (.const (.int .i64 1))))) none,
         .act (some 39) (.op (.pure (.move (.tmp 40)))) none])
       (.cond (.tmp 39)
        (.steps [
          .act (some 41) (.op (.pure (.move (.tmp 3)))) none,
          .act (some 42) (.op (.pure (.fieldAddr 1 (.tmp 5)))) none,
          .act (some 43) (.op (.read (.load1 (.tmp 42)))) none,
          .act (some 44) (.op (.pure (.fieldAddr 2 (.tmp 5)))) none,
          .act (some 45) (.op (.read (.load1 (.tmp 44)))) none,
          .act (some 46) (.op (.pure (.fieldAddr 3 (.tmp 5)))) none,
          .act (some 47) (.op (.read (.load1 (.tmp 46)))) none,
          .act (some 48) (.call (.func 10) [(.tmp 41), (.tmp 43), (.tmp 45), (.tmp 47)]) none])
        (.steps [
          .act (some 27) (.op (.pure (.move (.tmp 3)))) none,
          .act (some 28) (.call (.func 11) [(.tmp 27)]) none])))))))))
    (.steps [
      .act (some 19) (.op (.pure (.move (.tmp 4)))) none,
      .act (some 20) (.op (.pure (.bin .add (.tmp 19) (.const (.int .i64 1))))) none,
      .act (some 4) (.op (.pure (.move (.tmp 20)))) none]))))))
  (.seq (.steps [
    .act (some 49) (.op (.pure (.move (.tmp 3)))) none,
    .act (some 50) (.call (.func 12) [(.tmp 49)]) none,
    .act (some 6) (.op (.pure (.move (.tmp 50)))) none])
  (.seq (.seq (.steps [
    .act (some 51) (.op (.pure (.move (.tmp 6)))) none,
    .act (some 52) (.call (.func 13) [(.tmp 51)]) none,
    .act (some 53) (.op (.pure (.not (.tmp 52)))) none])
  (.cond (.tmp 53)
   (.seq (.steps [
     .act (some 2) (.op (.pure (.move (.const (.bool false))))) none])
   .ret)
   .skip))
  (.seq (.steps [
    .act (some 54) (.op (.new (.makeMap))) none,
    .act (some 7) (.op (.pure (.move (.tmp 54)))) none])
  (.seq (.seq (.steps [
    .act (some 8) (.op (.pure (.move (.const (.int .i64 0))))) none])
  (.block 3 (.loop [6, 7, 8] (.seq (.seq (.steps [
      .act (some 55) (.op (.pure (.move (.tmp 8)))) none,
      .act (some 56) (.op (.pure (.move (.tmp 6)))) none,
      .act (some 57) (.op (.pure (.len false (.tmp 56)))) none,
      .act (some 58) (.op (.pure (.bin .lss (.tmp 55) (.tmp 57)))) none])
    (.cond (.tmp 58)
     .skip
     (.exit 3)))
    (.seq (.block 4 (.seq (.seq (.steps [
       .act (some 61) (.op (.pure (.move (.tmp 7)))) none,
       .act (some 62) (.op (.pure (.move (.tmp 6)))) none,
       .act (some 63) (.op (.pure (.move (.tmp 8)))) none,
       .act (some 64) (.op (.pure (.idxSl 8 (.tmp 62) (.tmp 63)))) none,
       .act (some 65) (.op (.pure (.fieldAddr 3 (.tmp 64)))) none,
       .act (some 66) (.op (.read (.load1 (.tmp 65)))) none,
       .act (some 67) (.op (.read (.lookup false (.bool false) false (.tmp 61) (.tmp 66)))) none,
       .act (some 68) (.op (.pure (.move (.tmp 67)))) none,
       .act (some 69) (.op (.pure (.move (.tmp 6)))) (some (68, false)),
       .act (some 70) (.op (.pure (.move (.tmp 8)))) (some (68, false)),
       .act (some 71) (.op (.pure (.idxSl 8 (.tmp 69) (.tmp 70)))) (some (68, false)),
       .act (some 72) (.op (.pure (.fieldAddr 5 (.tmp 71)))) (some (68, false)),
       .act (some 73) (.op (.read (.load1 (.tmp 72)))) (some (68, false)),
       .act (some 74) (.op (.pure (.move (.tmp 73)))) (some (68, false)),
       .act (some 75) (.op (.pure (.move (.tmp 7)))) (some (74, true)),
       .act (some 76) (.op (.pure (.move (.tmp 6)))) (some (74, true)),
       .act (some 77) (.op (.pure (.move (.tmp 8)))) (some (74, true)),
       .act (some 78) (.op (.pure (.idxSl 8 (.tmp 76) (.tmp 77)))) (some (74, true)),
       .act (some 79) (.op (.pure (.fieldAddr 4 (.tmp 78)))) (some (74, true)),
       .act (some 80) (.op (.read (.load1 (.tmp 79)))) (some (74, true)),
       .act (some 81) (.op (.read (.lookup false (.bool false) false (.tmp 75) (.tmp 80)))) (some (74, true)),
       .act (some 82) (.op (.pure (.move (.tmp 81)))) (some (74, true)),
       .act (some 83) (.op (.pure (.move (.tmp 6)))) (some (82, false)),
       .act (some 84) (.op (.pure (.move (.tmp 8)))) (some (82, false)),
       .act (some 85) (.op (.pure (.idxSl 8 (.tmp 83) (.tmp 84)))) (some (82, false)),
       .act (some 86) (.op (.pure (.fieldAddr 4 (.tmp 85)))) (some (82, false)),
       .act (some 87) (.op (.read (.load1 (.tmp 86)))) (some (82, false)),
       .act (some 88) (.op (.pure (.move (.tmp 6)))) (some (82, false)),
       .act (some 89) (.op (.pure (.move (.tmp 8)))) (some (82, false)),
       .act (some 90) (.op (.pure (.idxSl 8 (.tmp 88) (.tmp 89)))) (some (82, false)),
       .act (some 91) (.op (.pure (.fieldAddr 3 (.tmp 90)))) (some (82, false)),
       .act (some 92) (.op (.read (.load1 (.tmp 91)))) (some (82, false)),
       .act (some 93) (.op (.pure (.bin .eql (.tmp 87) (.tmp 92)))) (some (82, false)),
       .act (some 94) (.op (.pure (.pick (.tmp 82) (.const (.bool true)) (.tmp 93)))) (some (74, true)),
       .act (some 95) (.op (.pure (.pick (.tmp 74) (.tmp 94) (.const (.bool false))))) (some (68, false)),
       .act (some 96) (.op (.pure (.pick (.tmp 68) (.const (.bool true)) (.tmp 95)))) none])
     (.cond (.tmp 96)
      (.seq (.steps [
        .act (some 2) (.op (.pure (.move (.const (.bool false))))) none])
      .ret)
      .skip))
     (.seq (.steps [
       .act (some 97) (.op (.pure (.move (.tmp 7)))) none,
       .act (some 98) (.op (.pure (.move (.tmp 6)))) none,
       .act (some 99) (.op (.pure (.move (.tmp 8)))) none,
       .act (some 100) (.op (.pure (.idxSl 8 (.tmp 98) (.tmp 99)))) none,
       .act (some 101) (.op (.pure (.fieldAddr 3 (.tmp 100)))) none,
       .act (some 102) (.op (.read (.load1 (.tmp 101)))) none,
       .act none (.op (.eff (.mapUpdate false (.tmp 97) (.tmp 102) (.const (.bool true))))) none])
     (.seq (.seq (.steps [
       .act (some 103) (.op (.pure (.move (.tmp 6)))) none,
       .act (some 104) (.op (.pure (.move (.tmp 8)))) none,
       .act (some 105) (.op (.pure (.idxSl 8 (.tmp 103) (.tmp 104)))) none,
       .act (some 106) (.op (.pure (.fieldAddr 5 (.tmp 105)))) none,
       .act (some 107) (.op (.read (.load1 (.tmp 106)))) none])
     (.cond (.tmp 107)
      (.steps [
        .act (some 108) (.op (.pure (.move (.tmp 7)))) none,
        .act (some 109) (.op (.pure (.move (.tmp 6)))) none,
        .act (some 110) (.op (.pure (.move (.tmp 8)))) none,
        .act (some 111) (.op (.pure (.idxSl 8 (.tmp 109) (.tmp 110)))) none,
        .act (some 112) (.op (.pure (.fieldAddr 4 (.tmp 111)))) none,
        .act (some 113) (.op (.read (.load1 (.tmp 112)))) none,
        .act none (.op (.eff (.mapUpdate false (.tmp 108) (.tmp 113) (.const (.bool true))))) none])
      .skip))
     (.seq (.steps [
       .act (some 9) (.op (.pure (.move (.const (.int .i64 0))))) none])
     (.block 5 (.loop [6, 7, 8, 9] (.seq (.seq (.steps [
         .act (some 114) (.op (.pure (.move (.tmp 9)))) none,
         .act (some 115) (.op (.pure (.move (.tmp 8)))) none,
         .act (some 116) (.op (.pure (.bin .lss (.tmp 114) (.tmp 115)))) none])
       (.cond (.tmp 116)
        .skip
        (.exit 5)))
       (.seq (.block 6 (.seq (.steps [
          .act (some 119) (.op (.pure (.move (.tmp 6)))) none,
          .act (some 120) (.op (.pure (.move (.tmp 9)))) none,
          .act (some 121) (.op (.pure (.idxSl 8 (.tmp 119) (.tmp 120)))) none,
          .act (some 122) (.op (.pure (.fieldAddr 0 (.tmp 121)))) none,
          .act (some 123) (.op (.read (.load1 (.tmp 122)))) none,
          .act (some 124) (.op (.pure (.move (.tmp 6)))) none,
          .act (some 125) (.op (.pure (.move (.tmp 8)))) none,
          .act (some 126) (.op (.pure (.idxSl 8 (.tmp 124) (.tmp 125)))) none,
          .act (some 127) (.op (.pure (.fieldAddr 0 (.tmp 126)))) none,
          .act (some 128) (.op (.read (.load1 (.tmp 127)))) none,
          .act (some 129) (.op (.pure (.bin .eql (.tmp 123) (.tmp 128)))) none,
          .act (some 130) (.op (.pure (.move (.tmp 129)))) none,
          .act (some 131) (.op (.pure (.move (.tmp 6)))) (some (130, true)),
          .act (some 132) (.op (.pure (.move (.tmp 9)))) (some (130, true)),
          .act (some 133) (.op (.pure (.idxSl 8 (.tmp 131) (.tmp 132)))) (some (130, true)),
          .act (some 134) (.op (.read (.loadN 8 (.tmp 133)))) (some (130, true)),
          .act (some 135) (.op (.pure (.move (.tmp 6)))) (some (130, true)),
          .act (some 136) (.op (.pure (.move (.tmp 8)))) (some (130, true)),
          .act (some 137) (.op (.pure (.idxSl 8 (.tmp 135) (.tmp 136)))) (some (130, true)),
          .act (some 138) (.op (.read (.loadN 8 (.tmp 137)))) (some (130, true)),
          .act (some 139) (.call (.func 14) [(.tmp 134), (.tmp 138)]) (some (130, true)),
          .act (some 140) (.op (.pure (.not (.tmp 139)))) (some (130, true)),
          .act (some 141) (.op (.pure (.pick (.tmp 130) (.tmp 140) (.const (.bool false))))) none])
        (.cond (.tmp 141)
         (.seq (.steps [
           .act (some 2) (.op (.pure (.move (.const (.bool false))))) none])
         .ret)
         .skip)))
       (.steps [
         .act (some 117) (.op (.pure (.move (.tmp 9)))) none,
         .act (some 118) (.op (.pure (.bin .add (.tmp 117) (.const (.int .i64 1))))) none,
         .act (some 9) (.op (.pure (.move (.tmp 118)))) none]))))))))))
    (.steps [
      .act (some 59) (.op (.pure (.move (.tmp 8)))) none,
      .act (some 60) (.op (.pure (.bin .add (.tmp 59) (.const (.int .i64 1))))) none,
      .act (some 8) (.op (.pure (.move (.tmp 60)))) none]))))))
  (.seq (.steps [
    .act (some 142) (.call (.func 15) []) none,
    .act (some 2) (.op (.pure (.move (.tmp 142)))) none])
  .ret)))))))) }
theorem c3 : compFn Try.prog (mkPlan Try.prog) [(3, [0, 3, 4]), (17, [6, 7, 8]), (25, [6, 7, 8, 9])] true 3 = some L3 := by kernel_rfl
/-- sluiceway/sluicewaylaw04.HistOrders -/
def L4 : LFun := { n := 102, pop := true, res := [.tmp 6], code :=
  (.seq (.steps [
    .act (some 3) (.op (.new (.box (.tmp 0)))) none,
    .act (some 4) (.op (.new (.box (.tmp 1)))) none,
    .act (some 5) (.op (.new (.box (.tmp 2)))) none,
    .act (some 6) (.op (.pure (.move (.const (.bool false))))) none])
  (.seq (.seq (.steps [
    .act (some 7) (.op (.read (.loadN 8 (.tmp 3)))) none,
    .act (some 8) (.op (.new (.mkSlice 8 1 [(.int .i64 0), (.int .i64 0), (w64 0#64), (.int .i64 0), (.int .i64 0), (.bool false), (.int .i64 0), (w64 0#64)] [(0, 8, (.tmp 7))]))) none,
    .act (some 9) (.call (.func 13) [(.tmp 8)]) none,
    .act (some 10) (.op (.pure (.not (.tmp 9)))) none,
    .act (some 11) (.op (.pure (.move (.tmp 10)))) none,
    .act (some 12) (.op (.read (.loadN 8 (.tmp 4)))) (some (11, false)),
    .act (some 13) (.op (.new (.mkSlice 8 1 [(.int .i64 0), (.int .i64 0), (w64 0#64), (.int .i64 0), (.int .i64 0), (.bool false), (.int .i64 0), (w64 0#64)] [(0, 8, (.tmp 12))]))) (some (11, false)),
    .act (some 14) (.call (.func 13) [(.tmp 13)]) (some (11, false)),
    .act (some 15) (.op (.pure (.not (.tmp 14)))) (some (11, false)),
    .act (some 16) (.op (.pure (.pick (.tmp 11) (.const (.bool true)) (.tmp 15)))) none,
    .act (some 17) (.op (.pure (.move (.tmp 16)))) none,
    .act (some 18) (.op (.read (.loadN 8 (.tmp 5)))) (some (17, false)),
    .act (some 19) (.op (.new (.mkSlice 8 1 [(.int .i64 0), (.int .i64 0), (w64 0#64), (.int .i64 0), (.int .i64 0), (.bool false), (.int .i64 0), (w64 0#64)] [(0, 8, (.tmp 18))]))) (some (17, false)),
    .act (some 20) (.call (.func 13) [(.tmp 19)]) (some (17, false)),
    .act (some 21) (.op (.pure (.not (.tmp 20)))) (some (17, false)),
    .act (some 22) (.op (.pure (.pick (.tmp 17) (.const (.bool true)) (.tmp 21)))) none])
  (.cond (.tmp 22)
   (.seq (.steps [
     .act (some 23) (.call (.func 15) []) none,
     .act (some 6) (.op (.pure (.move (.tmp 23)))) none])
   .ret)
   .skip))
  (.seq (.seq (.steps [
    .act (some 24) (.op (.read (.loadN 8 (.tmp 3)))) none,
    .act (some 25) (.op (.read (.loadN 8 (.tmp 3)))) none,
    .act (some 26) (.call (.func 14) [(.tmp 24), (.tmp 25)]) none,
    .act (some 27) (.op (.pure (.move (.tmp 26)))) none,
    .act (some 28) (.op (.read (.loadN 8 (.tmp 3)))) (some (27, false)),
    .act (some 29) (.op (.read (.loadN 8 (.tmp 4)))) (some (27, false)),
    .act (some 30) (.call (.func 14) [(.tmp 28), (.tmp 29)]) (some (27, false)),
    .act (some 31) (.op (.pure (.move (.tmp 30)))) (some (27, false)),
    .act (some 32) (.op (.read (.loadN 8 (.tmp 4)))) (some (31, true)),
    .act (some 33) (.op (.read (.loadN 8 (.tmp 3)))) (some (31, true)),
    .act (some 34) (.call (.func 14) [(.tmp 32), (.tmp 33)]) (some (31, true)),
    .act (some 35) (.op (.pure (.pick (.tmp 31) (.tmp 34) (.const (.bool false))))) (some (27, false)),
    .act (some 36) (.op (.pure (.pick (.tmp 27) (.const (.bool true)) (.tmp 35)))) none,
    .act (some 37) (.op (.pure (.move (.tmp 36)))) none,
    .act (some 38) (.op (.read (.loadN 8 (.tmp 3)))) (some (37, false)),
    .act (some 39) (.op (.read (.loadN 8 (.tmp 4)))) (some (37, false)),
    .act (some 40) (.call (.func 14) [(.tmp 38), (.tmp 39)]) (some (37, false)),
    .act (some 41) (.op (.pure (.move (.tmp 40)))) (some (37, false)),
    .act (some 42) (.op (.read (.loadN 8 (.tmp 4)))) (some (41, true)),
    .act (some 43) (.op (.read (.loadN 8 (.tmp 5)))) (some (41, true)),
    .act (some 44) (.call (.func 14) [(.tmp 42), (.tmp 43)]) (some (41, true)),
    .act (some 45) (.op (.pure (.pick (.tmp 41) (.tmp 44) (.const (.bool false))))) (some (37, false)),
    .act (some 46) (.op (.pure (.move (.tmp 45)))) (some (37, false)),
    .act (some 47) (.op (.read (.loadN 8 (.tmp 3)))) (some (46, true)),
    .act (some 48) (.op (.read (.loadN 8 (.tmp 5)))) (some (46, true)),
    .act (some 49) (.call (.func 14) [(.tmp 47), (.tmp 48)]) (some (46, true)),
    .act (some 50) (.op (.pure (.not (.tmp 49)))) (some (46, true)),
    .act (some 51) (.op (.pure (.pick (.tmp 46) (.tmp 50) (.const (.bool false))))) (some (37, false)),
    .act (some 52) (.op (.pure (.pick (.tmp 37) (.const (.bool true)) (.tmp 51)))) none,
    .act (some 53) (.op (.pure (.move (.tmp 52)))) none,
    .act (some 54) (.op (.read (.loadN 8 (.tmp 3)))) (some (53, false)),
    .act (some 55) (.op (.read (.loadN 8 (.tmp 4)))) (some (53, false)),
    .act (some 57) (.op (.read (.loadN 8 (.tmp 4)))) (some (53, false)),
    .act (some 58) (.op (.read (.loadN 8 (.tmp 3)))) (some (53, false)),
    .act (some 56) (.call (.func 16) [(.tmp 54), (.tmp 55)]) (some (53, false)),
    .again 58 (.loadN 8 (.tmp 3)) (some (53, false)),
    .again 57 (.loadN 8 (.tmp 4)) (some (53, false)),
    .act (some 59) (.call (.func 16) [(.tmp 57), (.tmp 58)]) (some (53, false)),
    .act (some 60) (.op (.pure (.eqB true (.tmp 56) (.tmp 59)))) (some (53, false)),
    .act (some 61) (.op (.pure (.pick (.tmp 53) (.const (.bool true)) (.tmp 60)))) none,
    .act (some 62) (.op (.pure (.move (.tmp 61)))) none,
    .act (some 63) (.op (.read (.loadN 8 (.tmp 3)))) (some (62, false)),
    .act (some 64) (.op (.read (.loadN 8 (.tmp 3)))) (some (62, false)),
    .act (some 65) (.call (.func 16) [(.tmp 63), (.tmp 64)]) (some (62, false)),
    .act (some 66) (.op (.pure (.not (.tmp 65)))) (some (62, false)),
    .act (some 67) (.op (.pure (.pick (.tmp 62) (.const (.bool true)) (.tmp 66)))) none])
  (.cond (.tmp 67)
   (.seq (.steps [
     .act (some 6) (.op (.pure (.move (.const (.bool false))))) none])
   .ret)
   .skip))
  (.seq (.steps [
    .act (some 68) (.op (.read (.loadN 8 (.tmp 3)))) none,
    .act (some 69) (.op (.read (.loadN 8 (.tmp 4)))) none,
    .act (some 71) (.op (.read (.loadN 8 (.tmp 3)))) none,
    .act (some 72) (.op (.read (.loadN 8 (.tmp 4)))) none,
    .act (some 70) (.call (.func 16) [(.tmp 68), (.tmp 69)]) none,
    .again 72 (.loadN 8 (.tmp 4)) none,
    .again 71 (.loadN 8 (.tmp 3)) none,
    .act (some 73) (.call (.func 14) [(.tmp 71), (.tmp 72)]) none,
    .act (some 74) (.op (.pure (.not (.tmp 73)))) none,
    .act (some 75) (.op (.pure (.move (.tmp 74)))) none,
    .act (some 76) (.op (.read (.loadN 8 (.tmp 4)))) (some (75, true)),
    .act (some 77) (.op (.read (.loadN 8 (.tmp 3)))) (some (75, true)),
    .act (some 78) (.call (.func 14) [(.tmp 76), (.tmp 77)]) (some (75, true)),
    .act (some 79) (.op (.pure (.not (.tmp 78)))) (some (75, true)),
    .act (some 80) (.op (.pure (.pick (.tmp 75) (.tmp 79) (.const (.bool false))))) none,
    .act (some 81) (.op (.pure (.eqB false (.tmp 70) (.tmp 80)))) none,
    .act (some 82) (.op (.pure (.move (.tmp 81)))) none,
    .act (some 83) (.op (.pure (.fieldAddr 0 (.tmp 3)))) (some (82, true)),
    .act (some 84) (.op (.read (.load1 (.tmp 83)))) (some (82, true)),
    .act (some 85) (.op (.pure (.fieldAddr 0 (.tmp 4)))) (some (82, true)),
    .act (some 86) (.op (.read (.load1 (.tmp 85)))) (some (82, true)),
    .act (some 87) (.op (.pure (.bin .neq (.tmp 84) (.tmp 86)))) (some (82, true)),
    .act (some 88) (.op (.pure (.move (.tmp 87)))) (some (82, true)),
    .act (some 89) (.op (.read (.loadN 8 (.tmp 3)))) (some (88, false)),
    .act (some 90) (.op (.read (.loadN 8 (.tmp 4)))) (some (88, false)),
    .act (some 91) (.op (.new (.mkSlice 8 2 [(.int .i64 0), (.int .i64 0), (w64 0#64), (.int .i64 0), (.int .i64 0), (.bool false), (.int .i64 0), (w64 0#64), (.int .i64 0), (.int .i64 0), (w64 0#64), (.int .i64 0), (.int .i64 0), (.bool false), (.int .i64 0), (w64 0#64)] [(0, 8, (.tmp 89)), (8, 8, (.tmp 90))]))) (some (88, false)),
    .act (some 93) (.op (.read (.loadN 8 (.tmp 3)))) (some (88, false)),
    .act (some 94) (.op (.read (.loadN 8 (.tmp 4)))) (some (88, false)),
    .act (some 92) (.call (.func 13) [(.tmp 91)]) (some (88, false)),
    .again 94 (.loadN 8 (.tmp 4)) (some (88, false)),
    .again 93 (.loadN 8 (.tmp 3)) (some (88, false)),
    .act (some 95) (.call (.func 16) [(.tmp 93), (.tmp 94)]) (some (88, false)),
    .act (some 96) (.op (.pure (.eqB true (.tmp 92) (.tmp 95)))) (some (88, false)),
    .act (some 97) (.op (.pure (.pick (.tmp 88) (.const (.bool true)) (.tmp 96)))) (some (82, true)),
    .act (some 98) (.op (.pure (.pick (.tmp 82) (.tmp 97) (.const (.bool false))))) none,
    .act (some 99) (.op (.pure (.move (.tmp 98)))) none,
    .act (some 100) (.call (.func 15) []) (some (99, true)),
    .act (some 101) (.op (.pure (.pick (.tmp 99) (.tmp 100) (.const (.bool false))))) none,
    .act (some 6) (.op (.pure (.move (.tmp 101)))) none])
  .ret)))) }
theorem c4 : compFn Try.prog (mkPlan Try.prog) [] true 4 = some L4 := by kernel_rfl
/-- sluiceway/sluicewaylaw04.HistNotes -/
def L5 : LFun := { n := 158, pop := true, res := [.tmp 2], code :=
  (.seq (.steps [
    .act (some 2) (.op (.pure (.move (.const (.bool false))))) none])
  (.seq (.steps [
    .act (some 19) (.call (.func 8) []) none,
    .act (some 3) (.op (.pure (.move (.tmp 19)))) none])
  (.seq (.seq (.steps [
    .act (some 20) (.op (.pure (.move (.tmp 3)))) none,
    .act (some 21) (.op (.pure (.eqNil .p false (.tmp 20) (.const (.pointer none))))) none])
  (.cond (.tmp 21)
   (.seq (.steps [
     .act (some 2) (.op (.pure (.move (.const (.bool false))))) none])
   .ret)
   .skip))
  (.seq (.steps [
    .act (some 4) (.op (.new (.alloc [(.slice none 0 0), (.int .i64 0)]))) none])
  (.seq (.seq (.steps [
    .act (some 5) (.op (.pure (.move (.const (.int .i64 0))))) none])
  (.block 0 (.loop [0, 3, 4, 5] (.seq (.seq (.steps [
      .act (some 22) (.op (.pure (.move (.tmp 5)))) none,
      .act (some 23) (.op (.pure (.move (.tmp 0)))) none,
      .act (some 24) (.op (.pure (.len false (.tmp 23)))) none,
      .act (some 25) (.op (.pure (.bin .lss (.tmp 22) (.tmp 24)))) none,
      .act (some 26) (.op (.pure (.move (.tmp 25)))) none,
      .act (some 27) (.op (.pure (.move (.tmp 5)))) (some (26, true)),
      .act (some 28) (.op (.pure (.bin .lss (.tmp 27) (.const (.int .i64 80))))) (some (26, true)),
      .act (some 29) (.op (.pure (.pick (.tmp 26) (.tmp 28) (.const (.bool false))))) none])
    (.cond (.tmp 29)
     .skip
     (.exit 0)))
    (.seq (.block 1 (.seq (.steps [
       .act (some 32) (.op (.pure (.move (.tmp 0)))) none,
       .act (some 33) (.op (.pure (.move (.tmp 5)))) none,
       .act (some 34) (.op (.pure (.idxSl 4 (.tmp 32) (.tmp 33)))) none,
       .act (some 35) (.op (.read (.loadN 4 (.tmp 34)))) none,
       .act (some 6) (.op (.new (.alloc [(.int .i64 0), (.int .i64 0), (.int .i64 0), (w64 0#64)]))) none,
       .act none (.op (.eff (.store 4 (.tmp 6) (.tmp 35)))) none])
     (.seq (.seq (.steps [
       .act (some 36) (.op (.pure (.fieldAddr 0 (.tmp 6)))) none,
       .act (some 37) (.op (.read (.load1 (.tmp 36)))) none])
     (.block 2 (.seq (.steps [
        .act (some 45) (.op (.pure (.bin .eql (.tmp 37) (.const (.int .i64 0))))) none,
        .act (some 44) (.op (.pure (.move (.tmp 45)))) none])
      (.cond (.tmp 44)
       (.seq (.steps [
         .act (some 47) (.op (.read (.loadN 2 (.tmp 4)))) none,
         .act (some 48) (.op (.pure (.fieldAddr 1 (.tmp 6)))) none,
         .act (some 49) (.op (.read (.load1 (.tmp 48)))) none,
         .act (some 50) (.op (.pure (.fieldAddr 2 (.tmp 6)))) none,
         .act (some 51) (.op (.read (.load1 (.tmp 50)))) none,
         .act (some 52) (.op (.pure (.fieldAddr 3 (.tmp 6)))) none,
         .act (some 53) (.op (.read (.load1 (.tmp 52)))) none,
         .act (some 54) (.call (.func 17) [(.tmp 47), (.tmp 49), (.tmp 51), (.tmp 53)]) none,
         .act (some 46) (.op (.pure (.move (.tmp 54)))) none,
         .act (some 55) (.op (.pure (.extract (.tmp 46) 0))) none,
         .act (some 56) (.op (.pure (.extract (.tmp 46) 1))) none,
         .act (some 57) (.op (.pure (.extract (.tmp 46) 2))) none,
         .act (some 7) (.op (.new (.alloc [(.slice none 0 0), (.int .i64 0)]))) none,
         .act none (.op (.eff (.store 2 (.tmp 7) (.tmp 55)))) none,
         .act (some 8) (.op (.pure (.move (.tmp 56)))) none,
         .act (some 9) (.op (.pure (.move (.tmp 57)))) none])
       (.seq (.steps [
         .act (some 59) (.op (.pure (.move (.tmp 3)))) none,
         .act (some 60) (.op (.pure (.fieldAddr 1 (.tmp 6)))) none,
         .act (some 61) (.op (.read (.load1 (.tmp 60)))) none,
         .act (some 62) (.op (.pure (.fieldAddr 2 (.tmp 6)))) none,
         .act (some 63) (.op (.read (.load1 (.tmp 62)))) none,
         .act (some 64) (.op (.pure (.fieldAddr 3 (.tmp 6)))) none,
         .act (some 65) (.op (.read (.load1 (.tmp 64)))) none,
         .act (some 66) (.call (.func 9) [(.tmp 59), (.tmp 61), (.tmp 63), (.tmp 65)]) none,
         .act (some 58) (.op (.pure (.move (.tmp 66)))) none,
         .act (some 67) (.op (.pure (.extract (.tmp 58) 0))) none,
         .act (some 68) (.op (.pure (.extract (.tmp 58) 1))) none,
         .act (some 10) (.op (.pure (.move (.tmp 67)))) none,
         .act (some 11) (.op (.pure (.move (.tmp 68)))) none])
       (.seq (.seq (.steps [
         .act (some 69) (.op (.pure (.move (.tmp 10)))) none,
         .act (some 70) (.op (.pure (.move (.tmp 8)))) none,
         .act (some 71) (.op (.pure (.bin .neq (.tmp 69) (.tmp 70)))) none,
         .act (some 72) (.op (.pure (.move (.tmp 71)))) none,
         .act (some 73) (.op (.pure (.move (.tmp 11)))) (some (72, false)),
         .act (some 74) (.op (.pure (.move (.tmp 9)))) (some (72, false)),
         .act (some 75) (.op (.pure (.bin .neq (.tmp 73) (.tmp 74)))) (some (72, false)),
         .act (some 76) (.op (.pure (.pick (.tmp 72) (.const (.bool true)) (.tmp 75)))) none])
       (.cond (.tmp 76)
        (.seq (.steps [
          .act (some 2) (.op (.pure (.move (.const (.bool false))))) none])
        .ret)
        .skip))
       (.steps [
         .act (some 77) (.op (.read (.loadN 2 (.tmp 7)))) none,
         .act none (.op (.eff (.store 2 (.tmp 4) (.tmp 77)))) none]))))
       (.seq (.steps [
         .act (some 79) (.op (.pure (.bin .eql (.tmp 37) (.const (.int .i64 1))))) none,
         .act (some 78) (.op (.pure (.move (.tmp 79)))) none])
       (.cond (.tmp 78)
        (.seq (.steps [
          .act (some 81) (.op (.read (.loadN 2 (.tmp 4)))) none,
          .act (some 82) (.op (.pure (.fieldAddr 1 (.tmp 6)))) none,
          .act (some 83) (.op (.read (.load1 (.tmp 82)))) none,
          .act (some 84) (.op (.pure (.fieldAddr 2 (.tmp 6)))) none,
          .act (some 85) (.op (.read (.load1 (.tmp 84)))) none,
          .act (some 86) (.op (.pure (.fieldAddr 3 (.tmp 6)))) none,
          .act (some 87) (.op (.read (.load1 (.tmp 86)))) none,
          .act (some 88) (.call (.func 18) [(.tmp 81), (.tmp 83), (.tmp 85), (.tmp 87)]) none,
          .act (some 80) (.op (.pure (.move (.tmp 88)))) none,
          .act (some 89) (.op (.pure (.extract (.tmp 80) 0))) none,
          .act (some 90) (.op (.pure (.extract (.tmp 80) 1))) none,
          .act (some 12) (.op (.new (.alloc [(.slice none 0 0), (.int .i64 0)]))) none,
          .act none (.op (.eff (.store 2 (.tmp 12) (.tmp 89)))) none,
          .act (some 13) (.op (.pure (.move (.tmp 90)))) none])
        (.seq (.seq (.steps [
          .act (some 91) (.op (.pure (.move (.tmp 3)))) none,
          .act (some 92) (.op (.pure (.fieldAddr 1 (.tmp 6)))) none,
          .act (some 93) (.op (.read (.load1 (.tmp 92)))) none,
          .act (some 94) (.op (.pure (.fieldAddr 2 (.tmp 6)))) none,
          .act (some 95) (.op (.read (.load1 (.tmp 94)))) none,
          .act (some 96) (.op (.pure (.fieldAddr 3 (.tmp 6)))) none,
          .act (some 97) (.op (.read (.load1 (.tmp 96)))) none,
          .act (some 98) (.call (.func 10) [(.tmp 91), (.tmp 93), (.tmp 95), (.tmp 97)]) none,
          .act (some 99) (.op (.pure (.move (.tmp 13)))) none,
          .act (some 100) (.op (.pure (.bin .neq (.tmp 98) (.tmp 99)))) none])
        (.cond (.tmp 100)
         (.seq (.steps [
           .act (some 2) (.op (.pure (.move (.const (.bool false))))) none])
         .ret)
         .skip))
        (.steps [
          .act (some 101) (.op (.read (.loadN 2 (.tmp 12)))) none,
          .act none (.op (.eff (.store 2 (.tmp 4) (.tmp 101)))) none])))
        (.seq (.steps [
          .act (some 38) (.op (.pure (.move (.tmp 3)))) none,
          .act (some 39) (.call (.func 11) [(.tmp 38)]) none])
        (.steps [
          .act (some 40) (.op (.pure (.fieldAddr 1 (.tmp 4)))) none,
          .act (some 41) (.op (.read (.load1 (.tmp 40)))) none,
          .act (some 42) (.op (.pure (.bin .add (.tmp 41) (.const (.int .i64 1))))) none,
          .act (some 43) (.op (.pure (.fieldAddr 1 (.tmp 4)))) none,
          .act none (.op (.eff (.store 1 (.tmp 43) (.tmp 42)))) none]))))))))
     (.seq (.steps [
       .act (some 103) (.op (.pure (.move (.tmp 3)))) none,
       .act (some 104) (.op (.pure (.fieldAddr 1 (.tmp 6)))) none,
       .act (some 105) (.op (.read (.load1 (.tmp 104)))) none,
       .act (some 106) (.call (.func 19) [(.tmp 103), (.tmp 105)]) none,
       .act (some 102) (.op (.pure (.move (.tmp 106)))) none,
       .act (some 107) (.op (.pure (.extract (.tmp 102) 0))) none,
       .act (some 108) (.op (.pure (.extract (.tmp 102) 1))) none,
       .act (some 14) (.op (.pure (.move (.tmp 107)))) none,
       .act (some 15) (.op (.pure (.move (.tmp 108)))) none])
     (.seq (.steps [
       .act (some 109) (.op (.read (.loadN 2 (.tmp 4)))) none,
       .act (some 110) (.op (.pure (.fieldAddr 1 (.tmp 6)))) none,
       .act (some 111) (.op (.read (.load1 (.tmp 110)))) none,
       .act (some 112) (.call (.func 20) [(.tmp 109), (.tmp 111)]) none,
       .act (some 16) (.op (.pure (.move (.tmp 112)))) none])
     (.seq (.steps [
       .act (some 113) (.op (.pure (.move (.tmp 3)))) none,
       .act (some 115) (.op (.pure (.fieldAddr 1 (.tmp 4)))) none,
       .act (some 116) (.op (.read (.load1 (.tmp 115)))) none,
       .act (some 114) (.call (.func 21) [(.tmp 113)]) none,
       .act (some 117) (.op (.pure (.bin .neq (.tmp 114) (.tmp 116)))) none,
       .act (some 118) (.op (.pure (.move (.tmp 117)))) none,
       .act (some 119) (.op (.pure (.move (.tmp 15)))) (some (118, false)),
       .act (some 120) (.op (.pure (.move (.tmp 16)))) (some (118, false)),
       .act (some 121) (.op (.pure (.bin .geq (.tmp 120) (.const (.int .i64 0))))) (some (118, false)),
       .act (some 122) (.op (.pure (.eqB true (.tmp 119) (.tmp 121)))) (some (118, false)),
       .act (some 123) (.op (.pure (.pick (.tmp 118) (.const (.bool true)) (.tmp 122)))) none,
       .act (some 124) (.op (.pure (.move (.tmp 123)))) none,
       .act (some 125) (.op (.pure (.move (.tmp 15)))) (some (124, false)),
       .act (some 126) (.op (.pure (.move (.tmp 125)))) (some (124, false)),
       .act (some 127) (.op (.pure (.move (.tmp 14)))) (some (126, true)),
       .act (some 128) (.op (.pure (.move (.tmp 16)))) (some (126, true)),
       .act (some 129) (.op (.pure (.bin .neq (.tmp 127) (.tmp 128)))) (some (126, true)),
       .act (some 130) (.op (.pure (.pick (.tmp 126) (.tmp 129) (.const (.bool false))))) (some (124, false)),
       .act (some 131) (.op (.pure (.pick (.tmp 124) (.const (.bool true)) (.tmp 130)))) none,
       .again 116 (.load1 (.tmp 115)) none])
     (.cond (.tmp 131)
      (.seq (.steps [
        .act (some 2) (.op (.pure (.move (.const (.bool false))))) none])
      .ret)
      .skip)))))))
    (.steps [
      .act (some 30) (.op (.pure (.move (.tmp 5)))) none,
      .act (some 31) (.op (.pure (.bin .add (.tmp 30) (.const (.int .i64 1))))) none,
      .act (some 5) (.op (.pure (.move (.tmp 31)))) none]))))))
  (.seq (.steps [
    .act (some 132) (.op (.pure (.move (.tmp 3)))) none,
    .act (some 133) (.call (.func 12) [(.tmp 132)]) none,
    .act (some 134) (.call (.func 22) [(.tmp 133)]) none,
    .act (some 17) (.op (.pure (.move (.tmp 134)))) none])
  (.seq (.seq (.steps [
    .act (some 135) (.op (.pure (.move (.tmp 17)))) none,
    .act (some 136) (.op (.pure (.len false (.tmp 135)))) none,
    .act (some 137) (.op (.pure (.fieldAddr 0 (.tmp 4)))) none,
    .act (some 138) (.op (.read (.load1 (.tmp 137)))) none,
    .act (some 139) (.op (.pure (.len false (.tmp 138)))) none,
    .act (some 140) (.op (.pure (.bin .neq (.tmp 136) (.tmp 139)))) none])
  (.cond (.tmp 140)
   (.seq (.steps [
     .act (some 2) (.op (.pure (.move (.const (.bool false))))) none])
   .ret)
   .skip))
  (.seq (.seq (.steps [
    .act (some 18) (.op (.pure (.move (.const (.int .i64 0))))) none])
  (.block 3 (.loop [4, 17, 18] (.seq (.seq (.steps [
      .act (some 141) (.op (.pure (.move (.tmp 18)))) none,
      .act (some 142) (.op (.pure (.move (.tmp 17)))) none,
      .act (some 143) (.op (.pure (.len false (.tmp 142)))) none,
      .act (some 144) (.op (.pure (.bin .lss (.tmp 141) (.tmp 143)))) none])
    (.cond (.tmp 144)
     .skip
     (.exit 3)))
    (.seq (.block 4 (.seq (.steps [
       .act (some 147) (.op (.pure (.move (.tmp 17)))) none,
       .act (some 148) (.op (.pure (.move (.tmp 18)))) none,
       .act (some 149) (.op (.pure (.idxSl 8 (.tmp 147) (.tmp 148)))) none,
       .act (some 150) (.op (.read (.loadN 8 (.tmp 149)))) none,
       .act (some 151) (.op (.pure (.fieldAddr 0 (.tmp 4)))) none,
       .act (some 152) (.op (.read (.load1 (.tmp 151)))) none,
       .act (some 153) (.op (.pure (.move (.tmp 18)))) none,
       .act (some 154) (.op (.pure (.idxSl 8 (.tmp 152) (.tmp 153)))) none,
       .act (some 155) (.op (.read (.loadN 8 (.tmp 154)))) none,
       .act (some 156) (.op (.pure (.eqAgg [false, false, false, false, false, true, false, false] true (.tmp 150) (.tmp 155)))) none])
     (.cond (.tmp 156)
      (.seq (.steps [
        .act (some 2) (.op (.pure (.move (.const (.bool false))))) none])
      .ret)
      .skip)))
    (.steps [
      .act (some 145) (.op (.pure (.move (.tmp 18)))) none,
      .act (some 146) (.op (.pure (.bin .add (.tmp 145) (.const (.int .i64 1))))) none,
      .act (some 18) (.op (.pure (.move (.tmp 146)))) none]))))))
  (.seq (.steps [
    .act (some 157) (.call (.func 15) []) none,
    .act (some 2) (.op (.pure (.move (.tmp 157)))) none])
  .ret))))))))) }
theorem c5 : compFn Try.prog (mkPlan Try.prog) [(6, [0, 3, 4, 5]), (31, [4, 17, 18])] true 5 = some L5 := by kernel_rfl
/-- sluiceway/sluicewaylaw04.HistNobody -/
def L6 : LFun := { n := 61, pop := true, res := [.tmp 2], code :=
  (.seq (.steps [
    .act (some 1) (.op (.new (.box (.tmp 0)))) none,
    .act (some 2) (.op (.pure (.move (.const (.bool false))))) none])
  (.seq (.seq (.steps [
    .act (some 3) (.op (.pure (.move (.const (.int .i64 0))))) none])
  (.block 0 (.loop [1, 3] (.seq (.seq (.steps [
      .act (some 9) (.op (.pure (.move (.tmp 3)))) none,
      .act (some 10) (.op (.pure (.bin .lss (.tmp 9) (.const (.int .i64 2))))) none])
    (.cond (.tmp 10)
     .skip
     (.exit 0)))
    (.seq (.block 1 (.seq (.steps [
       .act (some 13) (.op (.pure (.build [(.slice none 0 0), (.map none), (.int .i64 0)] []))) none,
       .act (some 14) (.op (.new (.box (.tmp 13)))) none,
       .act (some 4) (.op (.pure (.move (.tmp 14)))) none])
     (.seq (.seq (.steps [
       .act (some 15) (.op (.pure (.move (.tmp 3)))) none,
       .act (some 16) (.op (.pure (.bin .eql (.tmp 15) (.const (.int .i64 1))))) none])
     (.cond (.tmp 16)
      (.steps [
        .act (some 4) (.op (.pure (.move (.const (.pointer none))))) none])
      .skip))
     (.seq (.steps [
       .act (some 17) (.op (.pure (.move (.tmp 4)))) none,
       .act (some 18) (.call (.func 11) [(.tmp 17)]) none])
     (.seq (.steps [
       .act (some 20) (.op (.pure (.move (.tmp 4)))) none,
       .act (some 21) (.op (.pure (.fieldAddr 1 (.tmp 1)))) none,
       .act (some 22) (.op (.read (.load1 (.tmp 21)))) none,
       .act (some 23) (.op (.pure (.fieldAddr 2 (.tmp 1)))) none,
       .act (some 24) (.op (.read (.load1 (.tmp 23)))) none,
       .act (some 25) (.op (.pure (.fieldAddr 3 (.tmp 1)))) none,
       .act (some 26) (.op (.read (.load1 (.tmp 25)))) none,
       .act (some 27) (.call (.func 9) [(.tmp 20), (.tmp 22), (.tmp 24), (.tmp 26)]) none,
       .act (some 19) (.op (.pure (.move (.tmp 27)))) none,
       .act (some 28) (.op (.pure (.extract (.tmp 19) 0))) none,
       .act (some 29) (.op (.pure (.extract (.tmp 19) 1))) none,
       .act (some 5) (.op (.pure (.move (.tmp 28)))) none,
       .act (some 6) (.op (.pure (.move (.tmp 29)))) none])
     (.seq (.steps [
       .act (some 31) (.op (.pure (.move (.tmp 4)))) none,
       .act (some 32) (.op (.pure (.fieldAddr 1 (.tmp 1)))) none,
       .act (some 33) (.op (.read (.load1 (.tmp 32)))) none,
       .act (some 34) (.call (.func 19) [(.tmp 31), (.tmp 33)]) none,
       .act (some 30) (.op (.pure (.move (.tmp 34)))) none,
       .act (some 35) (.op (.pure (.extract (.tmp 30) 0))) none,
       .act (some 36) (.op (.pure (.extract (.tmp 30) 1))) none,
       .act (some 7) (.op (.pure (.move (.tmp 35)))) none,
       .act (some 8) (.op (.pure (.move (.tmp 36)))) none])
     (.seq (.steps [
       .act (some 37) (.op (.pure (.move (.tmp 6)))) none,
       .act (some 38) (.op (.pure (.bin .neq (.tmp 37) (.const (.int .i64 1))))) none,
       .act (some 39) (.op (.pure (.move (.tmp 38)))) none,
       .act (some 40) (.op (.pure (.move (.tmp 4)))) (some (39, false)),
       .act (some 41) (.op (.pure (.fieldAddr 1 (.tmp 1)))) (some (39, false)),
       .act (some 42) (.op (.read (.load1 (.tmp 41)))) (some (39, false)),
       .act (some 43) (.call (.func 10) [(.tmp 40), (.tmp 42), (.const (.int .i64 0)), (.const (w64 0#64))]) (some (39, false)),
       .act (some 44) (.op (.pure (.bin .neq (.tmp 43) (.const (.int .i64 1))))) (some (39, false)),
       .act (some 45) (.op (.pure (.pick (.tmp 39) (.const (.bool true)) (.tmp 44)))) none,
       .act (some 46) (.op (.pure (.move (.tmp 45)))) none,
       .act (some 47) (.op (.pure (.move (.tmp 8)))) (some (46, false)),
       .act (some 48) (.op (.pure (.pick (.tmp 46) (.const (.bool true)) (.tmp 47)))) none,
       .act (some 49) (.op (.pure (.move (.tmp 48)))) none,
       .act (some 50) (.op (.pure (.move (.tmp 4)))) (some (49, false)),
       .act (some 51) (.call (.func 21) [(.tmp 50)]) (some (49, false)),
       .act (some 52) (.op (.pure (.bin .neq (.tmp 51) (.const (.int .i64 0))))) (some (49, false)),
       .act (some 53) (.op (.pure (.pick (.tmp 49) (.const (.bool true)) (.tmp 52)))) none,
       .act (some 54) (.op (.pure (.move (.tmp 53)))) none,
       .act (some 55) (.op (.pure (.move (.tmp 4)))) (some (54, false)),
       .act (some 56) (.call (.func 12) [(.tmp 55)]) (some (54, false)),
       .act (some 57) (.op (.pure (.len false (.tmp 56)))) (some (54, false)),
       .act (some 58) (.op (.pure (.bin .neq (.tmp 57) (.const (.int .i64 0))))) (some (54, false)),
       .act (some 59) (.op (.pure (.pick (.tmp 54) (.const (.bool true)) (.tmp 58)))) none])
     (.cond (.tmp 59)
      (.seq (.steps [
        .act (some 2) (.op (.pure (.move (.const (.bool false))))) none])
      .ret)
      .skip))))))))
    (.steps [
      .act (some 11) (.op (.pure (.move (.tmp 3)))) none,
      .act (some 12) (.op (.pure (.bin .add (.tmp 11) (.const (.int .i64 1))))) none,
      .act (some 3) (.op (.pure (.move (.tmp 12)))) none]))))))
  (.seq (.steps [
    .act (some 60) (.call (.func 15) []) none,
    .act (some 2) (.op (.pure (.move (.tmp 60)))) none])
  .ret))) }
theorem c6 : compFn Try.prog (mkPlan Try.prog) [(2, [1, 3])] true 6 = some L6 := by kernel_rfl
/-- sluiceway/sluicewaylaw04.HistTells -/
def L7 : LFun := { n := 132, pop := true, res := [.tmp 6], code :=
  (.seq (.steps [
    .act (some 6) (.op (.pure (.move (.const (.bool false))))) none])
  (.seq (.seq (.steps [
    .act (some 13) (.op (.pure (.move (.tmp 0)))) none,
    .act (some 14) (.op (.pure (.len false (.tmp 13)))) none,
    .act (some 15) (.op (.pure (.bin .gtr (.tmp 14) (.const (.int .i64 60))))) none])
  (.cond (.tmp 15)
   (.steps [
     .act (some 16) (.op (.pure (.move (.tmp 0)))) none,
     .act (some 17) (.op (.read (.slSl 8 (.tmp 16) none (some (.const (.int .i64 60))) none))) none,
     .act (some 0) (.op (.pure (.move (.tmp 17)))) none])
   .skip))
  (.seq (.steps [
    .act (some 18) (.op (.pure (.move (.tmp 0)))) none,
    .act (some 19) (.call (.func 22) [(.tmp 18)]) none,
    .act (some 7) (.op (.pure (.move (.tmp 19)))) none])
  (.seq (.steps [
    .act (some 8) (.op (.pure (.move (.const (.int .i64 0))))) none])
  (.seq (.seq (.steps [
    .act (some 9) (.op (.pure (.move (.const (.int .i64 0))))) none])
  (.block 0 (.loop [0, 1, 2, 7, 8, 9] (.seq (.seq (.steps [
      .act (some 20) (.op (.pure (.move (.tmp 9)))) none,
      .act (some 21) (.op (.pure (.move (.tmp 0)))) none,
      .act (some 22) (.op (.pure (.len false (.tmp 21)))) none,
      .act (some 23) (.op (.pure (.bin .lss (.tmp 20) (.tmp 22)))) none])
    (.cond (.tmp 23)
     .skip
     (.exit 0)))
    (.seq (.block 1 (.seq (.seq (.steps [
       .act (some 26) (.op (.pure (.move (.tmp 0)))) none,
       .act (some 27) (.op (.pure (.move (.tmp 9)))) none,
       .act (some 28) (.op (.pure (.idxSl 8 (.tmp 26) (.tmp 27)))) none,
       .act (some 29) (.op (.read (.loadN 8 (.tmp 28)))) none,
       .act (some 31) (.op (.pure (.move (.tmp 7)))) none,
       .act (some 32) (.op (.pure (.move (.tmp 9)))) none,
       .act (some 33) (.op (.pure (.idxSl 8 (.tmp 31) (.tmp 32)))) none,
       .act (some 34) (.op (.read (.loadN 8 (.tmp 33)))) none,
       .act (some 30) (.call (.func 23) [(.tmp 29)]) none,
       .again 34 (.loadN 8 (.tmp 33)) none,
       .act (some 35) (.call (.func 24) [(.tmp 34)]) none,
       .act (some 36) (.op (.pure (.strOp .neq (.tmp 30) (.tmp 35)))) none])
     (.cond (.tmp 36)
      (.seq (.steps [
        .act (some 6) (.op (.pure (.move (.const (.bool false))))) none])
      .ret)
      .skip))
     (.seq (.steps [
       .act (some 10) (.op (.pure (.move (.const (.int .i64 0))))) none])
     (.block 2 (.loop [0, 1, 2, 7, 8, 9, 10] (.seq (.seq (.steps [
         .act (some 37) (.op (.pure (.move (.tmp 10)))) none,
         .act (some 38) (.op (.pure (.move (.tmp 0)))) none,
         .act (some 39) (.op (.pure (.len false (.tmp 38)))) none,
         .act (some 40) (.op (.pure (.bin .lss (.tmp 37) (.tmp 39)))) none])
       (.cond (.tmp 40)
        .skip
        (.exit 2)))
       (.seq (.block 3 (.seq (.steps [
          .act (some 43) (.op (.pure (.move (.tmp 7)))) none,
          .act (some 44) (.op (.pure (.move (.tmp 9)))) none,
          .act (some 45) (.op (.pure (.idxSl 8 (.tmp 43) (.tmp 44)))) none,
          .act (some 46) (.op (.read (.loadN 8 (.tmp 45)))) none,
          .act (some 47) (.op (.pure (.move (.tmp 7)))) none,
          .act (some 48) (.op (.pure (.move (.tmp 10)))) none,
          .act (some 49) (.op (.pure (.idxSl 8 (.tmp 47) (.tmp 48)))) none,
          .act (some 50) (.op (.read (.loadN 8 (.tmp 49)))) none,
          .act (some 51) (.call (.func 25) [(.tmp 46), (.tmp 50)]) none,
          .act (some 11) (.op (.pure (.move (.tmp 51)))) none])
        (.seq (.steps [
          .act (some 52) (.op (.pure (.move (.tmp 11)))) none,
          .act (some 53) (.op (.pure (.not (.tmp 52)))) none,
          .act (some 54) (.op (.pure (.move (.tmp 53)))) none,
          .act (some 55) (.op (.pure (.move (.tmp 7)))) (some (54, true)),
          .act (some 56) (.op (.pure (.move (.tmp 10)))) (some (54, true)),
          .act (some 57) (.op (.pure (.idxSl 8 (.tmp 55) (.tmp 56)))) (some (54, true)),
          .act (some 58) (.op (.read (.loadN 8 (.tmp 57)))) (some (54, true)),
          .act (some 59) (.op (.pure (.move (.tmp 7)))) (some (54, true)),
          .act (some 60) (.op (.pure (.move (.tmp 9)))) (some (54, true)),
          .act (some 61) (.op (.pure (.idxSl 8 (.tmp 59) (.tmp 60)))) (some (54, true)),
          .act (some 62) (.op (.read (.loadN 8 (.tmp 61)))) (some (54, true)),
          .act (some 63) (.call (.func 25) [(.tmp 58), (.tmp 62)]) (some (54, true)),
          .act (some 64) (.op (.pure (.not (.tmp 63)))) (some (54, true)),
          .act (some 65) (.op (.pure (.pick (.tmp 54) (.tmp 64) (.const (.bool false))))) none,
          .act (some 12) (.op (.pure (.move (.tmp 65)))) none])
        (.seq (.seq (.steps [
          .act (some 66) (.op (.pure (.move (.tmp 0)))) none,
          .act (some 67) (.op (.pure (.move (.tmp 9)))) none,
          .act (some 68) (.op (.pure (.idxSl 8 (.tmp 66) (.tmp 67)))) none,
          .act (some 69) (.op (.read (.loadN 8 (.tmp 68)))) none,
          .act (some 70) (.op (.pure (.move (.tmp 0)))) none,
          .act (some 71) (.op (.pure (.move (.tmp 10)))) none,
          .act (some 72) (.op (.pure (.idxSl 8 (.tmp 70) (.tmp 71)))) none,
          .act (some 73) (.op (.read (.loadN 8 (.tmp 72)))) none,
          .act (some 75) (.op (.pure (.move (.tmp 11)))) none,
          .act (some 74) (.call (.func 14) [(.tmp 69), (.tmp 73)]) none,
          .act (some 76) (.op (.pure (.eqB true (.tmp 74) (.tmp 75)))) none,
          .act (some 77) (.op (.pure (.move (.tmp 76)))) none,
          .act (some 78) (.op (.pure (.move (.tmp 0)))) (some (77, false)),
          .act (some 79) (.op (.pure (.move (.tmp 9)))) (some (77, false)),
          .act (some 80) (.op (.pure (.idxSl 8 (.tmp 78) (.tmp 79)))) (some (77, false)),
          .act (some 81) (.op (.read (.loadN 8 (.tmp 80)))) (some (77, false)),
          .act (some 82) (.op (.pure (.move (.tmp 0)))) (some (77, false)),
          .act (some 83) (.op (.pure (.move (.tmp 10)))) (some (77, false)),
          .act (some 84) (.op (.pure (.idxSl 8 (.tmp 82) (.tmp 83)))) (some (77, false)),
          .act (some 85) (.op (.read (.loadN 8 (.tmp 84)))) (some (77, false)),
          .act (some 87) (.op (.pure (.move (.tmp 12)))) (some (77, false)),
          .act (some 86) (.call (.func 16) [(.tmp 81), (.tmp 85)]) (some (77, false)),
          .act (some 88) (.op (.pure (.eqB true (.tmp 86) (.tmp 87)))) (some (77, false)),
          .act (some 89) (.op (.pure (.pick (.tmp 77) (.const (.bool true)) (.tmp 88)))) none])
        (.cond (.tmp 89)
         (.seq (.steps [
           .act (some 6) (.op (.pure (.move (.const (.bool false))))) none])
         .ret)
         .skip))
        (.seq (.steps [
          .act (some 90) (.op (.pure (.move (.tmp 9)))) none,
          .act (some 91) (.op (.pure (.move (.tmp 10)))) none,
          .act (some 92) (.op (.pure (.bin .neq (.tmp 90) (.tmp 91)))) none,
          .act (some 93) (.op (.pure (.move (.tmp 92)))) none,
          .act (some 94) (.op (.pure (.move (.tmp 10)))) (some (93, true)),
          .act (some 95) (.op (.pure (.move (.tmp 1)))) (some (93, true)),
          .act (some 96) (.op (.pure (.bin .eql (.tmp 94) (.tmp 95)))) (some (93, true)),
          .act (some 97) (.op (.pure (.pick (.tmp 93) (.tmp 96) (.const (.bool false))))) none,
          .act (some 98) (.op (.pure (.move (.tmp 97)))) none,
          .act (some 99) (.op (.pure (.move (.tmp 12)))) (some (98, true)),
          .act (some 100) (.op (.pure (.pick (.tmp 98) (.tmp 99) (.const (.bool false))))) none,
          .act (some 101) (.op (.pure (.move (.tmp 100)))) none,
          .act (some 102) (.op (.pure (.move (.tmp 2)))) (some (101, true)),
          .act (some 103) (.op (.pure (.bin .lss (.tmp 102) (.const (.int .i64 0))))) (some (101, true)),
          .act (some 104) (.op (.pure (.move (.tmp 103)))) (some (101, true)),
          .act (some 105) (.op (.pure (.move (.tmp 0)))) (some (104, false)),
          .act (some 106) (.op (.pure (.move (.tmp 9)))) (some (104, false)),
          .act (some 107) (.op (.pure (.idxSl 8 (.tmp 105) (.tmp 106)))) (some (104, false)),
          .act (some 108) (.op (.pure (.fieldAddr 1 (.tmp 107)))) (some (104, false)),
          .act (some 109) (.op (.read (.load1 (.tmp 108)))) (some (104, false)),
          .act (some 110) (.op (.pure (.move (.tmp 2)))) (some (104, false)),
          .act (some 111) (.op (.pure (.bin .eql (.tmp 109) (.tmp 110)))) (some (104, false)),
          .act (some 112) (.op (.pure (.pick (.tmp 104) (.const (.bool true)) (.tmp 111)))) (some (101, true)),
          .act (some 113) (.op (.pure (.pick (.tmp 101) (.tmp 112) (.const (.bool false))))) none])
        (.cond (.tmp 113)
         (.steps [
           .act (some 114) (.op (.pure (.move (.tmp 8)))) none,
           .act (some 115) (.op (.pure (.bin .add (.tmp 114) (.const (.int .i64 1))))) none,
           .act (some 8) (.op (.pure (.move (.tmp 115)))) none])
         .skip))))))
       (.steps [
         .act (some 41) (.op (.pure (.move (.tmp 10)))) none,
         .act (some 42) (.op (.pure (.bin .add (.tmp 41) (.const (.int .i64 1))))) none,
         .act (some 10) (.op (.pure (.move (.tmp 42)))) none]))))))))
    (.steps [
      .act (some 24) (.op (.pure (.move (.tmp 9)))) none,
      .act (some 25) (.op (.pure (.bin .add (.tmp 24) (.const (.int .i64 1))))) none,
      .act (some 9) (.op (.pure (.move (.tmp 25)))) none]))))))
  (.seq (.steps [
    .act (some 116) (.op (.pure (.move (.tmp 0)))) none,
    .act (some 117) (.call (.func 13) [(.tmp 116)]) none,
    .act (some 118) (.op (.pure (.move (.tmp 7)))) none,
    .act (some 119) (.call (.func 26) [(.tmp 118)]) none,
    .act (some 120) (.op (.pure (.eqB false (.tmp 117) (.tmp 119)))) none,
    .act (some 121) (.op (.pure (.move (.tmp 120)))) none,
    .act (some 122) (.op (.pure (.move (.tmp 0)))) (some (121, true)),
    .act (some 123) (.op (.pure (.move (.tmp 1)))) (some (121, true)),
    .act (some 124) (.op (.pure (.move (.tmp 2)))) (some (121, true)),
    .act (some 125) (.call (.func 27) [(.tmp 122), (.tmp 123), (.tmp 124)]) (some (121, true)),
    .act (some 126) (.op (.pure (.move (.tmp 8)))) (some (121, true)),
    .act (some 127) (.op (.pure (.bin .eql (.tmp 125) (.tmp 126)))) (some (121, true)),
    .act (some 128) (.op (.pure (.pick (.tmp 121) (.tmp 127) (.const (.bool false))))) none,
    .act (some 129) (.op (.pure (.move (.tmp 128)))) none,
    .act (some 130) (.call (.func 15) []) (some (129, true)),
    .act (some 131) (.op (.pure (.pick (.tmp 129) (.tmp 130) (.const (.bool false))))) none,
    .act (some 6) (.op (.pure (.move (.tmp 131)))) none])
  .ret)))))) }
theorem c7 : compFn Try.prog (mkPlan Try.prog) [(6, [0, 1, 2, 7, 8, 9]), (11, [0, 1, 2, 7, 8, 9, 10])] true 7 = some L7 := by kernel_rfl
/-- sluiceway/hist.New -/
def L8 : LFun := { n := 4, pop := false, res := [.tmp 0], code :=
  (.seq (.steps [
    .act (some 0) (.op (.pure (.move (.const (.pointer none))))) none])
  (.seq (.steps [
    .act (some 1) (.op (.new (.makeMap))) none,
    .act (some 2) (.op (.pure (.build [(.slice none 0 0), (.map none), (.int .i64 0)] [(1, 1, (.tmp 1))]))) none,
    .act (some 3) (.op (.new (.box (.tmp 2)))) none,
    .act (some 0) (.op (.pure (.move (.tmp 3)))) none])
  .ret)) }
theorem c8 : compFn Try.prog (mkPlan Try.prog) [] false 8 = some L8 := by kernel_rfl
/-- (*sluiceway/hist.Log).Begin -/
def L9 : LFun := { n := 69, pop := false, res := [.tmp 8, .tmp 9], code :=
  (.seq (.steps [
    .act (some 8) (.op (.pure (.move (.const (.int .i64 0))))) none,
    .act (some 9) (.op (.pure (.move (.const (.int .i64 0))))) none])
  (.seq (.steps [
    .act (some 14) (.op (.pure (.move (.tmp 0)))) none,
    .act (some 15) (.op (.pure (.move (.tmp 1)))) none,
    .act (some 16) (.call (.func 19) [(.tmp 14), (.tmp 15)]) none,
    .act (some 13) (.op (.pure (.move (.tmp 16)))) none,
    .act (some 17) (.op (.pure (.extract (.tmp 13) 0))) none,
    .act (some 18) (.op (.pure (.extract (.tmp 13) 1))) none,
    .act (some 10) (.op (.pure (.move (.tmp 17)))) none,
    .act (some 11) (.op (.pure (.move (.tmp 18)))) none])
  (.seq (.block 0 (.seq (.steps [
     .act (some 20) (.op (.pure (.move (.tmp 0)))) none,
     .act (some 21) (.call (.func 28) [(.tmp 20)]) none,
     .act (some 19) (.op (.pure (.move (.tmp 21)))) none])
   (.cond (.tmp 19)
    (.seq (.steps [
      .act (some 8) (.op (.pure (.move (.const (.int .i64 0))))) none,
      .act (some 9) (.op (.pure (.move (.const (.int .i64 1))))) none])
    .ret)
    (.seq (.steps [
      .act (some 23) (.op (.pure (.move (.tmp 1)))) none,
      .act (some 24) (.op (.pure (.bin .lss (.tmp 23) (.const (.int .i64 0))))) none,
      .act (some 25) (.op (.pure (.move (.tmp 24)))) none,
      .act (some 26) (.op (.pure (.move (.tmp 1)))) (some (25, false)),
      .act (some 27) (.op (.pure (.bin .geq (.tmp 26) (.const (.int .i64 64))))) (some (25, false)),
      .act (some 28) (.op (.pure (.pick (.tmp 25) (.const (.bool true)) (.tmp 27)))) none,
      .act (some 22) (.op (.pure (.move (.tmp 28)))) none])
    (.cond (.tmp 22)
     (.seq (.steps [
       .act (some 8) (.op (.pure (.move (.const (.int .i64 0))))) none,
       .act (some 9) (.op (.pure (.move (.const (.int .i64 2))))) none])
     .ret)
     (.seq (.steps [
       .act (some 30) (.op (.pure (.move (.tmp 11)))) none,
       .act (some 29) (.op (.pure (.move (.tmp 30)))) none])
     (.cond (.tmp 29)
      (.seq (.steps [
        .act (some 8) (.op (.pure (.move (.const (.int .i64 0))))) none,
        .act (some 9) (.op (.pure (.move (.const (.int .i64 16))))) none])
      .ret)
      (.seq (.steps [
        .act (some 32) (.op (.pure (.move (.tmp 0)))) none,
        .act (some 33) (.op (.pure (.nilCheck (.tmp 32)))) none,
        .act (some 34) (.op (.pure (.fieldAddr 0 (.tmp 33)))) none,
        .act (some 35) (.op (.read (.load1 (.tmp 34)))) none,
        .act (some 36) (.op (.pure (.len false (.tmp 35)))) none,
        .act (some 37) (.op (.pure (.bin .geq (.tmp 36) (.const (.int .i64 1024))))) none,
        .act (some 31) (.op (.pure (.move (.tmp 37)))) none])
      (.cond (.tmp 31)
       (.seq (.steps [
         .act (some 8) (.op (.pure (.move (.const (.int .i64 0))))) none,
         .act (some 9) (.op (.pure (.move (.const (.int .i64 15))))) none])
       .ret)
       .skip)))))))))
  (.seq (.steps [
    .act (some 38) (.op (.pure (.move (.tmp 0)))) none,
    .act (some 39) (.op (.pure (.nilCheck (.tmp 38)))) none,
    .act (some 40) (.op (.pure (.fieldAddr 0 (.tmp 39)))) none,
    .act (some 41) (.op (.read (.load1 (.tmp 40)))) none,
    .act (some 42) (.op (.pure (.len false (.tmp 41)))) none,
    .act (some 12) (.op (.pure (.move (.tmp 42)))) none])
  (.seq (.steps [
    .act (some 43) (.op (.pure (.move (.tmp 0)))) none,
    .act (some 44) (.op (.pure (.move (.tmp 0)))) none,
    .act (some 45) (.op (.pure (.nilCheck (.tmp 44)))) none,
    .act (some 46) (.op (.pure (.fieldAddr 0 (.tmp 45)))) none,
    .act (some 47) (.op (.read (.load1 (.tmp 46)))) none,
    .act (some 48) (.op (.pure (.move (.tmp 1)))) none,
    .act (some 49) (.op (.pure (.move (.tmp 2)))) none,
    .act (some 50) (.op (.pure (.move (.tmp 3)))) none,
    .act (some 51) (.op (.pure (.move (.tmp 0)))) none,
    .act (some 52) (.op (.pure (.nilCheck (.tmp 51)))) none,
    .act (some 53) (.op (.pure (.fieldAddr 2 (.tmp 52)))) none,
    .act (some 54) (.op (.read (.load1 (.tmp 53)))) none,
    .act (some 55) (.op (.pure (.build [(.int .i64 0), (.int .i64 0), (w64 0#64), (.int .i64 0), (.int .i64 0), (.bool false), (.int .i64 0), (w64 0#64)] [(0, 1, (.tmp 48)), (1, 1, (.tmp 49)), (2, 1, (.tmp 50)), (3, 1, (.tmp 54))]))) none,
    .act (some 56) (.op (.new (.mkSlice 8 1 [(.int .i64 0), (.int .i64 0), (w64 0#64), (.int .i64 0), (.int .i64 0), (.bool false), (.int .i64 0), (w64 0#64)] [(0, 8, (.tmp 55))]))) none,
    .act (some 57) (.op (.eff (.append 8 64 (.tmp 47) (.tmp 56)))) none,
    .act (some 58) (.op (.pure (.nilCheck (.tmp 43)))) none,
    .act (some 59) (.op (.pure (.fieldAddr 0 (.tmp 58)))) none,
    .act none (.op (.eff (.store 1 (.tmp 59) (.tmp 57)))) none])
  (.seq (.steps [
    .act (some 60) (.op (.pure (.move (.tmp 0)))) none,
    .act (some 61) (.op (.pure (.nilCheck (.tmp 60)))) none,
    .act (some 62) (.op (.pure (.fieldAddr 1 (.tmp 61)))) none,
    .act (some 63) (.op (.read (.load1 (.tmp 62)))) none,
    .act (some 64) (.op (.pure (.move (.tmp 1)))) none,
    .act (some 65) (.op (.pure (.move (.tmp 12)))) none,
    .act none (.op (.eff (.mapUpdate false (.tmp 63) (.tmp 64) (.tmp 65)))) none])
  (.seq (.steps [
    .act (some 66) (.op (.pure (.move (.tmp 0)))) none,
    .act (some 67) (.call (.func 11) [(.tmp 66)]) none])
  (.seq (.steps [
    .act (some 68) (.op (.pure (.move (.tmp 12)))) none,
    .act (some 8) (.op (.pure (.move (.tmp 68)))) none,
    .act (some 9) (.op (.pure (.move (.const (.int .i64 0))))) none])
  .ret)))))))) }
theorem c9 : compFn Try.prog (mkPlan Try.prog) [] false 9 = some L9 := by kernel_rfl
/-- (*sluiceway/hist.Log).End -/
def L10 : LFun := { n := 68, pop := false, res := [.tmp 8], code :=
  (.seq (.steps [
    .act (some 8) (.op (.pure (.move (.const (.int .i64 0))))) none])
  (.seq (.block 0 (.seq (.steps [
     .act (some 11) (.op (.pure (.move (.tmp 0)))) none,
     .act (some 12) (.call (.func 28) [(.tmp 11)]) none,
     .act (some 10) (.op (.pure (.move (.tmp 12)))) none])
   (.cond (.tmp 10)
    (.seq (.steps [
      .act (some 8) (.op (.pure (.move (.const (.int .i64 1))))) none])
    .ret)
    (.seq (.steps [
      .act (some 14) (.op (.pure (.move (.tmp 1)))) none,
      .act (some 15) (.op (.pure (.bin .lss (.tmp 14) (.const (.int .i64 0))))) none,
      .act (some 16) (.op (.pure (.move (.tmp 15)))) none,
      .act (some 17) (.op (.pure (.move (.tmp 1)))) (some (16, false)),
      .act (some 18) (.op (.pure (.move (.tmp 0)))) (some (16, false)),
      .act (some 19) (.op (.pure (.nilCheck (.tmp 18)))) (some (16, false)),
      .act (some 20) (.op (.pure (.fieldAddr 0 (.tmp 19)))) (some (16, false)),
      .act (some 21) (.op (.read (.load1 (.tmp 20)))) (some (16, false)),
      .act (some 22) (.op (.pure (.len false (.tmp 21)))) (some (16, false)),
      .act (some 23) (.op (.pure (.bin .geq (.tmp 17) (.tmp 22)))) (some (16, false)),
      .act (some 24) (.op (.pure (.pick (.tmp 16) (.const (.bool true)) (.tmp 23)))) none,
      .act (some 13) (.op (.pure (.move (.tmp 24)))) none])
    (.cond (.tmp 13)
     (.seq (.steps [
       .act (some 8) (.op (.pure (.move (.const (.int .i64 13))))) none])
     .ret)
     (.seq (.steps [
       .act (some 26) (.op (.pure (.move (.tmp 0)))) none,
       .act (some 27) (.op (.pure (.nilCheck (.tmp 26)))) none,
       .act (some 28) (.op (.pure (.fieldAddr 0 (.tmp 27)))) none,
       .act (some 29) (.op (.read (.load1 (.tmp 28)))) none,
       .act (some 30) (.op (.pure (.move (.tmp 1)))) none,
       .act (some 31) (.op (.pure (.idxSl 8 (.tmp 29) (.tmp 30)))) none,
       .act (some 32) (.op (.pure (.fieldAddr 5 (.tmp 31)))) none,
       .act (some 33) (.op (.read (.load1 (.tmp 32)))) none,
       .act (some 25) (.op (.pure (.move (.tmp 33)))) none])
     (.cond (.tmp 25)
      (.seq (.steps [
        .act (some 8) (.op (.pure (.move (.const (.int .i64 16))))) none])
      .ret)
      .skip)))))))
  (.seq (.steps [
    .act (some 34) (.op (.pure (.move (.tmp 0)))) none,
    .act (some 35) (.op (.pure (.nilCheck (.tmp 34)))) none,
    .act (some 36) (.op (.pure (.fieldAddr 0 (.tmp 35)))) none,
    .act (some 37) (.op (.read (.load1 (.tmp 36)))) none,
    .act (some 38) (.op (.pure (.move (.tmp 1)))) none,
    .act (some 39) (.op (.pure (.idxSl 8 (.tmp 37) (.tmp 38)))) none,
    .act (some 9) (.op (.pure (.move (.tmp 39)))) none])
  (.seq (.steps [
    .act (some 40) (.op (.pure (.move (.tmp 9)))) none,
    .act (some 41) (.op (.pure (.move (.tmp 9)))) none,
    .act (some 42) (.op (.pure (.move (.tmp 9)))) none,
    .act (some 43) (.op (.pure (.move (.tmp 9)))) none,
    .act (some 44) (.op (.pure (.move (.tmp 0)))) none,
    .act (some 45) (.op (.pure (.nilCheck (.tmp 44)))) none,
    .act (some 46) (.op (.pure (.fieldAddr 2 (.tmp 45)))) none,
    .act (some 47) (.op (.read (.load1 (.tmp 46)))) none,
    .act (some 48) (.op (.pure (.move (.tmp 2)))) none,
    .act (some 49) (.op (.pure (.move (.tmp 3)))) none,
    .act (some 50) (.op (.pure (.nilCheck (.tmp 40)))) none,
    .act (some 51) (.op (.pure (.fieldAddr 5 (.tmp 50)))) none,
    .act none (.op (.eff (.store 1 (.tmp 51) (.const (.bool true))))) none,
    .act (some 52) (.op (.pure (.nilCheck (.tmp 41)))) none,
    .act (some 53) (.op (.pure (.fieldAddr 4 (.tmp 52)))) none,
    .act none (.op (.eff (.store 1 (.tmp 53) (.tmp 47)))) none,
    .act (some 54) (.op (.pure (.nilCheck (.tmp 42)))) none,
    .act (some 55) (.op (.pure (.fieldAddr 6 (.tmp 54)))) none,
    .act none (.op (.eff (.store 1 (.tmp 55) (.tmp 48)))) none,
    .act (some 56) (.op (.pure (.nilCheck (.tmp 43)))) none,
    .act (some 57) (.op (.pure (.fieldAddr 7 (.tmp 56)))) none,
    .act none (.op (.eff (.store 1 (.tmp 57) (.tmp 49)))) none])
  (.seq (.steps [
    .act (some 58) (.op (.pure (.move (.tmp 0)))) none,
    .act (some 59) (.op (.pure (.nilCheck (.tmp 58)))) none,
    .act (some 60) (.op (.pure (.fieldAddr 1 (.tmp 59)))) none,
    .act (some 61) (.op (.read (.load1 (.tmp 60)))) none,
    .act (some 62) (.op (.pure (.move (.tmp 9)))) none,
    .act (some 63) (.op (.pure (.nilCheck (.tmp 62)))) none,
    .act (some 64) (.op (.pure (.fieldAddr 0 (.tmp 63)))) none,
    .act (some 65) (.op (.read (.load1 (.tmp 64)))) none,
    .act none (.op (.eff (.delete false (.tmp 61) (.tmp 65)))) none])
  (.seq (.steps [
    .act (some 66) (.op (.pure (.move (.tmp 0)))) none,
    .act (some 67) (.call (.func 11) [(.tmp 66)]) none])
  (.seq (.steps [
    .act (some 8) (.op (.pure (.move (.const (.int .i64 0))))) none])
  .ret))))))) }
theorem c10 : compFn Try.prog (mkPlan Try.prog) [] false 10 = some L10 := by kernel_rfl
/-- (*sluiceway/hist.Log).Step -/
def L11 : LFun := { n := 12, pop := true, res := [], code :=
  (.seq (.steps [
    .act (some 2) (.op (.pure (.move (.tmp 0)))) none,
    .act (some 3) (.call (.func 28) [(.tmp 2)]) none,
    .act (some 4) (.op (.pure (.not (.tmp 3)))) none])
  (.cond (.tmp 4)
   (.steps [
     .act (some 5) (.op (.pure (.move (.tmp 0)))) none,
     .act (some 6) (.op (.pure (.nilCheck (.tmp 5)))) none,
     .act (some 7) (.op (.pure (.fieldAddr 2 (.tmp 6)))) none,
     .act (some 8) (.op (.read (.load1 (.tmp 7)))) none,
     .act (some 9) (.op (.pure (.bin .add (.tmp 8) (.const (.int .i64 1))))) none,
     .act (some 10) (.op (.pure (.nilCheck (.tmp 5)))) none,
     .act (some 11) (.op (.pure (.fieldAddr 2 (.tmp 10)))) none,
     .act none (.op (.eff (.store 1 (.tmp 11) (.tmp 9)))) none])
   .skip)) }
theorem c11 : compFn Try.prog (mkPlan Try.prog) [] true 11 = some L11 := by kernel_rfl
/-- (*sluiceway/hist.Log).Calls -/
def L12 : LFun := { n := 10, pop := false, res := [.tmp 2], code :=
  (.seq (.steps [
    .act (some 2) (.op (.pure (.move (.const (.slice none 0 0))))) none])
  (.seq (.seq (.steps [
    .act (some 3) (.op (.pure (.move (.tmp 0)))) none,
    .act (some 4) (.call (.func 28) [(.tmp 3)]) none])
  (.cond (.tmp 4)
   (.seq (.steps [
     .act (some 2) (.op (.pure (.move (.const (.slice none 0 0))))) none])
   .ret)
   .skip))
  (.seq (.steps [
    .act (some 5) (.op (.pure (.move (.tmp 0)))) none,
    .act (some 6) (.op (.pure (.nilCheck (.tmp 5)))) none,
    .act (some 7) (.op (.pure (.fieldAddr 0 (.tmp 6)))) none,
    .act (some 8) (.op (.read (.load1 (.tmp 7)))) none,
    .act (some 9) (.call (.func 29) [(.tmp 8)]) none,
    .act (some 2) (.op (.pure (.move (.tmp 9)))) none])
  .ret))) }
theorem c12 : compFn Try.prog (mkPlan Try.prog) [] false 12 = some L12 := by kernel_rfl
/-- sluiceway/hist.Right -/
def L13 : LFun := { n := 28, pop := true, res := [.tmp 2], code :=
  (.seq (.steps [
    .act (some 2) (.op (.pure (.move (.const (.bool false))))) none])
  (.seq (.seq (.steps [
    .act (some 6) (.op (.pure (.move (.tmp 0)))) none,
    .act (some 7) (.op (.pure (.len false (.tmp 6)))) none,
    .act (some 8) (.op (.pure (.bin .gtr (.tmp 7) (.const (.int .i64 1024))))) none])
  (.cond (.tmp 8)
   (.seq (.steps [
     .act (some 2) (.op (.pure (.move (.const (.bool false))))) none])
   .ret)
   .skip))
  (.seq (.seq (.steps [
    .act (some 9) (.op (.pure (.move (.tmp 0)))) none,
    .act (some 10) (.op (.pure (.len false (.tmp 9)))) none,
    .act (some 11) (.op (.pure (.move (.const (.int .i64 0))))) none])
  (.block 0 (.loop [0, 9, 10, 11] (.seq (.steps [
      .act (some 12) (.op (.pure (.bin .lss (.tmp 11) (.tmp 10)))) none])
    (.seq (.cond (.tmp 12)
     .skip
     (.exit 0))
    (.seq (.block 1 (.seq (.steps [
       .act (some 13) (.op (.pure (.move (.tmp 11)))) none,
       .act (some 14) (.op (.pure (.idxSl 8 (.tmp 9) (.tmp 11)))) none,
       .act (some 15) (.op (.read (.loadN 8 (.tmp 14)))) none,
       .act (some 4) (.op (.new (.alloc [(.int .i64 0), (.int .i64 0), (w64 0#64), (.int .i64 0), (.int .i64 0), (.bool false), (.int .i64 0), (w64 0#64)]))) none,
       .act (some 3) (.op (.pure (.move (.tmp 13)))) none,
       .act none (.op (.eff (.store 8 (.tmp 4) (.tmp 15)))) none])
     (.seq (.steps [
       .act (some 16) (.op (.pure (.mkFunc 30 [] [(.tmp 4)]))) none,
       .act (some 5) (.op (.pure (.move (.tmp 16)))) none])
     (.seq (.steps [
       .act (some 17) (.op (.read (.loadN 8 (.tmp 4)))) none,
       .act (some 18) (.call (.func 31) [(.tmp 17)]) none,
       .act (some 19) (.op (.pure (.not (.tmp 18)))) none,
       .act (some 20) (.op (.pure (.move (.tmp 19)))) none,
       .act (some 21) (.op (.pure (.move (.tmp 0)))) (some (20, false)),
       .act (some 22) (.op (.pure (.move (.tmp 3)))) (some (20, false)),
       .act (some 23) (.op (.read (.slSl 8 (.tmp 21) none (some (.tmp 22)) none))) (some (20, false)),
       .act (some 24) (.op (.pure (.move (.tmp 5)))) (some (20, false)),
       .act (some 25) (.call (.func 32) [(.tmp 23), (.tmp 24)]) (some (20, false)),
       .act (some 26) (.op (.pure (.pick (.tmp 20) (.const (.bool true)) (.tmp 25)))) none])
     (.cond (.tmp 26)
      (.seq (.steps [
        .act (some 2) (.op (.pure (.move (.const (.bool false))))) none])
      .ret)
      .skip)))))
    (.steps [
      .act (some 27) (.op (.pure (.bin .add (.tmp 11) (.const (.int .i64 1))))) none,
      .act (some 11) (.op (.pure (.move (.tmp 27)))) none])))))))
  (.seq (.steps [
    .act (some 2) (.op (.pure (.move (.const (.bool true))))) none])
  .ret)))) }
theorem c13 : compFn Try.prog (mkPlan Try.prog) [(4, [0, 9, 10, 11])] true 13 = some L13 := by kernel_rfl
/-- sluiceway/hist.Ahead -/
def L14 : LFun := { n := 14, pop := true, res := [.tmp 4], code :=
  (.seq (.steps [
    .act (some 2) (.op (.new (.box (.tmp 0)))) none,
    .act (some 3) (.op (.new (.box (.tmp 1)))) none,
    .act (some 4) (.op (.pure (.move (.const (.bool false))))) none])
  (.seq (.steps [
    .act (some 5) (.op (.pure (.fieldAddr 5 (.tmp 2)))) none,
    .act (some 6) (.op (.read (.load1 (.tmp 5)))) none,
    .act (some 7) (.op (.pure (.move (.tmp 6)))) none,
    .act (some 8) (.op (.pure (.fieldAddr 4 (.tmp 2)))) (some (7, true)),
    .act (some 9) (.op (.read (.load1 (.tmp 8)))) (some (7, true)),
    .act (some 10) (.op (.pure (.fieldAddr 3 (.tmp 3)))) (some (7, true)),
    .act (some 11) (.op (.read (.load1 (.tmp 10)))) (some (7, true)),
    .act (some 12) (.op (.pure (.bin .lss (.tmp 9) (.tmp 11)))) (some (7, true)),
    .act (some 13) (.op (.pure (.pick (.tmp 7) (.tmp 12) (.const (.bool false))))) none,
    .act (some 4) (.op (.pure (.move (.tmp 13)))) none])
  .ret)) }
theorem c14 : compFn Try.prog (mkPlan Try.prog) [] true 14 = some L14 := by kernel_rfl
/-- sluiceway/sluicewaylaw04.one -/
def L15 : LFun := { n := 70, pop := true, res := [.tmp 0], code :=
  (.seq (.steps [
    .act (some 0) (.op (.pure (.move (.const (.bool false))))) none])
  (.seq (.steps [
    .act (some 8) (.call (.func 8) []) none,
    .act (some 1) (.op (.pure (.move (.tmp 8)))) none])
  (.seq (.steps [
    .act (some 10) (.op (.pure (.move (.tmp 1)))) none,
    .act (some 11) (.call (.func 9) [(.tmp 10), (.const (.int .i64 0)), (.const (.int .i64 1)), (.const (w64 5#64))]) none,
    .act (some 9) (.op (.pure (.move (.tmp 11)))) none,
    .act (some 12) (.op (.pure (.extract (.tmp 9) 0))) none,
    .act (some 13) (.op (.pure (.extract (.tmp 9) 1))) none,
    .act (some 2) (.op (.pure (.move (.tmp 12)))) none,
    .act (some 3) (.op (.pure (.move (.tmp 13)))) none])
  (.seq (.steps [
    .act (some 15) (.op (.pure (.move (.tmp 1)))) none,
    .act (some 16) (.call (.func 9) [(.tmp 15), (.const (.int .i64 3)), (.const (.int .i64 2)), (.const (w64 6#64))]) none,
    .act (some 14) (.op (.pure (.move (.tmp 16)))) none,
    .act (some 17) (.op (.pure (.extract (.tmp 14) 0))) none,
    .act (some 18) (.op (.pure (.extract (.tmp 14) 1))) none,
    .act (some 4) (.op (.pure (.move (.tmp 17)))) none,
    .act (some 5) (.op (.pure (.move (.tmp 18)))) none])
  (.seq (.steps [
    .act (some 19) (.op (.pure (.move (.tmp 1)))) none,
    .act (some 20) (.op (.pure (.move (.tmp 2)))) none,
    .act (some 21) (.call (.func 10) [(.tmp 19), (.tmp 20), (.const (.int .i64 0)), (.const (w64 7#64))]) none,
    .act (some 6) (.op (.pure (.move (.tmp 21)))) none])
  (.seq (.steps [
    .act (some 22) (.op (.pure (.move (.tmp 1)))) none,
    .act (some 23) (.call (.func 12) [(.tmp 22)]) none,
    .act (some 7) (.op (.pure (.move (.tmp 23)))) none])
  (.seq (.steps [
    .act (some 24) (.op (.pure (.move (.tmp 3)))) none,
    .act (some 25) (.op (.pure (.bin .eql (.tmp 24) (.const (.int .i64 0))))) none,
    .act (some 26) (.op (.pure (.move (.tmp 25)))) none,
    .act (some 27) (.op (.pure (.move (.tmp 5)))) (some (26, true)),
    .act (some 28) (.op (.pure (.bin .eql (.tmp 27) (.const (.int .i64 0))))) (some (26, true)),
    .act (some 29) (.op (.pure (.pick (.tmp 26) (.tmp 28) (.const (.bool false))))) none,
    .act (some 30) (.op (.pure (.move (.tmp 29)))) none,
    .act (some 31) (.op (.pure (.move (.tmp 6)))) (some (30, true)),
    .act (some 32) (.op (.pure (.bin .eql (.tmp 31) (.const (.int .i64 0))))) (some (30, true)),
    .act (some 33) (.op (.pure (.pick (.tmp 30) (.tmp 32) (.const (.bool false))))) none,
    .act (some 34) (.op (.pure (.move (.tmp 33)))) none,
    .act (some 35) (.op (.pure (.move (.tmp 4)))) (some (34, true)),
    .act (some 36) (.op (.pure (.bin .eql (.tmp 35) (.const (.int .i64 1))))) (some (34, true)),
    .act (some 37) (.op (.pure (.pick (.tmp 34) (.tmp 36) (.const (.bool false))))) none,
    .act (some 38) (.op (.pure (.move (.tmp 37)))) none,
    .act (some 39) (.op (.pure (.move (.tmp 7)))) (some (38, true)),
    .act (some 40) (.op (.pure (.len false (.tmp 39)))) (some (38, true)),
    .act (some 41) (.op (.pure (.bin .eql (.tmp 40) (.const (.int .i64 2))))) (some (38, true)),
    .act (some 42) (.op (.pure (.pick (.tmp 38) (.tmp 41) (.const (.bool false))))) none,
    .act (some 43) (.op (.pure (.move (.tmp 42)))) none,
    .act (some 44) (.op (.pure (.move (.tmp 7)))) (some (43, true)),
    .act (some 45) (.op (.pure (.idxSl 8 (.tmp 44) (.const (.int .i64 0))))) (some (43, true)),
    .act (some 46) (.op (.read (.loadN 8 (.tmp 45)))) (some (43, true)),
    .act (some 47) (.op (.pure (.move (.tmp 7)))) (some (43, true)),
    .act (some 48) (.op (.pure (.idxSl 8 (.tmp 47) (.const (.int .i64 1))))) (some (43, true)),
    .act (some 49) (.op (.read (.loadN 8 (.tmp 48)))) (some (43, true)),
    .act (some 50) (.call (.func 16) [(.tmp 46), (.tmp 49)]) (some (43, true)),
    .act (some 51) (.op (.pure (.pick (.tmp 43) (.tmp 50) (.const (.bool false))))) none,
    .act (some 52) (.op (.pure (.move (.tmp 51)))) none,
    .act (some 53) (.op (.pure (.move (.tmp 7)))) (some (52, true)),
    .act (some 54) (.op (.pure (.idxSl 8 (.tmp 53) (.const (.int .i64 0))))) (some (52, true)),
    .act (some 55) (.op (.pure (.fieldAddr 4 (.tmp 54)))) (some (52, true)),
    .act (some 56) (.op (.read (.load1 (.tmp 55)))) (some (52, true)),
    .act (some 57) (.op (.pure (.bin .eql (.tmp 56) (.const (.int .i64 2))))) (some (52, true)),
    .act (some 58) (.op (.pure (.pick (.tmp 52) (.tmp 57) (.const (.bool false))))) none,
    .act (some 59) (.op (.pure (.move (.tmp 58)))) none,
    .act (some 60) (.op (.pure (.move (.tmp 7)))) (some (59, true)),
    .act (some 61) (.op (.pure (.idxSl 8 (.tmp 60) (.const (.int .i64 0))))) (some (59, true)),
    .act (some 62) (.op (.read (.loadN 8 (.tmp 61)))) (some (59, true)),
    .act (some 63) (.call (.func 23) [(.tmp 62)]) (some (59, true)),
    .act (some 64) (.op (.pure (.strOp .eql (.tmp 63) (.const (strV [48, 32, 49, 32, 53, 32, 48, 32, 50, 32, 48, 32, 55]))))) (some (59, true)),
    .act (some 65) (.op (.pure (.pick (.tmp 59) (.tmp 64) (.const (.bool false))))) none,
    .act (some 66) (.op (.pure (.move (.tmp 65)))) none,
    .act (some 67) (.op (.pure (.move (.tmp 7)))) (some (66, true)),
    .act (some 68) (.call (.func 13) [(.tmp 67)]) (some (66, true)),
    .act (some 69) (.op (.pure (.pick (.tmp 66) (.tmp 68) (.const (.bool false))))) none,
    .act (some 0) (.op (.pure (.move (.tmp 69)))) none])
  .ret))))))) }
theorem c15 : compFn Try.prog (mkPlan Try.prog) [] true 15 = some L15 := by kernel_rfl
/-- sluiceway/hist.Meets -/
def L16 : LFun := { n := 15, pop := true, res := [.tmp 4], code :=
  (.seq (.steps [
    .act (some 2) (.op (.new (.box (.tmp 0)))) none,
    .act (some 3) (.op (.new (.box (.tmp 1)))) none,
    .act (some 4) (.op (.pure (.move (.const (.bool false))))) none])
  (.seq (.steps [
    .act (some 5) (.op (.read (.loadN 8 (.tmp 2)))) none,
    .act (some 6) (.op (.read (.loadN 8 (.tmp 3)))) none,
    .act (some 7) (.call (.func 14) [(.tmp 5), (.tmp 6)]) none,
    .act (some 8) (.op (.pure (.not (.tmp 7)))) none,
    .act (some 9) (.op (.pure (.move (.tmp 8)))) none,
    .act (some 10) (.op (.read (.loadN 8 (.tmp 3)))) (some (9, true)),
    .act (some 11) (.op (.read (.loadN 8 (.tmp 2)))) (some (9, true)),
    .act (some 12) (.call (.func 14) [(.tmp 10), (.tmp 11)]) (some (9, true)),
    .act (some 13) (.op (.pure (.not (.tmp 12)))) (some (9, true)),
    .act (some 14) (.op (.pure (.pick (.tmp 9) (.tmp 13) (.const (.bool false))))) none,
    .act (some 4) (.op (.pure (.move (.tmp 14)))) none])
  .ret)) }
theorem c16 : compFn Try.prog (mkPlan Try.prog) [] true 16 = some L16 := by kernel_rfl
/-- (sluiceway/sluicewayref04.Log).Begin -/
def L17 : LFun := { n := 50, pop := false, res := [.loadN 2 8, .tmp 9, .tmp 10], code :=
  (.seq (.steps [
    .act (some 4) (.op (.new (.box (.tmp 0)))) none,
    .act (some 8) (.op (.new (.alloc [(.slice none 0 0), (.int .i64 0)]))) none,
    .act (some 9) (.op (.pure (.move (.const (.int .i64 0))))) none,
    .act (some 10) (.op (.pure (.move (.const (.int .i64 0))))) none])
  (.seq (.seq (.steps [
    .act (some 11) (.op (.pure (.move (.tmp 1)))) none,
    .act (some 12) (.op (.pure (.bin .lss (.tmp 11) (.const (.int .i64 0))))) none,
    .act (some 13) (.op (.pure (.move (.tmp 12)))) none,
    .act (some 14) (.op (.pure (.move (.tmp 1)))) (some (13, false)),
    .act (some 15) (.op (.pure (.bin .gtr (.tmp 14) (.const (.int .i64 63))))) (some (13, false)),
    .act (some 16) (.op (.pure (.pick (.tmp 13) (.const (.bool true)) (.tmp 15)))) none])
  (.cond (.tmp 16)
   (.seq (.steps [
     .act (some 17) (.op (.read (.loadN 2 (.tmp 4)))) none,
     .act none (.op (.eff (.store 2 (.tmp 8) (.tmp 17)))) none,
     .act (some 9) (.op (.pure (.move (.const (.int .i64 0))))) none,
     .act (some 10) (.op (.pure (.move (.const (.int .i64 2))))) none])
   .ret)
   .skip))
  (.seq (.seq (.steps [
    .act (some 18) (.op (.read (.loadN 2 (.tmp 4)))) none,
    .act (some 19) (.op (.pure (.move (.tmp 1)))) none,
    .act (some 20) (.call (.func 20) [(.tmp 18), (.tmp 19)]) none,
    .act (some 21) (.op (.pure (.bin .geq (.tmp 20) (.const (.int .i64 0))))) none])
  (.cond (.tmp 21)
   (.seq (.steps [
     .act (some 22) (.op (.read (.loadN 2 (.tmp 4)))) none,
     .act none (.op (.eff (.store 2 (.tmp 8) (.tmp 22)))) none,
     .act (some 9) (.op (.pure (.move (.const (.int .i64 0))))) none,
     .act (some 10) (.op (.pure (.move (.const (.int .i64 16))))) none])
   .ret)
   .skip))
  (.seq (.seq (.steps [
    .act (some 23) (.op (.pure (.fieldAddr 0 (.tmp 4)))) none,
    .act (some 24) (.op (.read (.load1 (.tmp 23)))) none,
    .act (some 25) (.op (.pure (.len false (.tmp 24)))) none,
    .act (some 26) (.op (.pure (.bin .geq (.tmp 25) (.const (.int .i64 1024))))) none])
  (.cond (.tmp 26)
   (.seq (.steps [
     .act (some 27) (.op (.read (.loadN 2 (.tmp 4)))) none,
     .act none (.op (.eff (.store 2 (.tmp 8) (.tmp 27)))) none,
     .act (some 9) (.op (.pure (.move (.const (.int .i64 0))))) none,
     .act (some 10) (.op (.pure (.move (.const (.int .i64 15))))) none])
   .ret)
   .skip))
  (.seq (.steps [
    .act (some 28) (.op (.new (.mkSlice 8 0 [] []))) none,
    .act (some 29) (.op (.pure (.fieldAddr 0 (.tmp 4)))) none,
    .act (some 30) (.op (.read (.load1 (.tmp 29)))) none,
    .act (some 32) (.op (.pure (.move (.tmp 1)))) none,
    .act (some 33) (.op (.pure (.move (.tmp 2)))) none,
    .act (some 34) (.op (.pure (.move (.tmp 3)))) none,
    .act (some 35) (.op (.pure (.fieldAddr 1 (.tmp 4)))) none,
    .act (some 36) (.op (.read (.load1 (.tmp 35)))) none,
    .act (some 37) (.op (.pure (.build [(.int .i64 0), (.int .i64 0), (w64 0#64), (.int .i64 0), (.int .i64 0), (.bool false), (.int .i64 0), (w64 0#64)] [(0, 1, (.tmp 32)), (1, 1, (.tmp 33)), (2, 1, (.tmp 34)), (3, 1, (.tmp 36))]))) none,
    .act (some 38) (.op (.new (.mkSlice 8 1 [(.int .i64 0), (.int .i64 0), (w64 0#64), (.int .i64 0), (.int .i64 0), (.bool false), (.int .i64 0), (w64 0#64)] [(0, 8, (.tmp 37))]))) none,
    .act (some 31) (.op (.eff (.append 8 64 (.tmp 28) (.tmp 30)))) none,
    .again 36 (.load1 (.tmp 35)) none,
    .act (some 39) (.op (.eff (.append 8 64 (.tmp 31) (.tmp 38)))) none,
    .act (some 40) (.op (.pure (.fieldAddr 0 (.tmp 4)))) none,
    .act none (.op (.eff (.store 1 (.tmp 40) (.tmp 39)))) none])
  (.seq (.steps [
    .act (some 41) (.op (.pure (.fieldAddr 1 (.tmp 4)))) none,
    .act (some 42) (.op (.read (.load1 (.tmp 41)))) none,
    .act (some 43) (.op (.pure (.bin .add (.tmp 42) (.const (.int .i64 1))))) none,
    .act (some 44) (.op (.pure (.fieldAddr 1 (.tmp 4)))) none,
    .act none (.op (.eff (.store 1 (.tmp 44) (.tmp 43)))) none])
  (.seq (.steps [
    .act (some 45) (.op (.read (.loadN 2 (.tmp 4)))) none,
    .act (some 46) (.op (.pure (.fieldAddr 0 (.tmp 4)))) none,
    .act (some 47) (.op (.read (.load1 (.tmp 46)))) none,
    .act (some 48) (.op (.pure (.len false (.tmp 47)))) none,
    .act (some 49) (.op (.pure (.bin .sub (.tmp 48) (.const (.int .i64 1))))) none,
    .act none (.op (.eff (.store 2 (.tmp 8) (.tmp 45)))) none,
    .act (some 9) (.op (.pure (.move (.tmp 49)))) none,
    .act (some 10) (.op (.pure (.move (.const (.int .i64 0))))) none,
    .again 47 (.load1 (.tmp 46)) none])
  .ret))))))) }
theorem c17 : compFn Try.prog (mkPlan Try.prog) [] false 17 = some L17 := by kernel_rfl
/-- (sluiceway/sluicewayref04.Log).End -/
def L18 : LFun := { n := 61, pop := false, res := [.loadN 2 8, .tmp 9], code :=
  (.seq (.steps [
    .act (some 4) (.op (.new (.box (.tmp 0)))) none,
    .act (some 8) (.op (.new (.alloc [(.slice none 0 0), (.int .i64 0)]))) none,
    .act (some 9) (.op (.pure (.move (.const (.int .i64 0))))) none])
  (.seq (.seq (.steps [
    .act (some 10) (.op (.pure (.move (.tmp 1)))) none,
    .act (some 11) (.op (.pure (.bin .lss (.tmp 10) (.const (.int .i64 0))))) none,
    .act (some 12) (.op (.pure (.move (.tmp 11)))) none,
    .act (some 13) (.op (.pure (.move (.tmp 1)))) (some (12, false)),
    .act (some 14) (.op (.pure (.fieldAddr 0 (.tmp 4)))) (some (12, false)),
    .act (some 15) (.op (.read (.load1 (.tmp 14)))) (some (12, false)),
    .act (some 16) (.op (.pure (.len false (.tmp 15)))) (some (12, false)),
    .act (some 17) (.op (.pure (.bin .geq (.tmp 13) (.tmp 16)))) (some (12, false)),
    .act (some 18) (.op (.pure (.pick (.tmp 12) (.const (.bool true)) (.tmp 17)))) none])
  (.cond (.tmp 18)
   (.seq (.steps [
     .act (some 19) (.op (.read (.loadN 2 (.tmp 4)))) none,
     .act none (.op (.eff (.store 2 (.tmp 8) (.tmp 19)))) none,
     .act (some 9) (.op (.pure (.move (.const (.int .i64 13))))) none])
   .ret)
   .skip))
  (.seq (.seq (.steps [
    .act (some 20) (.op (.pure (.fieldAddr 0 (.tmp 4)))) none,
    .act (some 21) (.op (.read (.load1 (.tmp 20)))) none,
    .act (some 22) (.op (.pure (.move (.tmp 1)))) none,
    .act (some 23) (.op (.pure (.idxSl 8 (.tmp 21) (.tmp 22)))) none,
    .act (some 24) (.op (.pure (.fieldAddr 5 (.tmp 23)))) none,
    .act (some 25) (.op (.read (.load1 (.tmp 24)))) none])
  (.cond (.tmp 25)
   (.seq (.steps [
     .act (some 26) (.op (.read (.loadN 2 (.tmp 4)))) none,
     .act none (.op (.eff (.store 2 (.tmp 8) (.tmp 26)))) none,
     .act (some 9) (.op (.pure (.move (.const (.int .i64 16))))) none])
   .ret)
   .skip))
  (.seq (.steps [
    .act (some 27) (.op (.new (.mkSlice 8 0 [] []))) none,
    .act (some 28) (.op (.pure (.fieldAddr 0 (.tmp 4)))) none,
    .act (some 29) (.op (.read (.load1 (.tmp 28)))) none,
    .act (some 30) (.op (.eff (.append 8 64 (.tmp 27) (.tmp 29)))) none,
    .act (some 31) (.op (.pure (.fieldAddr 0 (.tmp 4)))) none,
    .act none (.op (.eff (.store 1 (.tmp 31) (.tmp 30)))) none])
  (.seq (.steps [
    .act (some 32) (.op (.pure (.fieldAddr 0 (.tmp 4)))) none,
    .act (some 33) (.op (.read (.load1 (.tmp 32)))) none,
    .act (some 34) (.op (.pure (.move (.tmp 1)))) none,
    .act (some 35) (.op (.pure (.idxSl 8 (.tmp 33) (.tmp 34)))) none,
    .act (some 36) (.op (.pure (.fieldAddr 5 (.tmp 35)))) none,
    .act none (.op (.eff (.store 1 (.tmp 36) (.const (.bool true))))) none])
  (.seq (.steps [
    .act (some 37) (.op (.pure (.fieldAddr 0 (.tmp 4)))) none,
    .act (some 38) (.op (.read (.load1 (.tmp 37)))) none,
    .act (some 39) (.op (.pure (.move (.tmp 1)))) none,
    .act (some 40) (.op (.pure (.fieldAddr 1 (.tmp 4)))) none,
    .act (some 41) (.op (.read (.load1 (.tmp 40)))) none,
    .act (some 42) (.op (.pure (.idxSl 8 (.tmp 38) (.tmp 39)))) none,
    .act (some 43) (.op (.pure (.fieldAddr 4 (.tmp 42)))) none,
    .act none (.op (.eff (.store 1 (.tmp 43) (.tmp 41)))) none])
  (.seq (.steps [
    .act (some 44) (.op (.pure (.fieldAddr 0 (.tmp 4)))) none,
    .act (some 45) (.op (.read (.load1 (.tmp 44)))) none,
    .act (some 46) (.op (.pure (.move (.tmp 1)))) none,
    .act (some 47) (.op (.pure (.move (.tmp 2)))) none,
    .act (some 48) (.op (.pure (.idxSl 8 (.tmp 45) (.tmp 46)))) none,
    .act (some 49) (.op (.pure (.fieldAddr 6 (.tmp 48)))) none,
    .act none (.op (.eff (.store 1 (.tmp 49) (.tmp 47)))) none])
  (.seq (.steps [
    .act (some 50) (.op (.pure (.fieldAddr 0 (.tmp 4)))) none,
    .act (some 51) (.op (.read (.load1 (.tmp 50)))) none,
    .act (some 52) (.op (.pure (.move (.tmp 1)))) none,
    .act (some 53) (.op (.pure (.move (.tmp 3)))) none,
    .act (some 54) (.op (.pure (.idxSl 8 (.tmp 51) (.tmp 52)))) none,
    .act (some 55) (.op (.pure (.fieldAddr 7 (.tmp 54)))) none,
    .act none (.op (.eff (.store 1 (.tmp 55) (.tmp 53)))) none])
  (.seq (.steps [
    .act (some 56) (.op (.pure (.fieldAddr 1 (.tmp 4)))) none,
    .act (some 57) (.op (.read (.load1 (.tmp 56)))) none,
    .act (some 58) (.op (.pure (.bin .add (.tmp 57) (.const (.int .i64 1))))) none,
    .act (some 59) (.op (.pure (.fieldAddr 1 (.tmp 4)))) none,
    .act none (.op (.eff (.store 1 (.tmp 59) (.tmp 58)))) none])
  (.seq (.steps [
    .act (some 60) (.op (.read (.loadN 2 (.tmp 4)))) none,
    .act none (.op (.eff (.store 2 (.tmp 8) (.tmp 60)))) none,
    .act (some 9) (.op (.pure (.move (.const (.int .i64 0))))) none])
  .ret)))))))))) }
theorem c18 : compFn Try.prog (mkPlan Try.prog) [] false 18 = some L18 := by kernel_rfl
/-- (*sluiceway/hist.Log).Open -/
def L19 : LFun := { n := 21, pop := true, res := [.tmp 4, .tmp 5], code :=
  (.seq (.steps [
    .act (some 4) (.op (.pure (.move (.const (.int .i64 0))))) none,
    .act (some 5) (.op (.pure (.move (.const (.bool false))))) none])
  (.seq (.seq (.steps [
    .act (some 8) (.op (.pure (.move (.tmp 0)))) none,
    .act (some 9) (.call (.func 28) [(.tmp 8)]) none])
  (.cond (.tmp 9)
   (.seq (.steps [
     .act (some 4) (.op (.pure (.move (.const (.int .i64 0))))) none,
     .act (some 5) (.op (.pure (.move (.const (.bool false))))) none])
   .ret)
   .skip))
  (.seq (.steps [
    .act (some 11) (.op (.pure (.move (.tmp 0)))) none,
    .act (some 12) (.op (.pure (.nilCheck (.tmp 11)))) none,
    .act (some 13) (.op (.pure (.fieldAddr 1 (.tmp 12)))) none,
    .act (some 14) (.op (.read (.load1 (.tmp 13)))) none,
    .act (some 15) (.op (.pure (.move (.tmp 1)))) none,
    .act (some 16) (.op (.read (.lookup false (.int .i64 0) true (.tmp 14) (.tmp 15)))) none,
    .act (some 10) (.op (.pure (.move (.tmp 16)))) none,
    .act (some 17) (.op (.pure (.extract (.tmp 10) 0))) none,
    .act (some 18) (.op (.pure (.extract (.tmp 10) 1))) none,
    .act (some 6) (.op (.pure (.move (.tmp 17)))) none,
    .act (some 7) (.op (.pure (.move (.tmp 18)))) none])
  (.seq (.steps [
    .act (some 19) (.op (.pure (.move (.tmp 6)))) none,
    .act (some 20) (.op (.pure (.move (.tmp 7)))) none,
    .act (some 4) (.op (.pure (.move (.tmp 19)))) none,
    .act (some 5) (.op (.pure (.move (.tmp 20)))) none])
  .ret)))) }
theorem c19 : compFn Try.prog (mkPlan Try.prog) [] true 19 = some L19 := by kernel_rfl
/-- (sluiceway/sluicewayref04.Log).Open -/
def L20 : LFun := { n := 31, pop := true, res := [.tmp 4], code :=
  (.seq (.steps [
    .act (some 2) (.op (.new (.box (.tmp 0)))) none,
    .act (some 4) (.op (.pure (.move (.const (.int .i64 0))))) none])
  (.seq (.seq (.steps [
    .act (some 5) (.op (.pure (.move (.const (.int .i64 0))))) none])
  (.block 0 (.loop [1, 2, 5] (.seq (.seq (.steps [
      .act (some 6) (.op (.pure (.move (.tmp 5)))) none,
      .act (some 7) (.op (.pure (.fieldAddr 0 (.tmp 2)))) none,
      .act (some 8) (.op (.read (.load1 (.tmp 7)))) none,
      .act (some 9) (.op (.pure (.len false (.tmp 8)))) none,
      .act (some 10) (.op (.pure (.bin .lss (.tmp 6) (.tmp 9)))) none])
    (.cond (.tmp 10)
     .skip
     (.exit 0)))
    (.seq (.block 1 (.seq (.steps [
       .act (some 13) (.op (.pure (.fieldAddr 0 (.tmp 2)))) none,
       .act (some 14) (.op (.read (.load1 (.tmp 13)))) none,
       .act (some 15) (.op (.pure (.move (.tmp 5)))) none,
       .act (some 16) (.op (.pure (.idxSl 8 (.tmp 14) (.tmp 15)))) none,
       .act (some 17) (.op (.pure (.fieldAddr 0 (.tmp 16)))) none,
       .act (some 18) (.op (.read (.load1 (.tmp 17)))) none,
       .act (some 19) (.op (.pure (.move (.tmp 1)))) none,
       .act (some 20) (.op (.pure (.bin .eql (.tmp 18) (.tmp 19)))) none,
       .act (some 21) (.op (.pure (.move (.tmp 20)))) none,
       .act (some 22) (.op (.pure (.fieldAddr 0 (.tmp 2)))) (some (21, true)),
       .act (some 23) (.op (.read (.load1 (.tmp 22)))) (some (21, true)),
       .act (some 24) (.op (.pure (.move (.tmp 5)))) (some (21, true)),
       .act (some 25) (.op (.pure (.idxSl 8 (.tmp 23) (.tmp 24)))) (some (21, true)),
       .act (some 26) (.op (.pure (.fieldAddr 5 (.tmp 25)))) (some (21, true)),
       .act (some 27) (.op (.read (.load1 (.tmp 26)))) (some (21, true)),
       .act (some 28) (.op (.pure (.not (.tmp 27)))) (some (21, true)),
       .act (some 29) (.op (.pure (.pick (.tmp 21) (.tmp 28) (.const (.bool false))))) none])
     (.cond (.tmp 29)
      (.seq (.steps [
        .act (some 30) (.op (.pure (.move (.tmp 5)))) none,
        .act (some 4) (.op (.pure (.move (.tmp 30)))) none])
      .ret)
      .skip)))
    (.steps [
      .act (some 11) (.op (.pure (.move (.tmp 5)))) none,
      .act (some 12) (.op (.pure (.bin .add (.tmp 11) (.const (.int .i64 1))))) none,
      .act (some 5) (.op (.pure (.move (.tmp 12)))) none]))))))
  (.seq (.steps [
    .act (some 4) (.op (.pure (.move (.const (.int .i64 (-1)))))) none])
  .ret))) }
theorem c20 : compFn Try.prog (mkPlan Try.prog) [(2, [1, 2, 5])] true 20 = some L20 := by kernel_rfl
/-- (*sluiceway/hist.Log).Now -/
def L21 : LFun := { n := 9, pop := true, res := [.tmp 2], code :=
  (.seq (.steps [
    .act (some 2) (.op (.pure (.move (.const (.int .i64 0))))) none])
  (.seq (.seq (.steps [
    .act (some 3) (.op (.pure (.move (.tmp 0)))) none,
    .act (some 4) (.call (.func 28) [(.tmp 3)]) none])
  (.cond (.tmp 4)
   (.seq (.steps [
     .act (some 2) (.op (.pure (.move (.const (.int .i64 0))))) none])
   .ret)
   .skip))
  (.seq (.steps [
    .act (some 5) (.op (.pure (.move (.tmp 0)))) none,
    .act (some 6) (.op (.pure (.nilCheck (.tmp 5)))) none,
    .act (some 7) (.op (.pure (.fieldAddr 2 (.tmp 6)))) none,
    .act (some 8) (.op (.read (.load1 (.tmp 7)))) none,
    .act (some 2) (.op (.pure (.move (.tmp 8)))) none])
  .ret))) }
theorem c21 : compFn Try.prog (mkPlan Try.prog) [] true 21 = some L21 := by kernel_rfl
/-- sluiceway/sluicewaylaw04.Own -/
def L22 : LFun := { n := 37, pop := false, res := [.tmp 2], code :=
  (.seq (.steps [
    .act (some 2) (.op (.pure (.move (.const (.slice none 0 0))))) none])
  (.seq (.steps [
    .act (some 3) (.op (.pure (.move (.const (.slice none 0 0))))) none])
  (.seq (.seq (.steps [
    .act (some 4) (.op (.pure (.move (.const (.int .i64 0))))) none])
  (.block 0 (.loop [0, 3, 4] (.seq (.seq (.steps [
      .act (some 6) (.op (.pure (.move (.tmp 4)))) none,
      .act (some 7) (.op (.pure (.move (.tmp 0)))) none,
      .act (some 8) (.op (.pure (.len false (.tmp 7)))) none,
      .act (some 9) (.op (.pure (.bin .lss (.tmp 6) (.tmp 8)))) none])
    (.cond (.tmp 9)
     .skip
     (.exit 0)))
    (.seq (.block 1 (.seq (.steps [
       .act (some 12) (.op (.pure (.move (.tmp 0)))) none,
       .act (some 13) (.op (.pure (.move (.tmp 4)))) none,
       .act (some 14) (.op (.pure (.idxSl 8 (.tmp 12) (.tmp 13)))) none,
       .act (some 15) (.op (.read (.loadN 8 (.tmp 14)))) none,
       .act (some 5) (.op (.new (.alloc [(.int .i64 0), (.int .i64 0), (w64 0#64), (.int .i64 0), (.int .i64 0), (.bool false), (.int .i64 0), (w64 0#64)]))) none,
       .act none (.op (.eff (.store 8 (.tmp 5) (.tmp 15)))) none])
     (.steps [
       .act (some 16) (.op (.pure (.move (.tmp 3)))) none,
       .act (some 17) (.op (.pure (.fieldAddr 0 (.tmp 5)))) none,
       .act (some 18) (.op (.read (.load1 (.tmp 17)))) none,
       .act (some 19) (.op (.pure (.fieldAddr 1 (.tmp 5)))) none,
       .act (some 20) (.op (.read (.load1 (.tmp 19)))) none,
       .act (some 21) (.op (.pure (.fieldAddr 2 (.tmp 5)))) none,
       .act (some 22) (.op (.read (.load1 (.tmp 21)))) none,
       .act (some 23) (.op (.pure (.fieldAddr 3 (.tmp 5)))) none,
       .act (some 24) (.op (.read (.load1 (.tmp 23)))) none,
       .act (some 25) (.op (.pure (.fieldAddr 4 (.tmp 5)))) none,
       .act (some 26) (.op (.read (.load1 (.tmp 25)))) none,
       .act (some 27) (.op (.pure (.fieldAddr 5 (.tmp 5)))) none,
       .act (some 28) (.op (.read (.load1 (.tmp 27)))) none,
       .act (some 29) (.op (.pure (.fieldAddr 6 (.tmp 5)))) none,
       .act (some 30) (.op (.read (.load1 (.tmp 29)))) none,
       .act (some 31) (.op (.pure (.fieldAddr 7 (.tmp 5)))) none,
       .act (some 32) (.op (.read (.load1 (.tmp 31)))) none,
       .act (some 33) (.op (.pure (.build [(.int .i64 0), (.int .i64 0), (w64 0#64), (.int .i64 0), (.int .i64 0), (.bool false), (.int .i64 0), (w64 0#64)] [(0, 1, (.tmp 18)), (1, 1, (.tmp 20)), (2, 1, (.tmp 22)), (3, 1, (.tmp 24)), (4, 1, (.tmp 26)), (5, 1, (.tmp 28)), (6, 1, (.tmp 30)), (7, 1, (.tmp 32))]))) none,
       .act (some 34) (.op (.new (.mkSlice 8 1 [(.int .i64 0), (.int .i64 0), (w64 0#64), (.int .i64 0), (.int .i64 0), (.bool false), (.int .i64 0), (w64 0#64)] [(0, 8, (.tmp 33))]))) none,
       .act (some 35) (.op (.eff (.append 8 64 (.tmp 16) (.tmp 34)))) none,
       .act (some 3) (.op (.pure (.move (.tmp 35)))) none])))
    (.steps [
      .act (some 10) (.op (.pure (.move (.tmp 4)))) none,
      .act (some 11) (.op (.pure (.bin .add (.tmp 10) (.const (.int .i64 1))))) none,
      .act (some 4) (.op (.pure (.move (.tmp 11)))) none]))))))
  (.seq (.steps [
    .act (some 36) (.op (.pure (.move (.tmp 3)))) none,
    .act (some 2) (.op (.pure (.move (.tmp 36)))) none])
  .ret)))) }
theorem c22 : compFn Try.prog (mkPlan Try.prog) [(3, [0, 3, 4])] false 22 = some L22 := by kernel_rfl
/-- sluiceway/hist.Text -/
def L23 : LFun := { n := 33, pop := true, res := [.tmp 2], code :=
  (.seq (.steps [
    .act (some 1) (.op (.new (.box (.tmp 0)))) none,
    .act (some 2) (.op (.pure (.move (.const (strV []))))) none])
  (.seq (.steps [
    .act (some 4) (.op (.pure (.fieldAddr 0 (.tmp 1)))) none,
    .act (some 5) (.op (.read (.load1 (.tmp 4)))) none,
    .act (some 7) (.op (.pure (.fieldAddr 1 (.tmp 1)))) none,
    .act (some 8) (.op (.read (.load1 (.tmp 7)))) none,
    .act (some 10) (.op (.pure (.fieldAddr 2 (.tmp 1)))) none,
    .act (some 11) (.op (.read (.load1 (.tmp 10)))) none,
    .act (some 13) (.op (.pure (.fieldAddr 3 (.tmp 1)))) none,
    .act (some 14) (.op (.read (.load1 (.tmp 13)))) none,
    .act (some 6) (.call (.func 34) [(.tmp 5)]) none,
    .again 14 (.load1 (.tmp 13)) none,
    .again 11 (.load1 (.tmp 10)) none,
    .again 8 (.load1 (.tmp 7)) none,
    .act (some 9) (.call (.func 34) [(.tmp 8)]) none,
    .again 14 (.load1 (.tmp 13)) none,
    .again 11 (.load1 (.tmp 10)) none,
    .act (some 12) (.call (.func 35) [(.tmp 11)]) none,
    .again 14 (.load1 (.tmp 13)) none,
    .act (some 15) (.call (.func 34) [(.tmp 14)]) none,
    .act (some 16) (.op (.new (.mkSlice 1 4 [(strV []), (strV []), (strV []), (strV [])] [(0, 1, (.tmp 6)), (1, 1, (.tmp 9)), (2, 1, (.tmp 12)), (3, 1, (.tmp 15))]))) none,
    .act (some 17) (.call (.func 33) [(.tmp 16)]) none,
    .act (some 3) (.op (.pure (.move (.tmp 17)))) none])
  (.seq (.seq (.steps [
    .act (some 18) (.op (.pure (.fieldAddr 5 (.tmp 1)))) none,
    .act (some 19) (.op (.read (.load1 (.tmp 18)))) none])
  (.cond (.tmp 19)
   (.steps [
     .act (some 20) (.op (.pure (.move (.tmp 3)))) none,
     .act (some 21) (.op (.pure (.fieldAddr 4 (.tmp 1)))) none,
     .act (some 22) (.op (.read (.load1 (.tmp 21)))) none,
     .act (some 24) (.op (.pure (.fieldAddr 6 (.tmp 1)))) none,
     .act (some 25) (.op (.read (.load1 (.tmp 24)))) none,
     .act (some 27) (.op (.pure (.fieldAddr 7 (.tmp 1)))) none,
     .act (some 28) (.op (.read (.load1 (.tmp 27)))) none,
     .act (some 23) (.call (.func 34) [(.tmp 22)]) none,
     .again 28 (.load1 (.tmp 27)) none,
     .again 25 (.load1 (.tmp 24)) none,
     .act (some 26) (.call (.func 34) [(.tmp 25)]) none,
     .again 28 (.load1 (.tmp 27)) none,
     .act (some 29) (.call (.func 35) [(.tmp 28)]) none,
     .act (some 30) (.op (.new (.mkSlice 1 4 [(strV []), (strV []), (strV []), (strV [])] [(0, 1, (.tmp 20)), (1, 1, (.tmp 23)), (2, 1, (.tmp 26)), (3, 1, (.tmp 29))]))) none,
     .act (some 31) (.call (.func 33) [(.tmp 30)]) none,
     .act (some 3) (.op (.pure (.move (.tmp 31)))) none])
   .skip))
  (.seq (.steps [
    .act (some 32) (.op (.pure (.move (.tmp 3)))) none,
    .act (some 2) (.op (.pure (.move (.tmp 32)))) none])
  .ret)))) }
theorem c23 : compFn Try.prog (mkPlan Try.prog) [] true 23 = some L23 := by kernel_rfl
/-- sluiceway/sluicewayref04.Text -/
def L24 : LFun := { n := 41, pop := true, res := [.tmp 2], code :=
  (.seq (.steps [
    .act (some 1) (.op (.new (.box (.tmp 0)))) none,
    .act (some 2) (.op (.pure (.move (.const (strV []))))) none])
  (.seq (.steps [
    .act (some 4) (.op (.pure (.fieldAddr 0 (.tmp 1)))) none,
    .act (some 5) (.op (.read (.load1 (.tmp 4)))) none,
    .act (some 8) (.op (.pure (.fieldAddr 1 (.tmp 1)))) none,
    .act (some 9) (.op (.read (.load1 (.tmp 8)))) none,
    .act (some 13) (.op (.pure (.fieldAddr 2 (.tmp 1)))) none,
    .act (some 14) (.op (.read (.load1 (.tmp 13)))) none,
    .act (some 18) (.op (.pure (.fieldAddr 3 (.tmp 1)))) none,
    .act (some 19) (.op (.read (.load1 (.tmp 18)))) none,
    .act (some 6) (.call (.func 36) [(.tmp 5)]) none,
    .act (some 7) (.op (.pure (.strOp .add (.tmp 6) (.const (strV [32]))))) none,
    .again 19 (.load1 (.tmp 18)) none,
    .again 14 (.load1 (.tmp 13)) none,
    .again 9 (.load1 (.tmp 8)) none,
    .act (some 10) (.call (.func 36) [(.tmp 9)]) none,
    .act (some 11) (.op (.pure (.strOp .add (.tmp 7) (.tmp 10)))) none,
    .act (some 12) (.op (.pure (.strOp .add (.tmp 11) (.const (strV [32]))))) none,
    .again 19 (.load1 (.tmp 18)) none,
    .again 14 (.load1 (.tmp 13)) none,
    .act (some 15) (.call (.func 37) [(.tmp 14)]) none,
    .act (some 16) (.op (.pure (.strOp .add (.tmp 12) (.tmp 15)))) none,
    .act (some 17) (.op (.pure (.strOp .add (.tmp 16) (.const (strV [32]))))) none,
    .again 19 (.load1 (.tmp 18)) none,
    .act (some 20) (.call (.func 36) [(.tmp 19)]) none,
    .act (some 21) (.op (.pure (.strOp .add (.tmp 17) (.tmp 20)))) none,
    .act (some 3) (.op (.pure (.move (.tmp 21)))) none])
  (.seq (.seq (.steps [
    .act (some 22) (.op (.pure (.fieldAddr 5 (.tmp 1)))) none,
    .act (some 23) (.op (.read (.load1 (.tmp 22)))) none])
  (.cond (.tmp 23)
   (.steps [
     .act (some 24) (.op (.pure (.move (.tmp 3)))) none,
     .act (some 25) (.op (.pure (.strOp .add (.tmp 24) (.const (strV [32]))))) none,
     .act (some 26) (.op (.pure (.fieldAddr 4 (.tmp 1)))) none,
     .act (some 27) (.op (.read (.load1 (.tmp 26)))) none,
     .act (some 31) (.op (.pure (.fieldAddr 6 (.tmp 1)))) none,
     .act (some 32) (.op (.read (.load1 (.tmp 31)))) none,
     .act (some 36) (.op (.pure (.fieldAddr 7 (.tmp 1)))) none,
     .act (some 37) (.op (.read (.load1 (.tmp 36)))) none,
     .act (some 28) (.call (.func 36) [(.tmp 27)]) none,
     .act (some 29) (.op (.pure (.strOp .add (.tmp 25) (.tmp 28)))) none,
     .act (some 30) (.op (.pure (.strOp .add (.tmp 29) (.const (strV [32]))))) none,
     .again 37 (.load1 (.tmp 36)) none,
     .again 32 (.load1 (.tmp 31)) none,
     .act (some 33) (.call (.func 36) [(.tmp 32)]) none,
     .act (some 34) (.op (.pure (.strOp .add (.tmp 30) (.tmp 33)))) none,
     .act (some 35) (.op (.pure (.strOp .add (.tmp 34) (.const (strV [32]))))) none,
     .again 37 (.load1 (.tmp 36)) none,
     .act (some 38) (.call (.func 37) [(.tmp 37)]) none,
     .act (some 39) (.op (.pure (.strOp .add (.tmp 35) (.tmp 38)))) none,
     .act (some 3) (.op (.pure (.move (.tmp 39)))) none])
   .skip))
  (.seq (.steps [
    .act (some 40) (.op (.pure (.move (.tmp 3)))) none,
    .act (some 2) (.op (.pure (.move (.tmp 40)))) none])
  .ret)))) }
theorem c24 : compFn Try.prog (mkPlan Try.prog) [] true 24 = some L24 := by kernel_rfl
/-- sluiceway/sluicewayref04.Ahead -/
def L25 : LFun := { n := 14, pop := true, res := [.tmp 4], code :=
  (.seq (.steps [
    .act (some 2) (.op (.new (.box (.tmp 0)))) none,
    .act (some 3) (.op (.new (.box (.tmp 1)))) none,
    .act (some 4) (.op (.pure (.move (.const (.bool false))))) none])
  (.seq (.steps [
    .act (some 5) (.op (.pure (.fieldAddr 5 (.tmp 2)))) none,
    .act (some 6) (.op (.read (.load1 (.tmp 5)))) none,
    .act (some 7) (.op (.pure (.move (.tmp 6)))) none,
    .act (some 8) (.op (.pure (.fieldAddr 4 (.tmp 2)))) (some (7, true)),
    .act (some 9) (.op (.read (.load1 (.tmp 8)))) (some (7, true)),
    .act (some 10) (.op (.pure (.fieldAddr 3 (.tmp 3)))) (some (7, true)),
    .act (some 11) (.op (.read (.load1 (.tmp 10)))) (some (7, true)),
    .act (some 12) (.op (.pure (.bin .lss (.tmp 9) (.tmp 11)))) (some (7, true)),
    .act (some 13) (.op (.pure (.pick (.tmp 7) (.tmp 12) (.const (.bool false))))) none,
    .act (some 4) (.op (.pure (.move (.tmp 13)))) none])
  .ret)) }
theorem c25 : compFn Try.prog (mkPlan Try.prog) [] true 25 = some L25 := by kernel_rfl
/-- sluiceway/sluicewayref04.Right -/
def L26 : LFun := { n := 94, pop := true, res := [.tmp 2], code :=
  (.seq (.steps [
    .act (some 2) (.op (.pure (.move (.const (.bool false))))) none])
  (.seq (.seq (.steps [
    .act (some 6) (.op (.pure (.move (.tmp 0)))) none,
    .act (some 7) (.op (.pure (.len false (.tmp 6)))) none,
    .act (some 8) (.op (.pure (.bin .gtr (.tmp 7) (.const (.int .i64 1024))))) none])
  (.cond (.tmp 8)
   (.seq (.steps [
     .act (some 2) (.op (.pure (.move (.const (.bool false))))) none])
   .ret)
   .skip))
  (.seq (.seq (.steps [
    .act (some 3) (.op (.pure (.move (.const (.int .i64 0))))) none])
  (.block 0 (.loop [0, 3] (.seq (.seq (.steps [
      .act (some 9) (.op (.pure (.move (.tmp 3)))) none,
      .act (some 10) (.op (.pure (.move (.tmp 0)))) none,
      .act (some 11) (.op (.pure (.len false (.tmp 10)))) none,
      .act (some 12) (.op (.pure (.bin .lss (.tmp 9) (.tmp 11)))) none])
    (.cond (.tmp 12)
     .skip
     (.exit 0)))
    (.seq (.block 1 (.seq (.steps [
       .act (some 15) (.op (.pure (.move (.tmp 0)))) none,
       .act (some 16) (.op (.pure (.move (.tmp 3)))) none,
       .act (some 17) (.op (.pure (.idxSl 8 (.tmp 15) (.tmp 16)))) none,
       .act (some 18) (.op (.read (.loadN 8 (.tmp 17)))) none,
       .act (some 4) (.op (.new (.alloc [(.int .i64 0), (.int .i64 0), (w64 0#64), (.int .i64 0), (.int .i64 0), (.bool false), (.int .i64 0), (w64 0#64)]))) none,
       .act none (.op (.eff (.store 8 (.tmp 4) (.tmp 18)))) none])
     (.seq (.seq (.steps [
       .act (some 19) (.op (.pure (.fieldAddr 0 (.tmp 4)))) none,
       .act (some 20) (.op (.read (.load1 (.tmp 19)))) none,
       .act (some 21) (.op (.pure (.bin .lss (.tmp 20) (.const (.int .i64 0))))) none,
       .act (some 22) (.op (.pure (.move (.tmp 21)))) none,
       .act (some 23) (.op (.pure (.fieldAddr 0 (.tmp 4)))) (some (22, false)),
       .act (some 24) (.op (.read (.load1 (.tmp 23)))) (some (22, false)),
       .act (some 25) (.op (.pure (.bin .gtr (.tmp 24) (.const (.int .i64 63))))) (some (22, false)),
       .act (some 26) (.op (.pure (.pick (.tmp 22) (.const (.bool true)) (.tmp 25)))) none,
       .act (some 27) (.op (.pure (.move (.tmp 26)))) none,
       .act (some 28) (.op (.pure (.fieldAddr 3 (.tmp 4)))) (some (27, false)),
       .act (some 29) (.op (.read (.load1 (.tmp 28)))) (some (27, false)),
       .act (some 30) (.op (.pure (.bin .lss (.tmp 29) (.const (.int .i64 0))))) (some (27, false)),
       .act (some 31) (.op (.pure (.pick (.tmp 27) (.const (.bool true)) (.tmp 30)))) none,
       .act (some 32) (.op (.pure (.move (.tmp 31)))) none,
       .act (some 33) (.op (.pure (.fieldAddr 5 (.tmp 4)))) (some (32, false)),
       .act (some 34) (.op (.read (.load1 (.tmp 33)))) (some (32, false)),
       .act (some 35) (.op (.pure (.move (.tmp 34)))) (some (32, false)),
       .act (some 36) (.op (.pure (.fieldAddr 4 (.tmp 4)))) (some (35, true)),
       .act (some 37) (.op (.read (.load1 (.tmp 36)))) (some (35, true)),
       .act (some 38) (.op (.pure (.fieldAddr 3 (.tmp 4)))) (some (35, true)),
       .act (some 39) (.op (.read (.load1 (.tmp 38)))) (some (35, true)),
       .act (some 40) (.op (.pure (.bin .lss (.tmp 37) (.tmp 39)))) (some (35, true)),
       .act (some 41) (.op (.pure (.pick (.tmp 35) (.tmp 40) (.const (.bool false))))) (some (32, false)),
       .act (some 42) (.op (.pure (.pick (.tmp 32) (.const (.bool true)) (.tmp 41)))) none,
       .act (some 43) (.op (.pure (.move (.tmp 42)))) none,
       .act (some 44) (.op (.pure (.fieldAddr 5 (.tmp 4)))) (some (43, false)),
       .act (some 45) (.op (.read (.load1 (.tmp 44)))) (some (43, false)),
       .act (some 46) (.op (.pure (.not (.tmp 45)))) (some (43, false)),
       .act (some 47) (.op (.pure (.move (.tmp 46)))) (some (43, false)),
       .act (some 48) (.op (.pure (.fieldAddr 4 (.tmp 4)))) (some (47, true)),
       .act (some 49) (.op (.read (.load1 (.tmp 48)))) (some (47, true)),
       .act (some 50) (.op (.pure (.bin .neq (.tmp 49) (.const (.int .i64 0))))) (some (47, true)),
       .act (some 51) (.op (.pure (.move (.tmp 50)))) (some (47, true)),
       .act (some 52) (.op (.pure (.fieldAddr 6 (.tmp 4)))) (some (51, false)),
       .act (some 53) (.op (.read (.load1 (.tmp 52)))) (some (51, false)),
       .act (some 54) (.op (.pure (.bin .neq (.tmp 53) (.const (.int .i64 0))))) (some (51, false)),
       .act (some 55) (.op (.pure (.pick (.tmp 51) (.const (.bool true)) (.tmp 54)))) (some (47, true)),
       .act (some 56) (.op (.pure (.move (.tmp 55)))) (some (47, true)),
       .act (some 57) (.op (.pure (.fieldAddr 7 (.tmp 4)))) (some (56, false)),
       .act (some 58) (.op (.read (.load1 (.tmp 57)))) (some (56, false)),
       .act (some 59) (.op (.pure (.bin .neq (.tmp 58) (.const (w64 0#64))))) (some (56, false)),
       .act (some 60) (.op (.pure (.pick (.tmp 56) (.const (.bool true)) (.tmp 59)))) (some (47, true)),
       .act (some 61) (.op (.pure (.pick (.tmp 47) (.tmp 60) (.const (.bool false))))) (some (43, false)),
       .act (some 62) (.op (.pure (.pick (.tmp 43) (.const (.bool true)) (.tmp 61)))) none])
     (.cond (.tmp 62)
      (.seq (.steps [
        .act (some 2) (.op (.pure (.move (.const (.bool false))))) none])
      .ret)
      .skip))
     (.seq (.steps [
       .act (some 5) (.op (.pure (.move (.const (.int .i64 0))))) none])
     (.block 2 (.loop [0, 3, 4, 5] (.seq (.seq (.steps [
         .act (some 63) (.op (.pure (.move (.tmp 5)))) none,
         .act (some 64) (.op (.pure (.move (.tmp 3)))) none,
         .act (some 65) (.op (.pure (.bin .lss (.tmp 63) (.tmp 64)))) none])
       (.cond (.tmp 65)
        .skip
        (.exit 2)))
       (.seq (.block 3 (.seq (.steps [
          .act (some 68) (.op (.pure (.move (.tmp 0)))) none,
          .act (some 69) (.op (.pure (.move (.tmp 5)))) none,
          .act (some 70) (.op (.pure (.idxSl 8 (.tmp 68) (.tmp 69)))) none,
          .act (some 71) (.op (.pure (.fieldAddr 0 (.tmp 70)))) none,
          .act (some 72) (.op (.read (.load1 (.tmp 71)))) none,
          .act (some 73) (.op (.pure (.fieldAddr 0 (.tmp 4)))) none,
          .act (some 74) (.op (.read (.load1 (.tmp 73)))) none,
          .act (some 75) (.op (.pure (.bin .eql (.tmp 72) (.tmp 74)))) none,
          .act (some 76) (.op (.pure (.move (.tmp 75)))) none,
          .act (some 77) (.op (.pure (.move (.tmp 0)))) (some (76, true)),
          .act (some 78) (.op (.pure (.move (.tmp 5)))) (some (76, true)),
          .act (some 79) (.op (.pure (.idxSl 8 (.tmp 77) (.tmp 78)))) (some (76, true)),
          .act (some 80) (.op (.read (.loadN 8 (.tmp 79)))) (some (76, true)),
          .act (some 81) (.op (.pure (.fieldAddr 3 (.tmp 4)))) (some (76, true)),
          .act (some 82) (.op (.read (.load1 (.tmp 81)))) (some (76, true)),
          .act (some 83) (.call (.func 38) [(.tmp 80), (.tmp 82)]) (some (76, true)),
          .act (some 84) (.op (.pure (.move (.tmp 83)))) (some (76, true)),
          .act (some 85) (.op (.read (.loadN 8 (.tmp 4)))) (some (84, false)),
          .act (some 86) (.op (.pure (.move (.tmp 0)))) (some (84, false)),
          .act (some 87) (.op (.pure (.move (.tmp 5)))) (some (84, false)),
          .act (some 88) (.op (.pure (.idxSl 8 (.tmp 86) (.tmp 87)))) (some (84, false)),
          .act (some 89) (.op (.pure (.fieldAddr 3 (.tmp 88)))) (some (84, false)),
          .act (some 90) (.op (.read (.load1 (.tmp 89)))) (some (84, false)),
          .act (some 91) (.call (.func 38) [(.tmp 85), (.tmp 90)]) (some (84, false)),
          .act (some 92) (.op (.pure (.pick (.tmp 84) (.const (.bool true)) (.tmp 91)))) (some (76, true)),
          .act (some 93) (.op (.pure (.pick (.tmp 76) (.tmp 92) (.const (.bool false))))) none])
        (.cond (.tmp 93)
         (.seq (.steps [
           .act (some 2) (.op (.pure (.move (.const (.bool false))))) none])
         .ret)
         .skip)))
       (.steps [
         .act (some 66) (.op (.pure (.move (.tmp 5)))) none,
         .act (some 67) (.op (.pure (.bin .add (.tmp 66) (.const (.int .i64 1))))) none,
         .act (some 5) (.op (.pure (.move (.tmp 67)))) none])))))))))
    (.steps [
      .act (some 13) (.op (.pure (.move (.tmp 3)))) none,
      .act (some 14) (.op (.pure (.bin .add (.tmp 13) (.const (.int .i64 1))))) none,
      .act (some 3) (.op (.pure (.move (.tmp 14)))) none]))))))
  (.seq (.steps [
    .act (some 2) (.op (.pure (.move (.const (.bool true))))) none])
  .ret)))) }
theorem c26 : compFn Try.prog (mkPlan Try.prog) [(4, [0, 3]), (10, [0, 3, 4, 5])] true 26 = some L26 := by kernel_rfl
/-- sluiceway/hist.Among -/
def L27 : LFun := { n := 50, pop := true, res := [.tmp 6], code :=
  (.seq (.steps [
    .act (some 6) (.op (.pure (.move (.const (.int .i64 0))))) none])
  (.seq (.seq (.steps [
    .act (some 10) (.op (.pure (.move (.tmp 1)))) none,
    .act (some 11) (.op (.pure (.bin .lss (.tmp 10) (.const (.int .i64 0))))) none,
    .act (some 12) (.op (.pure (.move (.tmp 11)))) none,
    .act (some 13) (.op (.pure (.move (.tmp 1)))) (some (12, false)),
    .act (some 14) (.op (.pure (.move (.tmp 0)))) (some (12, false)),
    .act (some 15) (.op (.pure (.len false (.tmp 14)))) (some (12, false)),
    .act (some 16) (.op (.pure (.bin .geq (.tmp 13) (.tmp 15)))) (some (12, false)),
    .act (some 17) (.op (.pure (.pick (.tmp 12) (.const (.bool true)) (.tmp 16)))) none])
  (.cond (.tmp 17)
   (.seq (.steps [
     .act (some 6) (.op (.pure (.move (.const (.int .i64 0))))) none])
   .ret)
   .skip))
  (.seq (.steps [
    .act (some 7) (.op (.pure (.move (.const (.int .i64 0))))) none])
  (.seq (.seq (.steps [
    .act (some 18) (.op (.pure (.move (.tmp 0)))) none,
    .act (some 19) (.op (.pure (.len false (.tmp 18)))) none,
    .act (some 20) (.op (.pure (.move (.const (.int .i64 0))))) none])
  (.block 0 (.loop [0, 1, 2, 7, 18, 19, 20] (.seq (.steps [
      .act (some 21) (.op (.pure (.bin .lss (.tmp 20) (.tmp 19)))) none])
    (.seq (.cond (.tmp 21)
     .skip
     (.exit 0))
    (.seq (.block 1 (.seq (.steps [
       .act (some 22) (.op (.pure (.move (.tmp 20)))) none,
       .act (some 23) (.op (.pure (.idxSl 8 (.tmp 18) (.tmp 20)))) none,
       .act (some 24) (.op (.read (.loadN 8 (.tmp 23)))) none,
       .act (some 9) (.op (.new (.alloc [(.int .i64 0), (.int .i64 0), (w64 0#64), (.int .i64 0), (.int .i64 0), (.bool false), (.int .i64 0), (w64 0#64)]))) none,
       .act (some 8) (.op (.pure (.move (.tmp 22)))) none,
       .act none (.op (.eff (.store 8 (.tmp 9) (.tmp 24)))) none])
     (.seq (.steps [
       .act (some 25) (.op (.pure (.move (.tmp 8)))) none,
       .act (some 26) (.op (.pure (.move (.tmp 1)))) none,
       .act (some 27) (.op (.pure (.bin .neq (.tmp 25) (.tmp 26)))) none,
       .act (some 28) (.op (.pure (.move (.tmp 27)))) none,
       .act (some 29) (.op (.pure (.move (.tmp 2)))) (some (28, true)),
       .act (some 30) (.op (.pure (.bin .lss (.tmp 29) (.const (.int .i64 0))))) (some (28, true)),
       .act (some 31) (.op (.pure (.move (.tmp 30)))) (some (28, true)),
       .act (some 32) (.op (.pure (.fieldAddr 1 (.tmp 9)))) (some (31, false)),
       .act (some 33) (.op (.read (.load1 (.tmp 32)))) (some (31, false)),
       .act (some 34) (.op (.pure (.move (.tmp 2)))) (some (31, false)),
       .act (some 35) (.op (.pure (.bin .eql (.tmp 33) (.tmp 34)))) (some (31, false)),
       .act (some 36) (.op (.pure (.pick (.tmp 31) (.const (.bool true)) (.tmp 35)))) (some (28, true)),
       .act (some 37) (.op (.pure (.pick (.tmp 28) (.tmp 36) (.const (.bool false))))) none,
       .act (some 38) (.op (.pure (.move (.tmp 37)))) none,
       .act (some 39) (.op (.read (.loadN 8 (.tmp 9)))) (some (38, true)),
       .act (some 40) (.op (.pure (.move (.tmp 0)))) (some (38, true)),
       .act (some 41) (.op (.pure (.move (.tmp 1)))) (some (38, true)),
       .act (some 42) (.op (.pure (.idxSl 8 (.tmp 40) (.tmp 41)))) (some (38, true)),
       .act (some 43) (.op (.read (.loadN 8 (.tmp 42)))) (some (38, true)),
       .act (some 44) (.call (.func 16) [(.tmp 39), (.tmp 43)]) (some (38, true)),
       .act (some 45) (.op (.pure (.pick (.tmp 38) (.tmp 44) (.const (.bool false))))) none])
     (.cond (.tmp 45)
      (.steps [
        .act (some 46) (.op (.pure (.move (.tmp 7)))) none,
        .act (some 47) (.op (.pure (.bin .add (.tmp 46) (.const (.int .i64 1))))) none,
        .act (some 7) (.op (.pure (.move (.tmp 47)))) none])
      .skip))))
    (.steps [
      .act (some 48) (.op (.pure (.bin .add (.tmp 20) (.const (.int .i64 1))))) none,
      .act (some 20) (.op (.pure (.move (.tmp 48)))) none])))))))
  (.seq (.steps [
    .act (some 49) (.op (.pure (.move (.tmp 7)))) none,
    .act (some 6) (.op (.pure (.move (.tmp 49)))) none])
  .ret))))) }
theorem c27 : compFn Try.prog (mkPlan Try.prog) [(5, [0, 1, 2, 7, 18, 19, 20])] true 27 = some L27 := by kernel_rfl
/-- (*sluiceway/hist.Log).none -/
def L28 : LFun := { n := 12, pop := true, res := [.tmp 2], code :=
  (.seq (.steps [
    .act (some 2) (.op (.pure (.move (.const (.bool false))))) none])
  (.seq (.steps [
    .act (some 3) (.op (.pure (.move (.tmp 0)))) none,
    .act (some 4) (.op (.pure (.eqNil .p false (.tmp 3) (.const (.pointer none))))) none,
    .act (some 5) (.op (.pure (.move (.tmp 4)))) none,
    .act (some 6) (.op (.pure (.move (.tmp 0)))) (some (5, false)),
    .act (some 7) (.op (.pure (.nilCheck (.tmp 6)))) (some (5, false)),
    .act (some 8) (.op (.pure (.fieldAddr 1 (.tmp 7)))) (some (5, false)),
    .act (some 9) (.op (.read (.load1 (.tmp 8)))) (some (5, false)),
    .act (some 10) (.op (.pure (.eqNil .m false (.tmp 9) (.const (.map none))))) (some (5, false)),
    .act (some 11) (.op (.pure (.pick (.tmp 5) (.const (.bool true)) (.tmp 10)))) none,
    .act (some 2) (.op (.pure (.move (.tmp 11)))) none])
  .ret)) }
theorem c28 : compFn Try.prog (mkPlan Try.prog) [] true 28 = some L28 := by kernel_rfl
/-- slices.Clone[[]sluiceway/hist.Call,sluiceway/hist.Call] -/
def L29 : LFun := { n := 8, pop := false, res := [.tmp 2], code :=
  (.seq (.steps [
    .act (some 2) (.op (.pure (.move (.const (.slice none 0 0))))) none])
  (.seq (.seq (.steps [
    .act (some 3) (.op (.pure (.move (.tmp 0)))) none,
    .act (some 4) (.op (.pure (.eqNil .s false (.tmp 3) (.const (.slice none 0 0))))) none])
  (.cond (.tmp 4)
   (.seq (.steps [
     .act (some 2) (.op (.pure (.move (.const (.slice none 0 0))))) none])
   .ret)
   .skip))
  (.seq (.steps [
    .act (some 5) (.op (.new (.mkSlice 8 0 [] []))) none,
    .act (some 6) (.op (.pure (.move (.tmp 0)))) none,
    .act (some 7) (.op (.eff (.append 8 64 (.tmp 5) (.tmp 6)))) none,
    .act (some 2) (.op (.pure (.move (.tmp 7)))) none])
  .ret))) }
theorem c29 : compFn Try.prog (mkPlan Try.prog) [] false 29 = some L29 := by kernel_rfl
/-- sluiceway/hist.Right$1 -/
def L30 : LFun := { n := 14, pop := true, res := [.tmp 3], code :=
  (.seq (.steps [
    .act (some 2) (.op (.new (.box (.tmp 0)))) none,
    .act (some 3) (.op (.pure (.move (.const (.bool false))))) none])
  (.seq (.steps [
    .act (some 4) (.op (.pure (.fieldAddr 0 (.tmp 2)))) none,
    .act (some 5) (.op (.read (.load1 (.tmp 4)))) none,
    .act (some 6) (.op (.pure (.fieldAddr 0 (.tmp 1)))) none,
    .act (some 7) (.op (.read (.load1 (.tmp 6)))) none,
    .act (some 8) (.op (.pure (.bin .eql (.tmp 5) (.tmp 7)))) none,
    .act (some 9) (.op (.pure (.move (.tmp 8)))) none,
    .act (some 10) (.op (.read (.loadN 8 (.tmp 2)))) (some (9, true)),
    .act (some 11) (.op (.read (.loadN 8 (.tmp 1)))) (some (9, true)),
    .act (some 12) (.call (.func 16) [(.tmp 10), (.tmp 11)]) (some (9, true)),
    .act (some 13) (.op (.pure (.pick (.tmp 9) (.tmp 12) (.const (.bool false))))) none,
    .act (some 3) (.op (.pure (.move (.tmp 13)))) none])
  .ret)) }
theorem c30 : compFn Try.prog (mkPlan Try.prog) [] true 30 = some L30 := by kernel_rfl
/-- (sluiceway/hist.Call).right -/
def L31 : LFun := { n := 34, pop := true, res := [.tmp 2], code :=
  (.seq (.steps [
    .act (some 1) (.op (.new (.box (.tmp 0)))) none,
    .act (some 2) (.op (.pure (.move (.const (.bool false))))) none])
  (.seq (.seq (.steps [
    .act (some 3) (.op (.pure (.fieldAddr 0 (.tmp 1)))) none,
    .act (some 4) (.op (.read (.load1 (.tmp 3)))) none,
    .act (some 5) (.op (.pure (.bin .lss (.tmp 4) (.const (.int .i64 0))))) none,
    .act (some 6) (.op (.pure (.move (.tmp 5)))) none,
    .act (some 7) (.op (.pure (.fieldAddr 0 (.tmp 1)))) (some (6, false)),
    .act (some 8) (.op (.read (.load1 (.tmp 7)))) (some (6, false)),
    .act (some 9) (.op (.pure (.bin .geq (.tmp 8) (.const (.int .i64 64))))) (some (6, false)),
    .act (some 10) (.op (.pure (.pick (.tmp 6) (.const (.bool true)) (.tmp 9)))) none,
    .act (some 11) (.op (.pure (.move (.tmp 10)))) none,
    .act (some 12) (.op (.pure (.fieldAddr 3 (.tmp 1)))) (some (11, false)),
    .act (some 13) (.op (.read (.load1 (.tmp 12)))) (some (11, false)),
    .act (some 14) (.op (.pure (.bin .lss (.tmp 13) (.const (.int .i64 0))))) (some (11, false)),
    .act (some 15) (.op (.pure (.pick (.tmp 11) (.const (.bool true)) (.tmp 14)))) none])
  (.cond (.tmp 15)
   (.seq (.steps [
     .act (some 2) (.op (.pure (.move (.const (.bool false))))) none])
   .ret)
   .skip))
  (.seq (.seq (.steps [
    .act (some 16) (.op (.pure (.fieldAddr 5 (.tmp 1)))) none,
    .act (some 17) (.op (.read (.load1 (.tmp 16)))) none])
  (.cond (.tmp 17)
   (.seq (.steps [
     .act (some 18) (.op (.pure (.fieldAddr 4 (.tmp 1)))) none,
     .act (some 19) (.op (.read (.load1 (.tmp 18)))) none,
     .act (some 20) (.op (.pure (.fieldAddr 3 (.tmp 1)))) none,
     .act (some 21) (.op (.read (.load1 (.tmp 20)))) none,
     .act (some 22) (.op (.pure (.bin .geq (.tmp 19) (.tmp 21)))) none,
     .act (some 2) (.op (.pure (.move (.tmp 22)))) none])
   .ret)
   .skip))
  (.seq (.steps [
    .act (some 23) (.op (.read (.loadN 8 (.tmp 1)))) none,
    .act (some 24) (.op (.pure (.fieldAddr 0 (.tmp 1)))) none,
    .act (some 25) (.op (.read (.load1 (.tmp 24)))) none,
    .act (some 26) (.op (.pure (.fieldAddr 1 (.tmp 1)))) none,
    .act (some 27) (.op (.read (.load1 (.tmp 26)))) none,
    .act (some 28) (.op (.pure (.fieldAddr 2 (.tmp 1)))) none,
    .act (some 29) (.op (.read (.load1 (.tmp 28)))) none,
    .act (some 30) (.op (.pure (.fieldAddr 3 (.tmp 1)))) none,
    .act (some 31) (.op (.read (.load1 (.tmp 30)))) none,
    .act (some 32) (.op (.pure (.build [(.int .i64 0), (.int .i64 0), (w64 0#64), (.int .i64 0), (.int .i64 0), (.bool false), (.int .i64 0), (w64 0#64)] [(0, 1, (.tmp 25)), (1, 1, (.tmp 27)), (2, 1, (.tmp 29)), (3, 1, (.tmp 31))]))) none,
    .act (some 33) (.op (.pure (.eqAgg [false, false, false, false, false, true, false, false] false (.tmp 23) (.tmp 32)))) none,
    .act (some 2) (.op (.pure (.move (.tmp 33)))) none])
  .ret)))) }
theorem c31 : compFn Try.prog (mkPlan Try.prog) [] true 31 = some L31 := by kernel_rfl
/-- slices.ContainsFunc[[]sluiceway/hist.Call,sluiceway/hist.Call] -/
def L32 : LFun := { n := 9, pop := true, res := [.tmp 4], code :=
  (.seq (.steps [
    .act (some 4) (.op (.pure (.move (.const (.bool false))))) none])
  (.seq (.steps [
    .act (some 5) (.op (.pure (.move (.tmp 0)))) none,
    .act (some 6) (.op (.pure (.move (.tmp 1)))) none,
    .act (some 7) (.call (.func 39) [(.tmp 5), (.tmp 6)]) none,
    .act (some 8) (.op (.pure (.bin .geq (.tmp 7) (.const (.int .i64 0))))) none,
    .act (some 4) (.op (.pure (.move (.tmp 8)))) none])
  .ret)) }
theorem c32 : compFn Try.prog (mkPlan Try.prog) [] true 32 = some L32 := by kernel_rfl
/-- sluiceway/hist.line -/
def L33 : LFun := { n := 22, pop := true, res := [.tmp 2], code :=
  (.seq (.steps [
    .act (some 2) (.op (.pure (.move (.const (strV []))))) none])
  (.seq (.steps [
    .act (some 3) (.op (.pure (.move (.const (strV []))))) none])
  (.seq (.seq (.steps [
    .act (some 6) (.op (.pure (.move (.tmp 0)))) none,
    .act (some 7) (.op (.pure (.len false (.tmp 6)))) none,
    .act (some 8) (.op (.pure (.move (.const (.int .i64 0))))) none])
  (.block 0 (.loop [3, 6, 7, 8] (.seq (.steps [
      .act (some 9) (.op (.pure (.bin .lss (.tmp 8) (.tmp 7)))) none])
    (.seq (.cond (.tmp 9)
     .skip
     (.exit 0))
    (.seq (.block 1 (.seq (.steps [
       .act (some 10) (.op (.pure (.move (.tmp 8)))) none,
       .act (some 11) (.op (.pure (.idxSl 1 (.tmp 6) (.tmp 8)))) none,
       .act (some 12) (.op (.read (.load1 (.tmp 11)))) none,
       .act (some 4) (.op (.pure (.move (.tmp 10)))) none,
       .act (some 5) (.op (.pure (.move (.tmp 12)))) none])
     (.seq (.seq (.steps [
       .act (some 13) (.op (.pure (.move (.tmp 4)))) none,
       .act (some 14) (.op (.pure (.bin .gtr (.tmp 13) (.const (.int .i64 0))))) none])
     (.cond (.tmp 14)
      (.steps [
        .act (some 15) (.op (.pure (.move (.tmp 3)))) none,
        .act (some 16) (.op (.pure (.strOp .add (.tmp 15) (.const (strV [32]))))) none,
        .act (some 3) (.op (.pure (.move (.tmp 16)))) none])
      .skip))
     (.steps [
       .act (some 17) (.op (.pure (.move (.tmp 3)))) none,
       .act (some 18) (.op (.pure (.move (.tmp 5)))) none,
       .act (some 19) (.op (.pure (.strOp .add (.tmp 17) (.tmp 18)))) none,
       .act (some 3) (.op (.pure (.move (.tmp 19)))) none]))))
    (.steps [
      .act (some 20) (.op (.pure (.bin .add (.tmp 8) (.const (.int .i64 1))))) none,
      .act (some 8) (.op (.pure (.move (.tmp 20)))) none])))))))
  (.seq (.steps [
    .act (some 21) (.op (.pure (.move (.tmp 3)))) none,
    .act (some 2) (.op (.pure (.move (.tmp 21)))) none])
  .ret)))) }
theorem c33 : compFn Try.prog (mkPlan Try.prog) [(3, [3, 6, 7, 8])] true 33 = some L33 := by kernel_rfl
/-- sluiceway/hist.signed -/
def L34 : LFun := { n := 13, pop := true, res := [.tmp 2], code :=
  (.seq (.steps [
    .act (some 2) (.op (.pure (.move (.const (strV []))))) none])
  (.seq (.seq (.steps [
    .act (some 3) (.op (.pure (.move (.tmp 0)))) none,
    .act (some 4) (.op (.pure (.bin .lss (.tmp 3) (.const (.int .i64 0))))) none])
  (.cond (.tmp 4)
   (.seq (.steps [
     .act (some 5) (.op (.pure (.move (.tmp 0)))) none,
     .act (some 6) (.op (.pure (.conv .u64 (.tmp 5)))) none,
     .act (some 7) (.op (.pure (.neg (.tmp 6)))) none,
     .act (some 8) (.call (.func 35) [(.tmp 7)]) none,
     .act (some 9) (.op (.pure (.strOp .add (.const (strV [45])) (.tmp 8)))) none,
     .act (some 2) (.op (.pure (.move (.tmp 9)))) none])
   .ret)
   .skip))
  (.seq (.steps [
    .act (some 10) (.op (.pure (.move (.tmp 0)))) none,
    .act (some 11) (.op (.pure (.conv .u64 (.tmp 10)))) none,
    .act (some 12) (.call (.func 35) [(.tmp 11)]) none,
    .act (some 2) (.op (.pure (.move (.tmp 12)))) none])
  .ret))) }
theorem c34 : compFn Try.prog (mkPlan Try.prog) [] true 34 = some L34 := by kernel_rfl
/-- sluiceway/hist.digits -/
def L35 : LFun := { n := 17, pop := true, res := [.tmp 2], code :=
  (.seq (.steps [
    .act (some 2) (.op (.pure (.move (.const (strV []))))) none])
  (.seq (.seq (.steps [
    .act (some 3) (.op (.pure (.move (.tmp 0)))) none,
    .act (some 4) (.op (.pure (.bin .lss (.tmp 3) (.const (w64 10#64))))) none])
  (.cond (.tmp 4)
   (.seq (.steps [
     .act (some 5) (.op (.pure (.move (.tmp 0)))) none,
     .act (some 6) (.op (.pure (.bin .add (.const (w64 48#64)) (.tmp 5)))) none,
     .act (some 7) (.op (.pure (.conv .u8 (.tmp 6)))) none,
     .act (some 8) (.op (.new (.mkSlice 1 1 [(b8 0)] [(0, 1, (.tmp 7))]))) none,
     .act (some 9) (.op (.read (.b2s (.tmp 8)))) none,
     .act (some 2) (.op (.pure (.move (.tmp 9)))) none])
   .ret)
   .skip))
  (.seq (.steps [
    .act (some 10) (.op (.pure (.move (.tmp 0)))) none,
    .act (some 11) (.op (.pure (.bin .quo (.tmp 10) (.const (w64 10#64))))) none,
    .act (some 12) (.call (.func 35) [(.tmp 11)]) none,
    .act (some 13) (.op (.pure (.move (.tmp 0)))) none,
    .act (some 14) (.op (.pure (.bin .rem (.tmp 13) (.const (w64 10#64))))) none,
    .act (some 15) (.call (.func 35) [(.tmp 14)]) none,
    .act (some 16) (.op (.pure (.strOp .add (.tmp 12) (.tmp 15)))) none,
    .act (some 2) (.op (.pure (.move (.tmp 16)))) none])
  .ret))) }
theorem c35 : compFn Try.prog (mkPlan Try.prog) [] true 35 = some L35 := by kernel_rfl
/-- sluiceway/sluicewayref04.number -/
def L36 : LFun := { n := 15, pop := true, res := [.tmp 2], code :=
  (.seq (.steps [
    .act (some 2) (.op (.pure (.move (.const (strV []))))) none])
  (.seq (.seq (.steps [
    .act (some 3) (.op (.pure (.move (.tmp 0)))) none,
    .act (some 4) (.op (.pure (.bin .lss (.tmp 3) (.const (.int .i64 0))))) none])
  (.cond (.tmp 4)
   (.seq (.steps [
     .act (some 5) (.op (.pure (.move (.tmp 0)))) none,
     .act (some 6) (.op (.pure (.bin .add (.tmp 5) (.const (.int .i64 1))))) none,
     .act (some 7) (.op (.pure (.neg (.tmp 6)))) none,
     .act (some 8) (.op (.pure (.conv .u64 (.tmp 7)))) none,
     .act (some 9) (.op (.pure (.bin .add (.tmp 8) (.const (w64 1#64))))) none,
     .act (some 10) (.call (.func 37) [(.tmp 9)]) none,
     .act (some 11) (.op (.pure (.strOp .add (.const (strV [45])) (.tmp 10)))) none,
     .act (some 2) (.op (.pure (.move (.tmp 11)))) none])
   .ret)
   .skip))
  (.seq (.steps [
    .act (some 12) (.op (.pure (.move (.tmp 0)))) none,
    .act (some 13) (.op (.pure (.conv .u64 (.tmp 12)))) none,
    .act (some 14) (.call (.func 37) [(.tmp 13)]) none,
    .act (some 2) (.op (.pure (.move (.tmp 14)))) none])
  .ret))) }
theorem c36 : compFn Try.prog (mkPlan Try.prog) [] true 36 = some L36 := by kernel_rfl
/-- sluiceway/sluicewayref04.digits -/
def L37 : LFun := { n := 18, pop := true, res := [.tmp 2], code :=
  (.seq (.steps [
    .act (some 2) (.op (.pure (.move (.const (strV []))))) none])
  (.seq (.steps [
    .act (some 4) (.op (.pure (.move (.tmp 0)))) none,
    .act (some 5) (.op (.pure (.bin .rem (.tmp 4) (.const (w64 10#64))))) none,
    .act (some 6) (.op (.pure (.move (.tmp 0)))) none,
    .act (some 7) (.op (.pure (.bin .rem (.tmp 6) (.const (w64 10#64))))) none,
    .act (some 8) (.op (.pure (.bin .add (.tmp 7) (.const (w64 1#64))))) none,
    .act (some 9) (.op (.pure (.slStr (.const (strV [48, 49, 50, 51, 52, 53, 54, 55, 56, 57])) (some (.tmp 5)) (some (.tmp 8))))) none,
    .act (some 3) (.op (.pure (.move (.tmp 9)))) none])
  (.seq (.seq (.steps [
    .act (some 10) (.op (.pure (.move (.tmp 0)))) none,
    .act (some 11) (.op (.pure (.bin .lss (.tmp 10) (.const (w64 10#64))))) none])
  (.cond (.tmp 11)
   (.seq (.steps [
     .act (some 12) (.op (.pure (.move (.tmp 3)))) none,
     .act (some 2) (.op (.pure (.move (.tmp 12)))) none])
   .ret)
   .skip))
  (.seq (.steps [
    .act (some 13) (.op (.pure (.move (.tmp 0)))) none,
    .act (some 14) (.op (.pure (.bin .quo (.tmp 13) (.const (w64 10#64))))) none,
    .act (some 15) (.call (.func 37) [(.tmp 14)]) none,
    .act (some 16) (.op (.pure (.move (.tmp 3)))) none,
    .act (some 17) (.op (.pure (.strOp .add (.tmp 15) (.tmp 16)))) none,
    .act (some 2) (.op (.pure (.move (.tmp 17)))) none])
  .ret)))) }
theorem c37 : compFn Try.prog (mkPlan Try.prog) [] true 37 = some L37 := by kernel_rfl
/-- (sluiceway/sluicewayref04.Call).On -/
def L38 : LFun := { n := 20, pop := true, res := [.tmp 4], code :=
  (.seq (.steps [
    .act (some 2) (.op (.new (.box (.tmp 0)))) none,
    .act (some 4) (.op (.pure (.move (.const (.bool false))))) none])
  (.seq (.steps [
    .act (some 5) (.op (.pure (.fieldAddr 3 (.tmp 2)))) none,
    .act (some 6) (.op (.read (.load1 (.tmp 5)))) none,
    .act (some 7) (.op (.pure (.move (.tmp 1)))) none,
    .act (some 8) (.op (.pure (.bin .leq (.tmp 6) (.tmp 7)))) none,
    .act (some 9) (.op (.pure (.move (.tmp 8)))) none,
    .act (some 10) (.op (.pure (.fieldAddr 5 (.tmp 2)))) (some (9, true)),
    .act (some 11) (.op (.read (.load1 (.tmp 10)))) (some (9, true)),
    .act (some 12) (.op (.pure (.not (.tmp 11)))) (some (9, true)),
    .act (some 13) (.op (.pure (.move (.tmp 12)))) (some (9, true)),
    .act (some 14) (.op (.pure (.move (.tmp 1)))) (some (13, false)),
    .act (some 15) (.op (.pure (.fieldAddr 4 (.tmp 2)))) (some (13, false)),
    .act (some 16) (.op (.read (.load1 (.tmp 15)))) (some (13, false)),
    .act (some 17) (.op (.pure (.bin .leq (.tmp 14) (.tmp 16)))) (some (13, false)),
    .act (some 18) (.op (.pure (.pick (.tmp 13) (.const (.bool true)) (.tmp 17)))) (some (9, true)),
    .act (some 19) (.op (.pure (.pick (.tmp 9) (.tmp 18) (.const (.bool false))))) none,
    .act (some 4) (.op (.pure (.move (.tmp 19)))) none])
  .ret)) }
theorem c38 : compFn Try.prog (mkPlan Try.prog) [] true 38 = some L38 := by kernel_rfl
/-- slices.IndexFunc[[]sluiceway/hist.Call,sluiceway/hist.Call] -/
def L39 : LFun := { n := 19, pop := true, res := [.tmp 4], code :=
  (.seq (.steps [
    .act (some 4) (.op (.pure (.move (.const (.int .i64 0))))) none])
  (.seq (.seq (.steps [
    .act (some 6) (.op (.pure (.move (.tmp 0)))) none,
    .act (some 7) (.op (.pure (.len false (.tmp 6)))) none,
    .act (some 8) (.op (.pure (.move (.const (.int .i64 0))))) none])
  (.block 0 (.loop [0, 1, 7, 8] (.seq (.steps [
      .act (some 9) (.op (.pure (.bin .lss (.tmp 8) (.tmp 7)))) none])
    (.seq (.cond (.tmp 9)
     .skip
     (.exit 0))
    (.seq (.block 1 (.seq (.steps [
       .act (some 10) (.op (.pure (.move (.tmp 8)))) none,
       .act (some 5) (.op (.pure (.move (.tmp 10)))) none])
     (.seq (.steps [
       .act (some 11) (.op (.pure (.move (.tmp 1)))) none,
       .act (some 12) (.op (.pure (.move (.tmp 0)))) none,
       .act (some 13) (.op (.pure (.move (.tmp 5)))) none,
       .act (some 14) (.op (.pure (.idxSl 8 (.tmp 12) (.tmp 13)))) none,
       .act (some 15) (.op (.read (.loadN 8 (.tmp 14)))) none,
       .act (some 16) (.call (.tmp 11) [(.tmp 15)]) none])
     (.cond (.tmp 16)
      (.seq (.steps [
        .act (some 17) (.op (.pure (.move (.tmp 5)))) none,
        .act (some 4) (.op (.pure (.move (.tmp 17)))) none])
      .ret)
      .skip))))
    (.steps [
      .act (some 18) (.op (.pure (.bin .add (.tmp 8) (.const (.int .i64 1))))) none,
      .act (some 8) (.op (.pure (.move (.tmp 18)))) none])))))))
  (.seq (.steps [
    .act (some 4) (.op (.pure (.move (.const (.int .i64 (-1)))))) none])
  .ret))) }
theorem c39 : compFn Try.prog (mkPlan Try.prog) [(2, [0, 1, 7, 8])] true 39 = some L39 := by kernel_rfl
end Go.Proofs.Ytlkfmeobkgglfaa
