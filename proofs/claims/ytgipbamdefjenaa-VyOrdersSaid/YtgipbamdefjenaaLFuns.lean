import Derived.Test.YtgipbamdefjenaaLP
import Derived.KernelRfl
import Derived.Test.YtgipbamdefjenaaProg
namespace Go.Proofs.Ytgipbamdefjenaa
open Go Go.LK Go.Proofs
set_option maxRecDepth 100000
/-- sluiceway/sluicewaylaw07.VyWhole -/
def L3 : LFun := { n := 158, pop := true, res := [.tmp 4], code :=
  (.seq (.steps [
    .act (some 4) (.op (.pure (.move (.const (.bool false))))) none])
  (.seq (.steps [
    .act (some 21) (.op (.pure (.move (.tmp 0)))) none,
    .act (some 22) (.op (.pure (.bin .and (.tmp 21) (.const (.int .i64 1))))) none,
    .act (some 23) (.op (.pure (.conv .u64 (.tmp 22)))) none,
    .act (some 24) (.op (.pure (.bin .shl (.const (.int .i64 2)) (.tmp 23)))) none,
    .act (some 25) (.op (.pure (.build [(.int .i64 0), (.int .i64 0)] [(0, 1, (.const (.int .i64 0))), (1, 1, (.tmp 24))]))) none,
    .act (some 5) (.op (.new (.alloc [(.int .i64 0), (.int .i64 0)]))) none,
    .act none (.op (.eff (.store 2 (.tmp 5) (.tmp 25)))) none])
  (.seq (.steps [
    .act (some 27) (.op (.read (.loadN 2 (.tmp 5)))) none,
    .act (some 28) (.call (.func 9) [(.tmp 27)]) none,
    .act (some 29) (.call (.func 8) [(.tmp 28)]) none,
    .act (some 26) (.op (.pure (.move (.tmp 29)))) none,
    .act (some 30) (.op (.pure (.extract (.tmp 26) 0))) none,
    .act (some 31) (.op (.pure (.extract (.tmp 26) 1))) none,
    .act (some 6) (.op (.pure (.move (.tmp 30)))) none,
    .act (some 7) (.op (.pure (.move (.tmp 31)))) none])
  (.seq (.seq (.steps [
    .act (some 32) (.op (.pure (.move (.tmp 7)))) none,
    .act (some 33) (.op (.pure (.bin .neq (.tmp 32) (.const (.int .i64 0))))) none,
    .act (some 34) (.op (.pure (.move (.tmp 33)))) none,
    .act (some 35) (.op (.read (.loadN 2 (.tmp 5)))) (some (34, false)),
    .act (some 36) (.op (.pure (.move (.tmp 6)))) (some (34, false)),
    .act (some 37) (.call (.func 10) [(.tmp 35), (.tmp 36)]) (some (34, false)),
    .act (some 38) (.op (.pure (.bin .neq (.tmp 37) (.const (.int .i64 0))))) (some (34, false)),
    .act (some 39) (.op (.pure (.pick (.tmp 34) (.const (.bool true)) (.tmp 38)))) none])
  (.cond (.tmp 39)
   (.seq (.steps [
     .act (some 4) (.op (.pure (.move (.const (.bool false))))) none])
   .ret)
   .skip))
  (.seq (.steps [
    .act (some 8) (.op (.new (.alloc [(.pointer none), (.pointer none), (.pointer none), (.pointer none)]))) none])
  (.seq (.seq (.steps [
    .act (some 9) (.op (.pure (.move (.const (.int .i64 0))))) none])
  (.block 0 (.loop [1, 5, 6, 8, 9] (.seq (.seq (.steps [
      .act (some 40) (.op (.pure (.move (.tmp 9)))) none,
      .act (some 41) (.op (.pure (.bin .lss (.tmp 40) (.const (.int .i64 4))))) none])
    (.cond (.tmp 41)
     .skip
     (.exit 0)))
    (.seq (.block 1 (.steps [
       .act (some 44) (.op (.pure (.move (.tmp 9)))) none,
       .act (some 45) (.op (.read (.loadN 2 (.tmp 5)))) none,
       .act (some 46) (.op (.pure (.move (.tmp 9)))) none,
       .act (some 47) (.op (.pure (.bin .add (.const (.int .i64 100)) (.tmp 46)))) none,
       .act (some 48) (.op (.pure (.conv .u64 (.tmp 47)))) none,
       .act (some 49) (.call (.func 11) [(.tmp 45), (.tmp 48)]) none,
       .act (some 50) (.op (.pure (.idxArr 4 1 (.tmp 8) (.tmp 44)))) none,
       .act none (.op (.eff (.store 1 (.tmp 50) (.tmp 49)))) none]))
    (.steps [
      .act (some 42) (.op (.pure (.move (.tmp 9)))) none,
      .act (some 43) (.op (.pure (.bin .add (.tmp 42) (.const (.int .i64 1))))) none,
      .act (some 9) (.op (.pure (.move (.tmp 43)))) none]))))))
  (.seq (.seq (.steps [
    .act (some 10) (.op (.pure (.move (.const (.int .i64 0))))) none])
  (.block 2 (.loop [1, 5, 6, 8, 10] (.seq (.seq (.steps [
      .act (some 51) (.op (.pure (.move (.tmp 10)))) none,
      .act (some 52) (.op (.pure (.move (.tmp 1)))) none,
      .act (some 53) (.op (.pure (.len false (.tmp 52)))) none,
      .act (some 54) (.op (.pure (.bin .lss (.tmp 51) (.tmp 53)))) none,
      .act (some 55) (.op (.pure (.move (.tmp 54)))) none,
      .act (some 56) (.op (.pure (.move (.tmp 10)))) (some (55, true)),
      .act (some 57) (.op (.pure (.bin .lss (.tmp 56) (.const (.int .i64 100))))) (some (55, true)),
      .act (some 58) (.op (.pure (.pick (.tmp 55) (.tmp 57) (.const (.bool false))))) none])
    (.cond (.tmp 58)
     .skip
     (.exit 2)))
    (.seq (.block 3 (.steps [
       .act (some 61) (.op (.pure (.move (.tmp 1)))) none,
       .act (some 62) (.op (.pure (.move (.tmp 10)))) none,
       .act (some 63) (.op (.pure (.idxSl 1 (.tmp 61) (.tmp 62)))) none,
       .act (some 64) (.op (.read (.load1 (.tmp 63)))) none,
       .act (some 65) (.call (.func 12) [(.tmp 64)]) none,
       .act (some 66) (.op (.pure (.idxArr 4 1 (.tmp 8) (.tmp 65)))) none,
       .act (some 67) (.op (.read (.load1 (.tmp 66)))) none,
       .act (some 68) (.op (.pure (.move (.tmp 6)))) none,
       .act (some 69) (.call (.func 13) [(.tmp 67), (.tmp 68)]) none]))
    (.steps [
      .act (some 59) (.op (.pure (.move (.tmp 10)))) none,
      .act (some 60) (.op (.pure (.bin .add (.tmp 59) (.const (.int .i64 1))))) none,
      .act (some 10) (.op (.pure (.move (.tmp 60)))) none]))))))
  (.seq (.steps [
    .act (some 70) (.op (.new (.makeMap))) none,
    .act (some 11) (.op (.pure (.move (.tmp 70)))) none])
  (.seq (.seq (.steps [
    .act (some 12) (.op (.pure (.move (.const (.int .i64 0))))) none])
  (.block 4 (.loop [5, 6, 8, 11, 12] (.seq (.seq (.steps [
      .act (some 71) (.op (.pure (.move (.tmp 12)))) none,
      .act (some 72) (.op (.pure (.bin .lss (.tmp 71) (.const (.int .i64 4))))) none])
    (.cond (.tmp 72)
     .skip
     (.exit 4)))
    (.seq (.block 5 (.seq (.seq (.steps [
       .act (some 13) (.op (.pure (.move (.const (.int .i64 0))))) none])
     (.block 6 (.loop [5, 6, 8, 11, 12, 13] (.seq (.seq (.steps [
         .act (some 75) (.op (.pure (.move (.tmp 13)))) none,
         .act (some 76) (.op (.pure (.bin .lss (.tmp 75) (.const (.int .i64 40))))) none,
         .act (some 77) (.op (.pure (.move (.tmp 76)))) none,
         .act (some 78) (.op (.pure (.move (.tmp 12)))) (some (77, true)),
         .act (some 79) (.op (.pure (.idxArr 4 1 (.tmp 8) (.tmp 78)))) (some (77, true)),
         .act (some 80) (.op (.read (.load1 (.tmp 79)))) (some (77, true)),
         .act (some 81) (.call (.func 14) [(.tmp 80)]) (some (77, true)),
         .act (some 82) (.op (.pure (.not (.tmp 81)))) (some (77, true)),
         .act (some 83) (.op (.pure (.pick (.tmp 77) (.tmp 82) (.const (.bool false))))) none])
       (.cond (.tmp 83)
        .skip
        (.exit 6)))
       (.seq (.block 7 (.steps [
          .act (some 86) (.op (.pure (.move (.tmp 12)))) none,
          .act (some 87) (.op (.pure (.idxArr 4 1 (.tmp 8) (.tmp 86)))) none,
          .act (some 88) (.op (.read (.load1 (.tmp 87)))) none,
          .act (some 89) (.op (.pure (.move (.tmp 6)))) none,
          .act (some 90) (.call (.func 13) [(.tmp 88), (.tmp 89)]) none]))
       (.steps [
         .act (some 84) (.op (.pure (.move (.tmp 13)))) none,
         .act (some 85) (.op (.pure (.bin .add (.tmp 84) (.const (.int .i64 1))))) none,
         .act (some 13) (.op (.pure (.move (.tmp 85)))) none]))))))
     (.seq (.steps [
       .act (some 92) (.op (.pure (.move (.tmp 12)))) none,
       .act (some 93) (.op (.pure (.idxArr 4 1 (.tmp 8) (.tmp 92)))) none,
       .act (some 94) (.op (.read (.load1 (.tmp 93)))) none,
       .act (some 95) (.call (.func 15) [(.tmp 94)]) none,
       .act (some 91) (.op (.pure (.move (.tmp 95)))) none,
       .act (some 96) (.op (.pure (.extract (.tmp 91) 0))) none,
       .act (some 97) (.op (.pure (.extract (.tmp 91) 1))) none,
       .act (some 14) (.op (.pure (.move (.tmp 96)))) none,
       .act (some 15) (.op (.pure (.move (.tmp 97)))) none])
     (.seq (.seq (.steps [
       .act (some 98) (.op (.pure (.move (.tmp 12)))) none,
       .act (some 99) (.op (.pure (.idxArr 4 1 (.tmp 8) (.tmp 98)))) none,
       .act (some 100) (.op (.read (.load1 (.tmp 99)))) none,
       .act (some 101) (.call (.func 14) [(.tmp 100)]) none,
       .act (some 102) (.op (.pure (.not (.tmp 101)))) none,
       .act (some 103) (.op (.pure (.move (.tmp 102)))) none,
       .act (some 104) (.op (.pure (.move (.tmp 14)))) (some (103, false)),
       .act (some 105) (.op (.pure (.bin .neq (.tmp 104) (.const (.int .i64 0))))) (some (103, false)),
       .act (some 106) (.op (.pure (.move (.tmp 105)))) (some (103, false)),
       .act (some 107) (.op (.pure (.move (.tmp 14)))) (some (106, true)),
       .act (some 108) (.op (.pure (.bin .neq (.tmp 107) (.const (.int .i64 15))))) (some (106, true)),
       .act (some 109) (.op (.pure (.pick (.tmp 106) (.tmp 108) (.const (.bool false))))) (some (103, false)),
       .act (some 110) (.op (.pure (.pick (.tmp 103) (.const (.bool true)) (.tmp 109)))) none])
     (.cond (.tmp 110)
      (.seq (.steps [
        .act (some 4) (.op (.pure (.move (.const (.bool false))))) none])
      .ret)
      .skip))
     (.seq (.steps [
       .act (some 111) (.op (.pure (.move (.tmp 14)))) none,
       .act (some 112) (.op (.pure (.bin .eql (.tmp 111) (.const (.int .i64 0))))) none])
     (.cond (.tmp 112)
      (.steps [
        .act (some 113) (.op (.pure (.move (.tmp 11)))) none,
        .act (some 114) (.op (.pure (.move (.tmp 12)))) none,
        .act (some 115) (.op (.pure (.bin .add (.const (.int .i64 100)) (.tmp 114)))) none,
        .act (some 116) (.op (.pure (.conv .u64 (.tmp 115)))) none,
        .act none (.op (.eff (.mapUpdate false (.tmp 113) (.tmp 116) (.const (.bool true))))) none])
      .skip))))))
    (.steps [
      .act (some 73) (.op (.pure (.move (.tmp 12)))) none,
      .act (some 74) (.op (.pure (.bin .add (.tmp 73) (.const (.int .i64 1))))) none,
      .act (some 12) (.op (.pure (.move (.tmp 74)))) none]))))))
  (.seq (.seq (.steps [
    .act (some 117) (.op (.pure (.move (.tmp 11)))) none,
    .act (some 118) (.op (.read (.lenMap (.tmp 117)))) none,
    .act (some 119) (.op (.pure (.fieldAddr 1 (.tmp 5)))) none,
    .act (some 120) (.op (.read (.load1 (.tmp 119)))) none,
    .act (some 121) (.op (.pure (.bin .neq (.tmp 118) (.tmp 120)))) none])
  (.cond (.tmp 121)
   (.seq (.steps [
     .act (some 4) (.op (.pure (.move (.const (.bool false))))) none])
   .ret)
   .skip))
  (.seq (.seq (.steps [
    .act (some 16) (.op (.pure (.move (.const (.int .i64 0))))) none])
  (.block 8 (.loop [5, 6, 11, 16] (.seq (.seq (.steps [
      .act (some 122) (.op (.pure (.move (.tmp 16)))) none,
      .act (some 123) (.op (.pure (.fieldAddr 1 (.tmp 5)))) none,
      .act (some 124) (.op (.read (.load1 (.tmp 123)))) none,
      .act (some 125) (.op (.pure (.bin .lss (.tmp 122) (.tmp 124)))) none])
    (.cond (.tmp 125)
     .skip
     (.exit 8)))
    (.seq (.block 9 (.seq (.steps [
       .act (some 128) (.op (.read (.loadN 2 (.tmp 5)))) none,
       .act (some 129) (.call (.func 16) [(.tmp 128)]) none,
       .act (some 17) (.op (.pure (.move (.tmp 129)))) none])
     (.seq (.seq (.steps [
       .act (some 18) (.op (.pure (.move (.const (.int .i64 0))))) none])
     (.block 10 (.loop [5, 6, 11, 16, 17, 18] (.seq (.seq (.steps [
         .act (some 130) (.op (.pure (.move (.tmp 18)))) none,
         .act (some 131) (.op (.pure (.bin .lss (.tmp 130) (.const (.int .i64 5))))) none])
       (.cond (.tmp 131)
        .skip
        (.exit 10)))
       (.seq (.block 11 (.steps [
          .act (some 134) (.op (.pure (.move (.tmp 17)))) none,
          .act (some 135) (.op (.pure (.move (.tmp 6)))) none,
          .act (some 136) (.call (.func 13) [(.tmp 134), (.tmp 135)]) none]))
       (.steps [
         .act (some 132) (.op (.pure (.move (.tmp 18)))) none,
         .act (some 133) (.op (.pure (.bin .add (.tmp 132) (.const (.int .i64 1))))) none,
         .act (some 18) (.op (.pure (.move (.tmp 133)))) none]))))))
     (.seq (.steps [
       .act (some 138) (.op (.pure (.move (.tmp 17)))) none,
       .act (some 139) (.call (.func 15) [(.tmp 138)]) none,
       .act (some 137) (.op (.pure (.move (.tmp 139)))) none,
       .act (some 140) (.op (.pure (.extract (.tmp 137) 0))) none,
       .act (some 141) (.op (.pure (.extract (.tmp 137) 1))) none,
       .act (some 19) (.op (.pure (.move (.tmp 140)))) none,
       .act (some 20) (.op (.pure (.move (.tmp 141)))) none])
     (.seq (.seq (.steps [
       .act (some 142) (.op (.pure (.move (.tmp 19)))) none,
       .act (some 143) (.op (.pure (.bin .neq (.tmp 142) (.const (.int .i64 0))))) none,
       .act (some 144) (.op (.pure (.move (.tmp 143)))) none,
       .act (some 145) (.op (.pure (.move (.tmp 11)))) (some (144, false)),
       .act (some 146) (.op (.pure (.move (.tmp 20)))) (some (144, false)),
       .act (some 147) (.op (.read (.lookup false (.bool false) false (.tmp 145) (.tmp 146)))) (some (144, false)),
       .act (some 148) (.op (.pure (.not (.tmp 147)))) (some (144, false)),
       .act (some 149) (.op (.pure (.pick (.tmp 144) (.const (.bool true)) (.tmp 148)))) none])
     (.cond (.tmp 149)
      (.seq (.steps [
        .act (some 4) (.op (.pure (.move (.const (.bool false))))) none])
      .ret)
      .skip))
     (.steps [
       .act (some 150) (.op (.pure (.move (.tmp 11)))) none,
       .act (some 151) (.op (.pure (.move (.tmp 20)))) none,
       .act none (.op (.eff (.delete false (.tmp 150) (.tmp 151)))) none]))))))
    (.steps [
      .act (some 126) (.op (.pure (.move (.tmp 16)))) none,
      .act (some 127) (.op (.pure (.bin .add (.tmp 126) (.const (.int .i64 1))))) none,
      .act (some 16) (.op (.pure (.move (.tmp 127)))) none]))))))
  (.seq (.steps [
    .act (some 152) (.op (.pure (.move (.tmp 6)))) none,
    .act (some 153) (.call (.func 17) [(.tmp 152)]) none,
    .act (some 154) (.op (.pure (.bin .eql (.tmp 153) (.const (.int .i64 (-1)))))) none,
    .act (some 155) (.op (.pure (.move (.tmp 154)))) none,
    .act (some 156) (.call (.func 18) []) (some (155, true)),
    .act (some 157) (.op (.pure (.pick (.tmp 155) (.tmp 156) (.const (.bool false))))) none,
    .act (some 4) (.op (.pure (.move (.tmp 157)))) none])
  .ret)))))))))))) }
theorem c3 : compFn Try.prog (mkPlan Try.prog) [(7, [1, 5, 6, 8, 9]), (11, [1, 5, 6, 8, 10]), (16, [5, 6, 8, 11, 12]), (19, [5, 6, 8, 11, 12, 13]), (30, [5, 6, 11, 16]), (34, [5, 6, 11, 16, 17, 18])] true 3 = some L3 := by kernel_rfl
/-- sluiceway/sluicewaylaw07.VyNobody -/
def L4 : LFun := { n := 161, pop := true, res := [.tmp 4], code :=
  (.seq (.steps [
    .act (some 2) (.op (.new (.box (.tmp 0)))) none,
    .act (some 4) (.op (.pure (.move (.const (.bool false))))) none])
  (.seq (.steps [
    .act (some 17) (.call (.func 8) [(.const (.int .i64 8))]) none,
    .act (some 16) (.op (.pure (.move (.tmp 17)))) none,
    .act (some 18) (.op (.pure (.extract (.tmp 16) 0))) none,
    .act (some 19) (.op (.pure (.extract (.tmp 16) 1))) none,
    .act (some 5) (.op (.pure (.move (.tmp 18)))) none,
    .act (some 6) (.op (.pure (.move (.tmp 19)))) none])
  (.seq (.seq (.steps [
    .act (some 20) (.op (.pure (.move (.tmp 6)))) none,
    .act (some 21) (.op (.pure (.bin .neq (.tmp 20) (.const (.int .i64 0))))) none])
  (.cond (.tmp 21)
   (.seq (.steps [
     .act (some 4) (.op (.pure (.move (.const (.bool false))))) none])
   .ret)
   .skip))
  (.seq (.steps [
    .act (some 7) (.op (.pure (.move (.const (.pointer none))))) none])
  (.seq (.steps [
    .act (some 23) (.op (.pure (.move (.tmp 7)))) none,
    .act (some 24) (.call (.func 15) [(.tmp 23)]) none,
    .act (some 22) (.op (.pure (.move (.tmp 24)))) none,
    .act (some 25) (.op (.pure (.extract (.tmp 22) 0))) none,
    .act (some 26) (.op (.pure (.extract (.tmp 22) 1))) none,
    .act (some 8) (.op (.pure (.move (.tmp 25)))) none,
    .act (some 9) (.op (.pure (.move (.tmp 26)))) none])
  (.seq (.steps [
    .act (some 28) (.op (.pure (.build [(.bool false), (.int .i64 0), (.int .i64 0), (.bool false), (w64 0#64), (.int .i64 0), (w64 0#64), (.int .i64 0)] []))) none,
    .act (some 29) (.op (.new (.box (.tmp 28)))) none,
    .act (some 30) (.call (.func 15) [(.tmp 29)]) none,
    .act (some 27) (.op (.pure (.move (.tmp 30)))) none,
    .act (some 31) (.op (.pure (.extract (.tmp 27) 0))) none,
    .act (some 32) (.op (.pure (.extract (.tmp 27) 1))) none,
    .act (some 10) (.op (.pure (.move (.tmp 31)))) none,
    .act (some 11) (.op (.pure (.move (.tmp 32)))) none])
  (.seq (.seq (.steps [
    .act (some 33) (.op (.pure (.move (.tmp 8)))) none,
    .act (some 34) (.op (.pure (.bin .neq (.tmp 33) (.const (.int .i64 1))))) none,
    .act (some 35) (.op (.pure (.move (.tmp 34)))) none,
    .act (some 36) (.op (.pure (.move (.tmp 10)))) (some (35, false)),
    .act (some 37) (.op (.pure (.bin .neq (.tmp 36) (.const (.int .i64 1))))) (some (35, false)),
    .act (some 38) (.op (.pure (.pick (.tmp 35) (.const (.bool true)) (.tmp 37)))) none,
    .act (some 39) (.op (.pure (.move (.tmp 38)))) none,
    .act (some 40) (.op (.pure (.move (.tmp 9)))) (some (39, false)),
    .act (some 41) (.op (.pure (.move (.tmp 11)))) (some (39, false)),
    .act (some 42) (.op (.pure (.bin .add (.tmp 40) (.tmp 41)))) (some (39, false)),
    .act (some 43) (.op (.pure (.bin .neq (.tmp 42) (.const (w64 0#64))))) (some (39, false)),
    .act (some 44) (.op (.pure (.pick (.tmp 39) (.const (.bool true)) (.tmp 43)))) none,
    .act (some 45) (.op (.pure (.move (.tmp 44)))) none,
    .act (some 46) (.op (.pure (.move (.tmp 7)))) (some (45, false)),
    .act (some 47) (.op (.pure (.move (.tmp 5)))) (some (45, false)),
    .act (some 48) (.call (.func 13) [(.tmp 46), (.tmp 47)]) (some (45, false)),
    .act (some 49) (.op (.pure (.not (.tmp 48)))) (some (45, false)),
    .act (some 50) (.op (.pure (.pick (.tmp 45) (.const (.bool true)) (.tmp 49)))) none,
    .act (some 51) (.op (.pure (.move (.tmp 50)))) none,
    .act (some 52) (.op (.pure (.move (.tmp 7)))) (some (51, false)),
    .act (some 53) (.call (.func 14) [(.tmp 52)]) (some (51, false)),
    .act (some 54) (.op (.pure (.not (.tmp 53)))) (some (51, false)),
    .act (some 55) (.op (.pure (.pick (.tmp 51) (.const (.bool true)) (.tmp 54)))) none,
    .act (some 56) (.op (.pure (.move (.tmp 55)))) none,
    .act (some 57) (.op (.pure (.move (.tmp 7)))) (some (56, false)),
    .act (some 58) (.call (.func 19) [(.tmp 57)]) (some (56, false)),
    .act (some 59) (.op (.pure (.bin .neq (.tmp 58) (.const (.int .i64 5))))) (some (56, false)),
    .act (some 60) (.op (.pure (.pick (.tmp 56) (.const (.bool true)) (.tmp 59)))) none,
    .act (some 61) (.op (.pure (.move (.tmp 60)))) none,
    .act (some 62) (.op (.pure (.move (.tmp 5)))) (some (61, false)),
    .act (some 63) (.call (.func 20) [(.tmp 62)]) (some (61, false)),
    .act (some 64) (.op (.pure (.bin .neq (.tmp 63) (.const (.int .i64 0))))) (some (61, false)),
    .act (some 65) (.op (.pure (.pick (.tmp 61) (.const (.bool true)) (.tmp 64)))) none])
  (.cond (.tmp 65)
   (.seq (.steps [
     .act (some 4) (.op (.pure (.move (.const (.bool false))))) none])
   .ret)
   .skip))
  (.seq (.steps [
    .act (some 66) (.op (.pure (.fieldAddr 0 (.tmp 2)))) none,
    .act (some 67) (.op (.read (.load1 (.tmp 66)))) none,
    .act (some 68) (.op (.pure (.bin .geq (.tmp 67) (.const (.int .i64 0))))) none,
    .act (some 69) (.op (.pure (.move (.tmp 68)))) none,
    .act (some 70) (.op (.pure (.fieldAddr 0 (.tmp 2)))) (some (69, true)),
    .act (some 71) (.op (.read (.load1 (.tmp 70)))) (some (69, true)),
    .act (some 72) (.op (.pure (.bin .leq (.tmp 71) (.const (.int .i64 65536))))) (some (69, true)),
    .act (some 73) (.op (.pure (.pick (.tmp 69) (.tmp 72) (.const (.bool false))))) none,
    .act (some 74) (.op (.pure (.move (.tmp 73)))) none,
    .act (some 75) (.op (.pure (.fieldAddr 1 (.tmp 2)))) (some (74, true)),
    .act (some 76) (.op (.read (.load1 (.tmp 75)))) (some (74, true)),
    .act (some 77) (.op (.pure (.bin .geq (.tmp 76) (.const (.int .i64 2))))) (some (74, true)),
    .act (some 78) (.op (.pure (.pick (.tmp 74) (.tmp 77) (.const (.bool false))))) none,
    .act (some 79) (.op (.pure (.move (.tmp 78)))) none,
    .act (some 80) (.op (.pure (.fieldAddr 1 (.tmp 2)))) (some (79, true)),
    .act (some 81) (.op (.read (.load1 (.tmp 80)))) (some (79, true)),
    .act (some 82) (.op (.pure (.bin .leq (.tmp 81) (.const (.int .i64 1024))))) (some (79, true)),
    .act (some 83) (.op (.pure (.pick (.tmp 79) (.tmp 82) (.const (.bool false))))) none,
    .act (some 84) (.op (.pure (.move (.tmp 83)))) none,
    .act (some 85) (.op (.pure (.fieldAddr 1 (.tmp 2)))) (some (84, true)),
    .act (some 86) (.op (.read (.load1 (.tmp 85)))) (some (84, true)),
    .act (some 87) (.op (.pure (.fieldAddr 1 (.tmp 2)))) (some (84, true)),
    .act (some 88) (.op (.read (.load1 (.tmp 87)))) (some (84, true)),
    .act (some 89) (.op (.pure (.bin .sub (.tmp 88) (.const (.int .i64 1))))) (some (84, true)),
    .act (some 90) (.op (.pure (.bin .and (.tmp 86) (.tmp 89)))) (some (84, true)),
    .act (some 91) (.op (.pure (.bin .eql (.tmp 90) (.const (.int .i64 0))))) (some (84, true)),
    .act (some 92) (.op (.pure (.pick (.tmp 84) (.tmp 91) (.const (.bool false))))) none,
    .act (some 12) (.op (.pure (.move (.tmp 92)))) none])
  (.seq (.steps [
    .act (some 93) (.op (.read (.loadN 2 (.tmp 2)))) none,
    .act (some 94) (.op (.pure (.move (.tmp 1)))) none,
    .act (some 95) (.call (.func 11) [(.tmp 93), (.tmp 94)]) none,
    .act (some 13) (.op (.pure (.move (.tmp 95)))) none])
  (.seq (.steps [
    .act (some 97) (.op (.pure (.move (.tmp 13)))) none,
    .act (some 98) (.call (.func 15) [(.tmp 97)]) none,
    .act (some 96) (.op (.pure (.move (.tmp 98)))) none,
    .act (some 99) (.op (.pure (.extract (.tmp 96) 0))) none,
    .act (some 100) (.op (.pure (.extract (.tmp 96) 1))) none,
    .act (some 14) (.op (.pure (.move (.tmp 99)))) none,
    .act (some 15) (.op (.pure (.move (.tmp 100)))) none])
  (.seq (.seq (.steps [
    .act (some 101) (.op (.read (.loadN 2 (.tmp 2)))) none,
    .act (some 102) (.call (.func 21) [(.tmp 101)]) none,
    .act (some 103) (.op (.pure (.move (.tmp 12)))) none,
    .act (some 104) (.op (.pure (.eqB true (.tmp 102) (.tmp 103)))) none,
    .act (some 105) (.op (.pure (.move (.tmp 104)))) none,
    .act (some 106) (.op (.pure (.move (.tmp 13)))) (some (105, false)),
    .act (some 107) (.call (.func 14) [(.tmp 106)]) (some (105, false)),
    .act (some 108) (.op (.pure (.move (.tmp 12)))) (some (105, false)),
    .act (some 109) (.op (.pure (.eqB false (.tmp 107) (.tmp 108)))) (some (105, false)),
    .act (some 110) (.op (.pure (.pick (.tmp 105) (.const (.bool true)) (.tmp 109)))) none,
    .act (some 111) (.op (.pure (.move (.tmp 110)))) none,
    .act (some 112) (.op (.pure (.move (.tmp 14)))) (some (111, false)),
    .act (some 113) (.op (.pure (.bin .eql (.tmp 112) (.const (.int .i64 2))))) (some (111, false)),
    .act (some 114) (.op (.pure (.move (.tmp 12)))) (some (111, false)),
    .act (some 115) (.op (.pure (.eqB false (.tmp 113) (.tmp 114)))) (some (111, false)),
    .act (some 116) (.op (.pure (.pick (.tmp 111) (.const (.bool true)) (.tmp 115)))) none,
    .act (some 117) (.op (.pure (.move (.tmp 116)))) none,
    .act (some 118) (.op (.pure (.move (.tmp 15)))) (some (117, false)),
    .act (some 119) (.op (.pure (.bin .neq (.tmp 118) (.const (w64 0#64))))) (some (117, false)),
    .act (some 120) (.op (.pure (.pick (.tmp 117) (.const (.bool true)) (.tmp 119)))) none])
  (.cond (.tmp 120)
   (.seq (.steps [
     .act (some 4) (.op (.pure (.move (.const (.bool false))))) none])
   .ret)
   .skip))
  (.seq (.seq (.steps [
    .act (some 121) (.op (.pure (.move (.tmp 12)))) none,
    .act (some 122) (.op (.pure (.not (.tmp 121)))) none])
  (.cond (.tmp 122)
   (.seq (.steps [
     .act (some 123) (.op (.read (.loadN 2 (.tmp 2)))) none,
     .act (some 124) (.op (.pure (.move (.tmp 5)))) none,
     .act (some 125) (.call (.func 10) [(.tmp 123), (.tmp 124)]) none,
     .act (some 126) (.op (.pure (.bin .eql (.tmp 125) (.const (.int .i64 2))))) none,
     .act (some 127) (.op (.pure (.move (.tmp 126)))) none,
     .act (some 128) (.op (.read (.loadN 2 (.tmp 2)))) (some (127, true)),
     .act (some 129) (.call (.func 9) [(.tmp 128)]) (some (127, true)),
     .act (some 130) (.op (.pure (.bin .eql (.tmp 129) (.const (.int .i64 0))))) (some (127, true)),
     .act (some 131) (.op (.pure (.pick (.tmp 127) (.tmp 130) (.const (.bool false))))) none,
     .act (some 132) (.op (.pure (.move (.tmp 131)))) none,
     .act (some 133) (.op (.pure (.move (.tmp 13)))) (some (132, true)),
     .act (some 134) (.op (.pure (.move (.tmp 5)))) (some (132, true)),
     .act (some 135) (.call (.func 13) [(.tmp 133), (.tmp 134)]) (some (132, true)),
     .act (some 136) (.op (.pure (.pick (.tmp 132) (.tmp 135) (.const (.bool false))))) none,
     .act (some 137) (.op (.pure (.move (.tmp 136)))) none,
     .act (some 138) (.op (.pure (.move (.tmp 5)))) (some (137, true)),
     .act (some 139) (.call (.func 20) [(.tmp 138)]) (some (137, true)),
     .act (some 140) (.op (.pure (.bin .eql (.tmp 139) (.const (.int .i64 0))))) (some (137, true)),
     .act (some 141) (.op (.pure (.pick (.tmp 137) (.tmp 140) (.const (.bool false))))) none,
     .act (some 142) (.op (.pure (.move (.tmp 141)))) none,
     .act (some 143) (.call (.func 18) []) (some (142, true)),
     .act (some 144) (.op (.pure (.pick (.tmp 142) (.tmp 143) (.const (.bool false))))) none,
     .act (some 4) (.op (.pure (.move (.tmp 144)))) none])
   .ret)
   .skip))
  (.seq (.steps [
    .act (some 145) (.op (.read (.loadN 2 (.tmp 2)))) none,
    .act (some 146) (.call (.func 10) [(.tmp 145), (.const (.pointer none))]) none,
    .act (some 147) (.op (.pure (.bin .eql (.tmp 146) (.const (.int .i64 1))))) none,
    .act (some 148) (.op (.pure (.move (.tmp 147)))) none,
    .act (some 149) (.op (.pure (.move (.tmp 13)))) (some (148, true)),
    .act (some 150) (.call (.func 13) [(.tmp 149), (.const (.pointer none))]) (some (148, true)),
    .act (some 151) (.op (.pure (.not (.tmp 150)))) (some (148, true)),
    .act (some 152) (.op (.pure (.pick (.tmp 148) (.tmp 151) (.const (.bool false))))) none,
    .act (some 153) (.op (.pure (.move (.tmp 152)))) none,
    .act (some 154) (.op (.pure (.move (.tmp 13)))) (some (153, true)),
    .act (some 155) (.call (.func 19) [(.tmp 154)]) (some (153, true)),
    .act (some 156) (.op (.pure (.bin .eql (.tmp 155) (.const (.int .i64 0))))) (some (153, true)),
    .act (some 157) (.op (.pure (.pick (.tmp 153) (.tmp 156) (.const (.bool false))))) none,
    .act (some 158) (.op (.pure (.move (.tmp 157)))) none,
    .act (some 159) (.call (.func 18) []) (some (158, true)),
    .act (some 160) (.op (.pure (.pick (.tmp 158) (.tmp 159) (.const (.bool false))))) none,
    .act (some 4) (.op (.pure (.move (.tmp 160)))) none])
  .ret))))))))))))) }
theorem c4 : compFn Try.prog (mkPlan Try.prog) [] true 4 = some L4 := by kernel_rfl
/-- sluiceway/sluicewaylaw07.VySteps -/
def L5 : LFun := { n := 253, pop := true, res := [.tmp 6], code :=
  (.seq (.steps [
    .act (some 6) (.op (.pure (.move (.const (.bool false))))) none])
  (.seq (.steps [
    .act (some 26) (.op (.pure (.move (.tmp 0)))) none,
    .act (some 27) (.call (.func 22) [(.tmp 26)]) none,
    .act (some 28) (.op (.pure (.build [(.int .i64 0), (.int .i64 0)] [(0, 1, (.const (.int .i64 1))), (1, 1, (.tmp 27))]))) none,
    .act (some 7) (.op (.new (.alloc [(.int .i64 0), (.int .i64 0)]))) none,
    .act none (.op (.eff (.store 2 (.tmp 7) (.tmp 28)))) none])
  (.seq (.steps [
    .act (some 30) (.call (.func 8) [(.const (.int .i64 40))]) none,
    .act (some 29) (.op (.pure (.move (.tmp 30)))) none,
    .act (some 31) (.op (.pure (.extract (.tmp 29) 0))) none,
    .act (some 32) (.op (.pure (.extract (.tmp 29) 1))) none,
    .act (some 8) (.op (.pure (.move (.tmp 31)))) none,
    .act (some 9) (.op (.pure (.move (.tmp 32)))) none])
  (.seq (.steps [
    .act (some 34) (.call (.func 23) [(.const (.int .i64 40))]) none,
    .act (some 33) (.op (.pure (.move (.tmp 34)))) none,
    .act (some 35) (.op (.pure (.extract (.tmp 33) 0))) none,
    .act (some 36) (.op (.pure (.extract (.tmp 33) 1))) none,
    .act (some 10) (.op (.new (.alloc [(.slice none 0 0), (.slice none 0 0), (.int .i64 0), (.int .i64 0), (.int .i64 0), (.int .i64 0), (.int .i64 0), (.int .i64 0), (.int .i64 0), (.bool false)]))) none,
    .act none (.op (.eff (.store 10 (.tmp 10) (.tmp 35)))) none,
    .act (some 11) (.op (.pure (.move (.tmp 36)))) none])
  (.seq (.seq (.steps [
    .act (some 37) (.op (.pure (.move (.tmp 9)))) none,
    .act (some 38) (.op (.pure (.bin .neq (.tmp 37) (.const (.int .i64 0))))) none,
    .act (some 39) (.op (.pure (.move (.tmp 38)))) none,
    .act (some 40) (.op (.pure (.move (.tmp 11)))) (some (39, false)),
    .act (some 41) (.op (.pure (.bin .neq (.tmp 40) (.const (.int .i64 0))))) (some (39, false)),
    .act (some 42) (.op (.pure (.pick (.tmp 39) (.const (.bool true)) (.tmp 41)))) none,
    .act (some 43) (.op (.pure (.move (.tmp 42)))) none,
    .act (some 44) (.op (.read (.loadN 2 (.tmp 7)))) (some (43, false)),
    .act (some 45) (.op (.pure (.move (.tmp 8)))) (some (43, false)),
    .act (some 46) (.call (.func 10) [(.tmp 44), (.tmp 45)]) (some (43, false)),
    .act (some 47) (.op (.pure (.bin .neq (.tmp 46) (.const (.int .i64 0))))) (some (43, false)),
    .act (some 48) (.op (.pure (.pick (.tmp 43) (.const (.bool true)) (.tmp 47)))) none,
    .act (some 49) (.op (.pure (.move (.tmp 48)))) none,
    .act (some 50) (.op (.read (.loadN 2 (.tmp 7)))) (some (49, false)),
    .act (some 52) (.op (.pure (.fieldAddr 1 (.tmp 7)))) (some (49, false)),
    .act (some 53) (.op (.read (.load1 (.tmp 52)))) (some (49, false)),
    .act (some 54) (.op (.pure (.bin .mul (.const (.int .i64 2)) (.tmp 53)))) (some (49, false)),
    .act (some 55) (.op (.pure (.bin .add (.const (.int .i64 2)) (.tmp 54)))) (some (49, false)),
    .act (some 51) (.call (.func 9) [(.tmp 50)]) (some (49, false)),
    .act (some 56) (.op (.pure (.bin .neq (.tmp 51) (.tmp 55)))) (some (49, false)),
    .act (some 57) (.op (.pure (.pick (.tmp 49) (.const (.bool true)) (.tmp 56)))) none,
    .again 53 (.load1 (.tmp 52)) (some (49, false))])
  (.cond (.tmp 57)
   (.seq (.steps [
     .act (some 6) (.op (.pure (.move (.const (.bool false))))) none])
   .ret)
   .skip))
  (.seq (.seq (.steps [
    .act (some 12) (.op (.pure (.move (.const (.int .i64 0))))) none])
  (.block 0 (.loop [1, 2, 7, 8, 10, 12] (.seq (.seq (.steps [
      .act (some 58) (.op (.pure (.move (.tmp 12)))) none,
      .act (some 59) (.op (.pure (.fieldAddr 1 (.tmp 7)))) none,
      .act (some 60) (.op (.read (.load1 (.tmp 59)))) none,
      .act (some 61) (.op (.pure (.bin .lss (.tmp 58) (.tmp 60)))) none])
    (.cond (.tmp 61)
     .skip
     (.exit 0)))
    (.seq (.block 1 (.steps [
       .act (some 64) (.op (.pure (.fieldAddr 0 (.tmp 10)))) none,
       .act (some 65) (.op (.read (.load1 (.tmp 64)))) none,
       .act (some 66) (.op (.pure (.move (.tmp 12)))) none,
       .act (some 67) (.op (.pure (.bin .mul (.const (.int .i64 2)) (.tmp 66)))) none,
       .act (some 68) (.op (.pure (.bin .add (.const (.int .i64 3)) (.tmp 67)))) none,
       .act (some 69) (.op (.pure (.move (.tmp 12)))) none,
       .act (some 70) (.op (.pure (.conv .u64 (.tmp 69)))) none,
       .act (some 71) (.op (.pure (.idxSl 1 (.tmp 65) (.tmp 68)))) none,
       .act none (.op (.eff (.store 1 (.tmp 71) (.tmp 70)))) none]))
    (.steps [
      .act (some 62) (.op (.pure (.move (.tmp 12)))) none,
      .act (some 63) (.op (.pure (.bin .add (.tmp 62) (.const (.int .i64 1))))) none,
      .act (some 12) (.op (.pure (.move (.tmp 63)))) none]))))))
  (.seq (.steps [
    .act (some 13) (.op (.pure (.move (.const (.slice none 0 0))))) none])
  (.seq (.steps [
    .act (some 14) (.op (.pure (.move (.const (.slice none 0 0))))) none])
  (.seq (.seq (.steps [
    .act (some 15) (.op (.pure (.move (.const (.int .i64 0))))) none])
  (.block 2 (.loop [1, 2, 7, 8, 10, 13, 14, 15] (.seq (.seq (.steps [
      .act (some 72) (.op (.pure (.move (.tmp 15)))) none,
      .act (some 73) (.op (.pure (.move (.tmp 1)))) none,
      .act (some 74) (.op (.pure (.len false (.tmp 73)))) none,
      .act (some 75) (.op (.pure (.bin .lss (.tmp 72) (.tmp 74)))) none,
      .act (some 76) (.op (.pure (.move (.tmp 75)))) none,
      .act (some 77) (.op (.pure (.move (.tmp 15)))) (some (76, true)),
      .act (some 78) (.op (.pure (.bin .lss (.tmp 77) (.const (.int .i64 12))))) (some (76, true)),
      .act (some 79) (.op (.pure (.pick (.tmp 76) (.tmp 78) (.const (.bool false))))) none])
    (.cond (.tmp 79)
     .skip
     (.exit 2)))
    (.seq (.block 3 (.seq (.steps [
       .act (some 82) (.op (.pure (.move (.tmp 13)))) none,
       .act (some 83) (.op (.read (.loadN 2 (.tmp 7)))) none,
       .act (some 84) (.op (.pure (.move (.tmp 1)))) none,
       .act (some 85) (.op (.pure (.move (.tmp 15)))) none,
       .act (some 86) (.op (.pure (.idxSl 3 (.tmp 84) (.tmp 85)))) none,
       .act (some 87) (.op (.read (.loadN 3 (.tmp 86)))) none,
       .act (some 88) (.call (.func 24) [(.tmp 83), (.tmp 87)]) none,
       .act (some 89) (.op (.new (.mkSlice 1 1 [(.pointer none)] [(0, 1, (.tmp 88))]))) none,
       .act (some 90) (.op (.eff (.append 1 8 (.tmp 82) (.tmp 89)))) none,
       .act (some 13) (.op (.pure (.move (.tmp 90)))) none])
     (.seq (.steps [
       .act (some 91) (.op (.pure (.fieldAddr 1 (.tmp 7)))) none,
       .act (some 92) (.op (.read (.load1 (.tmp 91)))) none,
       .act (some 93) (.op (.pure (.move (.tmp 1)))) none,
       .act (some 94) (.op (.pure (.move (.tmp 15)))) none,
       .act (some 95) (.op (.pure (.idxSl 3 (.tmp 93) (.tmp 94)))) none,
       .act (some 96) (.op (.pure (.fieldAddr 1 (.tmp 95)))) none,
       .act (some 97) (.op (.read (.load1 (.tmp 96)))) none,
       .act (some 98) (.op (.pure (.bin .and (.tmp 97) (.const (.int .i64 1))))) none,
       .act (some 99) (.op (.pure (.bin .eql (.tmp 98) (.const (.int .i64 1))))) none,
       .act (some 100) (.op (.pure (.move (.tmp 1)))) none,
       .act (some 101) (.op (.pure (.move (.tmp 15)))) none,
       .act (some 102) (.op (.pure (.idxSl 3 (.tmp 100) (.tmp 101)))) none,
       .act (some 103) (.op (.pure (.fieldAddr 2 (.tmp 102)))) none,
       .act (some 104) (.op (.read (.load1 (.tmp 103)))) none,
       .act (some 105) (.op (.pure (.build [(.int .i64 0), (.int .i64 0), (.bool false), (w64 0#64), (.int .i64 0), (w64 0#64), (.int .i64 0)] [(0, 1, (.const (.int .i64 1))), (1, 1, (.tmp 92)), (2, 1, (.tmp 99)), (3, 1, (.tmp 104))]))) none,
       .act (some 16) (.op (.new (.alloc [(.int .i64 0), (.int .i64 0), (.bool false), (w64 0#64), (.int .i64 0), (w64 0#64), (.int .i64 0)]))) none,
       .act none (.op (.eff (.store 7 (.tmp 16) (.tmp 105)))) none])
     (.seq (.seq (.steps [
       .act (some 106) (.op (.pure (.fieldAddr 2 (.tmp 16)))) none,
       .act (some 107) (.op (.read (.load1 (.tmp 106)))) none])
     (.cond (.tmp 107)
      (.steps [
        .act (some 108) (.op (.pure (.fieldAddr 3 (.tmp 16)))) none,
        .act none (.op (.eff (.store 1 (.tmp 108) (.const (w64 0#64))))) none])
      .skip))
     (.steps [
       .act (some 109) (.op (.pure (.move (.tmp 14)))) none,
       .act (some 110) (.op (.read (.loadN 7 (.tmp 16)))) none,
       .act (some 111) (.op (.new (.mkSlice 7 1 [(.int .i64 0), (.int .i64 0), (.bool false), (w64 0#64), (.int .i64 0), (w64 0#64), (.int .i64 0)] [(0, 7, (.tmp 110))]))) none,
       .act (some 112) (.op (.eff (.append 7 56 (.tmp 109) (.tmp 111)))) none,
       .act (some 14) (.op (.pure (.move (.tmp 112)))) none])))))
    (.steps [
      .act (some 80) (.op (.pure (.move (.tmp 15)))) none,
      .act (some 81) (.op (.pure (.bin .add (.tmp 80) (.const (.int .i64 1))))) none,
      .act (some 15) (.op (.pure (.move (.tmp 81)))) none]))))))
  (.seq (.seq (.steps [
    .act (some 17) (.op (.pure (.move (.const (.int .i64 0))))) none])
  (.block 4 (.loop [2, 8, 10, 13, 14, 17] (.seq (.seq (.steps [
      .act (some 113) (.op (.pure (.move (.tmp 17)))) none,
      .act (some 114) (.op (.pure (.move (.tmp 2)))) none,
      .act (some 115) (.op (.pure (.len false (.tmp 114)))) none,
      .act (some 116) (.op (.pure (.bin .lss (.tmp 113) (.tmp 115)))) none,
      .act (some 117) (.op (.pure (.move (.tmp 116)))) none,
      .act (some 118) (.op (.pure (.move (.tmp 17)))) (some (117, true)),
      .act (some 119) (.op (.pure (.bin .lss (.tmp 118) (.const (.int .i64 200))))) (some (117, true)),
      .act (some 120) (.op (.pure (.pick (.tmp 117) (.tmp 119) (.const (.bool false))))) none,
      .act (some 121) (.op (.pure (.move (.tmp 120)))) none,
      .act (some 122) (.op (.pure (.move (.tmp 13)))) (some (121, true)),
      .act (some 123) (.op (.pure (.len false (.tmp 122)))) (some (121, true)),
      .act (some 124) (.op (.pure (.bin .gtr (.tmp 123) (.const (.int .i64 0))))) (some (121, true)),
      .act (some 125) (.op (.pure (.pick (.tmp 121) (.tmp 124) (.const (.bool false))))) none])
    (.cond (.tmp 125)
     .skip
     (.exit 4)))
    (.seq (.block 5 (.seq (.steps [
       .act (some 128) (.op (.pure (.move (.tmp 2)))) none,
       .act (some 129) (.op (.pure (.move (.tmp 17)))) none,
       .act (some 130) (.op (.pure (.idxSl 1 (.tmp 128) (.tmp 129)))) none,
       .act (some 131) (.op (.read (.load1 (.tmp 130)))) none,
       .act (some 132) (.op (.pure (.move (.tmp 13)))) none,
       .act (some 133) (.op (.pure (.len false (.tmp 132)))) none,
       .act (some 134) (.op (.pure (.bin .rem (.tmp 131) (.tmp 133)))) none,
       .act (some 135) (.op (.pure (.move (.tmp 13)))) none,
       .act (some 136) (.op (.pure (.len false (.tmp 135)))) none,
       .act (some 137) (.op (.pure (.bin .add (.tmp 134) (.tmp 136)))) none,
       .act (some 138) (.op (.pure (.move (.tmp 13)))) none,
       .act (some 139) (.op (.pure (.len false (.tmp 138)))) none,
       .act (some 140) (.op (.pure (.bin .rem (.tmp 137) (.tmp 139)))) none,
       .act (some 18) (.op (.pure (.move (.tmp 140)))) none])
     (.seq (.steps [
       .act (some 142) (.op (.pure (.move (.tmp 14)))) none,
       .act (some 143) (.op (.pure (.move (.tmp 18)))) none,
       .act (some 144) (.op (.pure (.idxSl 7 (.tmp 142) (.tmp 143)))) none,
       .act (some 145) (.op (.read (.loadN 7 (.tmp 144)))) none,
       .act (some 146) (.op (.read (.loadN 10 (.tmp 10)))) none,
       .act (some 19) (.op (.new (.alloc [(.int .i64 0), (.int .i64 0), (.bool false), (w64 0#64), (.int .i64 0), (w64 0#64), (.int .i64 0)]))) none,
       .act (some 20) (.op (.new (.alloc [(.slice none 0 0), (.slice none 0 0), (.int .i64 0), (.int .i64 0), (.int .i64 0), (.int .i64 0), (.int .i64 0), (.int .i64 0), (.int .i64 0), (.bool false)]))) none,
       .act (some 147) (.call (.func 25) [(.tmp 145), (.tmp 146)]) none,
       .act (some 141) (.op (.pure (.move (.tmp 147)))) none,
       .act (some 148) (.op (.pure (.extract (.tmp 141) 0))) none,
       .act (some 149) (.op (.pure (.extract (.tmp 141) 1))) none,
       .act none (.op (.eff (.store 7 (.tmp 19) (.tmp 148)))) none,
       .act none (.op (.eff (.store 10 (.tmp 20) (.tmp 149)))) none])
     (.seq (.seq (.steps [
       .act (some 150) (.op (.pure (.move (.tmp 13)))) none,
       .act (some 151) (.op (.pure (.move (.tmp 18)))) none,
       .act (some 152) (.op (.pure (.idxSl 1 (.tmp 150) (.tmp 151)))) none,
       .act (some 153) (.op (.read (.load1 (.tmp 152)))) none,
       .act (some 154) (.op (.pure (.move (.tmp 8)))) none,
       .act (some 156) (.op (.pure (.fieldAddr 4 (.tmp 19)))) none,
       .act (some 157) (.op (.read (.load1 (.tmp 156)))) none,
       .act (some 158) (.op (.pure (.bin .geq (.tmp 157) (.const (.int .i64 5))))) none,
       .act (some 155) (.call (.func 13) [(.tmp 153), (.tmp 154)]) none,
       .act (some 159) (.op (.pure (.eqB true (.tmp 155) (.tmp 158)))) none,
       .act (some 160) (.op (.pure (.move (.tmp 159)))) none,
       .act (some 161) (.op (.pure (.move (.tmp 13)))) (some (160, false)),
       .act (some 162) (.op (.pure (.move (.tmp 18)))) (some (160, false)),
       .act (some 163) (.op (.pure (.idxSl 1 (.tmp 161) (.tmp 162)))) (some (160, false)),
       .act (some 164) (.op (.read (.load1 (.tmp 163)))) (some (160, false)),
       .act (some 166) (.op (.pure (.fieldAddr 4 (.tmp 19)))) (some (160, false)),
       .act (some 167) (.op (.read (.load1 (.tmp 166)))) (some (160, false)),
       .again 157 (.load1 (.tmp 156)) none,
       .act (some 165) (.call (.func 19) [(.tmp 164)]) (some (160, false)),
       .act (some 168) (.op (.pure (.bin .neq (.tmp 165) (.tmp 167)))) (some (160, false)),
       .act (some 169) (.op (.pure (.pick (.tmp 160) (.const (.bool true)) (.tmp 168)))) none,
       .again 167 (.load1 (.tmp 166)) (some (160, false))])
     (.cond (.tmp 169)
      (.seq (.steps [
        .act (some 6) (.op (.pure (.move (.const (.bool false))))) none])
      .ret)
      .skip))
     (.steps [
       .act (some 170) (.op (.pure (.move (.tmp 14)))) none,
       .act (some 171) (.op (.pure (.move (.tmp 18)))) none,
       .act (some 172) (.op (.read (.loadN 7 (.tmp 19)))) none,
       .act (some 173) (.op (.read (.loadN 10 (.tmp 20)))) none,
       .act (some 174) (.op (.pure (.idxSl 7 (.tmp 170) (.tmp 171)))) none,
       .act none (.op (.eff (.store 7 (.tmp 174) (.tmp 172)))) none,
       .again 173 (.loadN 10 (.tmp 20)) none,
       .act none (.op (.eff (.store 10 (.tmp 10) (.tmp 173)))) none])))))
    (.steps [
      .act (some 126) (.op (.pure (.move (.tmp 17)))) none,
      .act (some 127) (.op (.pure (.bin .add (.tmp 126) (.const (.int .i64 1))))) none,
      .act (some 17) (.op (.pure (.move (.tmp 127)))) none]))))))
  (.seq (.steps [
    .act (some 175) (.op (.pure (.move (.tmp 8)))) none,
    .act (some 176) (.call (.func 26) [(.tmp 175), (.const (.int .i64 0)), (.const (.int .i64 40))]) none,
    .act (some 21) (.op (.pure (.move (.tmp 176)))) none])
  (.seq (.seq (.steps [
    .act (some 22) (.op (.pure (.move (.const (.int .i64 0))))) none])
  (.block 6 (.loop [10, 13, 14, 21, 22] (.seq (.seq (.steps [
      .act (some 177) (.op (.pure (.move (.tmp 22)))) none,
      .act (some 178) (.op (.pure (.move (.tmp 21)))) none,
      .act (some 179) (.op (.pure (.len false (.tmp 178)))) none,
      .act (some 180) (.op (.pure (.bin .lss (.tmp 177) (.tmp 179)))) none])
    (.cond (.tmp 180)
     .skip
     (.exit 6)))
    (.seq (.block 7 (.seq (.steps [
       .act (some 183) (.op (.pure (.move (.tmp 21)))) none,
       .act (some 184) (.op (.pure (.move (.tmp 22)))) none,
       .act (some 185) (.op (.pure (.idxSl 1 (.tmp 183) (.tmp 184)))) none,
       .act (some 186) (.op (.read (.load1 (.tmp 185)))) none,
       .act (some 187) (.op (.pure (.fieldAddr 0 (.tmp 10)))) none,
       .act (some 188) (.op (.read (.load1 (.tmp 187)))) none,
       .act (some 189) (.op (.pure (.move (.tmp 22)))) none,
       .act (some 190) (.op (.pure (.idxSl 1 (.tmp 188) (.tmp 189)))) none,
       .act (some 191) (.op (.read (.load1 (.tmp 190)))) none,
       .act (some 192) (.op (.pure (.bin .neq (.tmp 186) (.tmp 191)))) none])
     (.cond (.tmp 192)
      (.seq (.steps [
        .act (some 6) (.op (.pure (.move (.const (.bool false))))) none])
      .ret)
      .skip)))
    (.steps [
      .act (some 181) (.op (.pure (.move (.tmp 22)))) none,
      .act (some 182) (.op (.pure (.bin .add (.tmp 181) (.const (.int .i64 1))))) none,
      .act (some 22) (.op (.pure (.move (.tmp 182)))) none]))))))
  (.seq (.seq (.steps [
    .act (some 23) (.op (.pure (.move (.const (.int .i64 0))))) none])
  (.block 8 (.loop [13, 14, 21, 23] (.seq (.seq (.steps [
      .act (some 193) (.op (.pure (.move (.tmp 23)))) none,
      .act (some 194) (.op (.pure (.move (.tmp 13)))) none,
      .act (some 195) (.op (.pure (.len false (.tmp 194)))) none,
      .act (some 196) (.op (.pure (.bin .lss (.tmp 193) (.tmp 195)))) none])
    (.cond (.tmp 196)
     .skip
     (.exit 8)))
    (.seq (.block 9 (.seq (.steps [
       .act (some 200) (.op (.pure (.move (.tmp 13)))) none,
       .act (some 201) (.op (.pure (.move (.tmp 23)))) none,
       .act (some 202) (.op (.pure (.idxSl 1 (.tmp 200) (.tmp 201)))) none,
       .act (some 203) (.op (.read (.load1 (.tmp 202)))) none,
       .act (some 204) (.call (.func 15) [(.tmp 203)]) none,
       .act (some 199) (.op (.pure (.move (.tmp 204)))) none,
       .act (some 205) (.op (.pure (.extract (.tmp 199) 0))) none,
       .act (some 206) (.op (.pure (.extract (.tmp 199) 1))) none,
       .act (some 24) (.op (.pure (.move (.tmp 205)))) none,
       .act (some 25) (.op (.pure (.move (.tmp 206)))) none])
     (.seq (.steps [
       .act (some 207) (.op (.pure (.move (.tmp 14)))) none,
       .act (some 208) (.op (.pure (.move (.tmp 23)))) none,
       .act (some 209) (.op (.pure (.idxSl 7 (.tmp 207) (.tmp 208)))) none,
       .act (some 210) (.op (.pure (.fieldAddr 4 (.tmp 209)))) none,
       .act (some 211) (.op (.read (.load1 (.tmp 210)))) none,
       .act (some 212) (.op (.pure (.bin .geq (.tmp 211) (.const (.int .i64 5))))) none,
       .act (some 213) (.op (.pure (.move (.tmp 212)))) none,
       .act (some 214) (.op (.pure (.move (.tmp 24)))) (some (213, true)),
       .act (some 215) (.op (.pure (.move (.tmp 14)))) (some (213, true)),
       .act (some 216) (.op (.pure (.move (.tmp 23)))) (some (213, true)),
       .act (some 217) (.op (.pure (.idxSl 7 (.tmp 215) (.tmp 216)))) (some (213, true)),
       .act (some 218) (.op (.pure (.fieldAddr 6 (.tmp 217)))) (some (213, true)),
       .act (some 219) (.op (.read (.load1 (.tmp 218)))) (some (213, true)),
       .act (some 220) (.op (.pure (.bin .neq (.tmp 214) (.tmp 219)))) (some (213, true)),
       .act (some 221) (.op (.pure (.move (.tmp 220)))) (some (213, true)),
       .act (some 222) (.op (.pure (.move (.tmp 25)))) (some (221, false)),
       .act (some 223) (.op (.pure (.move (.tmp 14)))) (some (221, false)),
       .act (some 224) (.op (.pure (.move (.tmp 23)))) (some (221, false)),
       .act (some 225) (.op (.pure (.idxSl 7 (.tmp 223) (.tmp 224)))) (some (221, false)),
       .act (some 226) (.op (.pure (.fieldAddr 3 (.tmp 225)))) (some (221, false)),
       .act (some 227) (.op (.read (.load1 (.tmp 226)))) (some (221, false)),
       .act (some 228) (.op (.pure (.bin .neq (.tmp 222) (.tmp 227)))) (some (221, false)),
       .act (some 229) (.op (.pure (.pick (.tmp 221) (.const (.bool true)) (.tmp 228)))) (some (213, true)),
       .act (some 230) (.op (.pure (.pick (.tmp 213) (.tmp 229) (.const (.bool false))))) none,
       .act (some 231) (.op (.pure (.move (.tmp 230)))) none,
       .act (some 232) (.op (.pure (.move (.tmp 14)))) (some (231, false)),
       .act (some 233) (.op (.pure (.move (.tmp 23)))) (some (231, false)),
       .act (some 234) (.op (.pure (.idxSl 7 (.tmp 232) (.tmp 233)))) (some (231, false)),
       .act (some 235) (.op (.pure (.fieldAddr 4 (.tmp 234)))) (some (231, false)),
       .act (some 236) (.op (.read (.load1 (.tmp 235)))) (some (231, false)),
       .act (some 237) (.op (.pure (.bin .lss (.tmp 236) (.const (.int .i64 5))))) (some (231, false)),
       .act (some 238) (.op (.pure (.move (.tmp 237)))) (some (231, false)),
       .act (some 239) (.op (.pure (.move (.tmp 24)))) (some (238, true)),
       .act (some 240) (.op (.pure (.bin .neq (.tmp 239) (.const (.int .i64 0))))) (some (238, true)),
       .act (some 241) (.op (.pure (.move (.tmp 240)))) (some (238, true)),
       .act (some 242) (.op (.pure (.move (.tmp 25)))) (some (241, false)),
       .act (some 243) (.op (.pure (.bin .neq (.tmp 242) (.const (w64 0#64))))) (some (241, false)),
       .act (some 244) (.op (.pure (.pick (.tmp 241) (.const (.bool true)) (.tmp 243)))) (some (238, true)),
       .act (some 245) (.op (.pure (.pick (.tmp 238) (.tmp 244) (.const (.bool false))))) (some (231, false)),
       .act (some 246) (.op (.pure (.pick (.tmp 231) (.const (.bool true)) (.tmp 245)))) none])
     (.cond (.tmp 246)
      (.seq (.steps [
        .act (some 6) (.op (.pure (.move (.const (.bool false))))) none])
      .ret)
      .skip))))
    (.steps [
      .act (some 197) (.op (.pure (.move (.tmp 23)))) none,
      .act (some 198) (.op (.pure (.bin .add (.tmp 197) (.const (.int .i64 1))))) none,
      .act (some 23) (.op (.pure (.move (.tmp 198)))) none]))))))
  (.seq (.steps [
    .act (some 247) (.op (.pure (.move (.tmp 21)))) none,
    .act (some 248) (.op (.pure (.len false (.tmp 247)))) none,
    .act (some 249) (.op (.pure (.bin .eql (.tmp 248) (.const (.int .i64 40))))) none,
    .act (some 250) (.op (.pure (.move (.tmp 249)))) none,
    .act (some 251) (.call (.func 18) []) (some (250, true)),
    .act (some 252) (.op (.pure (.pick (.tmp 250) (.tmp 251) (.const (.bool false))))) none,
    .act (some 6) (.op (.pure (.move (.tmp 252)))) none])
  .ret)))))))))))))) }
theorem c5 : compFn Try.prog (mkPlan Try.prog) [(7, [1, 2, 7, 8, 10, 12]), (13, [1, 2, 7, 8, 10, 13, 14, 15]), (21, [2, 8, 10, 13, 14, 17]), (30, [10, 13, 14, 21, 22]), (35, [13, 14, 21, 23])] true 5 = some L5 := by kernel_rfl
/-- sluiceway/sluicewaylaw07.VyAlone -/
def L6 : LFun := { n := 114, pop := true, res := [.tmp 4], code :=
  (.seq (.steps [
    .act (some 4) (.op (.pure (.move (.const (.bool false))))) none])
  (.seq (.steps [
    .act (some 18) (.op (.pure (.move (.tmp 0)))) none,
    .act (some 19) (.call (.func 22) [(.tmp 18)]) none,
    .act (some 20) (.op (.pure (.build [(.int .i64 0), (.int .i64 0)] [(0, 1, (.const (.int .i64 0))), (1, 1, (.tmp 19))]))) none,
    .act (some 5) (.op (.new (.alloc [(.int .i64 0), (.int .i64 0)]))) none,
    .act none (.op (.eff (.store 2 (.tmp 5) (.tmp 20)))) none])
  (.seq (.steps [
    .act (some 22) (.op (.pure (.fieldAddr 1 (.tmp 5)))) none,
    .act (some 23) (.op (.read (.load1 (.tmp 22)))) none,
    .act (some 24) (.op (.pure (.bin .mul (.const (.int .i64 2)) (.tmp 23)))) none,
    .act (some 25) (.op (.pure (.bin .add (.const (.int .i64 2)) (.tmp 24)))) none,
    .act (some 26) (.call (.func 8) [(.tmp 25)]) none,
    .act (some 21) (.op (.pure (.move (.tmp 26)))) none,
    .act (some 27) (.op (.pure (.extract (.tmp 21) 0))) none,
    .act (some 28) (.op (.pure (.extract (.tmp 21) 1))) none,
    .act (some 6) (.op (.pure (.move (.tmp 27)))) none,
    .act (some 7) (.op (.pure (.move (.tmp 28)))) none])
  (.seq (.seq (.steps [
    .act (some 29) (.op (.pure (.move (.tmp 7)))) none,
    .act (some 30) (.op (.pure (.bin .neq (.tmp 29) (.const (.int .i64 0))))) none,
    .act (some 31) (.op (.pure (.move (.tmp 30)))) none,
    .act (some 32) (.op (.read (.loadN 2 (.tmp 5)))) (some (31, false)),
    .act (some 33) (.op (.pure (.move (.tmp 6)))) (some (31, false)),
    .act (some 34) (.call (.func 10) [(.tmp 32), (.tmp 33)]) (some (31, false)),
    .act (some 35) (.op (.pure (.bin .neq (.tmp 34) (.const (.int .i64 0))))) (some (31, false)),
    .act (some 36) (.op (.pure (.pick (.tmp 31) (.const (.bool true)) (.tmp 35)))) none])
  (.cond (.tmp 36)
   (.seq (.steps [
     .act (some 4) (.op (.pure (.move (.const (.bool false))))) none])
   .ret)
   .skip))
  (.seq (.steps [
    .act (some 37) (.op (.pure (.fieldAddr 1 (.tmp 5)))) none,
    .act (some 38) (.op (.read (.load1 (.tmp 37)))) none,
    .act (some 39) (.op (.pure (.build [(.int .i64 0), (.slice none 0 0)] [(0, 1, (.tmp 38))]))) none,
    .act (some 8) (.op (.new (.alloc [(.int .i64 0), (.slice none 0 0)]))) none,
    .act none (.op (.eff (.store 2 (.tmp 8) (.tmp 39)))) none])
  (.seq (.seq (.steps [
    .act (some 9) (.op (.pure (.move (.const (.int .i64 0))))) none])
  (.block 0 (.loop [1, 5, 6, 8, 9] (.seq (.seq (.steps [
      .act (some 40) (.op (.pure (.move (.tmp 9)))) none,
      .act (some 41) (.op (.pure (.move (.tmp 1)))) none,
      .act (some 42) (.op (.pure (.len false (.tmp 41)))) none,
      .act (some 43) (.op (.pure (.bin .lss (.tmp 40) (.tmp 42)))) none,
      .act (some 44) (.op (.pure (.move (.tmp 43)))) none,
      .act (some 45) (.op (.pure (.move (.tmp 9)))) (some (44, true)),
      .act (some 46) (.op (.pure (.bin .lss (.tmp 45) (.const (.int .i64 60))))) (some (44, true)),
      .act (some 47) (.op (.pure (.pick (.tmp 44) (.tmp 46) (.const (.bool false))))) none])
    (.cond (.tmp 47)
     .skip
     (.exit 0)))
    (.seq (.block 1 (.seq (.steps [
       .act (some 50) (.op (.read (.loadN 2 (.tmp 5)))) none,
       .act (some 51) (.op (.pure (.move (.tmp 1)))) none,
       .act (some 52) (.op (.pure (.move (.tmp 9)))) none,
       .act (some 53) (.op (.pure (.idxSl 3 (.tmp 51) (.tmp 52)))) none,
       .act (some 54) (.op (.read (.loadN 3 (.tmp 53)))) none,
       .act (some 55) (.call (.func 24) [(.tmp 50), (.tmp 54)]) none,
       .act (some 10) (.op (.pure (.move (.tmp 55)))) none])
     (.seq (.steps [
       .act (some 56) (.op (.pure (.move (.tmp 6)))) none,
       .act (some 57) (.call (.func 20) [(.tmp 56)]) none,
       .act (some 11) (.op (.pure (.move (.tmp 57)))) none])
     (.seq (.seq (.steps [
       .act (some 12) (.op (.pure (.move (.const (.int .i64 0))))) none])
     (.block 2 (.loop [1, 5, 6, 8, 9, 10, 11, 12] (.seq (.seq (.steps [
         .act (some 58) (.op (.pure (.move (.tmp 12)))) none,
         .act (some 59) (.op (.pure (.bin .lss (.tmp 58) (.const (.int .i64 5))))) none])
       (.cond (.tmp 59)
        .skip
        (.exit 2)))
       (.seq (.block 3 (.steps [
          .act (some 62) (.op (.pure (.move (.tmp 10)))) none,
          .act (some 63) (.op (.pure (.move (.tmp 6)))) none,
          .act (some 64) (.call (.func 13) [(.tmp 62), (.tmp 63)]) none]))
       (.steps [
         .act (some 60) (.op (.pure (.move (.tmp 12)))) none,
         .act (some 61) (.op (.pure (.bin .add (.tmp 60) (.const (.int .i64 1))))) none,
         .act (some 12) (.op (.pure (.move (.tmp 61)))) none]))))))
     (.seq (.steps [
       .act (some 66) (.op (.pure (.move (.tmp 10)))) none,
       .act (some 67) (.call (.func 15) [(.tmp 66)]) none,
       .act (some 65) (.op (.pure (.move (.tmp 67)))) none,
       .act (some 68) (.op (.pure (.extract (.tmp 65) 0))) none,
       .act (some 69) (.op (.pure (.extract (.tmp 65) 1))) none,
       .act (some 13) (.op (.pure (.move (.tmp 68)))) none,
       .act (some 14) (.op (.pure (.move (.tmp 69)))) none])
     (.seq (.steps [
       .act (some 71) (.op (.read (.loadN 2 (.tmp 8)))) none,
       .act (some 72) (.op (.pure (.move (.tmp 1)))) none,
       .act (some 73) (.op (.pure (.move (.tmp 9)))) none,
       .act (some 74) (.op (.pure (.idxSl 3 (.tmp 72) (.tmp 73)))) none,
       .act (some 75) (.op (.pure (.fieldAddr 1 (.tmp 74)))) none,
       .act (some 76) (.op (.read (.load1 (.tmp 75)))) none,
       .act (some 77) (.op (.pure (.bin .and (.tmp 76) (.const (.int .i64 1))))) none,
       .act (some 78) (.op (.pure (.move (.tmp 1)))) none,
       .act (some 79) (.op (.pure (.move (.tmp 9)))) none,
       .act (some 80) (.op (.pure (.idxSl 3 (.tmp 78) (.tmp 79)))) none,
       .act (some 81) (.op (.pure (.fieldAddr 2 (.tmp 80)))) none,
       .act (some 82) (.op (.read (.load1 (.tmp 81)))) none,
       .act (some 15) (.op (.new (.alloc [(.int .i64 0), (.slice none 0 0)]))) none,
       .act (some 83) (.call (.func 27) [(.tmp 71), (.tmp 77), (.tmp 82)]) none,
       .act (some 70) (.op (.pure (.move (.tmp 83)))) none,
       .act (some 84) (.op (.pure (.extract (.tmp 70) 0))) none,
       .act (some 85) (.op (.pure (.extract (.tmp 70) 1))) none,
       .act (some 86) (.op (.pure (.extract (.tmp 70) 2))) none,
       .act none (.op (.eff (.store 2 (.tmp 15) (.tmp 84)))) none,
       .act (some 16) (.op (.pure (.move (.tmp 85)))) none,
       .act (some 17) (.op (.pure (.move (.tmp 86)))) none])
     (.seq (.seq (.steps [
       .act (some 87) (.op (.pure (.move (.tmp 10)))) none,
       .act (some 88) (.call (.func 14) [(.tmp 87)]) none,
       .act (some 89) (.op (.pure (.not (.tmp 88)))) none,
       .act (some 90) (.op (.pure (.move (.tmp 89)))) none,
       .act (some 91) (.op (.pure (.move (.tmp 13)))) (some (90, false)),
       .act (some 92) (.op (.pure (.move (.tmp 16)))) (some (90, false)),
       .act (some 93) (.op (.pure (.bin .neq (.tmp 91) (.tmp 92)))) (some (90, false)),
       .act (some 94) (.op (.pure (.pick (.tmp 90) (.const (.bool true)) (.tmp 93)))) none,
       .act (some 95) (.op (.pure (.move (.tmp 94)))) none,
       .act (some 96) (.op (.pure (.move (.tmp 14)))) (some (95, false)),
       .act (some 97) (.op (.pure (.move (.tmp 17)))) (some (95, false)),
       .act (some 98) (.op (.pure (.bin .neq (.tmp 96) (.tmp 97)))) (some (95, false)),
       .act (some 99) (.op (.pure (.pick (.tmp 95) (.const (.bool true)) (.tmp 98)))) none,
       .act (some 100) (.op (.pure (.move (.tmp 99)))) none,
       .act (some 101) (.op (.pure (.move (.tmp 6)))) (some (100, false)),
       .act (some 102) (.call (.func 20) [(.tmp 101)]) (some (100, false)),
       .act (some 103) (.op (.pure (.move (.tmp 11)))) (some (100, false)),
       .act (some 104) (.op (.pure (.bin .add (.tmp 103) (.const (.int .i64 5))))) (some (100, false)),
       .act (some 105) (.op (.pure (.bin .gtr (.tmp 102) (.tmp 104)))) (some (100, false)),
       .act (some 106) (.op (.pure (.pick (.tmp 100) (.const (.bool true)) (.tmp 105)))) none])
     (.cond (.tmp 106)
      (.seq (.steps [
        .act (some 4) (.op (.pure (.move (.const (.bool false))))) none])
      .ret)
      .skip))
     (.steps [
       .act (some 107) (.op (.read (.loadN 2 (.tmp 15)))) none,
       .act none (.op (.eff (.store 2 (.tmp 8) (.tmp 107)))) none]))))))))
    (.steps [
      .act (some 48) (.op (.pure (.move (.tmp 9)))) none,
      .act (some 49) (.op (.pure (.bin .add (.tmp 48) (.const (.int .i64 1))))) none,
      .act (some 9) (.op (.pure (.move (.tmp 49)))) none]))))))
  (.seq (.steps [
    .act (some 108) (.op (.pure (.move (.tmp 6)))) none,
    .act (some 109) (.call (.func 17) [(.tmp 108)]) none,
    .act (some 110) (.op (.pure (.bin .eql (.tmp 109) (.const (.int .i64 (-1)))))) none,
    .act (some 111) (.op (.pure (.move (.tmp 110)))) none,
    .act (some 112) (.call (.func 18) []) (some (111, true)),
    .act (some 113) (.op (.pure (.pick (.tmp 111) (.tmp 112) (.const (.bool false))))) none,
    .act (some 4) (.op (.pure (.move (.tmp 113)))) none])
  .ret))))))) }
theorem c6 : compFn Try.prog (mkPlan Try.prog) [(7, [1, 5, 6, 8, 9]), (12, [1, 5, 6, 8, 9, 10, 11, 12])] true 6 = some L6 := by kernel_rfl
/-- sluiceway/sluicewaylaw07.VyOrders -/
def L7 : LFun := { n := 134, pop := true, res := [.tmp 6], code :=
  (.seq (.steps [
    .act (some 6) (.op (.pure (.move (.const (.bool false))))) none])
  (.seq (.steps [
    .act (some 20) (.op (.pure (.move (.tmp 0)))) none,
    .act (some 21) (.call (.func 22) [(.tmp 20)]) none,
    .act (some 22) (.op (.pure (.build [(.int .i64 0), (.int .i64 0)] [(0, 1, (.const (.int .i64 0))), (1, 1, (.tmp 21))]))) none,
    .act (some 7) (.op (.new (.alloc [(.int .i64 0), (.int .i64 0)]))) none,
    .act none (.op (.eff (.store 2 (.tmp 7) (.tmp 22)))) none])
  (.seq (.steps [
    .act (some 24) (.op (.pure (.fieldAddr 1 (.tmp 7)))) none,
    .act (some 25) (.op (.read (.load1 (.tmp 24)))) none,
    .act (some 26) (.op (.pure (.bin .mul (.const (.int .i64 2)) (.tmp 25)))) none,
    .act (some 27) (.op (.pure (.bin .add (.const (.int .i64 2)) (.tmp 26)))) none,
    .act (some 28) (.call (.func 8) [(.tmp 27)]) none,
    .act (some 23) (.op (.pure (.move (.tmp 28)))) none,
    .act (some 29) (.op (.pure (.extract (.tmp 23) 0))) none,
    .act (some 30) (.op (.pure (.extract (.tmp 23) 1))) none,
    .act (some 8) (.op (.pure (.move (.tmp 29)))) none,
    .act (some 9) (.op (.pure (.move (.tmp 30)))) none])
  (.seq (.seq (.steps [
    .act (some 31) (.op (.pure (.move (.tmp 9)))) none,
    .act (some 32) (.op (.pure (.bin .neq (.tmp 31) (.const (.int .i64 0))))) none,
    .act (some 33) (.op (.pure (.move (.tmp 32)))) none,
    .act (some 34) (.op (.read (.loadN 2 (.tmp 7)))) (some (33, false)),
    .act (some 35) (.op (.pure (.move (.tmp 8)))) (some (33, false)),
    .act (some 36) (.call (.func 10) [(.tmp 34), (.tmp 35)]) (some (33, false)),
    .act (some 37) (.op (.pure (.bin .neq (.tmp 36) (.const (.int .i64 0))))) (some (33, false)),
    .act (some 38) (.op (.pure (.pick (.tmp 33) (.const (.bool true)) (.tmp 37)))) none])
  (.cond (.tmp 38)
   (.seq (.steps [
     .act (some 6) (.op (.pure (.move (.const (.bool false))))) none])
   .ret)
   .skip))
  (.seq (.steps [
    .act (some 39) (.call (.func 28) []) none,
    .act (some 10) (.op (.pure (.move (.tmp 39)))) none])
  (.seq (.steps [
    .act (some 11) (.op (.new (.alloc [(.pointer none), (.pointer none), (.pointer none), (.pointer none)]))) none])
  (.seq (.steps [
    .act (some 12) (.op (.new (.alloc [(.int .i64 0), (.int .i64 0), (.int .i64 0), (.int .i64 0)]))) none])
  (.seq (.steps [
    .act (some 13) (.op (.pure (.move (.const (.int .i64 0))))) none])
  (.seq (.seq (.steps [
    .act (some 14) (.op (.pure (.move (.const (.int .i64 0))))) none])
  (.block 0 (.loop [1, 2, 7, 8, 10, 11, 12, 13, 14] (.seq (.seq (.steps [
      .act (some 40) (.op (.pure (.move (.tmp 14)))) none,
      .act (some 41) (.op (.pure (.move (.tmp 2)))) none,
      .act (some 42) (.op (.pure (.len false (.tmp 41)))) none,
      .act (some 43) (.op (.pure (.bin .lss (.tmp 40) (.tmp 42)))) none,
      .act (some 44) (.op (.pure (.move (.tmp 43)))) none,
      .act (some 45) (.op (.pure (.move (.tmp 14)))) (some (44, true)),
      .act (some 46) (.op (.pure (.bin .lss (.tmp 45) (.const (.int .i64 160))))) (some (44, true)),
      .act (some 47) (.op (.pure (.pick (.tmp 44) (.tmp 46) (.const (.bool false))))) none])
    (.cond (.tmp 47)
     .skip
     (.exit 0)))
    (.seq (.block 1 (.seq (.steps [
       .act (some 50) (.op (.pure (.move (.tmp 2)))) none,
       .act (some 51) (.op (.pure (.move (.tmp 14)))) none,
       .act (some 52) (.op (.pure (.idxSl 1 (.tmp 50) (.tmp 51)))) none,
       .act (some 53) (.op (.read (.load1 (.tmp 52)))) none,
       .act (some 54) (.call (.func 12) [(.tmp 53)]) none,
       .act (some 15) (.op (.pure (.move (.tmp 54)))) none])
     (.seq (.seq (.steps [
       .act (some 55) (.op (.pure (.move (.tmp 15)))) none,
       .act (some 56) (.op (.pure (.idxArr 4 1 (.tmp 11) (.tmp 55)))) none,
       .act (some 57) (.op (.read (.load1 (.tmp 56)))) none,
       .act (some 58) (.op (.pure (.eqNil .p false (.tmp 57) (.const (.pointer none))))) none])
     (.cond (.tmp 58)
      (.seq (.seq (.steps [
        .act (some 59) (.op (.pure (.move (.tmp 13)))) none,
        .act (some 60) (.op (.pure (.move (.tmp 1)))) none,
        .act (some 61) (.op (.pure (.len false (.tmp 60)))) none,
        .act (some 62) (.op (.pure (.bin .geq (.tmp 59) (.tmp 61)))) none,
        .act (some 63) (.op (.pure (.move (.tmp 62)))) none,
        .act (some 64) (.op (.pure (.move (.tmp 13)))) (some (63, false)),
        .act (some 65) (.op (.pure (.bin .geq (.tmp 64) (.const (.int .i64 8))))) (some (63, false)),
        .act (some 66) (.op (.pure (.pick (.tmp 63) (.const (.bool true)) (.tmp 65)))) none])
      (.cond (.tmp 66)
       (.exit 1)
       .skip))
      (.seq (.steps [
        .act (some 67) (.op (.pure (.move (.tmp 15)))) none,
        .act (some 68) (.op (.read (.loadN 2 (.tmp 7)))) none,
        .act (some 69) (.op (.pure (.move (.tmp 1)))) none,
        .act (some 70) (.op (.pure (.move (.tmp 13)))) none,
        .act (some 71) (.op (.pure (.idxSl 3 (.tmp 69) (.tmp 70)))) none,
        .act (some 72) (.op (.read (.loadN 3 (.tmp 71)))) none,
        .act (some 73) (.call (.func 24) [(.tmp 68), (.tmp 72)]) none,
        .act (some 74) (.op (.pure (.idxArr 4 1 (.tmp 11) (.tmp 67)))) none,
        .act none (.op (.eff (.store 1 (.tmp 74) (.tmp 73)))) none])
      (.seq (.steps [
        .act (some 76) (.op (.pure (.move (.tmp 15)))) none,
        .act (some 77) (.op (.pure (.move (.tmp 10)))) none,
        .act (some 78) (.op (.pure (.move (.tmp 15)))) none,
        .act (some 79) (.op (.pure (.move (.tmp 1)))) none,
        .act (some 80) (.op (.pure (.move (.tmp 13)))) none,
        .act (some 81) (.op (.pure (.idxSl 3 (.tmp 79) (.tmp 80)))) none,
        .act (some 82) (.op (.pure (.fieldAddr 1 (.tmp 81)))) none,
        .act (some 83) (.op (.read (.load1 (.tmp 82)))) none,
        .act (some 84) (.op (.pure (.bin .and (.tmp 83) (.const (.int .i64 1))))) none,
        .act (some 85) (.op (.pure (.move (.tmp 1)))) none,
        .act (some 86) (.op (.pure (.move (.tmp 13)))) none,
        .act (some 87) (.op (.pure (.idxSl 3 (.tmp 85) (.tmp 86)))) none,
        .act (some 88) (.op (.pure (.fieldAddr 2 (.tmp 87)))) none,
        .act (some 89) (.op (.read (.load1 (.tmp 88)))) none,
        .act (some 90) (.call (.func 29) [(.tmp 77), (.tmp 78), (.tmp 84), (.tmp 89)]) none,
        .act (some 75) (.op (.pure (.move (.tmp 90)))) none,
        .act (some 91) (.op (.pure (.extract (.tmp 75) 0))) none,
        .act (some 92) (.op (.pure (.extract (.tmp 75) 1))) none,
        .act (some 93) (.op (.pure (.idxArr 4 1 (.tmp 12) (.tmp 76)))) none,
        .act none (.op (.eff (.store 1 (.tmp 93) (.tmp 91)))) none])
      (.steps [
        .act (some 94) (.op (.pure (.move (.tmp 13)))) none,
        .act (some 95) (.op (.pure (.bin .add (.tmp 94) (.const (.int .i64 1))))) none,
        .act (some 13) (.op (.pure (.move (.tmp 95)))) none]))))
      .skip))
     (.seq (.steps [
       .act (some 96) (.op (.pure (.move (.tmp 15)))) none,
       .act (some 97) (.op (.pure (.idxArr 4 1 (.tmp 11) (.tmp 96)))) none,
       .act (some 98) (.op (.read (.load1 (.tmp 97)))) none,
       .act (some 99) (.op (.pure (.move (.tmp 8)))) none,
       .act (some 100) (.call (.func 13) [(.tmp 98), (.tmp 99)]) none])
     (.cond (.tmp 100)
      (.seq (.steps [
        .act (some 102) (.op (.pure (.move (.tmp 15)))) none,
        .act (some 103) (.op (.pure (.idxArr 4 1 (.tmp 11) (.tmp 102)))) none,
        .act (some 104) (.op (.read (.load1 (.tmp 103)))) none,
        .act (some 105) (.call (.func 15) [(.tmp 104)]) none,
        .act (some 101) (.op (.pure (.move (.tmp 105)))) none,
        .act (some 106) (.op (.pure (.extract (.tmp 101) 0))) none,
        .act (some 107) (.op (.pure (.extract (.tmp 101) 1))) none,
        .act (some 16) (.op (.pure (.move (.tmp 106)))) none,
        .act (some 17) (.op (.pure (.move (.tmp 107)))) none])
      (.seq (.steps [
        .act (some 108) (.op (.pure (.move (.tmp 10)))) none,
        .act (some 109) (.op (.pure (.move (.tmp 15)))) none,
        .act (some 110) (.op (.pure (.idxArr 4 1 (.tmp 12) (.tmp 109)))) none,
        .act (some 111) (.op (.read (.load1 (.tmp 110)))) none,
        .act (some 112) (.op (.pure (.move (.tmp 16)))) none,
        .act (some 113) (.op (.pure (.move (.tmp 17)))) none,
        .act (some 114) (.call (.func 30) [(.tmp 108), (.tmp 111), (.tmp 112), (.tmp 113)]) none])
      (.steps [
        .act (some 115) (.op (.pure (.move (.tmp 15)))) none,
        .act (some 116) (.op (.pure (.idxArr 4 1 (.tmp 11) (.tmp 115)))) none,
        .act none (.op (.eff (.store 1 (.tmp 116) (.const (.pointer none))))) none])))
      .skip)))))
    (.steps [
      .act (some 48) (.op (.pure (.move (.tmp 14)))) none,
      .act (some 49) (.op (.pure (.bin .add (.tmp 48) (.const (.int .i64 1))))) none,
      .act (some 14) (.op (.pure (.move (.tmp 49)))) none]))))))
  (.seq (.steps [
    .act (some 118) (.op (.pure (.move (.tmp 10)))) none,
    .act (some 120) (.op (.pure (.fieldAddr 1 (.tmp 7)))) none,
    .act (some 121) (.op (.read (.load1 (.tmp 120)))) none,
    .act (some 119) (.call (.func 32) [(.tmp 118)]) none,
    .again 121 (.load1 (.tmp 120)) none,
    .act (some 122) (.call (.func 31) [(.tmp 119), (.tmp 121), (.const (.int .i64 2))]) none,
    .act (some 117) (.op (.pure (.move (.tmp 122)))) none,
    .act (some 123) (.op (.pure (.extract (.tmp 117) 0))) none,
    .act (some 124) (.op (.pure (.extract (.tmp 117) 1))) none,
    .act (some 18) (.op (.pure (.move (.tmp 123)))) none,
    .act (some 19) (.op (.pure (.move (.tmp 124)))) none])
  (.seq (.steps [
    .act (some 125) (.op (.pure (.move (.tmp 19)))) none,
    .act (some 126) (.op (.pure (.move (.tmp 125)))) none,
    .act (some 127) (.op (.pure (.move (.tmp 8)))) (some (126, true)),
    .act (some 128) (.call (.func 17) [(.tmp 127)]) (some (126, true)),
    .act (some 129) (.op (.pure (.bin .eql (.tmp 128) (.const (.int .i64 (-1)))))) (some (126, true)),
    .act (some 130) (.op (.pure (.pick (.tmp 126) (.tmp 129) (.const (.bool false))))) none,
    .act (some 131) (.op (.pure (.move (.tmp 130)))) none,
    .act (some 132) (.call (.func 18) []) (some (131, true)),
    .act (some 133) (.op (.pure (.pick (.tmp 131) (.tmp 132) (.const (.bool false))))) none,
    .act (some 6) (.op (.pure (.move (.tmp 133)))) none])
  .ret))))))))))) }
theorem c7 : compFn Try.prog (mkPlan Try.prog) [(10, [1, 2, 7, 8, 10, 11, 12, 13, 14])] true 7 = some L7 := by kernel_rfl
/-- sluiceway/mem.New -/
def L8 : LFun := { n := 16, pop := false, res := [.tmp 2, .tmp 3], code :=
  (.seq (.steps [
    .act (some 2) (.op (.pure (.move (.const (.pointer none))))) none,
    .act (some 3) (.op (.pure (.move (.const (.int .i64 0))))) none])
  (.seq (.seq (.steps [
    .act (some 4) (.op (.pure (.move (.tmp 0)))) none,
    .act (some 5) (.op (.pure (.bin .lss (.tmp 4) (.const (.int .i64 1))))) none,
    .act (some 6) (.op (.pure (.move (.tmp 5)))) none,
    .act (some 7) (.op (.pure (.move (.tmp 0)))) (some (6, false)),
    .act (some 8) (.op (.pure (.bin .gtr (.tmp 7) (.const (.int .i64 65536))))) (some (6, false)),
    .act (some 9) (.op (.pure (.pick (.tmp 6) (.const (.bool true)) (.tmp 8)))) none])
  (.cond (.tmp 9)
   (.seq (.steps [
     .act (some 2) (.op (.pure (.move (.const (.pointer none))))) none,
     .act (some 3) (.op (.pure (.move (.const (.int .i64 2))))) none])
   .ret)
   .skip))
  (.seq (.steps [
    .act (some 10) (.op (.pure (.move (.tmp 0)))) none,
    .act (some 11) (.op (.new (.makeSlice 1 8 [(w64 0#64)] (.tmp 10) (.tmp 10)))) none,
    .act (some 12) (.op (.pure (.move (.tmp 0)))) none,
    .act (some 13) (.op (.new (.makeSlice 1 1 [(.bool false)] (.tmp 12) (.tmp 12)))) none,
    .act (some 14) (.op (.pure (.build [(.slice none 0 0), (.slice none 0 0), (.int .i64 0), (.int .i64 0), (.int .i64 0), (.int .i64 0), (.int .i64 0), (.int .i64 0), (.int .i64 0), (.bool false)] [(0, 1, (.tmp 11)), (1, 1, (.tmp 13)), (8, 1, (.const (.int .i64 (-1))))]))) none,
    .act (some 15) (.op (.new (.box (.tmp 14)))) none,
    .act (some 2) (.op (.pure (.move (.tmp 15)))) none,
    .act (some 3) (.op (.pure (.move (.const (.int .i64 0))))) none])
  .ret))) }
theorem c8 : compFn Try.prog (mkPlan Try.prog) [] false 8 = some L8 := by kernel_rfl
/-- (sluiceway/vy.Ring).Words -/
def L9 : LFun := { n := 10, pop := true, res := [.tmp 2], code :=
  (.seq (.steps [
    .act (some 1) (.op (.new (.box (.tmp 0)))) none,
    .act (some 2) (.op (.pure (.move (.const (.int .i64 0))))) none])
  (.seq (.seq (.steps [
    .act (some 3) (.op (.read (.loadN 2 (.tmp 1)))) none,
    .act (some 4) (.call (.func 21) [(.tmp 3)]) none,
    .act (some 5) (.op (.pure (.not (.tmp 4)))) none])
  (.cond (.tmp 5)
   (.seq (.steps [
     .act (some 2) (.op (.pure (.move (.const (.int .i64 0))))) none])
   .ret)
   .skip))
  (.seq (.steps [
    .act (some 6) (.op (.pure (.fieldAddr 1 (.tmp 1)))) none,
    .act (some 7) (.op (.read (.load1 (.tmp 6)))) none,
    .act (some 8) (.op (.pure (.bin .mul (.const (.int .i64 2)) (.tmp 7)))) none,
    .act (some 9) (.op (.pure (.bin .add (.const (.int .i64 2)) (.tmp 8)))) none,
    .act (some 2) (.op (.pure (.move (.tmp 9)))) none])
  .ret))) }
theorem c9 : compFn Try.prog (mkPlan Try.prog) [] true 9 = some L9 := by kernel_rfl
/-- (sluiceway/vy.Ring).Setup -/
def L10 : LFun := { n := 53, pop := true, res := [.tmp 4], code :=
  (.seq (.steps [
    .act (some 2) (.op (.new (.box (.tmp 0)))) none,
    .act (some 4) (.op (.pure (.move (.const (.int .i64 0))))) none])
  (.seq (.block 0 (.seq (.steps [
     .act (some 8) (.op (.pure (.move (.tmp 1)))) none,
     .act (some 9) (.call (.func 33) [(.tmp 8)]) none,
     .act (some 10) (.op (.pure (.bin .eql (.tmp 9) (.const (.int .i64 0))))) none,
     .act (some 7) (.op (.pure (.move (.tmp 10)))) none])
   (.cond (.tmp 7)
    (.seq (.steps [
      .act (some 4) (.op (.pure (.move (.const (.int .i64 1))))) none])
    .ret)
    (.seq (.steps [
      .act (some 12) (.op (.read (.loadN 2 (.tmp 2)))) none,
      .act (some 13) (.call (.func 21) [(.tmp 12)]) none,
      .act (some 14) (.op (.pure (.not (.tmp 13)))) none,
      .act (some 15) (.op (.pure (.move (.tmp 14)))) none,
      .act (some 16) (.op (.read (.loadN 2 (.tmp 2)))) (some (15, false)),
      .act (some 18) (.op (.pure (.move (.tmp 1)))) (some (15, false)),
      .act (some 20) (.op (.pure (.fieldAddr 0 (.tmp 2)))) (some (15, false)),
      .act (some 21) (.op (.read (.load1 (.tmp 20)))) (some (15, false)),
      .act (some 17) (.call (.func 9) [(.tmp 16)]) (some (15, false)),
      .again 21 (.load1 (.tmp 20)) (some (15, false)),
      .act (some 19) (.call (.func 33) [(.tmp 18)]) (some (15, false)),
      .act (some 22) (.op (.pure (.bin .sub (.tmp 19) (.tmp 21)))) (some (15, false)),
      .act (some 23) (.op (.pure (.bin .gtr (.tmp 17) (.tmp 22)))) (some (15, false)),
      .act (some 24) (.op (.pure (.pick (.tmp 15) (.const (.bool true)) (.tmp 23)))) none,
      .act (some 11) (.op (.pure (.move (.tmp 24)))) none,
      .again 21 (.load1 (.tmp 20)) (some (15, false))])
    (.cond (.tmp 11)
     (.seq (.steps [
       .act (some 4) (.op (.pure (.move (.const (.int .i64 2))))) none])
     .ret)
     .skip)))))
  (.seq (.steps [
    .act (some 25) (.op (.pure (.move (.tmp 1)))) none,
    .act (some 26) (.op (.pure (.fieldAddr 0 (.tmp 2)))) none,
    .act (some 27) (.op (.read (.load1 (.tmp 26)))) none,
    .act (some 28) (.call (.func 34) [(.tmp 25), (.tmp 27), (.const (w64 0#64))]) none])
  (.seq (.steps [
    .act (some 29) (.op (.pure (.move (.tmp 1)))) none,
    .act (some 30) (.op (.pure (.fieldAddr 0 (.tmp 2)))) none,
    .act (some 31) (.op (.read (.load1 (.tmp 30)))) none,
    .act (some 32) (.op (.pure (.bin .add (.tmp 31) (.const (.int .i64 1))))) none,
    .act (some 33) (.call (.func 34) [(.tmp 29), (.tmp 32), (.const (w64 0#64))]) none])
  (.seq (.seq (.steps [
    .act (some 34) (.op (.pure (.fieldAddr 1 (.tmp 2)))) none,
    .act (some 35) (.op (.read (.load1 (.tmp 34)))) none,
    .act (some 36) (.op (.pure (.move (.const (.int .i64 0))))) none])
  (.block 1 (.loop [1, 2, 35, 36] (.seq (.steps [
      .act (some 37) (.op (.pure (.bin .lss (.tmp 36) (.tmp 35)))) none])
    (.seq (.cond (.tmp 37)
     .skip
     (.exit 1))
    (.seq (.block 2 (.seq (.steps [
       .act (some 38) (.op (.pure (.move (.tmp 36)))) none,
       .act (some 5) (.op (.pure (.move (.tmp 38)))) none])
     (.seq (.steps [
       .act (some 39) (.op (.read (.loadN 2 (.tmp 2)))) none,
       .act (some 40) (.op (.pure (.move (.tmp 5)))) none,
       .act (some 41) (.op (.pure (.conv .u64 (.tmp 40)))) none,
       .act (some 42) (.call (.func 35) [(.tmp 39), (.tmp 41)]) none,
       .act (some 6) (.op (.pure (.move (.tmp 42)))) none])
     (.seq (.steps [
       .act (some 43) (.op (.pure (.move (.tmp 1)))) none,
       .act (some 44) (.op (.pure (.move (.tmp 6)))) none,
       .act (some 45) (.op (.pure (.move (.tmp 5)))) none,
       .act (some 46) (.op (.pure (.conv .u64 (.tmp 45)))) none,
       .act (some 47) (.call (.func 34) [(.tmp 43), (.tmp 44), (.tmp 46)]) none])
     (.steps [
       .act (some 48) (.op (.pure (.move (.tmp 1)))) none,
       .act (some 49) (.op (.pure (.move (.tmp 6)))) none,
       .act (some 50) (.op (.pure (.bin .add (.tmp 49) (.const (.int .i64 1))))) none,
       .act (some 51) (.call (.func 34) [(.tmp 48), (.tmp 50), (.const (w64 0#64))]) none])))))
    (.steps [
      .act (some 52) (.op (.pure (.bin .add (.tmp 36) (.const (.int .i64 1))))) none,
      .act (some 36) (.op (.pure (.move (.tmp 52)))) none])))))))
  (.seq (.steps [
    .act (some 4) (.op (.pure (.move (.const (.int .i64 0))))) none])
  .ret)))))) }
theorem c10 : compFn Try.prog (mkPlan Try.prog) [(8, [1, 2, 35, 36])] true 10 = some L10 := by kernel_rfl
/-- sluiceway/vy.Put -/
def L11 : LFun := { n := 8, pop := false, res := [.tmp 4], code :=
  (.seq (.steps [
    .act (some 2) (.op (.new (.box (.tmp 0)))) none,
    .act (some 4) (.op (.pure (.move (.const (.pointer none))))) none])
  (.seq (.steps [
    .act (some 5) (.op (.read (.loadN 2 (.tmp 2)))) none,
    .act (some 6) (.op (.pure (.move (.tmp 1)))) none,
    .act (some 7) (.call (.func 36) [(.tmp 5), (.const (.bool false)), (.tmp 6)]) none,
    .act (some 4) (.op (.pure (.move (.tmp 7)))) none])
  .ret)) }
theorem c11 : compFn Try.prog (mkPlan Try.prog) [] false 11 = some L11 := by kernel_rfl
/-- sluiceway/sluicewaylaw07.thread -/
def L12 : LFun := { n := 5, pop := true, res := [.tmp 2], code :=
  (.seq (.steps [
    .act (some 2) (.op (.pure (.move (.const (.int .i64 0))))) none])
  (.seq (.steps [
    .act (some 3) (.op (.pure (.move (.tmp 0)))) none,
    .act (some 4) (.op (.pure (.bin .and (.tmp 3) (.const (.int .i64 3))))) none,
    .act (some 2) (.op (.pure (.move (.tmp 4)))) none])
  .ret)) }
theorem c12 : compFn Try.prog (mkPlan Try.prog) [] true 12 = some L12 := by kernel_rfl
/-- (*sluiceway/vy.Op).Step -/
def L13 : LFun := { n := 42, pop := true, res := [.tmp 4], code :=
  (.seq (.steps [
    .act (some 4) (.op (.pure (.move (.const (.bool false))))) none])
  (.seq (.seq (.steps [
    .act (some 6) (.op (.pure (.move (.tmp 0)))) none,
    .act (some 7) (.call (.func 14) [(.tmp 6)]) none,
    .act (some 8) (.op (.pure (.move (.tmp 7)))) none,
    .act (some 9) (.op (.pure (.move (.tmp 1)))) (some (8, false)),
    .act (some 10) (.call (.func 33) [(.tmp 9)]) (some (8, false)),
    .act (some 11) (.op (.pure (.bin .eql (.tmp 10) (.const (.int .i64 0))))) (some (8, false)),
    .act (some 12) (.op (.pure (.pick (.tmp 8) (.const (.bool true)) (.tmp 11)))) none])
  (.cond (.tmp 12)
   (.seq (.steps [
     .act (some 13) (.op (.pure (.move (.tmp 0)))) none,
     .act (some 14) (.call (.func 14) [(.tmp 13)]) none,
     .act (some 4) (.op (.pure (.move (.tmp 14)))) none])
   .ret)
   .skip))
  (.seq (.steps [
    .act (some 15) (.op (.pure (.move (.tmp 0)))) none,
    .act (some 16) (.op (.pure (.mkFunc 37 [(.tmp 15)] []))) none,
    .act (some 5) (.op (.pure (.move (.tmp 16)))) none])
  (.seq (.seq (.steps [
    .act (some 17) (.op (.pure (.move (.tmp 0)))) none,
    .act (some 18) (.op (.pure (.nilCheck (.tmp 17)))) none,
    .act (some 19) (.op (.pure (.fieldAddr 5 (.tmp 18)))) none,
    .act (some 20) (.op (.read (.load1 (.tmp 19)))) none])
  (.block 0 (.seq (.steps [
     .act (some 22) (.op (.pure (.bin .eql (.tmp 20) (.const (.int .i64 1))))) none,
     .act (some 21) (.op (.pure (.move (.tmp 22)))) none])
   (.cond (.tmp 21)
    (.steps [
      .act (some 23) (.op (.pure (.move (.tmp 0)))) none,
      .act (some 24) (.op (.pure (.mkFunc 38 [(.tmp 23)] []))) none,
      .act (some 5) (.op (.pure (.move (.tmp 24)))) none])
    (.seq (.steps [
      .act (some 26) (.op (.pure (.bin .eql (.tmp 20) (.const (.int .i64 2))))) none,
      .act (some 25) (.op (.pure (.move (.tmp 26)))) none])
    (.cond (.tmp 25)
     (.steps [
       .act (some 27) (.op (.pure (.move (.tmp 0)))) none,
       .act (some 28) (.op (.pure (.mkFunc 39 [(.tmp 27)] []))) none,
       .act (some 5) (.op (.pure (.move (.tmp 28)))) none])
     (.seq (.steps [
       .act (some 30) (.op (.pure (.bin .eql (.tmp 20) (.const (.int .i64 3))))) none,
       .act (some 29) (.op (.pure (.move (.tmp 30)))) none])
     (.cond (.tmp 29)
      (.steps [
        .act (some 31) (.op (.pure (.move (.tmp 0)))) none,
        .act (some 32) (.op (.pure (.mkFunc 40 [(.tmp 31)] []))) none,
        .act (some 5) (.op (.pure (.move (.tmp 32)))) none])
      (.seq (.steps [
        .act (some 34) (.op (.pure (.bin .eql (.tmp 20) (.const (.int .i64 4))))) none,
        .act (some 33) (.op (.pure (.move (.tmp 34)))) none])
      (.cond (.tmp 33)
       (.steps [
         .act (some 35) (.op (.pure (.move (.tmp 0)))) none,
         .act (some 36) (.op (.pure (.mkFunc 41 [(.tmp 35)] []))) none,
         .act (some 5) (.op (.pure (.move (.tmp 36)))) none])
       .skip))))))))))
  (.seq (.steps [
    .act (some 37) (.op (.pure (.move (.tmp 5)))) none,
    .act (some 38) (.op (.pure (.move (.tmp 1)))) none,
    .act (some 39) (.call (.tmp 37) [(.tmp 38)]) none])
  (.seq (.steps [
    .act (some 40) (.op (.pure (.move (.tmp 0)))) none,
    .act (some 41) (.call (.func 14) [(.tmp 40)]) none,
    .act (some 4) (.op (.pure (.move (.tmp 41)))) none])
  .ret)))))) }
theorem c13 : compFn Try.prog (mkPlan Try.prog) [] true 13 = some L13 := by kernel_rfl
/-- (*sluiceway/vy.Op).Done -/
def L14 : LFun := { n := 12, pop := true, res := [.tmp 2], code :=
  (.seq (.steps [
    .act (some 2) (.op (.pure (.move (.const (.bool false))))) none])
  (.seq (.steps [
    .act (some 3) (.op (.pure (.move (.tmp 0)))) none,
    .act (some 4) (.call (.func 42) [(.tmp 3)]) none,
    .act (some 5) (.op (.pure (.move (.tmp 4)))) none,
    .act (some 6) (.op (.pure (.move (.tmp 0)))) (some (5, false)),
    .act (some 7) (.op (.pure (.nilCheck (.tmp 6)))) (some (5, false)),
    .act (some 8) (.op (.pure (.fieldAddr 5 (.tmp 7)))) (some (5, false)),
    .act (some 9) (.op (.read (.load1 (.tmp 8)))) (some (5, false)),
    .act (some 10) (.op (.pure (.bin .eql (.tmp 9) (.const (.int .i64 5))))) (some (5, false)),
    .act (some 11) (.op (.pure (.pick (.tmp 5) (.const (.bool true)) (.tmp 10)))) none,
    .act (some 2) (.op (.pure (.move (.tmp 11)))) none])
  .ret)) }
theorem c14 : compFn Try.prog (mkPlan Try.prog) [] true 14 = some L14 := by kernel_rfl
/-- (*sluiceway/vy.Op).Result -/
def L15 : LFun := { n := 21, pop := true, res := [.tmp 2, .tmp 3], code :=
  (.seq (.steps [
    .act (some 2) (.op (.pure (.move (.const (.int .i64 0))))) none,
    .act (some 3) (.op (.pure (.move (.const (w64 0#64))))) none])
  (.seq (.block 0 (.seq (.steps [
     .act (some 5) (.op (.pure (.move (.tmp 0)))) none,
     .act (some 6) (.call (.func 42) [(.tmp 5)]) none,
     .act (some 4) (.op (.pure (.move (.tmp 6)))) none])
   (.cond (.tmp 4)
    (.seq (.steps [
      .act (some 2) (.op (.pure (.move (.const (.int .i64 1))))) none,
      .act (some 3) (.op (.pure (.move (.const (w64 0#64))))) none])
    .ret)
    (.seq (.steps [
      .act (some 8) (.op (.pure (.move (.tmp 0)))) none,
      .act (some 9) (.op (.pure (.nilCheck (.tmp 8)))) none,
      .act (some 10) (.op (.pure (.fieldAddr 5 (.tmp 9)))) none,
      .act (some 11) (.op (.read (.load1 (.tmp 10)))) none,
      .act (some 12) (.op (.pure (.bin .neq (.tmp 11) (.const (.int .i64 5))))) none,
      .act (some 7) (.op (.pure (.move (.tmp 12)))) none])
    (.cond (.tmp 7)
     (.seq (.steps [
       .act (some 2) (.op (.pure (.move (.const (.int .i64 0))))) none,
       .act (some 3) (.op (.pure (.move (.const (w64 0#64))))) none])
     .ret)
     .skip)))))
  (.seq (.steps [
    .act (some 13) (.op (.pure (.move (.tmp 0)))) none,
    .act (some 14) (.op (.pure (.nilCheck (.tmp 13)))) none,
    .act (some 15) (.op (.pure (.fieldAddr 7 (.tmp 14)))) none,
    .act (some 16) (.op (.read (.load1 (.tmp 15)))) none,
    .act (some 17) (.op (.pure (.move (.tmp 0)))) none,
    .act (some 18) (.op (.pure (.nilCheck (.tmp 17)))) none,
    .act (some 19) (.op (.pure (.fieldAddr 4 (.tmp 18)))) none,
    .act (some 20) (.op (.read (.load1 (.tmp 19)))) none,
    .act (some 2) (.op (.pure (.move (.tmp 16)))) none,
    .act (some 3) (.op (.pure (.move (.tmp 20)))) none])
  .ret))) }
theorem c15 : compFn Try.prog (mkPlan Try.prog) [] true 15 = some L15 := by kernel_rfl
/-- sluiceway/vy.Take -/
def L16 : LFun := { n := 5, pop := false, res := [.tmp 2], code :=
  (.seq (.steps [
    .act (some 1) (.op (.new (.box (.tmp 0)))) none,
    .act (some 2) (.op (.pure (.move (.const (.pointer none))))) none])
  (.seq (.steps [
    .act (some 3) (.op (.read (.loadN 2 (.tmp 1)))) none,
    .act (some 4) (.call (.func 36) [(.tmp 3), (.const (.bool true)), (.const (w64 0#64))]) none,
    .act (some 2) (.op (.pure (.move (.tmp 4)))) none])
  .ret)) }
theorem c16 : compFn Try.prog (mkPlan Try.prog) [] false 16 = some L16 := by kernel_rfl
/-- (*sluiceway/mem.Mem).Trap -/
def L17 : LFun := { n := 9, pop := true, res := [.tmp 2], code :=
  (.seq (.steps [
    .act (some 2) (.op (.pure (.move (.const (.int .i64 0))))) none])
  (.seq (.seq (.steps [
    .act (some 3) (.op (.pure (.move (.tmp 0)))) none,
    .act (some 4) (.call (.func 43) [(.tmp 3)]) none])
  (.cond (.tmp 4)
   (.seq (.steps [
     .act (some 2) (.op (.pure (.move (.const (.int .i64 (-1)))))) none])
   .ret)
   .skip))
  (.seq (.steps [
    .act (some 5) (.op (.pure (.move (.tmp 0)))) none,
    .act (some 6) (.op (.pure (.nilCheck (.tmp 5)))) none,
    .act (some 7) (.op (.pure (.fieldAddr 8 (.tmp 6)))) none,
    .act (some 8) (.op (.read (.load1 (.tmp 7)))) none,
    .act (some 2) (.op (.pure (.move (.tmp 8)))) none])
  .ret))) }
theorem c17 : compFn Try.prog (mkPlan Try.prog) [] true 17 = some L17 := by kernel_rfl
/-- sluiceway/sluicewaylaw07.one -/
def L18 : LFun := { n := 68, pop := true, res := [.tmp 0], code :=
  (.seq (.steps [
    .act (some 0) (.op (.pure (.move (.const (.bool false))))) none])
  (.seq (.steps [
    .act (some 10) (.op (.pure (.build [(.int .i64 0), (.int .i64 0)] [(0, 1, (.const (.int .i64 2))), (1, 1, (.const (.int .i64 2)))]))) none,
    .act (some 1) (.op (.new (.alloc [(.int .i64 0), (.int .i64 0)]))) none,
    .act none (.op (.eff (.store 2 (.tmp 1) (.tmp 10)))) none])
  (.seq (.steps [
    .act (some 12) (.call (.func 8) [(.const (.int .i64 16))]) none,
    .act (some 11) (.op (.pure (.move (.tmp 12)))) none,
    .act (some 13) (.op (.pure (.extract (.tmp 11) 0))) none,
    .act (some 14) (.op (.pure (.extract (.tmp 11) 1))) none,
    .act (some 2) (.op (.pure (.move (.tmp 13)))) none,
    .act (some 3) (.op (.pure (.move (.tmp 14)))) none])
  (.seq (.seq (.steps [
    .act (some 15) (.op (.pure (.move (.tmp 3)))) none,
    .act (some 16) (.op (.pure (.bin .neq (.tmp 15) (.const (.int .i64 0))))) none,
    .act (some 17) (.op (.pure (.move (.tmp 16)))) none,
    .act (some 18) (.op (.read (.loadN 2 (.tmp 1)))) (some (17, false)),
    .act (some 19) (.op (.pure (.move (.tmp 2)))) (some (17, false)),
    .act (some 20) (.call (.func 10) [(.tmp 18), (.tmp 19)]) (some (17, false)),
    .act (some 21) (.op (.pure (.bin .neq (.tmp 20) (.const (.int .i64 0))))) (some (17, false)),
    .act (some 22) (.op (.pure (.pick (.tmp 17) (.const (.bool true)) (.tmp 21)))) none])
  (.cond (.tmp 22)
   (.seq (.steps [
     .act (some 0) (.op (.pure (.move (.const (.bool false))))) none])
   .ret)
   .skip))
  (.seq (.steps [
    .act (some 23) (.op (.read (.loadN 2 (.tmp 1)))) none,
    .act (some 24) (.call (.func 11) [(.tmp 23), (.const (w64 5#64))]) none,
    .act (some 4) (.op (.pure (.move (.tmp 24)))) none])
  (.seq (.steps [
    .act (some 5) (.op (.pure (.move (.const (.int .i64 0))))) none])
  (.seq (.block 0 (.loop [1, 2, 4, 5] (.seq (.seq (.steps [
      .act (some 25) (.op (.pure (.move (.tmp 5)))) none,
      .act (some 26) (.op (.pure (.bin .lss (.tmp 25) (.const (.int .i64 9))))) none,
      .act (some 27) (.op (.pure (.move (.tmp 26)))) none,
      .act (some 28) (.op (.pure (.move (.tmp 4)))) (some (27, true)),
      .act (some 29) (.op (.pure (.move (.tmp 2)))) (some (27, true)),
      .act (some 30) (.call (.func 13) [(.tmp 28), (.tmp 29)]) (some (27, true)),
      .act (some 31) (.op (.pure (.not (.tmp 30)))) (some (27, true)),
      .act (some 32) (.op (.pure (.pick (.tmp 27) (.tmp 31) (.const (.bool false))))) none])
    (.cond (.tmp 32)
     .skip
     (.exit 0)))
    (.block 1 (.steps [
       .act (some 33) (.op (.pure (.move (.tmp 5)))) none,
       .act (some 34) (.op (.pure (.bin .add (.tmp 33) (.const (.int .i64 1))))) none,
       .act (some 5) (.op (.pure (.move (.tmp 34)))) none])))))
  (.seq (.steps [
    .act (some 35) (.op (.read (.loadN 2 (.tmp 1)))) none,
    .act (some 36) (.call (.func 16) [(.tmp 35)]) none,
    .act (some 6) (.op (.pure (.move (.tmp 36)))) none])
  (.seq (.seq (.steps [
    .act (some 7) (.op (.pure (.move (.const (.int .i64 0))))) none])
  (.block 2 (.loop [1, 2, 4, 5, 6, 7] (.seq (.seq (.steps [
      .act (some 37) (.op (.pure (.move (.tmp 7)))) none,
      .act (some 38) (.op (.pure (.bin .lss (.tmp 37) (.const (.int .i64 9))))) none])
    (.cond (.tmp 38)
     .skip
     (.exit 2)))
    (.seq (.block 3 (.steps [
       .act (some 41) (.op (.pure (.move (.tmp 6)))) none,
       .act (some 42) (.op (.pure (.move (.tmp 2)))) none,
       .act (some 43) (.call (.func 13) [(.tmp 41), (.tmp 42)]) none]))
    (.steps [
      .act (some 39) (.op (.pure (.move (.tmp 7)))) none,
      .act (some 40) (.op (.pure (.bin .add (.tmp 39) (.const (.int .i64 1))))) none,
      .act (some 7) (.op (.pure (.move (.tmp 40)))) none]))))))
  (.seq (.steps [
    .act (some 45) (.op (.pure (.move (.tmp 6)))) none,
    .act (some 46) (.call (.func 15) [(.tmp 45)]) none,
    .act (some 44) (.op (.pure (.move (.tmp 46)))) none,
    .act (some 47) (.op (.pure (.extract (.tmp 44) 0))) none,
    .act (some 48) (.op (.pure (.extract (.tmp 44) 1))) none,
    .act (some 8) (.op (.pure (.move (.tmp 47)))) none,
    .act (some 9) (.op (.pure (.move (.tmp 48)))) none])
  (.seq (.steps [
    .act (some 49) (.op (.pure (.move (.tmp 5)))) none,
    .act (some 50) (.op (.pure (.bin .eql (.tmp 49) (.const (.int .i64 4))))) none,
    .act (some 51) (.op (.pure (.move (.tmp 50)))) none,
    .act (some 52) (.op (.pure (.move (.tmp 4)))) (some (51, true)),
    .act (some 53) (.call (.func 14) [(.tmp 52)]) (some (51, true)),
    .act (some 54) (.op (.pure (.pick (.tmp 51) (.tmp 53) (.const (.bool false))))) none,
    .act (some 55) (.op (.pure (.move (.tmp 54)))) none,
    .act (some 56) (.op (.pure (.move (.tmp 8)))) (some (55, true)),
    .act (some 57) (.op (.pure (.bin .eql (.tmp 56) (.const (.int .i64 0))))) (some (55, true)),
    .act (some 58) (.op (.pure (.pick (.tmp 55) (.tmp 57) (.const (.bool false))))) none,
    .act (some 59) (.op (.pure (.move (.tmp 58)))) none,
    .act (some 60) (.op (.pure (.move (.tmp 9)))) (some (59, true)),
    .act (some 61) (.op (.pure (.bin .eql (.tmp 60) (.const (w64 5#64))))) (some (59, true)),
    .act (some 62) (.op (.pure (.pick (.tmp 59) (.tmp 61) (.const (.bool false))))) none,
    .act (some 63) (.op (.pure (.move (.tmp 62)))) none,
    .act (some 64) (.op (.read (.loadN 2 (.tmp 1)))) (some (63, true)),
    .act (some 65) (.call (.func 9) [(.tmp 64)]) (some (63, true)),
    .act (some 66) (.op (.pure (.bin .eql (.tmp 65) (.const (.int .i64 6))))) (some (63, true)),
    .act (some 67) (.op (.pure (.pick (.tmp 63) (.tmp 66) (.const (.bool false))))) none,
    .act (some 0) (.op (.pure (.move (.tmp 67)))) none])
  .ret))))))))))) }
theorem c18 : compFn Try.prog (mkPlan Try.prog) [(7, [1, 2, 4, 5]), (11, [1, 2, 4, 5, 6, 7])] true 18 = some L18 := by kernel_rfl
/-- (*sluiceway/vy.Op).At -/
def L19 : LFun := { n := 9, pop := true, res := [.tmp 2], code :=
  (.seq (.steps [
    .act (some 2) (.op (.pure (.move (.const (.int .i64 0))))) none])
  (.seq (.seq (.steps [
    .act (some 3) (.op (.pure (.move (.tmp 0)))) none,
    .act (some 4) (.call (.func 42) [(.tmp 3)]) none])
  (.cond (.tmp 4)
   (.seq (.steps [
     .act (some 2) (.op (.pure (.move (.const (.int .i64 5))))) none])
   .ret)
   .skip))
  (.seq (.steps [
    .act (some 5) (.op (.pure (.move (.tmp 0)))) none,
    .act (some 6) (.op (.pure (.nilCheck (.tmp 5)))) none,
    .act (some 7) (.op (.pure (.fieldAddr 5 (.tmp 6)))) none,
    .act (some 8) (.op (.read (.load1 (.tmp 7)))) none,
    .act (some 2) (.op (.pure (.move (.tmp 8)))) none])
  .ret))) }
theorem c19 : compFn Try.prog (mkPlan Try.prog) [] true 19 = some L19 := by kernel_rfl
/-- (*sluiceway/mem.Mem).Steps -/
def L20 : LFun := { n := 15, pop := true, res := [.tmp 2], code :=
  (.seq (.steps [
    .act (some 2) (.op (.pure (.move (.const (.int .i64 0))))) none])
  (.seq (.steps [
    .act (some 3) (.op (.pure (.move (.const (.int .i64 0))))) none])
  (.seq (.seq (.steps [
    .act (some 5) (.op (.pure (.move (.const (.int .i64 0))))) none])
  (.block 0 (.loop [0, 3, 5] (.seq (.steps [
      .act (some 6) (.op (.pure (.bin .lss (.tmp 5) (.const (.int .i64 6))))) none])
    (.seq (.cond (.tmp 6)
     .skip
     (.exit 0))
    (.seq (.block 1 (.seq (.steps [
       .act (some 7) (.op (.pure (.move (.tmp 5)))) none,
       .act (some 4) (.op (.pure (.move (.tmp 7)))) none])
     (.steps [
       .act (some 8) (.op (.pure (.move (.tmp 3)))) none,
       .act (some 9) (.op (.pure (.move (.tmp 0)))) none,
       .act (some 10) (.op (.pure (.move (.tmp 4)))) none,
       .act (some 11) (.call (.func 44) [(.tmp 9), (.tmp 10)]) none,
       .act (some 12) (.op (.pure (.bin .add (.tmp 8) (.tmp 11)))) none,
       .act (some 3) (.op (.pure (.move (.tmp 12)))) none])))
    (.steps [
      .act (some 13) (.op (.pure (.bin .add (.tmp 5) (.const (.int .i64 1))))) none,
      .act (some 5) (.op (.pure (.move (.tmp 13)))) none])))))))
  (.seq (.steps [
    .act (some 14) (.op (.pure (.move (.tmp 3)))) none,
    .act (some 2) (.op (.pure (.move (.tmp 14)))) none])
  .ret)))) }
theorem c20 : compFn Try.prog (mkPlan Try.prog) [(3, [0, 3, 5])] true 20 = some L20 := by kernel_rfl
/-- (sluiceway/vy.Ring).Right -/
def L21 : LFun := { n := 27, pop := true, res := [.tmp 2], code :=
  (.seq (.steps [
    .act (some 1) (.op (.new (.box (.tmp 0)))) none,
    .act (some 2) (.op (.pure (.move (.const (.bool false))))) none])
  (.seq (.steps [
    .act (some 3) (.op (.pure (.fieldAddr 0 (.tmp 1)))) none,
    .act (some 4) (.op (.read (.load1 (.tmp 3)))) none,
    .act (some 5) (.op (.pure (.bin .geq (.tmp 4) (.const (.int .i64 0))))) none,
    .act (some 6) (.op (.pure (.move (.tmp 5)))) none,
    .act (some 7) (.op (.pure (.fieldAddr 0 (.tmp 1)))) (some (6, true)),
    .act (some 8) (.op (.read (.load1 (.tmp 7)))) (some (6, true)),
    .act (some 9) (.op (.pure (.bin .leq (.tmp 8) (.const (.int .i64 65536))))) (some (6, true)),
    .act (some 10) (.op (.pure (.pick (.tmp 6) (.tmp 9) (.const (.bool false))))) none,
    .act (some 11) (.op (.pure (.move (.tmp 10)))) none,
    .act (some 12) (.op (.pure (.fieldAddr 1 (.tmp 1)))) (some (11, true)),
    .act (some 13) (.op (.read (.load1 (.tmp 12)))) (some (11, true)),
    .act (some 14) (.op (.pure (.bin .geq (.tmp 13) (.const (.int .i64 2))))) (some (11, true)),
    .act (some 15) (.op (.pure (.pick (.tmp 11) (.tmp 14) (.const (.bool false))))) none,
    .act (some 16) (.op (.pure (.move (.tmp 15)))) none,
    .act (some 17) (.op (.pure (.fieldAddr 1 (.tmp 1)))) (some (16, true)),
    .act (some 18) (.op (.read (.load1 (.tmp 17)))) (some (16, true)),
    .act (some 19) (.op (.pure (.bin .leq (.tmp 18) (.const (.int .i64 1024))))) (some (16, true)),
    .act (some 20) (.op (.pure (.pick (.tmp 16) (.tmp 19) (.const (.bool false))))) none,
    .act (some 21) (.op (.pure (.move (.tmp 20)))) none,
    .act (some 22) (.op (.pure (.fieldAddr 1 (.tmp 1)))) (some (21, true)),
    .act (some 23) (.op (.read (.load1 (.tmp 22)))) (some (21, true)),
    .act (some 24) (.op (.pure (.conv .u64 (.tmp 23)))) (some (21, true)),
    .act (some 25) (.call (.func 45) [(.tmp 24)]) (some (21, true)),
    .act (some 26) (.op (.pure (.pick (.tmp 21) (.tmp 25) (.const (.bool false))))) none,
    .act (some 2) (.op (.pure (.move (.tmp 26)))) none])
  .ret)) }
theorem c21 : compFn Try.prog (mkPlan Try.prog) [] true 21 = some L21 := by kernel_rfl
/-- sluiceway/sluicewaylaw07.Two -/
def L22 : LFun := { n := 8, pop := true, res := [.tmp 2], code :=
  (.seq (.steps [
    .act (some 2) (.op (.pure (.move (.const (.int .i64 0))))) none])
  (.seq (.steps [
    .act (some 3) (.op (.pure (.move (.tmp 0)))) none,
    .act (some 4) (.op (.pure (.bin .and (.tmp 3) (.const (.int .i64 3))))) none,
    .act (some 5) (.op (.pure (.bin .rem (.tmp 4) (.const (.int .i64 3))))) none,
    .act (some 6) (.op (.pure (.conv .u64 (.tmp 5)))) none,
    .act (some 7) (.op (.pure (.bin .shl (.const (.int .i64 2)) (.tmp 6)))) none,
    .act (some 2) (.op (.pure (.move (.tmp 7)))) none])
  .ret)) }
theorem c22 : compFn Try.prog (mkPlan Try.prog) [] true 22 = some L22 := by kernel_rfl
/-- sluiceway/sluicewayref02.New -/
def L23 : LFun := { n := 16, pop := false, res := [.loadN 10 2, .tmp 3], code :=
  (.seq (.steps [
    .act (some 2) (.op (.new (.alloc [(.slice none 0 0), (.slice none 0 0), (.int .i64 0), (.int .i64 0), (.int .i64 0), (.int .i64 0), (.int .i64 0), (.int .i64 0), (.int .i64 0), (.bool false)]))) none,
    .act (some 3) (.op (.pure (.move (.const (.int .i64 0))))) none])
  (.seq (.seq (.steps [
    .act (some 4) (.op (.pure (.move (.tmp 0)))) none,
    .act (some 5) (.op (.pure (.bin .lss (.tmp 4) (.const (.int .i64 1))))) none,
    .act (some 6) (.op (.pure (.move (.tmp 5)))) none,
    .act (some 7) (.op (.pure (.move (.tmp 0)))) (some (6, false)),
    .act (some 8) (.op (.pure (.bin .gtr (.tmp 7) (.const (.int .i64 65536))))) (some (6, false)),
    .act (some 9) (.op (.pure (.pick (.tmp 6) (.const (.bool true)) (.tmp 8)))) none])
  (.cond (.tmp 9)
   (.seq (.steps [
     .act (some 10) (.op (.pure (.build [(.slice none 0 0), (.slice none 0 0), (.int .i64 0), (.int .i64 0), (.int .i64 0), (.int .i64 0), (.int .i64 0), (.int .i64 0), (.int .i64 0), (.bool false)] []))) none,
     .act none (.op (.eff (.store 10 (.tmp 2) (.tmp 10)))) none,
     .act (some 3) (.op (.pure (.move (.const (.int .i64 2))))) none])
   .ret)
   .skip))
  (.seq (.steps [
    .act (some 11) (.op (.pure (.move (.tmp 0)))) none,
    .act (some 12) (.op (.new (.makeSlice 1 8 [(w64 0#64)] (.tmp 11) (.tmp 11)))) none,
    .act (some 13) (.op (.pure (.move (.tmp 0)))) none,
    .act (some 14) (.op (.new (.makeSlice 1 1 [(.bool false)] (.tmp 13) (.tmp 13)))) none,
    .act (some 15) (.op (.pure (.build [(.slice none 0 0), (.slice none 0 0), (.int .i64 0), (.int .i64 0), (.int .i64 0), (.int .i64 0), (.int .i64 0), (.int .i64 0), (.int .i64 0), (.bool false)] [(0, 1, (.tmp 12)), (1, 1, (.tmp 14)), (8, 1, (.const (.int .i64 (-1))))]))) none,
    .act none (.op (.eff (.store 10 (.tmp 2) (.tmp 15)))) none,
    .act (some 3) (.op (.pure (.move (.const (.int .i64 0))))) none])
  .ret))) }
theorem c23 : compFn Try.prog (mkPlan Try.prog) [] false 23 = some L23 := by kernel_rfl
/-- sluiceway/sluicewaylaw07.begin -/
def L24 : LFun := { n := 15, pop := false, res := [.tmp 4], code :=
  (.seq (.steps [
    .act (some 2) (.op (.new (.box (.tmp 0)))) none,
    .act (some 3) (.op (.new (.box (.tmp 1)))) none,
    .act (some 4) (.op (.pure (.move (.const (.pointer none))))) none])
  (.seq (.seq (.steps [
    .act (some 5) (.op (.pure (.fieldAddr 1 (.tmp 3)))) none,
    .act (some 6) (.op (.read (.load1 (.tmp 5)))) none,
    .act (some 7) (.op (.pure (.bin .and (.tmp 6) (.const (.int .i64 1))))) none,
    .act (some 8) (.op (.pure (.bin .eql (.tmp 7) (.const (.int .i64 0))))) none])
  (.cond (.tmp 8)
   (.seq (.steps [
     .act (some 9) (.op (.read (.loadN 2 (.tmp 2)))) none,
     .act (some 10) (.op (.pure (.fieldAddr 2 (.tmp 3)))) none,
     .act (some 11) (.op (.read (.load1 (.tmp 10)))) none,
     .act (some 12) (.call (.func 11) [(.tmp 9), (.tmp 11)]) none,
     .act (some 4) (.op (.pure (.move (.tmp 12)))) none])
   .ret)
   .skip))
  (.seq (.steps [
    .act (some 13) (.op (.read (.loadN 2 (.tmp 2)))) none,
    .act (some 14) (.call (.func 16) [(.tmp 13)]) none,
    .act (some 4) (.op (.pure (.move (.tmp 14)))) none])
  .ret))) }
theorem c24 : compFn Try.prog (mkPlan Try.prog) [] false 24 = some L24 := by kernel_rfl
/-- (sluiceway/sluicewayref07.Op).Step -/
def L25 : LFun := { n := 27, pop := false, res := [.loadN 7 4, .loadN 10 5], code :=
  (.seq (.steps [
    .act (some 2) (.op (.new (.box (.tmp 0)))) none,
    .act (some 3) (.op (.new (.box (.tmp 1)))) none,
    .act (some 4) (.op (.new (.alloc [(.int .i64 0), (.int .i64 0), (.bool false), (w64 0#64), (.int .i64 0), (w64 0#64), (.int .i64 0)]))) none,
    .act (some 5) (.op (.new (.alloc [(.slice none 0 0), (.slice none 0 0), (.int .i64 0), (.int .i64 0), (.int .i64 0), (.int .i64 0), (.int .i64 0), (.int .i64 0), (.int .i64 0), (.bool false)]))) none])
  (.seq (.seq (.steps [
    .act (some 9) (.op (.pure (.fieldAddr 4 (.tmp 2)))) none,
    .act (some 10) (.op (.read (.load1 (.tmp 9)))) none,
    .act (some 11) (.op (.pure (.bin .geq (.tmp 10) (.const (.int .i64 5))))) none])
  (.cond (.tmp 11)
   (.seq (.steps [
     .act (some 12) (.op (.read (.loadN 7 (.tmp 2)))) none,
     .act (some 13) (.op (.read (.loadN 10 (.tmp 3)))) none,
     .act none (.op (.eff (.store 7 (.tmp 4) (.tmp 12)))) none,
     .again 13 (.loadN 10 (.tmp 3)) none,
     .act none (.op (.eff (.store 10 (.tmp 5) (.tmp 13)))) none])
   .ret)
   .skip))
  (.seq (.steps [
    .act (some 15) (.op (.read (.loadN 10 (.tmp 3)))) none,
    .act (some 16) (.op (.read (.loadN 7 (.tmp 2)))) none,
    .act (some 6) (.op (.new (.alloc [(.slice none 0 0), (.slice none 0 0), (.int .i64 0), (.int .i64 0), (.int .i64 0), (.int .i64 0), (.int .i64 0), (.int .i64 0), (.int .i64 0), (.bool false)]))) none,
    .act (some 17) (.call (.func 47) [(.tmp 16)]) none,
    .again 15 (.loadN 10 (.tmp 3)) none,
    .act (some 18) (.call (.func 46) [(.tmp 15), (.tmp 17)]) none,
    .act (some 14) (.op (.pure (.move (.tmp 18)))) none,
    .act (some 19) (.op (.pure (.extract (.tmp 14) 0))) none,
    .act (some 20) (.op (.pure (.extract (.tmp 14) 1))) none,
    .act (some 21) (.op (.pure (.extract (.tmp 14) 2))) none,
    .act none (.op (.eff (.store 10 (.tmp 6) (.tmp 19)))) none,
    .act (some 7) (.op (.pure (.move (.tmp 20)))) none,
    .act (some 8) (.op (.pure (.move (.tmp 21)))) none])
  (.seq (.steps [
    .act (some 22) (.op (.read (.loadN 7 (.tmp 2)))) none,
    .act (some 23) (.op (.pure (.move (.tmp 7)))) none,
    .act (some 24) (.op (.pure (.move (.tmp 8)))) none,
    .act (some 26) (.op (.read (.loadN 10 (.tmp 6)))) none,
    .act (some 25) (.call (.func 48) [(.tmp 22), (.tmp 23), (.tmp 24)]) none,
    .again 26 (.loadN 10 (.tmp 6)) none,
    .act none (.op (.eff (.store 7 (.tmp 4) (.tmp 25)))) none,
    .again 26 (.loadN 10 (.tmp 6)) none,
    .act none (.op (.eff (.store 10 (.tmp 5) (.tmp 26)))) none])
  .ret)))) }
theorem c25 : compFn Try.prog (mkPlan Try.prog) [] false 25 = some L25 := by kernel_rfl
/-- (*sluiceway/mem.Mem).Peek -/
def L26 : LFun := { n := 37, pop := false, res := [.tmp 6], code :=
  (.seq (.steps [
    .act (some 6) (.op (.pure (.move (.const (.slice none 0 0))))) none])
  (.seq (.seq (.steps [
    .act (some 7) (.op (.pure (.move (.tmp 1)))) none,
    .act (some 8) (.op (.pure (.bin .lss (.tmp 7) (.const (.int .i64 0))))) none,
    .act (some 9) (.op (.pure (.move (.tmp 8)))) none,
    .act (some 10) (.op (.pure (.move (.tmp 2)))) (some (9, false)),
    .act (some 11) (.op (.pure (.bin .lss (.tmp 10) (.const (.int .i64 1))))) (some (9, false)),
    .act (some 12) (.op (.pure (.pick (.tmp 9) (.const (.bool true)) (.tmp 11)))) none,
    .act (some 13) (.op (.pure (.move (.tmp 12)))) none,
    .act (some 14) (.op (.pure (.move (.tmp 1)))) (some (13, false)),
    .act (some 15) (.op (.pure (.move (.tmp 0)))) (some (13, false)),
    .act (some 16) (.call (.func 33) [(.tmp 15)]) (some (13, false)),
    .act (some 17) (.op (.pure (.bin .geq (.tmp 14) (.tmp 16)))) (some (13, false)),
    .act (some 18) (.op (.pure (.pick (.tmp 13) (.const (.bool true)) (.tmp 17)))) none])
  (.cond (.tmp 18)
   (.seq (.steps [
     .act (some 6) (.op (.pure (.move (.const (.slice none 0 0))))) none])
   .ret)
   .skip))
  (.seq (.steps [
    .act (some 19) (.op (.pure (.move (.tmp 0)))) none,
    .act (some 20) (.op (.pure (.nilCheck (.tmp 19)))) none,
    .act (some 21) (.op (.pure (.fieldAddr 0 (.tmp 20)))) none,
    .act (some 22) (.op (.read (.load1 (.tmp 21)))) none,
    .act (some 23) (.op (.pure (.move (.tmp 1)))) none,
    .act (some 24) (.op (.pure (.move (.tmp 1)))) none,
    .act (some 25) (.op (.pure (.move (.tmp 2)))) none,
    .act (some 26) (.op (.pure (.move (.tmp 0)))) none,
    .act (some 27) (.op (.pure (.nilCheck (.tmp 26)))) none,
    .act (some 28) (.op (.pure (.fieldAddr 0 (.tmp 27)))) none,
    .act (some 29) (.op (.read (.load1 (.tmp 28)))) none,
    .act (some 30) (.op (.pure (.len false (.tmp 29)))) none,
    .act (some 31) (.op (.pure (.move (.tmp 1)))) none,
    .act (some 32) (.op (.pure (.bin .sub (.tmp 30) (.tmp 31)))) none,
    .act (some 33) (.op (.pure (.minmax false [(.tmp 25), (.tmp 32)]))) none,
    .act (some 34) (.op (.pure (.bin .add (.tmp 24) (.tmp 33)))) none,
    .act (some 35) (.op (.read (.slSl 1 (.tmp 22) (some (.tmp 23)) (some (.tmp 34)) none))) none,
    .act (some 36) (.call (.func 49) [(.tmp 35)]) none,
    .act (some 6) (.op (.pure (.move (.tmp 36)))) none])
  .ret))) }
theorem c26 : compFn Try.prog (mkPlan Try.prog) [] false 26 = some L26 := by kernel_rfl
/-- (sluiceway/spec.Fifo).Do -/
def L27 : LFun := { n := 43, pop := false, res := [.loadN 2 6, .tmp 7, .tmp 8], code :=
  (.seq (.steps [
    .act (some 3) (.op (.new (.box (.tmp 0)))) none,
    .act (some 6) (.op (.new (.alloc [(.int .i64 0), (.slice none 0 0)]))) none,
    .act (some 7) (.op (.pure (.move (.const (.int .i64 0))))) none,
    .act (some 8) (.op (.pure (.move (.const (w64 0#64))))) none])
  (.seq (.block 0 (.seq (.steps [
     .act (some 10) (.op (.pure (.move (.tmp 1)))) none,
     .act (some 11) (.op (.pure (.bin .eql (.tmp 10) (.const (.int .i64 0))))) none,
     .act (some 12) (.op (.pure (.move (.tmp 11)))) none,
     .act (some 13) (.op (.read (.loadN 2 (.tmp 3)))) (some (12, true)),
     .act (some 14) (.call (.func 50) [(.tmp 13)]) (some (12, true)),
     .act (some 15) (.op (.pure (.pick (.tmp 12) (.tmp 14) (.const (.bool false))))) none,
     .act (some 9) (.op (.pure (.move (.tmp 15)))) none])
   (.cond (.tmp 9)
    (.seq (.steps [
      .act (some 16) (.op (.read (.loadN 2 (.tmp 3)))) none,
      .act none (.op (.eff (.store 2 (.tmp 6) (.tmp 16)))) none,
      .act (some 7) (.op (.pure (.move (.const (.int .i64 15))))) none,
      .act (some 8) (.op (.pure (.move (.const (w64 0#64))))) none])
    .ret)
    (.seq (.steps [
      .act (some 18) (.op (.pure (.move (.tmp 1)))) none,
      .act (some 19) (.op (.pure (.bin .eql (.tmp 18) (.const (.int .i64 0))))) none,
      .act (some 17) (.op (.pure (.move (.tmp 19)))) none])
    (.cond (.tmp 17)
     (.seq (.steps [
       .act (some 20) (.op (.read (.loadN 2 (.tmp 3)))) none,
       .act (some 21) (.op (.pure (.move (.tmp 2)))) none,
       .act (some 22) (.call (.func 51) [(.tmp 20), (.tmp 21)]) none,
       .act none (.op (.eff (.store 2 (.tmp 6) (.tmp 22)))) none,
       .act (some 7) (.op (.pure (.move (.const (.int .i64 0))))) none,
       .act (some 8) (.op (.pure (.move (.const (w64 0#64))))) none])
     .ret)
     (.seq (.steps [
       .act (some 24) (.op (.pure (.move (.tmp 1)))) none,
       .act (some 25) (.op (.pure (.bin .eql (.tmp 24) (.const (.int .i64 1))))) none,
       .act (some 26) (.op (.pure (.move (.tmp 25)))) none,
       .act (some 27) (.op (.pure (.fieldAddr 1 (.tmp 3)))) (some (26, true)),
       .act (some 28) (.op (.read (.load1 (.tmp 27)))) (some (26, true)),
       .act (some 29) (.op (.pure (.len false (.tmp 28)))) (some (26, true)),
       .act (some 30) (.op (.pure (.bin .eql (.tmp 29) (.const (.int .i64 0))))) (some (26, true)),
       .act (some 31) (.op (.pure (.pick (.tmp 26) (.tmp 30) (.const (.bool false))))) none,
       .act (some 23) (.op (.pure (.move (.tmp 31)))) none])
     (.cond (.tmp 23)
      (.seq (.steps [
        .act (some 32) (.op (.read (.loadN 2 (.tmp 3)))) none,
        .act none (.op (.eff (.store 2 (.tmp 6) (.tmp 32)))) none,
        .act (some 7) (.op (.pure (.move (.const (.int .i64 13))))) none,
        .act (some 8) (.op (.pure (.move (.const (w64 0#64))))) none])
      .ret)
      (.seq (.steps [
        .act (some 34) (.op (.pure (.move (.tmp 1)))) none,
        .act (some 35) (.op (.pure (.bin .eql (.tmp 34) (.const (.int .i64 1))))) none,
        .act (some 33) (.op (.pure (.move (.tmp 35)))) none])
      (.cond (.tmp 33)
       (.seq (.steps [
         .act (some 36) (.op (.read (.loadN 2 (.tmp 3)))) none,
         .act (some 38) (.op (.pure (.fieldAddr 1 (.tmp 3)))) none,
         .act (some 39) (.op (.read (.load1 (.tmp 38)))) none,
         .act (some 40) (.op (.pure (.idxSl 1 (.tmp 39) (.const (.int .i64 0))))) none,
         .act (some 41) (.op (.read (.load1 (.tmp 40)))) none,
         .act (some 37) (.call (.func 52) [(.tmp 36)]) none,
         .again 41 (.load1 (.tmp 40)) none,
         .again 39 (.load1 (.tmp 38)) none,
         .act none (.op (.eff (.store 2 (.tmp 6) (.tmp 37)))) none,
         .act (some 7) (.op (.pure (.move (.const (.int .i64 0))))) none,
         .act (some 8) (.op (.pure (.move (.tmp 41)))) none,
         .again 41 (.load1 (.tmp 40)) none,
         .again 39 (.load1 (.tmp 38)) none])
       .ret)
       .skip)))))))))
  (.seq (.steps [
    .act (some 42) (.op (.read (.loadN 2 (.tmp 3)))) none,
    .act none (.op (.eff (.store 2 (.tmp 6) (.tmp 42)))) none,
    .act (some 7) (.op (.pure (.move (.const (.int .i64 2))))) none,
    .act (some 8) (.op (.pure (.move (.const (w64 0#64))))) none])
  .ret))) }
theorem c27 : compFn Try.prog (mkPlan Try.prog) [] false 27 = some L27 := by kernel_rfl
/-- sluiceway/hist.New -/
def L28 : LFun := { n := 4, pop := false, res := [.tmp 0], code :=
  (.seq (.steps [
    .act (some 0) (.op (.pure (.move (.const (.pointer none))))) none])
  (.seq (.steps [
    .act (some 1) (.op (.new (.makeMap))) none,
    .act (some 2) (.op (.pure (.build [(.slice none 0 0), (.map none), (.int .i64 0)] [(1, 1, (.tmp 1))]))) none,
    .act (some 3) (.op (.new (.box (.tmp 2)))) none,
    .act (some 0) (.op (.pure (.move (.tmp 3)))) none])
  .ret)) }
theorem c28 : compFn Try.prog (mkPlan Try.prog) [] false 28 = some L28 := by kernel_rfl
/-- (*sluiceway/hist.Log).Begin -/
def L29 : LFun := { n := 69, pop := false, res := [.tmp 8, .tmp 9], code :=
  (.seq (.steps [
    .act (some 8) (.op (.pure (.move (.const (.int .i64 0))))) none,
    .act (some 9) (.op (.pure (.move (.const (.int .i64 0))))) none])
  (.seq (.steps [
    .act (some 14) (.op (.pure (.move (.tmp 0)))) none,
    .act (some 15) (.op (.pure (.move (.tmp 1)))) none,
    .act (some 16) (.call (.func 53) [(.tmp 14), (.tmp 15)]) none,
    .act (some 13) (.op (.pure (.move (.tmp 16)))) none,
    .act (some 17) (.op (.pure (.extract (.tmp 13) 0))) none,
    .act (some 18) (.op (.pure (.extract (.tmp 13) 1))) none,
    .act (some 10) (.op (.pure (.move (.tmp 17)))) none,
    .act (some 11) (.op (.pure (.move (.tmp 18)))) none])
  (.seq (.block 0 (.seq (.steps [
     .act (some 20) (.op (.pure (.move (.tmp 0)))) none,
     .act (some 21) (.call (.func 54) [(.tmp 20)]) none,
     .act (some 19) (.op (.pure (.move (.tmp 21)))) none])
   (.cond (.tmp 19)
    (.seq (.steps [
      .act (some 8) (.op (.pure (.move (.const (.int .i64 0))))) none,
      .act (some 9) (.op (.pure (.move (.const (.int .i64 1))))) none])
    .ret)
    (.seq (.steps [
      .act (some 23) (.op (.pure (.move (.tmp 1)))) none,
      .act (some 24) (.op (.pure (.bin .lss (.tmp 23) (.const (.int .i64 0))))) none,
      .act (some 25) (.op (.pure (.move (.tmp 24)))) none,
      .act (some 26) (.op (.pure (.move (.tmp 1)))) (some (25, false)),
      .act (some 27) (.op (.pure (.bin .geq (.tmp 26) (.const (.int .i64 64))))) (some (25, false)),
      .act (some 28) (.op (.pure (.pick (.tmp 25) (.const (.bool true)) (.tmp 27)))) none,
      .act (some 22) (.op (.pure (.move (.tmp 28)))) none])
    (.cond (.tmp 22)
     (.seq (.steps [
       .act (some 8) (.op (.pure (.move (.const (.int .i64 0))))) none,
       .act (some 9) (.op (.pure (.move (.const (.int .i64 2))))) none])
     .ret)
     (.seq (.steps [
       .act (some 30) (.op (.pure (.move (.tmp 11)))) none,
       .act (some 29) (.op (.pure (.move (.tmp 30)))) none])
     (.cond (.tmp 29)
      (.seq (.steps [
        .act (some 8) (.op (.pure (.move (.const (.int .i64 0))))) none,
        .act (some 9) (.op (.pure (.move (.const (.int .i64 16))))) none])
      .ret)
      (.seq (.steps [
        .act (some 32) (.op (.pure (.move (.tmp 0)))) none,
        .act (some 33) (.op (.pure (.nilCheck (.tmp 32)))) none,
        .act (some 34) (.op (.pure (.fieldAddr 0 (.tmp 33)))) none,
        .act (some 35) (.op (.read (.load1 (.tmp 34)))) none,
        .act (some 36) (.op (.pure (.len false (.tmp 35)))) none,
        .act (some 37) (.op (.pure (.bin .geq (.tmp 36) (.const (.int .i64 1024))))) none,
        .act (some 31) (.op (.pure (.move (.tmp 37)))) none])
      (.cond (.tmp 31)
       (.seq (.steps [
         .act (some 8) (.op (.pure (.move (.const (.int .i64 0))))) none,
         .act (some 9) (.op (.pure (.move (.const (.int .i64 15))))) none])
       .ret)
       .skip)))))))))
  (.seq (.steps [
    .act (some 38) (.op (.pure (.move (.tmp 0)))) none,
    .act (some 39) (.op (.pure (.nilCheck (.tmp 38)))) none,
    .act (some 40) (.op (.pure (.fieldAddr 0 (.tmp 39)))) none,
    .act (some 41) (.op (.read (.load1 (.tmp 40)))) none,
    .act (some 42) (.op (.pure (.len false (.tmp 41)))) none,
    .act (some 12) (.op (.pure (.move (.tmp 42)))) none])
  (.seq (.steps [
    .act (some 43) (.op (.pure (.move (.tmp 0)))) none,
    .act (some 44) (.op (.pure (.move (.tmp 0)))) none,
    .act (some 45) (.op (.pure (.nilCheck (.tmp 44)))) none,
    .act (some 46) (.op (.pure (.fieldAddr 0 (.tmp 45)))) none,
    .act (some 47) (.op (.read (.load1 (.tmp 46)))) none,
    .act (some 48) (.op (.pure (.move (.tmp 1)))) none,
    .act (some 49) (.op (.pure (.move (.tmp 2)))) none,
    .act (some 50) (.op (.pure (.move (.tmp 3)))) none,
    .act (some 51) (.op (.pure (.move (.tmp 0)))) none,
    .act (some 52) (.op (.pure (.nilCheck (.tmp 51)))) none,
    .act (some 53) (.op (.pure (.fieldAddr 2 (.tmp 52)))) none,
    .act (some 54) (.op (.read (.load1 (.tmp 53)))) none,
    .act (some 55) (.op (.pure (.build [(.int .i64 0), (.int .i64 0), (w64 0#64), (.int .i64 0), (.int .i64 0), (.bool false), (.int .i64 0), (w64 0#64)] [(0, 1, (.tmp 48)), (1, 1, (.tmp 49)), (2, 1, (.tmp 50)), (3, 1, (.tmp 54))]))) none,
    .act (some 56) (.op (.new (.mkSlice 8 1 [(.int .i64 0), (.int .i64 0), (w64 0#64), (.int .i64 0), (.int .i64 0), (.bool false), (.int .i64 0), (w64 0#64)] [(0, 8, (.tmp 55))]))) none,
    .act (some 57) (.op (.eff (.append 8 64 (.tmp 47) (.tmp 56)))) none,
    .act (some 58) (.op (.pure (.nilCheck (.tmp 43)))) none,
    .act (some 59) (.op (.pure (.fieldAddr 0 (.tmp 58)))) none,
    .act none (.op (.eff (.store 1 (.tmp 59) (.tmp 57)))) none])
  (.seq (.steps [
    .act (some 60) (.op (.pure (.move (.tmp 0)))) none,
    .act (some 61) (.op (.pure (.nilCheck (.tmp 60)))) none,
    .act (some 62) (.op (.pure (.fieldAddr 1 (.tmp 61)))) none,
    .act (some 63) (.op (.read (.load1 (.tmp 62)))) none,
    .act (some 64) (.op (.pure (.move (.tmp 1)))) none,
    .act (some 65) (.op (.pure (.move (.tmp 12)))) none,
    .act none (.op (.eff (.mapUpdate false (.tmp 63) (.tmp 64) (.tmp 65)))) none])
  (.seq (.steps [
    .act (some 66) (.op (.pure (.move (.tmp 0)))) none,
    .act (some 67) (.call (.func 55) [(.tmp 66)]) none])
  (.seq (.steps [
    .act (some 68) (.op (.pure (.move (.tmp 12)))) none,
    .act (some 8) (.op (.pure (.move (.tmp 68)))) none,
    .act (some 9) (.op (.pure (.move (.const (.int .i64 0))))) none])
  .ret)))))))) }
theorem c29 : compFn Try.prog (mkPlan Try.prog) [] false 29 = some L29 := by kernel_rfl
/-- (*sluiceway/hist.Log).End -/
def L30 : LFun := { n := 68, pop := false, res := [.tmp 8], code :=
  (.seq (.steps [
    .act (some 8) (.op (.pure (.move (.const (.int .i64 0))))) none])
  (.seq (.block 0 (.seq (.steps [
     .act (some 11) (.op (.pure (.move (.tmp 0)))) none,
     .act (some 12) (.call (.func 54) [(.tmp 11)]) none,
     .act (some 10) (.op (.pure (.move (.tmp 12)))) none])
   (.cond (.tmp 10)
    (.seq (.steps [
      .act (some 8) (.op (.pure (.move (.const (.int .i64 1))))) none])
    .ret)
    (.seq (.steps [
      .act (some 14) (.op (.pure (.move (.tmp 1)))) none,
      .act (some 15) (.op (.pure (.bin .lss (.tmp 14) (.const (.int .i64 0))))) none,
      .act (some 16) (.op (.pure (.move (.tmp 15)))) none,
      .act (some 17) (.op (.pure (.move (.tmp 1)))) (some (16, false)),
      .act (some 18) (.op (.pure (.move (.tmp 0)))) (some (16, false)),
      .act (some 19) (.op (.pure (.nilCheck (.tmp 18)))) (some (16, false)),
      .act (some 20) (.op (.pure (.fieldAddr 0 (.tmp 19)))) (some (16, false)),
      .act (some 21) (.op (.read (.load1 (.tmp 20)))) (some (16, false)),
      .act (some 22) (.op (.pure (.len false (.tmp 21)))) (some (16, false)),
      .act (some 23) (.op (.pure (.bin .geq (.tmp 17) (.tmp 22)))) (some (16, false)),
      .act (some 24) (.op (.pure (.pick (.tmp 16) (.const (.bool true)) (.tmp 23)))) none,
      .act (some 13) (.op (.pure (.move (.tmp 24)))) none])
    (.cond (.tmp 13)
     (.seq (.steps [
       .act (some 8) (.op (.pure (.move (.const (.int .i64 13))))) none])
     .ret)
     (.seq (.steps [
       .act (some 26) (.op (.pure (.move (.tmp 0)))) none,
       .act (some 27) (.op (.pure (.nilCheck (.tmp 26)))) none,
       .act (some 28) (.op (.pure (.fieldAddr 0 (.tmp 27)))) none,
       .act (some 29) (.op (.read (.load1 (.tmp 28)))) none,
       .act (some 30) (.op (.pure (.move (.tmp 1)))) none,
       .act (some 31) (.op (.pure (.idxSl 8 (.tmp 29) (.tmp 30)))) none,
       .act (some 32) (.op (.pure (.fieldAddr 5 (.tmp 31)))) none,
       .act (some 33) (.op (.read (.load1 (.tmp 32)))) none,
       .act (some 25) (.op (.pure (.move (.tmp 33)))) none])
     (.cond (.tmp 25)
      (.seq (.steps [
        .act (some 8) (.op (.pure (.move (.const (.int .i64 16))))) none])
      .ret)
      .skip)))))))
  (.seq (.steps [
    .act (some 34) (.op (.pure (.move (.tmp 0)))) none,
    .act (some 35) (.op (.pure (.nilCheck (.tmp 34)))) none,
    .act (some 36) (.op (.pure (.fieldAddr 0 (.tmp 35)))) none,
    .act (some 37) (.op (.read (.load1 (.tmp 36)))) none,
    .act (some 38) (.op (.pure (.move (.tmp 1)))) none,
    .act (some 39) (.op (.pure (.idxSl 8 (.tmp 37) (.tmp 38)))) none,
    .act (some 9) (.op (.pure (.move (.tmp 39)))) none])
  (.seq (.steps [
    .act (some 40) (.op (.pure (.move (.tmp 9)))) none,
    .act (some 41) (.op (.pure (.move (.tmp 9)))) none,
    .act (some 42) (.op (.pure (.move (.tmp 9)))) none,
    .act (some 43) (.op (.pure (.move (.tmp 9)))) none,
    .act (some 44) (.op (.pure (.move (.tmp 0)))) none,
    .act (some 45) (.op (.pure (.nilCheck (.tmp 44)))) none,
    .act (some 46) (.op (.pure (.fieldAddr 2 (.tmp 45)))) none,
    .act (some 47) (.op (.read (.load1 (.tmp 46)))) none,
    .act (some 48) (.op (.pure (.move (.tmp 2)))) none,
    .act (some 49) (.op (.pure (.move (.tmp 3)))) none,
    .act (some 50) (.op (.pure (.nilCheck (.tmp 40)))) none,
    .act (some 51) (.op (.pure (.fieldAddr 5 (.tmp 50)))) none,
    .act none (.op (.eff (.store 1 (.tmp 51) (.const (.bool true))))) none,
    .act (some 52) (.op (.pure (.nilCheck (.tmp 41)))) none,
    .act (some 53) (.op (.pure (.fieldAddr 4 (.tmp 52)))) none,
    .act none (.op (.eff (.store 1 (.tmp 53) (.tmp 47)))) none,
    .act (some 54) (.op (.pure (.nilCheck (.tmp 42)))) none,
    .act (some 55) (.op (.pure (.fieldAddr 6 (.tmp 54)))) none,
    .act none (.op (.eff (.store 1 (.tmp 55) (.tmp 48)))) none,
    .act (some 56) (.op (.pure (.nilCheck (.tmp 43)))) none,
    .act (some 57) (.op (.pure (.fieldAddr 7 (.tmp 56)))) none,
    .act none (.op (.eff (.store 1 (.tmp 57) (.tmp 49)))) none])
  (.seq (.steps [
    .act (some 58) (.op (.pure (.move (.tmp 0)))) none,
    .act (some 59) (.op (.pure (.nilCheck (.tmp 58)))) none,
    .act (some 60) (.op (.pure (.fieldAddr 1 (.tmp 59)))) none,
    .act (some 61) (.op (.read (.load1 (.tmp 60)))) none,
    .act (some 62) (.op (.pure (.move (.tmp 9)))) none,
    .act (some 63) (.op (.pure (.nilCheck (.tmp 62)))) none,
    .act (some 64) (.op (.pure (.fieldAddr 0 (.tmp 63)))) none,
    .act (some 65) (.op (.read (.load1 (.tmp 64)))) none,
    .act none (.op (.eff (.delete false (.tmp 61) (.tmp 65)))) none])
  (.seq (.steps [
    .act (some 66) (.op (.pure (.move (.tmp 0)))) none,
    .act (some 67) (.call (.func 55) [(.tmp 66)]) none])
  (.seq (.steps [
    .act (some 8) (.op (.pure (.move (.const (.int .i64 0))))) none])
  .ret))))))) }
theorem c30 : compFn Try.prog (mkPlan Try.prog) [] false 30 = some L30 := by kernel_rfl
/-- sluiceway/lin.Fifo -/
def L31 : LFun := { n := 17, pop := false, res := [.tmp 6, .tmp 7], code :=
  (.seq (.steps [
    .act (some 6) (.op (.pure (.move (.const (.slice none 0 0))))) none,
    .act (some 7) (.op (.pure (.move (.const (.bool false))))) none])
  (.seq (.steps [
    .act (some 8) (.op (.pure (.move (.tmp 0)))) none,
    .act (some 9) (.op (.pure (.move (.tmp 1)))) none,
    .act (some 10) (.op (.pure (.build [(.int .i64 0), (.slice none 0 0)] [(0, 1, (.tmp 9))]))) none,
    .act (some 11) (.op (.pure (.move (.tmp 0)))) none,
    .act (some 12) (.op (.pure (.move (.tmp 2)))) none,
    .act (some 13) (.call (.func 57) [(.tmp 11), (.tmp 12)]) none,
    .act (some 14) (.call (.func 56) [(.tmp 8), (.tmp 10), (.tmp 13), (.func 58)]) none,
    .act (some 15) (.op (.pure (.extract (.tmp 14) 0))) none,
    .act (some 16) (.op (.pure (.extract (.tmp 14) 1))) none,
    .act (some 6) (.op (.pure (.move (.tmp 15)))) none,
    .act (some 7) (.op (.pure (.move (.tmp 16)))) none])
  .ret)) }
theorem c31 : compFn Try.prog (mkPlan Try.prog) [] false 31 = some L31 := by kernel_rfl
/-- (*sluiceway/hist.Log).Calls -/
def L32 : LFun := { n := 10, pop := false, res := [.tmp 2], code :=
  (.seq (.steps [
    .act (some 2) (.op (.pure (.move (.const (.slice none 0 0))))) none])
  (.seq (.seq (.steps [
    .act (some 3) (.op (.pure (.move (.tmp 0)))) none,
    .act (some 4) (.call (.func 54) [(.tmp 3)]) none])
  (.cond (.tmp 4)
   (.seq (.steps [
     .act (some 2) (.op (.pure (.move (.const (.slice none 0 0))))) none])
   .ret)
   .skip))
  (.seq (.steps [
    .act (some 5) (.op (.pure (.move (.tmp 0)))) none,
    .act (some 6) (.op (.pure (.nilCheck (.tmp 5)))) none,
    .act (some 7) (.op (.pure (.fieldAddr 0 (.tmp 6)))) none,
    .act (some 8) (.op (.read (.load1 (.tmp 7)))) none,
    .act (some 9) (.call (.func 59) [(.tmp 8)]) none,
    .act (some 2) (.op (.pure (.move (.tmp 9)))) none])
  .ret))) }
theorem c32 : compFn Try.prog (mkPlan Try.prog) [] false 32 = some L32 := by kernel_rfl
/-- (*sluiceway/mem.Mem).Len -/
def L33 : LFun := { n := 10, pop := true, res := [.tmp 2], code :=
  (.seq (.steps [
    .act (some 2) (.op (.pure (.move (.const (.int .i64 0))))) none])
  (.seq (.seq (.steps [
    .act (some 3) (.op (.pure (.move (.tmp 0)))) none,
    .act (some 4) (.op (.pure (.eqNil .p false (.tmp 3) (.const (.pointer none))))) none])
  (.cond (.tmp 4)
   (.seq (.steps [
     .act (some 2) (.op (.pure (.move (.const (.int .i64 0))))) none])
   .ret)
   .skip))
  (.seq (.steps [
    .act (some 5) (.op (.pure (.move (.tmp 0)))) none,
    .act (some 6) (.op (.pure (.nilCheck (.tmp 5)))) none,
    .act (some 7) (.op (.pure (.fieldAddr 0 (.tmp 6)))) none,
    .act (some 8) (.op (.read (.load1 (.tmp 7)))) none,
    .act (some 9) (.op (.pure (.len false (.tmp 8)))) none,
    .act (some 2) (.op (.pure (.move (.tmp 9)))) none])
  .ret))) }
theorem c33 : compFn Try.prog (mkPlan Try.prog) [] true 33 = some L33 := by kernel_rfl
/-- (*sluiceway/mem.Mem).Store -/
def L34 : LFun := { n := 10, pop := true, res := [], code :=
  (.seq (.steps [
    .act (some 5) (.op (.new (.box (.tmp 2)))) none])
  (.steps [
    .act (some 6) (.op (.pure (.move (.tmp 0)))) none,
    .act (some 7) (.op (.pure (.move (.tmp 1)))) none,
    .act (some 8) (.op (.pure (.mkFunc 61 [] [(.tmp 5)]))) none,
    .act (some 9) (.call (.func 60) [(.tmp 6), (.const (.int .i64 1)), (.tmp 7), (.tmp 8)]) none])) }
theorem c34 : compFn Try.prog (mkPlan Try.prog) [] true 34 = some L34 := by kernel_rfl
/-- (sluiceway/vy.Ring).cell -/
def L35 : LFun := { n := 16, pop := true, res := [.tmp 4], code :=
  (.seq (.steps [
    .act (some 2) (.op (.new (.box (.tmp 0)))) none,
    .act (some 4) (.op (.pure (.move (.const (.int .i64 0))))) none])
  (.seq (.steps [
    .act (some 5) (.op (.pure (.fieldAddr 0 (.tmp 2)))) none,
    .act (some 6) (.op (.read (.load1 (.tmp 5)))) none,
    .act (some 7) (.op (.pure (.bin .add (.tmp 6) (.const (.int .i64 2))))) none,
    .act (some 8) (.op (.pure (.move (.tmp 1)))) none,
    .act (some 9) (.op (.pure (.fieldAddr 1 (.tmp 2)))) none,
    .act (some 10) (.op (.read (.load1 (.tmp 9)))) none,
    .act (some 11) (.op (.pure (.conv .u64 (.tmp 10)))) none,
    .act (some 12) (.call (.func 62) [(.tmp 8), (.tmp 11)]) none,
    .act (some 13) (.op (.pure (.conv .i64 (.tmp 12)))) none,
    .act (some 14) (.op (.pure (.bin .mul (.const (.int .i64 2)) (.tmp 13)))) none,
    .act (some 15) (.op (.pure (.bin .add (.tmp 7) (.tmp 14)))) none,
    .act (some 4) (.op (.pure (.move (.tmp 15)))) none,
    .again 6 (.load1 (.tmp 5)) none])
  .ret)) }
theorem c35 : compFn Try.prog (mkPlan Try.prog) [] true 35 = some L35 := by kernel_rfl
/-- sluiceway/vy.begin -/
def L36 : LFun := { n := 19, pop := false, res := [.tmp 6], code :=
  (.seq (.steps [
    .act (some 3) (.op (.new (.box (.tmp 0)))) none,
    .act (some 6) (.op (.pure (.move (.const (.pointer none))))) none])
  (.seq (.steps [
    .act (some 8) (.op (.read (.loadN 2 (.tmp 3)))) none,
    .act (some 9) (.op (.pure (.move (.tmp 1)))) none,
    .act (some 10) (.op (.pure (.move (.tmp 2)))) none,
    .act (some 11) (.op (.pure (.build [(.bool false), (.int .i64 0), (.int .i64 0), (.bool false), (w64 0#64), (.int .i64 0), (w64 0#64), (.int .i64 0)] [(0, 1, (.const (.bool true))), (1, 2, (.tmp 8)), (3, 1, (.tmp 9)), (4, 1, (.tmp 10))]))) none,
    .act (some 12) (.op (.new (.box (.tmp 11)))) none,
    .act (some 7) (.op (.pure (.move (.tmp 12)))) none])
  (.seq (.seq (.steps [
    .act (some 13) (.op (.read (.loadN 2 (.tmp 3)))) none,
    .act (some 14) (.call (.func 21) [(.tmp 13)]) none,
    .act (some 15) (.op (.pure (.not (.tmp 14)))) none])
  (.cond (.tmp 15)
   (.steps [
     .act (some 16) (.op (.pure (.move (.tmp 7)))) none,
     .act (some 17) (.call (.func 63) [(.tmp 16), (.const (.int .i64 2))]) none])
   .skip))
  (.seq (.steps [
    .act (some 18) (.op (.pure (.move (.tmp 7)))) none,
    .act (some 6) (.op (.pure (.move (.tmp 18)))) none])
  .ret)))) }
theorem c36 : compFn Try.prog (mkPlan Try.prog) [] false 36 = some L36 := by kernel_rfl
/-- (*sluiceway/vy.Op).look -/
def L37 : LFun := { n := 14, pop := true, res := [], code :=
  (.seq (.steps [
    .act (some 4) (.op (.pure (.move (.tmp 0)))) none,
    .act (some 5) (.op (.pure (.move (.tmp 1)))) none,
    .act (some 6) (.op (.pure (.move (.tmp 0)))) none,
    .act (some 7) (.call (.func 65) [(.tmp 6)]) none,
    .act (some 8) (.call (.func 64) [(.tmp 5), (.tmp 7)]) none,
    .act (some 9) (.op (.pure (.nilCheck (.tmp 4)))) none,
    .act (some 10) (.op (.pure (.fieldAddr 6 (.tmp 9)))) none,
    .act none (.op (.eff (.store 1 (.tmp 10) (.tmp 8)))) none])
  (.steps [
    .act (some 11) (.op (.pure (.move (.tmp 0)))) none,
    .act (some 12) (.op (.pure (.nilCheck (.tmp 11)))) none,
    .act (some 13) (.op (.pure (.fieldAddr 5 (.tmp 12)))) none,
    .act none (.op (.eff (.store 1 (.tmp 13) (.const (.int .i64 1))))) none])) }
theorem c37 : compFn Try.prog (mkPlan Try.prog) [] true 37 = some L37 := by kernel_rfl
/-- (*sluiceway/vy.Op).ask -/
def L38 : LFun := { n := 49, pop := true, res := [], code :=
  (.seq (.steps [
    .act (some 7) (.op (.pure (.move (.tmp 0)))) none,
    .act (some 8) (.op (.pure (.nilCheck (.tmp 7)))) none,
    .act (some 9) (.op (.pure (.fieldAddr 6 (.tmp 8)))) none,
    .act (some 10) (.op (.read (.load1 (.tmp 9)))) none,
    .act (some 4) (.op (.pure (.move (.tmp 10)))) none,
    .act (some 5) (.op (.pure (.move (.const (.int .i64 15))))) none])
  (.seq (.seq (.steps [
    .act (some 11) (.op (.pure (.move (.tmp 0)))) none,
    .act (some 12) (.op (.pure (.nilCheck (.tmp 11)))) none,
    .act (some 13) (.op (.pure (.fieldAddr 3 (.tmp 12)))) none,
    .act (some 14) (.op (.read (.load1 (.tmp 13)))) none])
  (.cond (.tmp 14)
   (.steps [
     .act (some 15) (.op (.pure (.move (.tmp 0)))) none,
     .act (some 16) (.op (.pure (.nilCheck (.tmp 15)))) none,
     .act (some 17) (.op (.pure (.fieldAddr 6 (.tmp 16)))) none,
     .act (some 18) (.op (.read (.load1 (.tmp 17)))) none,
     .act (some 19) (.op (.pure (.bin .add (.tmp 18) (.const (w64 1#64))))) none,
     .act (some 4) (.op (.pure (.move (.tmp 19)))) none,
     .act (some 5) (.op (.pure (.move (.const (.int .i64 13))))) none])
   .skip))
  (.seq (.steps [
    .act (some 20) (.op (.pure (.move (.tmp 1)))) none,
    .act (some 21) (.op (.pure (.move (.tmp 0)))) none,
    .act (some 22) (.op (.pure (.nilCheck (.tmp 21)))) none,
    .act (some 23) (.op (.pure (.fieldAddr 1 (.tmp 22)))) none,
    .act (some 24) (.op (.read (.loadN 2 (.tmp 23)))) none,
    .act (some 25) (.op (.pure (.move (.tmp 0)))) none,
    .act (some 26) (.op (.pure (.nilCheck (.tmp 25)))) none,
    .act (some 27) (.op (.pure (.fieldAddr 6 (.tmp 26)))) none,
    .act (some 28) (.op (.read (.load1 (.tmp 27)))) none,
    .act (some 31) (.op (.pure (.move (.tmp 4)))) none,
    .act (some 29) (.call (.func 35) [(.tmp 24), (.tmp 28)]) none,
    .act (some 30) (.call (.func 64) [(.tmp 20), (.tmp 29)]) none,
    .act (some 32) (.op (.pure (.bin .sub (.tmp 30) (.tmp 31)))) none,
    .act (some 33) (.op (.pure (.conv .i64 (.tmp 32)))) none,
    .act (some 6) (.op (.pure (.move (.tmp 33)))) none])
  (.block 0 (.seq (.steps [
     .act (some 38) (.op (.pure (.move (.tmp 6)))) none,
     .act (some 39) (.op (.pure (.bin .eql (.tmp 38) (.const (.int .i64 0))))) none,
     .act (some 37) (.op (.pure (.move (.tmp 39)))) none])
   (.cond (.tmp 37)
    (.steps [
      .act (some 40) (.op (.pure (.move (.tmp 0)))) none,
      .act (some 41) (.op (.pure (.nilCheck (.tmp 40)))) none,
      .act (some 42) (.op (.pure (.fieldAddr 5 (.tmp 41)))) none,
      .act none (.op (.eff (.store 1 (.tmp 42) (.const (.int .i64 2))))) none])
    (.seq (.steps [
      .act (some 44) (.op (.pure (.move (.tmp 6)))) none,
      .act (some 45) (.op (.pure (.bin .lss (.tmp 44) (.const (.int .i64 0))))) none,
      .act (some 43) (.op (.pure (.move (.tmp 45)))) none])
    (.cond (.tmp 43)
     (.steps [
       .act (some 46) (.op (.pure (.move (.tmp 0)))) none,
       .act (some 47) (.op (.pure (.move (.tmp 5)))) none,
       .act (some 48) (.call (.func 63) [(.tmp 46), (.tmp 47)]) none])
     (.steps [
       .act (some 34) (.op (.pure (.move (.tmp 0)))) none,
       .act (some 35) (.op (.pure (.nilCheck (.tmp 34)))) none,
       .act (some 36) (.op (.pure (.fieldAddr 5 (.tmp 35)))) none,
       .act none (.op (.eff (.store 1 (.tmp 36) (.const (.int .i64 0))))) none]))))))))) }
theorem c38 : compFn Try.prog (mkPlan Try.prog) [] true 38 = some L38 := by kernel_rfl
/-- (*sluiceway/vy.Op).claim -/
def L39 : LFun := { n := 23, pop := true, res := [], code :=
  (.seq (.steps [
    .act (some 4) (.op (.pure (.move (.tmp 0)))) none,
    .act (some 5) (.op (.pure (.nilCheck (.tmp 4)))) none,
    .act (some 6) (.op (.pure (.fieldAddr 5 (.tmp 5)))) none,
    .act none (.op (.eff (.store 1 (.tmp 6) (.const (.int .i64 0))))) none])
  (.seq (.steps [
    .act (some 7) (.op (.pure (.move (.tmp 1)))) none,
    .act (some 8) (.op (.pure (.move (.tmp 0)))) none,
    .act (some 10) (.op (.pure (.move (.tmp 0)))) none,
    .act (some 11) (.op (.pure (.nilCheck (.tmp 10)))) none,
    .act (some 12) (.op (.pure (.fieldAddr 6 (.tmp 11)))) none,
    .act (some 13) (.op (.read (.load1 (.tmp 12)))) none,
    .act (some 14) (.op (.pure (.move (.tmp 0)))) none,
    .act (some 15) (.op (.pure (.nilCheck (.tmp 14)))) none,
    .act (some 16) (.op (.pure (.fieldAddr 6 (.tmp 15)))) none,
    .act (some 17) (.op (.read (.load1 (.tmp 16)))) none,
    .act (some 18) (.op (.pure (.bin .add (.tmp 17) (.const (w64 1#64))))) none,
    .act (some 9) (.call (.func 65) [(.tmp 8)]) none,
    .again 17 (.load1 (.tmp 16)) none,
    .again 13 (.load1 (.tmp 12)) none,
    .act (some 19) (.call (.func 66) [(.tmp 7), (.tmp 9), (.tmp 13), (.tmp 18)]) none])
  (.cond (.tmp 19)
   (.steps [
     .act (some 20) (.op (.pure (.move (.tmp 0)))) none,
     .act (some 21) (.op (.pure (.nilCheck (.tmp 20)))) none,
     .act (some 22) (.op (.pure (.fieldAddr 5 (.tmp 21)))) none,
     .act none (.op (.eff (.store 1 (.tmp 22) (.const (.int .i64 3))))) none])
   .skip))) }
theorem c39 : compFn Try.prog (mkPlan Try.prog) [] true 39 = some L39 := by kernel_rfl
/-- (*sluiceway/vy.Op).move -/
def L40 : LFun := { n := 35, pop := true, res := [], code :=
  (.seq (.steps [
    .act (some 5) (.op (.pure (.move (.tmp 0)))) none,
    .act (some 6) (.op (.pure (.nilCheck (.tmp 5)))) none,
    .act (some 7) (.op (.pure (.fieldAddr 1 (.tmp 6)))) none,
    .act (some 8) (.op (.read (.loadN 2 (.tmp 7)))) none,
    .act (some 9) (.op (.pure (.move (.tmp 0)))) none,
    .act (some 10) (.op (.pure (.nilCheck (.tmp 9)))) none,
    .act (some 11) (.op (.pure (.fieldAddr 6 (.tmp 10)))) none,
    .act (some 12) (.op (.read (.load1 (.tmp 11)))) none,
    .act (some 13) (.call (.func 35) [(.tmp 8), (.tmp 12)]) none,
    .act (some 14) (.op (.pure (.bin .add (.tmp 13) (.const (.int .i64 1))))) none,
    .act (some 4) (.op (.pure (.move (.tmp 14)))) none])
  (.seq (.seq (.steps [
    .act (some 15) (.op (.pure (.move (.tmp 0)))) none,
    .act (some 16) (.op (.pure (.nilCheck (.tmp 15)))) none,
    .act (some 17) (.op (.pure (.fieldAddr 3 (.tmp 16)))) none,
    .act (some 18) (.op (.read (.load1 (.tmp 17)))) none])
  (.cond (.tmp 18)
   (.steps [
     .act (some 19) (.op (.pure (.move (.tmp 0)))) none,
     .act (some 20) (.op (.pure (.move (.tmp 1)))) none,
     .act (some 21) (.op (.pure (.move (.tmp 4)))) none,
     .act (some 22) (.call (.func 64) [(.tmp 20), (.tmp 21)]) none,
     .act (some 23) (.op (.pure (.nilCheck (.tmp 19)))) none,
     .act (some 24) (.op (.pure (.fieldAddr 4 (.tmp 23)))) none,
     .act none (.op (.eff (.store 1 (.tmp 24) (.tmp 22)))) none])
   (.steps [
     .act (some 25) (.op (.pure (.move (.tmp 1)))) none,
     .act (some 26) (.op (.pure (.move (.tmp 4)))) none,
     .act (some 27) (.op (.pure (.move (.tmp 0)))) none,
     .act (some 28) (.op (.pure (.nilCheck (.tmp 27)))) none,
     .act (some 29) (.op (.pure (.fieldAddr 4 (.tmp 28)))) none,
     .act (some 30) (.op (.read (.load1 (.tmp 29)))) none,
     .act (some 31) (.call (.func 34) [(.tmp 25), (.tmp 26), (.tmp 30)]) none])))
  (.steps [
    .act (some 32) (.op (.pure (.move (.tmp 0)))) none,
    .act (some 33) (.op (.pure (.nilCheck (.tmp 32)))) none,
    .act (some 34) (.op (.pure (.fieldAddr 5 (.tmp 33)))) none,
    .act none (.op (.eff (.store 1 (.tmp 34) (.const (.int .i64 4))))) none]))) }
theorem c40 : compFn Try.prog (mkPlan Try.prog) [] true 40 = some L40 := by kernel_rfl
/-- (*sluiceway/vy.Op).free -/
def L41 : LFun := { n := 39, pop := true, res := [], code :=
  (.seq (.steps [
    .act (some 5) (.op (.pure (.move (.tmp 0)))) none,
    .act (some 6) (.op (.pure (.nilCheck (.tmp 5)))) none,
    .act (some 7) (.op (.pure (.fieldAddr 6 (.tmp 6)))) none,
    .act (some 8) (.op (.read (.load1 (.tmp 7)))) none,
    .act (some 9) (.op (.pure (.bin .add (.tmp 8) (.const (w64 1#64))))) none,
    .act (some 4) (.op (.pure (.move (.tmp 9)))) none])
  (.seq (.seq (.steps [
    .act (some 10) (.op (.pure (.move (.tmp 0)))) none,
    .act (some 11) (.op (.pure (.nilCheck (.tmp 10)))) none,
    .act (some 12) (.op (.pure (.fieldAddr 3 (.tmp 11)))) none,
    .act (some 13) (.op (.read (.load1 (.tmp 12)))) none])
  (.cond (.tmp 13)
   (.steps [
     .act (some 14) (.op (.pure (.move (.tmp 0)))) none,
     .act (some 15) (.op (.pure (.nilCheck (.tmp 14)))) none,
     .act (some 16) (.op (.pure (.fieldAddr 6 (.tmp 15)))) none,
     .act (some 17) (.op (.read (.load1 (.tmp 16)))) none,
     .act (some 18) (.op (.pure (.move (.tmp 0)))) none,
     .act (some 19) (.op (.pure (.nilCheck (.tmp 18)))) none,
     .act (some 20) (.op (.pure (.fieldAddr 1 (.tmp 19)))) none,
     .act (some 21) (.op (.pure (.fieldAddr 1 (.tmp 20)))) none,
     .act (some 22) (.op (.read (.load1 (.tmp 21)))) none,
     .act (some 23) (.op (.pure (.conv .u64 (.tmp 22)))) none,
     .act (some 24) (.op (.pure (.bin .add (.tmp 17) (.tmp 23)))) none,
     .act (some 4) (.op (.pure (.move (.tmp 24)))) none])
   .skip))
  (.seq (.steps [
    .act (some 25) (.op (.pure (.move (.tmp 1)))) none,
    .act (some 26) (.op (.pure (.move (.tmp 0)))) none,
    .act (some 27) (.op (.pure (.nilCheck (.tmp 26)))) none,
    .act (some 28) (.op (.pure (.fieldAddr 1 (.tmp 27)))) none,
    .act (some 29) (.op (.read (.loadN 2 (.tmp 28)))) none,
    .act (some 30) (.op (.pure (.move (.tmp 0)))) none,
    .act (some 31) (.op (.pure (.nilCheck (.tmp 30)))) none,
    .act (some 32) (.op (.pure (.fieldAddr 6 (.tmp 31)))) none,
    .act (some 33) (.op (.read (.load1 (.tmp 32)))) none,
    .act (some 35) (.op (.pure (.move (.tmp 4)))) none,
    .act (some 34) (.call (.func 35) [(.tmp 29), (.tmp 33)]) none,
    .act (some 36) (.call (.func 34) [(.tmp 25), (.tmp 34), (.tmp 35)]) none])
  (.steps [
    .act (some 37) (.op (.pure (.move (.tmp 0)))) none,
    .act (some 38) (.call (.func 63) [(.tmp 37), (.const (.int .i64 0))]) none])))) }
theorem c41 : compFn Try.prog (mkPlan Try.prog) [] true 41 = some L41 := by kernel_rfl
/-- (*sluiceway/vy.Op).none -/
def L42 : LFun := { n := 12, pop := true, res := [.tmp 2], code :=
  (.seq (.steps [
    .act (some 2) (.op (.pure (.move (.const (.bool false))))) none])
  (.seq (.steps [
    .act (some 3) (.op (.pure (.move (.tmp 0)))) none,
    .act (some 4) (.op (.pure (.eqNil .p false (.tmp 3) (.const (.pointer none))))) none,
    .act (some 5) (.op (.pure (.move (.tmp 4)))) none,
    .act (some 6) (.op (.pure (.move (.tmp 0)))) (some (5, false)),
    .act (some 7) (.op (.pure (.nilCheck (.tmp 6)))) (some (5, false)),
    .act (some 8) (.op (.pure (.fieldAddr 0 (.tmp 7)))) (some (5, false)),
    .act (some 9) (.op (.read (.load1 (.tmp 8)))) (some (5, false)),
    .act (some 10) (.op (.pure (.not (.tmp 9)))) (some (5, false)),
    .act (some 11) (.op (.pure (.pick (.tmp 5) (.const (.bool true)) (.tmp 10)))) none,
    .act (some 2) (.op (.pure (.move (.tmp 11)))) none])
  .ret)) }
theorem c42 : compFn Try.prog (mkPlan Try.prog) [] true 42 = some L42 := by kernel_rfl
/-- (*sluiceway/mem.Mem).none -/
def L43 : LFun := { n := 13, pop := true, res := [.tmp 2], code :=
  (.seq (.steps [
    .act (some 2) (.op (.pure (.move (.const (.bool false))))) none])
  (.seq (.steps [
    .act (some 3) (.op (.pure (.move (.tmp 0)))) none,
    .act (some 4) (.op (.pure (.eqNil .p false (.tmp 3) (.const (.pointer none))))) none,
    .act (some 5) (.op (.pure (.move (.tmp 4)))) none,
    .act (some 6) (.op (.pure (.move (.tmp 0)))) (some (5, false)),
    .act (some 7) (.op (.pure (.nilCheck (.tmp 6)))) (some (5, false)),
    .act (some 8) (.op (.pure (.fieldAddr 0 (.tmp 7)))) (some (5, false)),
    .act (some 9) (.op (.read (.load1 (.tmp 8)))) (some (5, false)),
    .act (some 10) (.op (.pure (.len false (.tmp 9)))) (some (5, false)),
    .act (some 11) (.op (.pure (.bin .eql (.tmp 10) (.const (.int .i64 0))))) (some (5, false)),
    .act (some 12) (.op (.pure (.pick (.tmp 5) (.const (.bool true)) (.tmp 11)))) none,
    .act (some 2) (.op (.pure (.move (.tmp 12)))) none])
  .ret)) }
theorem c43 : compFn Try.prog (mkPlan Try.prog) [] true 43 = some L43 := by kernel_rfl
/-- (*sluiceway/mem.Mem).Count -/
def L44 : LFun := { n := 21, pop := true, res := [.tmp 4], code :=
  (.seq (.steps [
    .act (some 4) (.op (.pure (.move (.const (.int .i64 0))))) none])
  (.seq (.seq (.steps [
    .act (some 5) (.op (.pure (.move (.tmp 0)))) none,
    .act (some 6) (.call (.func 43) [(.tmp 5)]) none,
    .act (some 7) (.op (.pure (.move (.tmp 6)))) none,
    .act (some 8) (.op (.pure (.move (.tmp 1)))) (some (7, false)),
    .act (some 9) (.op (.pure (.bin .lss (.tmp 8) (.const (.int .i64 0))))) (some (7, false)),
    .act (some 10) (.op (.pure (.pick (.tmp 7) (.const (.bool true)) (.tmp 9)))) none,
    .act (some 11) (.op (.pure (.move (.tmp 10)))) none,
    .act (some 12) (.op (.pure (.move (.tmp 1)))) (some (11, false)),
    .act (some 13) (.op (.pure (.bin .geq (.tmp 12) (.const (.int .i64 6))))) (some (11, false)),
    .act (some 14) (.op (.pure (.pick (.tmp 11) (.const (.bool true)) (.tmp 13)))) none])
  (.cond (.tmp 14)
   (.seq (.steps [
     .act (some 4) (.op (.pure (.move (.const (.int .i64 0))))) none])
   .ret)
   .skip))
  (.seq (.steps [
    .act (some 15) (.op (.pure (.move (.tmp 0)))) none,
    .act (some 16) (.op (.pure (.move (.tmp 1)))) none,
    .act (some 17) (.op (.pure (.nilCheck (.tmp 15)))) none,
    .act (some 18) (.op (.pure (.fieldAddr 2 (.tmp 17)))) none,
    .act (some 19) (.op (.pure (.idxArr 6 1 (.tmp 18) (.tmp 16)))) none,
    .act (some 20) (.op (.read (.load1 (.tmp 19)))) none,
    .act (some 4) (.op (.pure (.move (.tmp 20)))) none])
  .ret))) }
theorem c44 : compFn Try.prog (mkPlan Try.prog) [] true 44 = some L44 := by kernel_rfl
/-- sluiceway/word.Power -/
def L45 : LFun := { n := 6, pop := true, res := [.tmp 2], code :=
  (.seq (.steps [
    .act (some 2) (.op (.pure (.move (.const (.bool false))))) none])
  (.seq (.steps [
    .act (some 3) (.op (.pure (.move (.tmp 0)))) none,
    .act (some 4) (.call (.func 67) [(.tmp 3)]) none,
    .act (some 5) (.op (.pure (.bin .eql (.tmp 4) (.const (.int .i64 1))))) none,
    .act (some 2) (.op (.pure (.move (.tmp 5)))) none])
  .ret)) }
theorem c45 : compFn Try.prog (mkPlan Try.prog) [] true 45 = some L45 := by kernel_rfl
/-- (sluiceway/sluicewayref02.Mem).Step -/
def L46 : LFun := { n := 167, pop := false, res := [.loadN 10 4, .tmp 5, .tmp 6], code :=
  (.seq (.steps [
    .act (some 2) (.op (.new (.box (.tmp 0)))) none,
    .act (some 3) (.op (.new (.box (.tmp 1)))) none,
    .act (some 4) (.op (.new (.alloc [(.slice none 0 0), (.slice none 0 0), (.int .i64 0), (.int .i64 0), (.int .i64 0), (.int .i64 0), (.int .i64 0), (.int .i64 0), (.int .i64 0), (.bool false)]))) none,
    .act (some 5) (.op (.pure (.move (.const (w64 0#64))))) none,
    .act (some 6) (.op (.pure (.move (.const (.bool false))))) none])
  (.seq (.seq (.steps [
    .act (some 13) (.op (.pure (.fieldAddr 0 (.tmp 3)))) none,
    .act (some 14) (.op (.read (.load1 (.tmp 13)))) none,
    .act (some 15) (.op (.pure (.bin .lss (.tmp 14) (.const (.int .i64 0))))) none,
    .act (some 16) (.op (.pure (.move (.tmp 15)))) none,
    .act (some 17) (.op (.pure (.fieldAddr 0 (.tmp 3)))) (some (16, false)),
    .act (some 18) (.op (.read (.load1 (.tmp 17)))) (some (16, false)),
    .act (some 19) (.op (.pure (.bin .gtr (.tmp 18) (.const (.int .i64 5))))) (some (16, false)),
    .act (some 20) (.op (.pure (.pick (.tmp 16) (.const (.bool true)) (.tmp 19)))) none])
  (.cond (.tmp 20)
   (.seq (.steps [
     .act (some 21) (.op (.read (.loadN 10 (.tmp 2)))) none,
     .act none (.op (.eff (.store 10 (.tmp 4) (.tmp 21)))) none,
     .act (some 5) (.op (.pure (.move (.const (w64 0#64))))) none,
     .act (some 6) (.op (.pure (.move (.const (.bool false))))) none])
   .ret)
   .skip))
  (.seq (.steps [
    .act (some 22) (.op (.pure (.fieldAddr 0 (.tmp 3)))) none,
    .act (some 23) (.op (.read (.load1 (.tmp 22)))) none,
    .act (some 24) (.op (.pure (.fieldAddr 2 (.tmp 2)))) none,
    .act (some 25) (.op (.pure (.idxArr 6 1 (.tmp 24) (.tmp 23)))) none,
    .act (some 26) (.op (.read (.load1 (.tmp 25)))) none,
    .act (some 27) (.op (.pure (.bin .add (.tmp 26) (.const (.int .i64 1))))) none,
    .act (some 28) (.op (.pure (.fieldAddr 2 (.tmp 2)))) none,
    .act (some 29) (.op (.pure (.idxArr 6 1 (.tmp 28) (.tmp 23)))) none,
    .act none (.op (.eff (.store 1 (.tmp 29) (.tmp 27)))) none])
  (.seq (.steps [
    .act (some 30) (.op (.pure (.fieldAddr 1 (.tmp 3)))) none,
    .act (some 31) (.op (.read (.load1 (.tmp 30)))) none,
    .act (some 7) (.op (.pure (.move (.tmp 31)))) none])
  (.seq (.steps [
    .act (some 32) (.op (.read (.loadN 10 (.tmp 2)))) none,
    .act (some 33) (.op (.pure (.fieldAddr 1 (.tmp 3)))) none,
    .act (some 34) (.op (.read (.load1 (.tmp 33)))) none,
    .act (some 35) (.call (.func 68) [(.tmp 32), (.tmp 34)]) none,
    .act (some 36) (.op (.pure (.move (.tmp 35)))) none,
    .act (some 37) (.op (.pure (.fieldAddr 0 (.tmp 3)))) (some (36, false)),
    .act (some 38) (.op (.read (.load1 (.tmp 37)))) (some (36, false)),
    .act (some 39) (.op (.pure (.bin .eql (.tmp 38) (.const (.int .i64 5))))) (some (36, false)),
    .act (some 40) (.op (.pure (.move (.tmp 39)))) (some (36, false)),
    .act (some 41) (.op (.pure (.fieldAddr 1 (.tmp 3)))) (some (40, true)),
    .act (some 42) (.op (.read (.load1 (.tmp 41)))) (some (40, true)),
    .act (some 43) (.op (.pure (.bin .rem (.tmp 42) (.const (.int .i64 2))))) (some (40, true)),
    .act (some 44) (.op (.pure (.bin .neq (.tmp 43) (.const (.int .i64 0))))) (some (40, true)),
    .act (some 45) (.op (.pure (.pick (.tmp 40) (.tmp 44) (.const (.bool false))))) (some (36, false)),
    .act (some 46) (.op (.pure (.pick (.tmp 36) (.const (.bool true)) (.tmp 45)))) none,
    .act (some 8) (.op (.pure (.move (.tmp 46)))) none])
  (.seq (.seq (.steps [
    .act (some 47) (.op (.pure (.move (.tmp 8)))) none,
    .act (some 48) (.op (.pure (.not (.tmp 47)))) none,
    .act (some 49) (.op (.pure (.move (.tmp 48)))) none,
    .act (some 50) (.op (.pure (.fieldAddr 0 (.tmp 3)))) (some (49, true)),
    .act (some 51) (.op (.read (.load1 (.tmp 50)))) (some (49, true)),
    .act (some 52) (.op (.pure (.bin .eql (.tmp 51) (.const (.int .i64 5))))) (some (49, true)),
    .act (some 53) (.op (.pure (.pick (.tmp 49) (.tmp 52) (.const (.bool false))))) none,
    .act (some 54) (.op (.pure (.move (.tmp 53)))) none,
    .act (some 55) (.op (.read (.loadN 10 (.tmp 2)))) (some (54, true)),
    .act (some 56) (.op (.pure (.fieldAddr 1 (.tmp 3)))) (some (54, true)),
    .act (some 57) (.op (.read (.load1 (.tmp 56)))) (some (54, true)),
    .act (some 58) (.op (.pure (.bin .add (.tmp 57) (.const (.int .i64 1))))) (some (54, true)),
    .act (some 59) (.call (.func 68) [(.tmp 55), (.tmp 58)]) (some (54, true)),
    .act (some 60) (.op (.pure (.pick (.tmp 54) (.tmp 59) (.const (.bool false))))) none])
  (.cond (.tmp 60)
   (.seq (.steps [
     .act (some 8) (.op (.pure (.move (.const (.bool true))))) none])
   (.steps [
     .act (some 61) (.op (.pure (.fieldAddr 1 (.tmp 3)))) none,
     .act (some 62) (.op (.read (.load1 (.tmp 61)))) none,
     .act (some 63) (.op (.pure (.bin .add (.tmp 62) (.const (.int .i64 1))))) none,
     .act (some 7) (.op (.pure (.move (.tmp 63)))) none]))
   .skip))
  (.seq (.seq (.steps [
    .act (some 64) (.op (.pure (.move (.tmp 8)))) none])
  (.cond (.tmp 64)
   (.seq (.seq (.steps [
     .act (some 65) (.op (.pure (.fieldAddr 9 (.tmp 2)))) none,
     .act (some 66) (.op (.read (.load1 (.tmp 65)))) none,
     .act (some 67) (.op (.pure (.not (.tmp 66)))) none])
   (.cond (.tmp 67)
    (.seq (.steps [
      .act (some 68) (.op (.pure (.move (.tmp 7)))) none,
      .act (some 69) (.op (.pure (.fieldAddr 8 (.tmp 2)))) none,
      .act none (.op (.eff (.store 1 (.tmp 69) (.tmp 68)))) none])
    (.steps [
      .act (some 70) (.op (.pure (.fieldAddr 9 (.tmp 2)))) none,
      .act none (.op (.eff (.store 1 (.tmp 70) (.const (.bool true))))) none]))
    .skip))
   (.seq (.steps [
     .act (some 71) (.op (.read (.loadN 10 (.tmp 2)))) none,
     .act none (.op (.eff (.store 10 (.tmp 4) (.tmp 71)))) none,
     .act (some 5) (.op (.pure (.move (.const (w64 0#64))))) none,
     .act (some 6) (.op (.pure (.move (.const (.bool false))))) none])
   .ret))
   .skip))
  (.seq (.steps [
    .act (some 72) (.op (.pure (.fieldAddr 0 (.tmp 2)))) none,
    .act (some 73) (.op (.read (.load1 (.tmp 72)))) none,
    .act (some 74) (.op (.pure (.fieldAddr 1 (.tmp 3)))) none,
    .act (some 75) (.op (.read (.load1 (.tmp 74)))) none,
    .act (some 76) (.op (.pure (.idxSl 1 (.tmp 73) (.tmp 75)))) none,
    .act (some 77) (.op (.read (.load1 (.tmp 76)))) none,
    .act (some 9) (.op (.pure (.move (.tmp 77)))) none])
  (.seq (.steps [
    .act (some 78) (.op (.pure (.move (.tmp 9)))) none,
    .act (some 10) (.op (.pure (.move (.tmp 78)))) none])
  (.seq (.steps [
    .act (some 11) (.op (.pure (.move (.const (w64 0#64))))) none])
  (.seq (.steps [
    .act (some 12) (.op (.pure (.move (.const (.bool false))))) none])
  (.seq (.seq (.steps [
    .act (some 79) (.op (.pure (.fieldAddr 0 (.tmp 3)))) none,
    .act (some 80) (.op (.read (.load1 (.tmp 79)))) none])
  (.block 0 (.seq (.steps [
     .act (some 104) (.op (.pure (.bin .eql (.tmp 80) (.const (.int .i64 0))))) none,
     .act (some 103) (.op (.pure (.move (.tmp 104)))) none])
   (.cond (.tmp 103)
    (.steps [
      .act (some 105) (.op (.pure (.move (.tmp 9)))) none,
      .act (some 11) (.op (.pure (.move (.tmp 105)))) none])
    (.seq (.steps [
      .act (some 107) (.op (.pure (.bin .eql (.tmp 80) (.const (.int .i64 1))))) none,
      .act (some 106) (.op (.pure (.move (.tmp 107)))) none])
    (.cond (.tmp 106)
     (.steps [
       .act (some 108) (.op (.pure (.fieldAddr 2 (.tmp 3)))) none,
       .act (some 109) (.op (.pure (.idxArr 4 1 (.tmp 108) (.const (.int .i64 0))))) none,
       .act (some 110) (.op (.read (.load1 (.tmp 109)))) none,
       .act (some 10) (.op (.pure (.move (.tmp 110)))) none])
     (.seq (.steps [
       .act (some 112) (.op (.pure (.bin .eql (.tmp 80) (.const (.int .i64 2))))) none,
       .act (some 111) (.op (.pure (.move (.tmp 112)))) none])
     (.cond (.tmp 111)
      (.seq (.steps [
        .act (some 113) (.op (.pure (.move (.tmp 9)))) none,
        .act (some 114) (.op (.pure (.fieldAddr 2 (.tmp 3)))) none,
        .act (some 115) (.op (.pure (.idxArr 4 1 (.tmp 114) (.const (.int .i64 0))))) none,
        .act (some 116) (.op (.read (.load1 (.tmp 115)))) none,
        .act (some 117) (.op (.pure (.bin .eql (.tmp 113) (.tmp 116)))) none,
        .act (some 12) (.op (.pure (.move (.tmp 117)))) none])
      (.seq (.steps [
        .act (some 118) (.op (.pure (.move (.tmp 12)))) none])
      (.cond (.tmp 118)
       (.steps [
         .act (some 119) (.op (.pure (.fieldAddr 2 (.tmp 3)))) none,
         .act (some 120) (.op (.pure (.idxArr 4 1 (.tmp 119) (.const (.int .i64 1))))) none,
         .act (some 121) (.op (.read (.load1 (.tmp 120)))) none,
         .act (some 10) (.op (.pure (.move (.tmp 121)))) none])
       .skip)))
      (.seq (.steps [
        .act (some 123) (.op (.pure (.bin .eql (.tmp 80) (.const (.int .i64 3))))) none,
        .act (some 122) (.op (.pure (.move (.tmp 123)))) none])
      (.cond (.tmp 122)
       (.seq (.steps [
         .act (some 124) (.op (.pure (.move (.tmp 9)))) none,
         .act (some 11) (.op (.pure (.move (.tmp 124)))) none])
       (.steps [
         .act (some 125) (.op (.pure (.move (.tmp 9)))) none,
         .act (some 126) (.op (.pure (.fieldAddr 2 (.tmp 3)))) none,
         .act (some 127) (.op (.pure (.idxArr 4 1 (.tmp 126) (.const (.int .i64 0))))) none,
         .act (some 128) (.op (.read (.load1 (.tmp 127)))) none,
         .act (some 129) (.op (.pure (.bin .add (.tmp 125) (.tmp 128)))) none,
         .act (some 10) (.op (.pure (.move (.tmp 129)))) none]))
       (.seq (.steps [
         .act (some 131) (.op (.pure (.bin .eql (.tmp 80) (.const (.int .i64 4))))) none,
         .act (some 130) (.op (.pure (.move (.tmp 131)))) none])
       (.cond (.tmp 130)
        (.seq (.steps [
          .act (some 132) (.op (.pure (.move (.tmp 9)))) none,
          .act (some 11) (.op (.pure (.move (.tmp 132)))) none])
        (.steps [
          .act (some 133) (.op (.pure (.move (.tmp 9)))) none,
          .act (some 134) (.op (.pure (.fieldAddr 2 (.tmp 3)))) none,
          .act (some 135) (.op (.pure (.idxArr 4 1 (.tmp 134) (.const (.int .i64 0))))) none,
          .act (some 136) (.op (.read (.load1 (.tmp 135)))) none,
          .act (some 137) (.op (.pure (.bin .or (.tmp 133) (.tmp 136)))) none,
          .act (some 10) (.op (.pure (.move (.tmp 137)))) none]))
        (.seq (.steps [
          .act (some 81) (.op (.pure (.move (.tmp 9)))) none,
          .act (some 82) (.op (.pure (.fieldAddr 2 (.tmp 3)))) none,
          .act (some 83) (.op (.pure (.idxArr 4 1 (.tmp 82) (.const (.int .i64 0))))) none,
          .act (some 84) (.op (.read (.load1 (.tmp 83)))) none,
          .act (some 85) (.op (.pure (.bin .eql (.tmp 81) (.tmp 84)))) none,
          .act (some 86) (.op (.pure (.move (.tmp 85)))) none,
          .act (some 87) (.op (.pure (.fieldAddr 0 (.tmp 2)))) (some (86, true)),
          .act (some 88) (.op (.read (.load1 (.tmp 87)))) (some (86, true)),
          .act (some 89) (.op (.pure (.fieldAddr 1 (.tmp 3)))) (some (86, true)),
          .act (some 90) (.op (.read (.load1 (.tmp 89)))) (some (86, true)),
          .act (some 91) (.op (.pure (.bin .add (.tmp 90) (.const (.int .i64 1))))) (some (86, true)),
          .act (some 92) (.op (.pure (.idxSl 1 (.tmp 88) (.tmp 91)))) (some (86, true)),
          .act (some 93) (.op (.read (.load1 (.tmp 92)))) (some (86, true)),
          .act (some 94) (.op (.pure (.fieldAddr 2 (.tmp 3)))) (some (86, true)),
          .act (some 95) (.op (.pure (.idxArr 4 1 (.tmp 94) (.const (.int .i64 1))))) (some (86, true)),
          .act (some 96) (.op (.read (.load1 (.tmp 95)))) (some (86, true)),
          .act (some 97) (.op (.pure (.bin .eql (.tmp 93) (.tmp 96)))) (some (86, true)),
          .act (some 98) (.op (.pure (.pick (.tmp 86) (.tmp 97) (.const (.bool false))))) none,
          .act (some 12) (.op (.pure (.move (.tmp 98)))) none])
        (.seq (.steps [
          .act (some 99) (.op (.pure (.move (.tmp 12)))) none])
        (.cond (.tmp 99)
         (.steps [
           .act (some 100) (.op (.pure (.fieldAddr 2 (.tmp 3)))) none,
           .act (some 101) (.op (.pure (.idxArr 4 1 (.tmp 100) (.const (.int .i64 2))))) none,
           .act (some 102) (.op (.read (.load1 (.tmp 101)))) none,
           .act (some 10) (.op (.pure (.move (.tmp 102)))) none])
         .skip)))))))))))))))
  (.seq (.steps [
    .act (some 138) (.op (.new (.mkSlice 1 0 [] []))) none,
    .act (some 139) (.op (.pure (.fieldAddr 0 (.tmp 2)))) none,
    .act (some 140) (.op (.read (.load1 (.tmp 139)))) none,
    .act (some 141) (.op (.eff (.append 1 8 (.tmp 138) (.tmp 140)))) none,
    .act (some 142) (.op (.pure (.fieldAddr 0 (.tmp 2)))) none,
    .act none (.op (.eff (.store 1 (.tmp 142) (.tmp 141)))) none])
  (.seq (.steps [
    .act (some 143) (.op (.pure (.fieldAddr 0 (.tmp 2)))) none,
    .act (some 144) (.op (.read (.load1 (.tmp 143)))) none,
    .act (some 145) (.op (.pure (.fieldAddr 1 (.tmp 3)))) none,
    .act (some 146) (.op (.read (.load1 (.tmp 145)))) none,
    .act (some 147) (.op (.pure (.move (.tmp 10)))) none,
    .act (some 148) (.op (.pure (.idxSl 1 (.tmp 144) (.tmp 146)))) none,
    .act none (.op (.eff (.store 1 (.tmp 148) (.tmp 147)))) none])
  (.seq (.seq (.steps [
    .act (some 149) (.op (.pure (.fieldAddr 0 (.tmp 3)))) none,
    .act (some 150) (.op (.read (.load1 (.tmp 149)))) none,
    .act (some 151) (.op (.pure (.bin .eql (.tmp 150) (.const (.int .i64 5))))) none,
    .act (some 152) (.op (.pure (.move (.tmp 151)))) none,
    .act (some 153) (.op (.pure (.move (.tmp 12)))) (some (152, true)),
    .act (some 154) (.op (.pure (.pick (.tmp 152) (.tmp 153) (.const (.bool false))))) none])
  (.cond (.tmp 154)
   (.steps [
     .act (some 155) (.op (.pure (.fieldAddr 0 (.tmp 2)))) none,
     .act (some 156) (.op (.read (.load1 (.tmp 155)))) none,
     .act (some 157) (.op (.pure (.fieldAddr 1 (.tmp 3)))) none,
     .act (some 158) (.op (.read (.load1 (.tmp 157)))) none,
     .act (some 159) (.op (.pure (.bin .add (.tmp 158) (.const (.int .i64 1))))) none,
     .act (some 160) (.op (.pure (.fieldAddr 2 (.tmp 3)))) none,
     .act (some 161) (.op (.pure (.idxArr 4 1 (.tmp 160) (.const (.int .i64 3))))) none,
     .act (some 162) (.op (.read (.load1 (.tmp 161)))) none,
     .act (some 163) (.op (.pure (.idxSl 1 (.tmp 156) (.tmp 159)))) none,
     .act none (.op (.eff (.store 1 (.tmp 163) (.tmp 162)))) none])
   .skip))
  (.seq (.steps [
    .act (some 164) (.op (.read (.loadN 10 (.tmp 2)))) none,
    .act (some 165) (.op (.pure (.move (.tmp 11)))) none,
    .act (some 166) (.op (.pure (.move (.tmp 12)))) none,
    .act none (.op (.eff (.store 10 (.tmp 4) (.tmp 164)))) none,
    .act (some 5) (.op (.pure (.move (.tmp 165)))) none,
    .act (some 6) (.op (.pure (.move (.tmp 166)))) none])
  .ret)))))))))))))))) }
theorem c46 : compFn Try.prog (mkPlan Try.prog) [] false 46 = some L46 := by kernel_rfl
/-- (sluiceway/sluicewayref07.Op).Use -/
def L47 : LFun := { n := 74, pop := true, res := [.loadN 6 2], code :=
  (.seq (.steps [
    .act (some 1) (.op (.new (.box (.tmp 0)))) none,
    .act (some 2) (.op (.new (.alloc [(.int .i64 0), (.int .i64 0), (w64 0#64), (w64 0#64), (w64 0#64), (w64 0#64)]))) none])
  (.seq (.steps [
    .act (some 3) (.op (.pure (.move (.const (.int .i64 0))))) none])
  (.seq (.seq (.steps [
    .act (some 6) (.op (.pure (.fieldAddr 2 (.tmp 1)))) none,
    .act (some 7) (.op (.read (.load1 (.tmp 6)))) none])
  (.cond (.tmp 7)
   (.steps [
     .act (some 3) (.op (.pure (.move (.const (.int .i64 1))))) none])
   .skip))
  (.seq (.steps [
    .act (some 8) (.op (.pure (.fieldAddr 0 (.tmp 1)))) none,
    .act (some 9) (.op (.read (.load1 (.tmp 8)))) none,
    .act (some 10) (.op (.pure (.bin .add (.tmp 9) (.const (.int .i64 2))))) none,
    .act (some 11) (.op (.pure (.fieldAddr 5 (.tmp 1)))) none,
    .act (some 12) (.op (.read (.load1 (.tmp 11)))) none,
    .act (some 13) (.op (.pure (.fieldAddr 1 (.tmp 1)))) none,
    .act (some 14) (.op (.read (.load1 (.tmp 13)))) none,
    .act (some 15) (.op (.pure (.conv .u64 (.tmp 14)))) none,
    .act (some 16) (.op (.pure (.bin .rem (.tmp 12) (.tmp 15)))) none,
    .act (some 17) (.op (.pure (.conv .i64 (.tmp 16)))) none,
    .act (some 18) (.op (.pure (.bin .mul (.const (.int .i64 2)) (.tmp 17)))) none,
    .act (some 19) (.op (.pure (.bin .add (.tmp 10) (.tmp 18)))) none,
    .act (some 4) (.op (.pure (.move (.tmp 19)))) none])
  (.seq (.seq (.steps [
    .act (some 20) (.op (.pure (.fieldAddr 4 (.tmp 1)))) none,
    .act (some 21) (.op (.read (.load1 (.tmp 20)))) none])
  (.block 0 (.seq (.steps [
     .act (some 23) (.op (.pure (.bin .eql (.tmp 21) (.const (.int .i64 0))))) none,
     .act (some 22) (.op (.pure (.move (.tmp 23)))) none])
   (.cond (.tmp 22)
    (.seq (.steps [
      .act (some 24) (.op (.pure (.fieldAddr 0 (.tmp 1)))) none,
      .act (some 25) (.op (.read (.load1 (.tmp 24)))) none,
      .act (some 26) (.op (.pure (.move (.tmp 3)))) none,
      .act (some 27) (.op (.pure (.bin .add (.tmp 25) (.tmp 26)))) none,
      .act (some 28) (.op (.pure (.build [(.int .i64 0), (.int .i64 0), (w64 0#64), (w64 0#64), (w64 0#64), (w64 0#64)] [(0, 1, (.const (.int .i64 0))), (1, 1, (.tmp 27))]))) none,
      .act none (.op (.eff (.store 6 (.tmp 2) (.tmp 28)))) none])
    .ret)
    (.seq (.steps [
      .act (some 30) (.op (.pure (.bin .eql (.tmp 21) (.const (.int .i64 1))))) none,
      .act (some 29) (.op (.pure (.move (.tmp 30)))) none])
    (.cond (.tmp 29)
     (.seq (.steps [
       .act (some 31) (.op (.pure (.move (.tmp 4)))) none,
       .act (some 32) (.op (.pure (.build [(.int .i64 0), (.int .i64 0), (w64 0#64), (w64 0#64), (w64 0#64), (w64 0#64)] [(0, 1, (.const (.int .i64 0))), (1, 1, (.tmp 31))]))) none,
       .act none (.op (.eff (.store 6 (.tmp 2) (.tmp 32)))) none])
     .ret)
     (.seq (.steps [
       .act (some 34) (.op (.pure (.bin .eql (.tmp 21) (.const (.int .i64 2))))) none,
       .act (some 33) (.op (.pure (.move (.tmp 34)))) none])
     (.cond (.tmp 33)
      (.seq (.steps [
        .act (some 35) (.op (.pure (.fieldAddr 0 (.tmp 1)))) none,
        .act (some 36) (.op (.read (.load1 (.tmp 35)))) none,
        .act (some 37) (.op (.pure (.move (.tmp 3)))) none,
        .act (some 38) (.op (.pure (.bin .add (.tmp 36) (.tmp 37)))) none,
        .act (some 39) (.op (.pure (.fieldAddr 5 (.tmp 1)))) none,
        .act (some 40) (.op (.read (.load1 (.tmp 39)))) none,
        .act (some 41) (.op (.pure (.fieldAddr 5 (.tmp 1)))) none,
        .act (some 42) (.op (.read (.load1 (.tmp 41)))) none,
        .act (some 43) (.op (.pure (.bin .add (.tmp 42) (.const (w64 1#64))))) none,
        .act (some 44) (.op (.pure (.build [(w64 0#64), (w64 0#64), (w64 0#64), (w64 0#64)] [(0, 1, (.tmp 40)), (1, 1, (.tmp 43))]))) none,
        .act (some 45) (.op (.pure (.build [(.int .i64 0), (.int .i64 0), (w64 0#64), (w64 0#64), (w64 0#64), (w64 0#64)] [(0, 1, (.const (.int .i64 2))), (1, 1, (.tmp 38)), (2, 4, (.tmp 44))]))) none,
        .act none (.op (.eff (.store 6 (.tmp 2) (.tmp 45)))) none])
      .ret)
      (.seq (.steps [
        .act (some 47) (.op (.pure (.bin .eql (.tmp 21) (.const (.int .i64 3))))) none,
        .act (some 46) (.op (.pure (.move (.tmp 47)))) none])
      (.cond (.tmp 46)
       (.seq (.seq (.steps [
         .act (some 48) (.op (.pure (.fieldAddr 2 (.tmp 1)))) none,
         .act (some 49) (.op (.read (.load1 (.tmp 48)))) none])
       (.cond (.tmp 49)
        (.seq (.steps [
          .act (some 50) (.op (.pure (.move (.tmp 4)))) none,
          .act (some 51) (.op (.pure (.bin .add (.tmp 50) (.const (.int .i64 1))))) none,
          .act (some 52) (.op (.pure (.build [(.int .i64 0), (.int .i64 0), (w64 0#64), (w64 0#64), (w64 0#64), (w64 0#64)] [(0, 1, (.const (.int .i64 0))), (1, 1, (.tmp 51))]))) none,
          .act none (.op (.eff (.store 6 (.tmp 2) (.tmp 52)))) none])
        .ret)
        .skip))
       (.seq (.steps [
         .act (some 53) (.op (.pure (.move (.tmp 4)))) none,
         .act (some 54) (.op (.pure (.bin .add (.tmp 53) (.const (.int .i64 1))))) none,
         .act (some 55) (.op (.pure (.fieldAddr 3 (.tmp 1)))) none,
         .act (some 56) (.op (.read (.load1 (.tmp 55)))) none,
         .act (some 57) (.op (.pure (.build [(w64 0#64), (w64 0#64), (w64 0#64), (w64 0#64)] [(0, 1, (.tmp 56))]))) none,
         .act (some 58) (.op (.pure (.build [(.int .i64 0), (.int .i64 0), (w64 0#64), (w64 0#64), (w64 0#64), (w64 0#64)] [(0, 1, (.const (.int .i64 1))), (1, 1, (.tmp 54)), (2, 4, (.tmp 57))]))) none,
         .act none (.op (.eff (.store 6 (.tmp 2) (.tmp 58)))) none])
       .ret))
       .skip))))))))))
  (.seq (.steps [
    .act (some 59) (.op (.pure (.fieldAddr 5 (.tmp 1)))) none,
    .act (some 60) (.op (.read (.load1 (.tmp 59)))) none,
    .act (some 61) (.op (.pure (.bin .add (.tmp 60) (.const (w64 1#64))))) none,
    .act (some 5) (.op (.pure (.move (.tmp 61)))) none])
  (.seq (.seq (.steps [
    .act (some 62) (.op (.pure (.fieldAddr 2 (.tmp 1)))) none,
    .act (some 63) (.op (.read (.load1 (.tmp 62)))) none])
  (.cond (.tmp 63)
   (.steps [
     .act (some 64) (.op (.pure (.fieldAddr 5 (.tmp 1)))) none,
     .act (some 65) (.op (.read (.load1 (.tmp 64)))) none,
     .act (some 66) (.op (.pure (.fieldAddr 1 (.tmp 1)))) none,
     .act (some 67) (.op (.read (.load1 (.tmp 66)))) none,
     .act (some 68) (.op (.pure (.conv .u64 (.tmp 67)))) none,
     .act (some 69) (.op (.pure (.bin .add (.tmp 65) (.tmp 68)))) none,
     .act (some 5) (.op (.pure (.move (.tmp 69)))) none])
   .skip))
  (.seq (.steps [
    .act (some 70) (.op (.pure (.move (.tmp 4)))) none,
    .act (some 71) (.op (.pure (.move (.tmp 5)))) none,
    .act (some 72) (.op (.pure (.build [(w64 0#64), (w64 0#64), (w64 0#64), (w64 0#64)] [(0, 1, (.tmp 71))]))) none,
    .act (some 73) (.op (.pure (.build [(.int .i64 0), (.int .i64 0), (w64 0#64), (w64 0#64), (w64 0#64), (w64 0#64)] [(0, 1, (.const (.int .i64 1))), (1, 1, (.tmp 70)), (2, 4, (.tmp 72))]))) none,
    .act none (.op (.eff (.store 6 (.tmp 2) (.tmp 73)))) none])
  .ret)))))))) }
theorem c47 : compFn Try.prog (mkPlan Try.prog) [] true 47 = some L47 := by kernel_rfl
/-- (sluiceway/sluicewayref07.Op).Next -/
def L48 : LFun := { n := 59, pop := true, res := [.loadN 7 6], code :=
  (.seq (.steps [
    .act (some 3) (.op (.new (.box (.tmp 0)))) none,
    .act (some 6) (.op (.new (.alloc [(.int .i64 0), (.int .i64 0), (.bool false), (w64 0#64), (.int .i64 0), (w64 0#64), (.int .i64 0)]))) none])
  (.seq (.seq (.steps [
    .act (some 10) (.op (.pure (.fieldAddr 4 (.tmp 3)))) none,
    .act (some 11) (.op (.read (.load1 (.tmp 10)))) none])
  (.block 0 (.seq (.steps [
     .act (some 13) (.op (.pure (.bin .eql (.tmp 11) (.const (.int .i64 0))))) none,
     .act (some 12) (.op (.pure (.move (.tmp 13)))) none])
   (.cond (.tmp 12)
    (.seq (.steps [
      .act (some 14) (.op (.pure (.move (.tmp 1)))) none,
      .act (some 15) (.op (.pure (.fieldAddr 5 (.tmp 3)))) none,
      .act none (.op (.eff (.store 1 (.tmp 15) (.tmp 14)))) none])
    (.steps [
      .act (some 16) (.op (.pure (.fieldAddr 4 (.tmp 3)))) none,
      .act none (.op (.eff (.store 1 (.tmp 16) (.const (.int .i64 1))))) none]))
    (.seq (.steps [
      .act (some 18) (.op (.pure (.bin .eql (.tmp 11) (.const (.int .i64 1))))) none,
      .act (some 17) (.op (.pure (.move (.tmp 18)))) none])
    (.cond (.tmp 17)
     (.seq (.steps [
       .act (some 19) (.op (.pure (.fieldAddr 5 (.tmp 3)))) none,
       .act (some 20) (.op (.read (.load1 (.tmp 19)))) none,
       .act (some 7) (.op (.pure (.move (.tmp 20)))) none])
     (.seq (.steps [
       .act (some 8) (.op (.pure (.move (.const (.int .i64 15))))) none])
     (.seq (.seq (.steps [
       .act (some 21) (.op (.pure (.fieldAddr 2 (.tmp 3)))) none,
       .act (some 22) (.op (.read (.load1 (.tmp 21)))) none])
     (.cond (.tmp 22)
      (.seq (.steps [
        .act (some 23) (.op (.pure (.fieldAddr 5 (.tmp 3)))) none,
        .act (some 24) (.op (.read (.load1 (.tmp 23)))) none,
        .act (some 25) (.op (.pure (.bin .add (.tmp 24) (.const (w64 1#64))))) none,
        .act (some 7) (.op (.pure (.move (.tmp 25)))) none])
      (.steps [
        .act (some 8) (.op (.pure (.move (.const (.int .i64 13))))) none]))
      .skip))
     (.seq (.steps [
       .act (some 26) (.op (.pure (.move (.tmp 1)))) none,
       .act (some 27) (.op (.pure (.move (.tmp 7)))) none,
       .act (some 28) (.op (.pure (.bin .sub (.tmp 26) (.tmp 27)))) none,
       .act (some 9) (.op (.pure (.move (.tmp 28)))) none])
     (.seq (.steps [
       .act (some 29) (.op (.pure (.move (.tmp 9)))) none,
       .act (some 30) (.op (.pure (.bin .eql (.tmp 29) (.const (w64 0#64))))) none])
     (.cond (.tmp 30)
      (.steps [
        .act (some 31) (.op (.pure (.fieldAddr 4 (.tmp 3)))) none,
        .act none (.op (.eff (.store 1 (.tmp 31) (.const (.int .i64 2))))) none])
      (.seq (.steps [
        .act (some 32) (.op (.pure (.move (.tmp 9)))) none,
        .act (some 33) (.op (.pure (.bin .geq (.tmp 32) (.const (w64 9223372036854775808#64))))) none])
      (.cond (.tmp 33)
       (.seq (.steps [
         .act (some 34) (.op (.pure (.fieldAddr 4 (.tmp 3)))) none,
         .act none (.op (.eff (.store 1 (.tmp 34) (.const (.int .i64 5))))) none])
       (.seq (.steps [
         .act (some 35) (.op (.pure (.move (.tmp 8)))) none,
         .act (some 36) (.op (.pure (.fieldAddr 6 (.tmp 3)))) none,
         .act none (.op (.eff (.store 1 (.tmp 36) (.tmp 35)))) none])
       (.steps [
         .act (some 37) (.op (.pure (.fieldAddr 3 (.tmp 3)))) none,
         .act none (.op (.eff (.store 1 (.tmp 37) (.const (w64 0#64))))) none])))
       (.steps [
         .act (some 38) (.op (.pure (.fieldAddr 4 (.tmp 3)))) none,
         .act none (.op (.eff (.store 1 (.tmp 38) (.const (.int .i64 0))))) none])))))))))
     (.seq (.steps [
       .act (some 40) (.op (.pure (.bin .eql (.tmp 11) (.const (.int .i64 2))))) none,
       .act (some 39) (.op (.pure (.move (.tmp 40)))) none])
     (.cond (.tmp 39)
      (.seq (.steps [
        .act (some 41) (.op (.pure (.fieldAddr 4 (.tmp 3)))) none,
        .act none (.op (.eff (.store 1 (.tmp 41) (.const (.int .i64 0))))) none])
      (.seq (.steps [
        .act (some 42) (.op (.pure (.move (.tmp 2)))) none])
      (.cond (.tmp 42)
       (.steps [
         .act (some 43) (.op (.pure (.fieldAddr 4 (.tmp 3)))) none,
         .act none (.op (.eff (.store 1 (.tmp 43) (.const (.int .i64 3))))) none])
       .skip)))
      (.seq (.steps [
        .act (some 45) (.op (.pure (.bin .eql (.tmp 11) (.const (.int .i64 3))))) none,
        .act (some 44) (.op (.pure (.move (.tmp 45)))) none])
      (.cond (.tmp 44)
       (.seq (.seq (.steps [
         .act (some 46) (.op (.pure (.fieldAddr 2 (.tmp 3)))) none,
         .act (some 47) (.op (.read (.load1 (.tmp 46)))) none])
       (.cond (.tmp 47)
        (.steps [
          .act (some 48) (.op (.pure (.move (.tmp 1)))) none,
          .act (some 49) (.op (.pure (.fieldAddr 3 (.tmp 3)))) none,
          .act none (.op (.eff (.store 1 (.tmp 49) (.tmp 48)))) none])
        .skip))
       (.steps [
         .act (some 50) (.op (.pure (.fieldAddr 4 (.tmp 3)))) none,
         .act none (.op (.eff (.store 1 (.tmp 50) (.const (.int .i64 4))))) none]))
       (.seq (.steps [
         .act (some 52) (.op (.pure (.bin .eql (.tmp 11) (.const (.int .i64 4))))) none,
         .act (some 51) (.op (.pure (.move (.tmp 52)))) none])
       (.cond (.tmp 51)
        (.seq (.steps [
          .act (some 53) (.op (.pure (.fieldAddr 4 (.tmp 3)))) none,
          .act none (.op (.eff (.store 1 (.tmp 53) (.const (.int .i64 5))))) none])
        (.seq (.steps [
          .act (some 54) (.op (.pure (.fieldAddr 2 (.tmp 3)))) none,
          .act (some 55) (.op (.read (.load1 (.tmp 54)))) none,
          .act (some 56) (.op (.pure (.not (.tmp 55)))) none])
        (.cond (.tmp 56)
         (.steps [
           .act (some 57) (.op (.pure (.fieldAddr 3 (.tmp 3)))) none,
           .act none (.op (.eff (.store 1 (.tmp 57) (.const (w64 0#64))))) none])
         .skip)))
        .skip))))))))))))
  (.seq (.steps [
    .act (some 58) (.op (.read (.loadN 7 (.tmp 3)))) none,
    .act none (.op (.eff (.store 7 (.tmp 6) (.tmp 58)))) none])
  .ret))) }
theorem c48 : compFn Try.prog (mkPlan Try.prog) [] true 48 = some L48 := by kernel_rfl
/-- slices.Clone[[]uint64,uint64] -/
def L49 : LFun := { n := 8, pop := false, res := [.tmp 2], code :=
  (.seq (.steps [
    .act (some 2) (.op (.pure (.move (.const (.slice none 0 0))))) none])
  (.seq (.seq (.steps [
    .act (some 3) (.op (.pure (.move (.tmp 0)))) none,
    .act (some 4) (.op (.pure (.eqNil .s false (.tmp 3) (.const (.slice none 0 0))))) none])
  (.cond (.tmp 4)
   (.seq (.steps [
     .act (some 2) (.op (.pure (.move (.const (.slice none 0 0))))) none])
   .ret)
   .skip))
  (.seq (.steps [
    .act (some 5) (.op (.new (.mkSlice 1 0 [] []))) none,
    .act (some 6) (.op (.pure (.move (.tmp 0)))) none,
    .act (some 7) (.op (.eff (.append 1 8 (.tmp 5) (.tmp 6)))) none,
    .act (some 2) (.op (.pure (.move (.tmp 7)))) none])
  .ret))) }
theorem c49 : compFn Try.prog (mkPlan Try.prog) [] false 49 = some L49 := by kernel_rfl
/-- (sluiceway/spec.Fifo).full -/
def L50 : LFun := { n := 14, pop := true, res := [.tmp 2], code :=
  (.seq (.steps [
    .act (some 1) (.op (.new (.box (.tmp 0)))) none,
    .act (some 2) (.op (.pure (.move (.const (.bool false))))) none])
  (.seq (.steps [
    .act (some 3) (.op (.pure (.fieldAddr 0 (.tmp 1)))) none,
    .act (some 4) (.op (.read (.load1 (.tmp 3)))) none,
    .act (some 5) (.op (.pure (.bin .gtr (.tmp 4) (.const (.int .i64 0))))) none,
    .act (some 6) (.op (.pure (.move (.tmp 5)))) none,
    .act (some 7) (.op (.pure (.fieldAddr 1 (.tmp 1)))) (some (6, true)),
    .act (some 8) (.op (.read (.load1 (.tmp 7)))) (some (6, true)),
    .act (some 9) (.op (.pure (.len false (.tmp 8)))) (some (6, true)),
    .act (some 10) (.op (.pure (.fieldAddr 0 (.tmp 1)))) (some (6, true)),
    .act (some 11) (.op (.read (.load1 (.tmp 10)))) (some (6, true)),
    .act (some 12) (.op (.pure (.bin .geq (.tmp 9) (.tmp 11)))) (some (6, true)),
    .act (some 13) (.op (.pure (.pick (.tmp 6) (.tmp 12) (.const (.bool false))))) none,
    .act (some 2) (.op (.pure (.move (.tmp 13)))) none])
  .ret)) }
theorem c50 : compFn Try.prog (mkPlan Try.prog) [] true 50 = some L50 := by kernel_rfl
/-- (sluiceway/spec.Fifo).with -/
def L51 : LFun := { n := 25, pop := false, res := [.loadN 2 4], code :=
  (.seq (.steps [
    .act (some 2) (.op (.new (.box (.tmp 0)))) none,
    .act (some 4) (.op (.new (.alloc [(.int .i64 0), (.slice none 0 0)]))) none])
  (.seq (.steps [
    .act (some 6) (.op (.pure (.fieldAddr 1 (.tmp 2)))) none,
    .act (some 7) (.op (.read (.load1 (.tmp 6)))) none,
    .act (some 8) (.op (.pure (.len false (.tmp 7)))) none,
    .act (some 9) (.op (.pure (.fieldAddr 1 (.tmp 2)))) none,
    .act (some 10) (.op (.read (.load1 (.tmp 9)))) none,
    .act (some 11) (.op (.pure (.len false (.tmp 10)))) none,
    .act (some 12) (.op (.pure (.bin .add (.tmp 11) (.const (.int .i64 1))))) none,
    .act (some 13) (.op (.new (.makeSlice 1 8 [(w64 0#64)] (.tmp 8) (.tmp 12)))) none,
    .act (some 5) (.op (.pure (.move (.tmp 13)))) none])
  (.seq (.steps [
    .act (some 14) (.op (.pure (.move (.tmp 5)))) none,
    .act (some 15) (.op (.pure (.fieldAddr 1 (.tmp 2)))) none,
    .act (some 16) (.op (.read (.load1 (.tmp 15)))) none,
    .act (some 17) (.op (.eff (.copy 1 (.tmp 14) (.tmp 16)))) none])
  (.seq (.steps [
    .act (some 18) (.op (.pure (.fieldAddr 0 (.tmp 2)))) none,
    .act (some 19) (.op (.read (.load1 (.tmp 18)))) none,
    .act (some 20) (.op (.pure (.move (.tmp 5)))) none,
    .act (some 21) (.op (.pure (.move (.tmp 1)))) none,
    .act (some 22) (.op (.new (.mkSlice 1 1 [(w64 0#64)] [(0, 1, (.tmp 21))]))) none,
    .act (some 23) (.op (.eff (.append 1 8 (.tmp 20) (.tmp 22)))) none,
    .act (some 24) (.op (.pure (.build [(.int .i64 0), (.slice none 0 0)] [(0, 1, (.tmp 19)), (1, 1, (.tmp 23))]))) none,
    .again 19 (.load1 (.tmp 18)) none,
    .act none (.op (.eff (.store 2 (.tmp 4) (.tmp 24)))) none])
  .ret)))) }
theorem c51 : compFn Try.prog (mkPlan Try.prog) [] false 51 = some L51 := by kernel_rfl
/-- (sluiceway/spec.Fifo).rest -/
def L52 : LFun := { n := 16, pop := false, res := [.loadN 2 2], code :=
  (.seq (.steps [
    .act (some 1) (.op (.new (.box (.tmp 0)))) none,
    .act (some 2) (.op (.new (.alloc [(.int .i64 0), (.slice none 0 0)]))) none])
  (.seq (.steps [
    .act (some 3) (.op (.pure (.fieldAddr 0 (.tmp 1)))) none,
    .act (some 4) (.op (.read (.load1 (.tmp 3)))) none,
    .act (some 5) (.op (.pure (.fieldAddr 1 (.tmp 1)))) none,
    .act (some 6) (.op (.read (.load1 (.tmp 5)))) none,
    .act (some 7) (.op (.pure (.fieldAddr 1 (.tmp 1)))) none,
    .act (some 8) (.op (.read (.load1 (.tmp 7)))) none,
    .act (some 9) (.op (.pure (.len false (.tmp 8)))) none,
    .act (some 10) (.op (.pure (.fieldAddr 1 (.tmp 1)))) none,
    .act (some 11) (.op (.read (.load1 (.tmp 10)))) none,
    .act (some 12) (.op (.pure (.len false (.tmp 11)))) none,
    .act (some 13) (.op (.read (.slSl 1 (.tmp 6) (some (.const (.int .i64 1))) (some (.tmp 9)) (some (.tmp 12))))) none,
    .act (some 14) (.call (.func 49) [(.tmp 13)]) none,
    .act (some 15) (.op (.pure (.build [(.int .i64 0), (.slice none 0 0)] [(0, 1, (.tmp 4)), (1, 1, (.tmp 14))]))) none,
    .again 4 (.load1 (.tmp 3)) none,
    .act none (.op (.eff (.store 2 (.tmp 2) (.tmp 15)))) none])
  .ret)) }
theorem c52 : compFn Try.prog (mkPlan Try.prog) [] false 52 = some L52 := by kernel_rfl
/-- (*sluiceway/hist.Log).Open -/
def L53 : LFun := { n := 21, pop := true, res := [.tmp 4, .tmp 5], code :=
  (.seq (.steps [
    .act (some 4) (.op (.pure (.move (.const (.int .i64 0))))) none,
    .act (some 5) (.op (.pure (.move (.const (.bool false))))) none])
  (.seq (.seq (.steps [
    .act (some 8) (.op (.pure (.move (.tmp 0)))) none,
    .act (some 9) (.call (.func 54) [(.tmp 8)]) none])
  (.cond (.tmp 9)
   (.seq (.steps [
     .act (some 4) (.op (.pure (.move (.const (.int .i64 0))))) none,
     .act (some 5) (.op (.pure (.move (.const (.bool false))))) none])
   .ret)
   .skip))
  (.seq (.steps [
    .act (some 11) (.op (.pure (.move (.tmp 0)))) none,
    .act (some 12) (.op (.pure (.nilCheck (.tmp 11)))) none,
    .act (some 13) (.op (.pure (.fieldAddr 1 (.tmp 12)))) none,
    .act (some 14) (.op (.read (.load1 (.tmp 13)))) none,
    .act (some 15) (.op (.pure (.move (.tmp 1)))) none,
    .act (some 16) (.op (.read (.lookup false (.int .i64 0) true (.tmp 14) (.tmp 15)))) none,
    .act (some 10) (.op (.pure (.move (.tmp 16)))) none,
    .act (some 17) (.op (.pure (.extract (.tmp 10) 0))) none,
    .act (some 18) (.op (.pure (.extract (.tmp 10) 1))) none,
    .act (some 6) (.op (.pure (.move (.tmp 17)))) none,
    .act (some 7) (.op (.pure (.move (.tmp 18)))) none])
  (.seq (.steps [
    .act (some 19) (.op (.pure (.move (.tmp 6)))) none,
    .act (some 20) (.op (.pure (.move (.tmp 7)))) none,
    .act (some 4) (.op (.pure (.move (.tmp 19)))) none,
    .act (some 5) (.op (.pure (.move (.tmp 20)))) none])
  .ret)))) }
theorem c53 : compFn Try.prog (mkPlan Try.prog) [] true 53 = some L53 := by kernel_rfl
/-- (*sluiceway/hist.Log).none -/
def L54 : LFun := { n := 12, pop := true, res := [.tmp 2], code :=
  (.seq (.steps [
    .act (some 2) (.op (.pure (.move (.const (.bool false))))) none])
  (.seq (.steps [
    .act (some 3) (.op (.pure (.move (.tmp 0)))) none,
    .act (some 4) (.op (.pure (.eqNil .p false (.tmp 3) (.const (.pointer none))))) none,
    .act (some 5) (.op (.pure (.move (.tmp 4)))) none,
    .act (some 6) (.op (.pure (.move (.tmp 0)))) (some (5, false)),
    .act (some 7) (.op (.pure (.nilCheck (.tmp 6)))) (some (5, false)),
    .act (some 8) (.op (.pure (.fieldAddr 1 (.tmp 7)))) (some (5, false)),
    .act (some 9) (.op (.read (.load1 (.tmp 8)))) (some (5, false)),
    .act (some 10) (.op (.pure (.eqNil .m false (.tmp 9) (.const (.map none))))) (some (5, false)),
    .act (some 11) (.op (.pure (.pick (.tmp 5) (.const (.bool true)) (.tmp 10)))) none,
    .act (some 2) (.op (.pure (.move (.tmp 11)))) none])
  .ret)) }
theorem c54 : compFn Try.prog (mkPlan Try.prog) [] true 54 = some L54 := by kernel_rfl
/-- (*sluiceway/hist.Log).Step -/
def L55 : LFun := { n := 12, pop := true, res := [], code :=
  (.seq (.steps [
    .act (some 2) (.op (.pure (.move (.tmp 0)))) none,
    .act (some 3) (.call (.func 54) [(.tmp 2)]) none,
    .act (some 4) (.op (.pure (.not (.tmp 3)))) none])
  (.cond (.tmp 4)
   (.steps [
     .act (some 5) (.op (.pure (.move (.tmp 0)))) none,
     .act (some 6) (.op (.pure (.nilCheck (.tmp 5)))) none,
     .act (some 7) (.op (.pure (.fieldAddr 2 (.tmp 6)))) none,
     .act (some 8) (.op (.read (.load1 (.tmp 7)))) none,
     .act (some 9) (.op (.pure (.bin .add (.tmp 8) (.const (.int .i64 1))))) none,
     .act (some 10) (.op (.pure (.nilCheck (.tmp 5)))) none,
     .act (some 11) (.op (.pure (.fieldAddr 2 (.tmp 10)))) none,
     .act none (.op (.eff (.store 1 (.tmp 11) (.tmp 9)))) none])
   .skip)) }
theorem c55 : compFn Try.prog (mkPlan Try.prog) [] true 55 = some L55 := by kernel_rfl
/-- sluiceway/lin.Search[sluiceway/spec.Fifo] -/
def L56 : LFun := { n := 86, pop := false, res := [.tmp 8, .tmp 9], code :=
  (.seq (.steps [
    .act (some 5) (.op (.new (.box (.tmp 1)))) none,
    .act (some 8) (.op (.pure (.move (.const (.slice none 0 0))))) none,
    .act (some 9) (.op (.pure (.move (.const (.bool false))))) none])
  (.seq (.seq (.steps [
    .act (some 16) (.op (.pure (.move (.tmp 0)))) none,
    .act (some 17) (.op (.pure (.len false (.tmp 16)))) none,
    .act (some 18) (.op (.pure (.bin .gtr (.tmp 17) (.const (.int .i64 62))))) none,
    .act (some 19) (.op (.pure (.move (.tmp 18)))) none,
    .act (some 20) (.op (.pure (.move (.tmp 0)))) (some (19, false)),
    .act (some 21) (.call (.func 69) [(.tmp 20)]) (some (19, false)),
    .act (some 22) (.op (.pure (.not (.tmp 21)))) (some (19, false)),
    .act (some 23) (.op (.pure (.pick (.tmp 19) (.const (.bool true)) (.tmp 22)))) none])
  (.cond (.tmp 23)
   (.seq (.steps [
     .act (some 8) (.op (.pure (.move (.const (.slice none 0 0))))) none,
     .act (some 9) (.op (.pure (.move (.const (.bool false))))) none])
   .ret)
   .skip))
  (.seq (.steps [
    .act (some 24) (.op (.pure (.move (.tmp 0)))) none,
    .act (some 25) (.op (.pure (.move (.tmp 2)))) none,
    .act (some 26) (.op (.pure (.move (.tmp 3)))) none,
    .act (some 27) (.op (.new (.makeMap))) none,
    .act (some 28) (.op (.pure (.build [(.slice none 0 0), (.slice none 0 0), (w64 0#64), .nilFunc, .nilFunc, (.map none), (.slice none 0 0)] [(0, 1, (.tmp 24)), (3, 1, (.tmp 25)), (4, 1, (.tmp 26)), (5, 1, (.tmp 27))]))) none,
    .act (some 29) (.op (.new (.box (.tmp 28)))) none,
    .act (some 10) (.op (.pure (.move (.tmp 29)))) none])
  (.seq (.seq (.steps [
    .act (some 30) (.op (.pure (.move (.tmp 0)))) none,
    .act (some 31) (.op (.pure (.len false (.tmp 30)))) none,
    .act (some 32) (.op (.pure (.move (.const (.int .i64 0))))) none])
  (.block 0 (.loop [0, 5, 10, 30, 31, 32] (.seq (.steps [
      .act (some 33) (.op (.pure (.bin .lss (.tmp 32) (.tmp 31)))) none])
    (.seq (.cond (.tmp 33)
     .skip
     (.exit 0))
    (.seq (.block 1 (.seq (.steps [
       .act (some 34) (.op (.pure (.move (.tmp 32)))) none,
       .act (some 35) (.op (.pure (.idxSl 8 (.tmp 30) (.tmp 32)))) none,
       .act (some 36) (.op (.read (.loadN 8 (.tmp 35)))) none,
       .act (some 12) (.op (.new (.alloc [(.int .i64 0), (.int .i64 0), (w64 0#64), (.int .i64 0), (.int .i64 0), (.bool false), (.int .i64 0), (w64 0#64)]))) none,
       .act (some 11) (.op (.pure (.move (.tmp 34)))) none,
       .act none (.op (.eff (.store 8 (.tmp 12) (.tmp 36)))) none])
     (.seq (.steps [
       .act (some 13) (.op (.pure (.move (.const (w64 0#64))))) none])
     (.seq (.seq (.steps [
       .act (some 37) (.op (.pure (.move (.tmp 0)))) none,
       .act (some 38) (.op (.pure (.len false (.tmp 37)))) none,
       .act (some 39) (.op (.pure (.move (.const (.int .i64 0))))) none])
     (.block 2 (.loop [0, 5, 10, 11, 12, 13, 30, 31, 32, 37, 38, 39] (.seq (.steps [
         .act (some 40) (.op (.pure (.bin .lss (.tmp 39) (.tmp 38)))) none])
       (.seq (.cond (.tmp 40)
        .skip
        (.exit 2))
       (.seq (.block 3 (.seq (.steps [
          .act (some 41) (.op (.pure (.move (.tmp 39)))) none,
          .act (some 42) (.op (.pure (.idxSl 8 (.tmp 37) (.tmp 39)))) none,
          .act (some 43) (.op (.read (.loadN 8 (.tmp 42)))) none,
          .act (some 15) (.op (.new (.alloc [(.int .i64 0), (.int .i64 0), (w64 0#64), (.int .i64 0), (.int .i64 0), (.bool false), (.int .i64 0), (w64 0#64)]))) none,
          .act (some 14) (.op (.pure (.move (.tmp 41)))) none,
          .act none (.op (.eff (.store 8 (.tmp 15) (.tmp 43)))) none])
        (.seq (.steps [
          .act (some 44) (.op (.pure (.move (.tmp 14)))) none,
          .act (some 45) (.op (.pure (.move (.tmp 11)))) none,
          .act (some 46) (.op (.pure (.bin .neq (.tmp 44) (.tmp 45)))) none,
          .act (some 47) (.op (.pure (.move (.tmp 46)))) none,
          .act (some 48) (.op (.read (.loadN 8 (.tmp 15)))) (some (47, true)),
          .act (some 49) (.op (.read (.loadN 8 (.tmp 12)))) (some (47, true)),
          .act (some 50) (.call (.func 70) [(.tmp 48), (.tmp 49)]) (some (47, true)),
          .act (some 51) (.op (.pure (.pick (.tmp 47) (.tmp 50) (.const (.bool false))))) none])
        (.cond (.tmp 51)
         (.steps [
           .act (some 52) (.op (.pure (.move (.tmp 13)))) none,
           .act (some 53) (.op (.pure (.move (.tmp 14)))) none,
           .act (some 54) (.call (.func 71) [(.tmp 52), (.tmp 53)]) none,
           .act (some 13) (.op (.pure (.move (.tmp 54)))) none])
         .skip))))
       (.steps [
         .act (some 55) (.op (.pure (.bin .add (.tmp 39) (.const (.int .i64 1))))) none,
         .act (some 39) (.op (.pure (.move (.tmp 55)))) none])))))))
     (.seq (.steps [
       .act (some 56) (.op (.pure (.move (.tmp 10)))) none,
       .act (some 57) (.op (.pure (.move (.tmp 10)))) none,
       .act (some 58) (.op (.pure (.nilCheck (.tmp 57)))) none,
       .act (some 59) (.op (.pure (.fieldAddr 1 (.tmp 58)))) none,
       .act (some 60) (.op (.read (.load1 (.tmp 59)))) none,
       .act (some 61) (.op (.pure (.move (.tmp 13)))) none,
       .act (some 62) (.op (.new (.mkSlice 1 1 [(w64 0#64)] [(0, 1, (.tmp 61))]))) none,
       .act (some 63) (.op (.eff (.append 1 8 (.tmp 60) (.tmp 62)))) none,
       .act (some 64) (.op (.pure (.nilCheck (.tmp 56)))) none,
       .act (some 65) (.op (.pure (.fieldAddr 1 (.tmp 64)))) none,
       .act none (.op (.eff (.store 1 (.tmp 65) (.tmp 63)))) none])
     (.seq (.steps [
       .act (some 66) (.op (.pure (.fieldAddr 5 (.tmp 12)))) none,
       .act (some 67) (.op (.read (.load1 (.tmp 66)))) none])
     (.cond (.tmp 67)
      (.steps [
        .act (some 68) (.op (.pure (.move (.tmp 10)))) none,
        .act (some 69) (.op (.pure (.move (.tmp 10)))) none,
        .act (some 70) (.op (.pure (.nilCheck (.tmp 69)))) none,
        .act (some 71) (.op (.pure (.fieldAddr 2 (.tmp 70)))) none,
        .act (some 72) (.op (.read (.load1 (.tmp 71)))) none,
        .act (some 73) (.op (.pure (.move (.tmp 11)))) none,
        .act (some 74) (.call (.func 71) [(.tmp 72), (.tmp 73)]) none,
        .act (some 75) (.op (.pure (.nilCheck (.tmp 68)))) none,
        .act (some 76) (.op (.pure (.fieldAddr 2 (.tmp 75)))) none,
        .act none (.op (.eff (.store 1 (.tmp 76) (.tmp 74)))) none])
      .skip)))))))
    (.steps [
      .act (some 77) (.op (.pure (.bin .add (.tmp 32) (.const (.int .i64 1))))) none,
      .act (some 32) (.op (.pure (.move (.tmp 77)))) none])))))))
  (.seq (.seq (.steps [
    .act (some 78) (.op (.pure (.move (.tmp 10)))) none,
    .act (some 79) (.op (.read (.loadN 2 (.tmp 5)))) none,
    .act (some 80) (.call (.func 72) [(.tmp 78), (.const (w64 0#64)), (.tmp 79)]) none,
    .act (some 81) (.op (.pure (.not (.tmp 80)))) none])
  (.cond (.tmp 81)
   (.seq (.steps [
     .act (some 8) (.op (.pure (.move (.const (.slice none 0 0))))) none,
     .act (some 9) (.op (.pure (.move (.const (.bool false))))) none])
   .ret)
   .skip))
  (.seq (.steps [
    .act (some 82) (.op (.pure (.move (.tmp 10)))) none,
    .act (some 83) (.op (.pure (.nilCheck (.tmp 82)))) none,
    .act (some 84) (.op (.pure (.fieldAddr 6 (.tmp 83)))) none,
    .act (some 85) (.op (.read (.load1 (.tmp 84)))) none,
    .act (some 8) (.op (.pure (.move (.tmp 85)))) none,
    .act (some 9) (.op (.pure (.move (.const (.bool true))))) none])
  .ret)))))) }
theorem c56 : compFn Try.prog (mkPlan Try.prog) [(5, [0, 5, 10, 30, 31, 32]), (9, [0, 5, 10, 11, 12, 13, 30, 31, 32, 37, 38, 39])] false 56 = some L56 := by kernel_rfl
/-- sluiceway/lin.may -/
def L57 : LFun := { n := 6, pop := false, res := [.tmp 4], code :=
  (.seq (.steps [
    .act (some 2) (.op (.new (.box (.tmp 0)))) none,
    .act (some 3) (.op (.new (.box (.tmp 1)))) none,
    .act (some 4) (.op (.pure (.move (.const .nilFunc)))) none])
  (.seq (.steps [
    .act (some 5) (.op (.pure (.mkFunc 73 [] [(.tmp 2), (.tmp 3)]))) none,
    .act (some 4) (.op (.pure (.move (.tmp 5)))) none])
  .ret)) }
theorem c57 : compFn Try.prog (mkPlan Try.prog) [] false 57 = some L57 := by kernel_rfl
/-- (sluiceway/spec.Fifo).Key -/
def L58 : LFun := { n := 23, pop := true, res := [.tmp 2], code :=
  (.seq (.steps [
    .act (some 1) (.op (.new (.box (.tmp 0)))) none,
    .act (some 2) (.op (.pure (.move (.const (strV []))))) none])
  (.seq (.steps [
    .act (some 6) (.op (.pure (.fieldAddr 0 (.tmp 1)))) none,
    .act (some 7) (.op (.read (.load1 (.tmp 6)))) none,
    .act (some 8) (.op (.pure (.conv .u64 (.tmp 7)))) none,
    .act (some 9) (.call (.func 76) [(.const (.slice none 0 0)), (.tmp 8)]) none,
    .act (some 3) (.op (.pure (.move (.tmp 9)))) none])
  (.seq (.seq (.steps [
    .act (some 10) (.op (.pure (.fieldAddr 1 (.tmp 1)))) none,
    .act (some 11) (.op (.read (.load1 (.tmp 10)))) none,
    .act (some 12) (.op (.pure (.len false (.tmp 11)))) none,
    .act (some 13) (.op (.pure (.move (.const (.int .i64 0))))) none])
  (.block 0 (.loop [3, 11, 12, 13] (.seq (.steps [
      .act (some 14) (.op (.pure (.bin .lss (.tmp 13) (.tmp 12)))) none])
    (.seq (.cond (.tmp 14)
     .skip
     (.exit 0))
    (.seq (.block 1 (.seq (.steps [
       .act (some 15) (.op (.pure (.idxSl 1 (.tmp 11) (.tmp 13)))) none,
       .act (some 16) (.op (.read (.load1 (.tmp 15)))) none,
       .act (some 5) (.op (.pure (.move (.tmp 16)))) none])
     (.steps [
       .act (some 17) (.op (.pure (.move (.tmp 3)))) none,
       .act (some 18) (.op (.pure (.move (.tmp 5)))) none,
       .act (some 19) (.call (.func 76) [(.tmp 17), (.tmp 18)]) none,
       .act (some 3) (.op (.pure (.move (.tmp 19)))) none])))
    (.steps [
      .act (some 20) (.op (.pure (.bin .add (.tmp 13) (.const (.int .i64 1))))) none,
      .act (some 13) (.op (.pure (.move (.tmp 20)))) none])))))))
  (.seq (.steps [
    .act (some 21) (.op (.pure (.move (.tmp 3)))) none,
    .act (some 22) (.op (.read (.b2s (.tmp 21)))) none,
    .act (some 2) (.op (.pure (.move (.tmp 22)))) none])
  .ret)))) }
theorem c58 : compFn Try.prog (mkPlan Try.prog) [(3, [3, 11, 12, 13])] true 58 = some L58 := by kernel_rfl
/-- slices.Clone[[]sluiceway/hist.Call,sluiceway/hist.Call] -/
def L59 : LFun := { n := 8, pop := false, res := [.tmp 2], code :=
  (.seq (.steps [
    .act (some 2) (.op (.pure (.move (.const (.slice none 0 0))))) none])
  (.seq (.seq (.steps [
    .act (some 3) (.op (.pure (.move (.tmp 0)))) none,
    .act (some 4) (.op (.pure (.eqNil .s false (.tmp 3) (.const (.slice none 0 0))))) none])
  (.cond (.tmp 4)
   (.seq (.steps [
     .act (some 2) (.op (.pure (.move (.const (.slice none 0 0))))) none])
   .ret)
   .skip))
  (.seq (.steps [
    .act (some 5) (.op (.new (.mkSlice 8 0 [] []))) none,
    .act (some 6) (.op (.pure (.move (.tmp 0)))) none,
    .act (some 7) (.op (.eff (.append 8 64 (.tmp 5) (.tmp 6)))) none,
    .act (some 2) (.op (.pure (.move (.tmp 7)))) none])
  .ret))) }
theorem c59 : compFn Try.prog (mkPlan Try.prog) [] false 59 = some L59 := by kernel_rfl
/-- (*sluiceway/mem.Mem).use -/
def L60 : LFun := { n := 34, pop := true, res := [], code :=
  (.seq (.seq (.steps [
    .act (some 8) (.op (.pure (.move (.tmp 0)))) none,
    .act (some 9) (.call (.func 43) [(.tmp 8)]) none])
  (.cond (.tmp 9)
   .ret
   .skip))
  (.seq (.steps [
    .act (some 10) (.op (.pure (.move (.tmp 0)))) none,
    .act (some 11) (.op (.pure (.move (.tmp 1)))) none,
    .act (some 12) (.op (.pure (.nilCheck (.tmp 10)))) none,
    .act (some 13) (.op (.pure (.fieldAddr 2 (.tmp 12)))) none,
    .act (some 14) (.op (.pure (.idxArr 6 1 (.tmp 13) (.tmp 11)))) none,
    .act (some 15) (.op (.read (.load1 (.tmp 14)))) none,
    .act (some 16) (.op (.pure (.bin .add (.tmp 15) (.const (.int .i64 1))))) none,
    .act (some 17) (.op (.pure (.nilCheck (.tmp 10)))) none,
    .act (some 18) (.op (.pure (.fieldAddr 2 (.tmp 17)))) none,
    .act (some 19) (.op (.pure (.idxArr 6 1 (.tmp 18) (.tmp 11)))) none,
    .act none (.op (.eff (.store 1 (.tmp 19) (.tmp 16)))) none])
  (.seq (.seq (.steps [
    .act (some 20) (.op (.pure (.move (.tmp 0)))) none,
    .act (some 21) (.op (.pure (.move (.tmp 2)))) none,
    .act (some 22) (.call (.func 77) [(.tmp 20), (.tmp 21)]) none])
  (.cond (.tmp 22)
   (.seq (.steps [
     .act (some 23) (.op (.pure (.move (.tmp 0)))) none,
     .act (some 24) (.op (.pure (.move (.tmp 2)))) none,
     .act (some 25) (.call (.func 78) [(.tmp 23), (.tmp 24)]) none])
   .ret)
   .skip))
  (.steps [
    .act (some 26) (.op (.pure (.move (.tmp 3)))) none,
    .act (some 27) (.op (.pure (.move (.tmp 0)))) none,
    .act (some 28) (.op (.pure (.nilCheck (.tmp 27)))) none,
    .act (some 29) (.op (.pure (.fieldAddr 0 (.tmp 28)))) none,
    .act (some 30) (.op (.read (.load1 (.tmp 29)))) none,
    .act (some 31) (.op (.pure (.move (.tmp 2)))) none,
    .act (some 32) (.op (.pure (.idxSl 1 (.tmp 30) (.tmp 31)))) none,
    .act (some 33) (.call (.tmp 26) [(.tmp 32)]) none])))) }
theorem c60 : compFn Try.prog (mkPlan Try.prog) [] true 60 = some L60 := by kernel_rfl
/-- (*sluiceway/mem.Mem).Store$1 -/
def L61 : LFun := { n := 6, pop := true, res := [], code :=
  (.steps [
    .act (some 3) (.op (.pure (.move (.tmp 0)))) none,
    .act (some 4) (.op (.read (.load1 (.tmp 1)))) none,
    .act (some 5) (.op (.pure (.nilCheck (.tmp 3)))) none,
    .act none (.op (.eff (.store 1 (.tmp 5) (.tmp 4)))) none]) }
theorem c61 : compFn Try.prog (mkPlan Try.prog) [] true 61 = some L61 := by kernel_rfl
/-- sluiceway/word.Slot -/
def L62 : LFun := { n := 10, pop := true, res := [.tmp 4], code :=
  (.seq (.steps [
    .act (some 4) (.op (.pure (.move (.const (w64 0#64))))) none])
  (.seq (.seq (.steps [
    .act (some 5) (.op (.pure (.move (.tmp 1)))) none,
    .act (some 6) (.op (.pure (.bin .eql (.tmp 5) (.const (w64 0#64))))) none])
  (.cond (.tmp 6)
   (.seq (.steps [
     .act (some 4) (.op (.pure (.move (.const (w64 0#64))))) none])
   .ret)
   .skip))
  (.seq (.steps [
    .act (some 7) (.op (.pure (.move (.tmp 0)))) none,
    .act (some 8) (.op (.pure (.move (.tmp 1)))) none,
    .act (some 9) (.op (.pure (.bin .rem (.tmp 7) (.tmp 8)))) none,
    .act (some 4) (.op (.pure (.move (.tmp 9)))) none])
  .ret))) }
theorem c62 : compFn Try.prog (mkPlan Try.prog) [] true 62 = some L62 := by kernel_rfl
/-- (*sluiceway/vy.Op).end -/
def L63 : LFun := { n := 23, pop := true, res := [], code :=
  (.seq (.steps [
    .act (some 4) (.op (.pure (.move (.tmp 0)))) none,
    .act (some 5) (.op (.pure (.move (.tmp 0)))) none,
    .act (some 6) (.op (.pure (.move (.tmp 1)))) none,
    .act (some 7) (.op (.pure (.nilCheck (.tmp 4)))) none,
    .act (some 8) (.op (.pure (.fieldAddr 5 (.tmp 7)))) none,
    .act none (.op (.eff (.store 1 (.tmp 8) (.const (.int .i64 5))))) none,
    .act (some 9) (.op (.pure (.nilCheck (.tmp 5)))) none,
    .act (some 10) (.op (.pure (.fieldAddr 7 (.tmp 9)))) none,
    .act none (.op (.eff (.store 1 (.tmp 10) (.tmp 6)))) none])
  (.seq (.steps [
    .act (some 11) (.op (.pure (.move (.tmp 1)))) none,
    .act (some 12) (.op (.pure (.bin .neq (.tmp 11) (.const (.int .i64 0))))) none,
    .act (some 13) (.op (.pure (.move (.tmp 12)))) none,
    .act (some 14) (.op (.pure (.move (.tmp 0)))) (some (13, false)),
    .act (some 15) (.op (.pure (.nilCheck (.tmp 14)))) (some (13, false)),
    .act (some 16) (.op (.pure (.fieldAddr 3 (.tmp 15)))) (some (13, false)),
    .act (some 17) (.op (.read (.load1 (.tmp 16)))) (some (13, false)),
    .act (some 18) (.op (.pure (.not (.tmp 17)))) (some (13, false)),
    .act (some 19) (.op (.pure (.pick (.tmp 13) (.const (.bool true)) (.tmp 18)))) none])
  (.cond (.tmp 19)
   (.steps [
     .act (some 20) (.op (.pure (.move (.tmp 0)))) none,
     .act (some 21) (.op (.pure (.nilCheck (.tmp 20)))) none,
     .act (some 22) (.op (.pure (.fieldAddr 4 (.tmp 21)))) none,
     .act none (.op (.eff (.store 1 (.tmp 22) (.const (w64 0#64))))) none])
   .skip))) }
theorem c63 : compFn Try.prog (mkPlan Try.prog) [] true 63 = some L63 := by kernel_rfl
/-- (*sluiceway/mem.Mem).Load -/
def L64 : LFun := { n := 10, pop := true, res := [.load1 4], code :=
  (.seq (.steps [
    .act (some 4) (.op (.new (.alloc [(w64 0#64)]))) none])
  (.seq (.steps [
    .act (some 5) (.op (.pure (.move (.tmp 0)))) none,
    .act (some 6) (.op (.pure (.move (.tmp 1)))) none,
    .act (some 7) (.op (.pure (.mkFunc 79 [] [(.tmp 4)]))) none,
    .act (some 8) (.call (.func 60) [(.tmp 5), (.const (.int .i64 0)), (.tmp 6), (.tmp 7)]) none])
  (.seq (.steps [
    .act (some 9) (.op (.read (.load1 (.tmp 4)))) none,
    .act none (.op (.eff (.store 1 (.tmp 4) (.tmp 9)))) none])
  .ret))) }
theorem c64 : compFn Try.prog (mkPlan Try.prog) [] true 64 = some L64 := by kernel_rfl
/-- (*sluiceway/vy.Op).head -/
def L65 : LFun := { n := 18, pop := true, res := [.tmp 2], code :=
  (.seq (.steps [
    .act (some 2) (.op (.pure (.move (.const (.int .i64 0))))) none])
  (.seq (.seq (.steps [
    .act (some 3) (.op (.pure (.move (.tmp 0)))) none,
    .act (some 4) (.op (.pure (.nilCheck (.tmp 3)))) none,
    .act (some 5) (.op (.pure (.fieldAddr 3 (.tmp 4)))) none,
    .act (some 6) (.op (.read (.load1 (.tmp 5)))) none])
  (.cond (.tmp 6)
   (.seq (.steps [
     .act (some 7) (.op (.pure (.move (.tmp 0)))) none,
     .act (some 8) (.op (.pure (.nilCheck (.tmp 7)))) none,
     .act (some 9) (.op (.pure (.fieldAddr 1 (.tmp 8)))) none,
     .act (some 10) (.op (.pure (.fieldAddr 0 (.tmp 9)))) none,
     .act (some 11) (.op (.read (.load1 (.tmp 10)))) none,
     .act (some 12) (.op (.pure (.bin .add (.tmp 11) (.const (.int .i64 1))))) none,
     .act (some 2) (.op (.pure (.move (.tmp 12)))) none])
   .ret)
   .skip))
  (.seq (.steps [
    .act (some 13) (.op (.pure (.move (.tmp 0)))) none,
    .act (some 14) (.op (.pure (.nilCheck (.tmp 13)))) none,
    .act (some 15) (.op (.pure (.fieldAddr 1 (.tmp 14)))) none,
    .act (some 16) (.op (.pure (.fieldAddr 0 (.tmp 15)))) none,
    .act (some 17) (.op (.read (.load1 (.tmp 16)))) none,
    .act (some 2) (.op (.pure (.move (.tmp 17)))) none])
  .ret))) }
theorem c65 : compFn Try.prog (mkPlan Try.prog) [] true 65 = some L65 := by kernel_rfl
/-- (*sluiceway/mem.Mem).Swap -/
def L66 : LFun := { n := 14, pop := true, res := [.load1 8], code :=
  (.seq (.steps [
    .act (some 6) (.op (.new (.box (.tmp 2)))) none,
    .act (some 7) (.op (.new (.box (.tmp 3)))) none,
    .act (some 8) (.op (.new (.alloc [(.bool false)]))) none])
  (.seq (.steps [
    .act (some 9) (.op (.pure (.move (.tmp 0)))) none,
    .act (some 10) (.op (.pure (.move (.tmp 1)))) none,
    .act (some 11) (.op (.pure (.mkFunc 80 [] [(.tmp 6), (.tmp 8), (.tmp 7)]))) none,
    .act (some 12) (.call (.func 60) [(.tmp 9), (.const (.int .i64 2)), (.tmp 10), (.tmp 11)]) none])
  (.seq (.steps [
    .act (some 13) (.op (.read (.load1 (.tmp 8)))) none,
    .act none (.op (.eff (.store 1 (.tmp 8) (.tmp 13)))) none])
  .ret))) }
theorem c66 : compFn Try.prog (mkPlan Try.prog) [] true 66 = some L66 := by kernel_rfl
/-- math/bits.OnesCount64 -/
def L67 : LFun := { n := 35, pop := true, res := [.tmp 2], code :=
  (.seq (.steps [
    .act (some 2) (.op (.pure (.move (.const (.int .i64 0))))) none])
  (.seq (.steps [
    .act (some 3) (.op (.pure (.move (.tmp 0)))) none,
    .act (some 4) (.op (.pure (.bin .shr (.tmp 3) (.const (w64 1#64))))) none,
    .act (some 5) (.op (.pure (.bin .and (.tmp 4) (.const (w64 6148914691236517205#64))))) none,
    .act (some 6) (.op (.pure (.move (.tmp 0)))) none,
    .act (some 7) (.op (.pure (.bin .and (.tmp 6) (.const (w64 6148914691236517205#64))))) none,
    .act (some 8) (.op (.pure (.bin .add (.tmp 5) (.tmp 7)))) none,
    .act (some 0) (.op (.pure (.move (.tmp 8)))) none])
  (.seq (.steps [
    .act (some 9) (.op (.pure (.move (.tmp 0)))) none,
    .act (some 10) (.op (.pure (.bin .shr (.tmp 9) (.const (w64 2#64))))) none,
    .act (some 11) (.op (.pure (.bin .and (.tmp 10) (.const (w64 3689348814741910323#64))))) none,
    .act (some 12) (.op (.pure (.move (.tmp 0)))) none,
    .act (some 13) (.op (.pure (.bin .and (.tmp 12) (.const (w64 3689348814741910323#64))))) none,
    .act (some 14) (.op (.pure (.bin .add (.tmp 11) (.tmp 13)))) none,
    .act (some 0) (.op (.pure (.move (.tmp 14)))) none])
  (.seq (.steps [
    .act (some 15) (.op (.pure (.move (.tmp 0)))) none,
    .act (some 16) (.op (.pure (.bin .shr (.tmp 15) (.const (w64 4#64))))) none,
    .act (some 17) (.op (.pure (.move (.tmp 0)))) none,
    .act (some 18) (.op (.pure (.bin .add (.tmp 16) (.tmp 17)))) none,
    .act (some 19) (.op (.pure (.bin .and (.tmp 18) (.const (w64 1085102592571150095#64))))) none,
    .act (some 0) (.op (.pure (.move (.tmp 19)))) none])
  (.seq (.steps [
    .act (some 20) (.op (.pure (.move (.tmp 0)))) none,
    .act (some 21) (.op (.pure (.move (.tmp 0)))) none,
    .act (some 22) (.op (.pure (.bin .shr (.tmp 21) (.const (w64 8#64))))) none,
    .act (some 23) (.op (.pure (.bin .add (.tmp 20) (.tmp 22)))) none,
    .act (some 0) (.op (.pure (.move (.tmp 23)))) none])
  (.seq (.steps [
    .act (some 24) (.op (.pure (.move (.tmp 0)))) none,
    .act (some 25) (.op (.pure (.move (.tmp 0)))) none,
    .act (some 26) (.op (.pure (.bin .shr (.tmp 25) (.const (w64 16#64))))) none,
    .act (some 27) (.op (.pure (.bin .add (.tmp 24) (.tmp 26)))) none,
    .act (some 0) (.op (.pure (.move (.tmp 27)))) none])
  (.seq (.steps [
    .act (some 28) (.op (.pure (.move (.tmp 0)))) none,
    .act (some 29) (.op (.pure (.move (.tmp 0)))) none,
    .act (some 30) (.op (.pure (.bin .shr (.tmp 29) (.const (w64 32#64))))) none,
    .act (some 31) (.op (.pure (.bin .add (.tmp 28) (.tmp 30)))) none,
    .act (some 0) (.op (.pure (.move (.tmp 31)))) none])
  (.seq (.steps [
    .act (some 32) (.op (.pure (.move (.tmp 0)))) none,
    .act (some 33) (.op (.pure (.conv .i64 (.tmp 32)))) none,
    .act (some 34) (.op (.pure (.bin .and (.tmp 33) (.const (.int .i64 127))))) none,
    .act (some 2) (.op (.pure (.move (.tmp 34)))) none])
  .ret)))))))) }
theorem c67 : compFn Try.prog (mkPlan Try.prog) [] true 67 = some L67 := by kernel_rfl
/-- (sluiceway/sluicewayref02.Mem).bad -/
def L68 : LFun := { n := 21, pop := true, res := [.tmp 4], code :=
  (.seq (.steps [
    .act (some 2) (.op (.new (.box (.tmp 0)))) none,
    .act (some 4) (.op (.pure (.move (.const (.bool false))))) none])
  (.seq (.steps [
    .act (some 5) (.op (.pure (.move (.tmp 1)))) none,
    .act (some 6) (.op (.pure (.bin .lss (.tmp 5) (.const (.int .i64 0))))) none,
    .act (some 7) (.op (.pure (.move (.tmp 6)))) none,
    .act (some 8) (.op (.pure (.move (.tmp 1)))) (some (7, false)),
    .act (some 9) (.op (.pure (.fieldAddr 0 (.tmp 2)))) (some (7, false)),
    .act (some 10) (.op (.read (.load1 (.tmp 9)))) (some (7, false)),
    .act (some 11) (.op (.pure (.len false (.tmp 10)))) (some (7, false)),
    .act (some 12) (.op (.pure (.bin .geq (.tmp 8) (.tmp 11)))) (some (7, false)),
    .act (some 13) (.op (.pure (.pick (.tmp 7) (.const (.bool true)) (.tmp 12)))) none,
    .act (some 14) (.op (.pure (.move (.tmp 13)))) none,
    .act (some 15) (.op (.pure (.fieldAddr 1 (.tmp 2)))) (some (14, false)),
    .act (some 16) (.op (.read (.load1 (.tmp 15)))) (some (14, false)),
    .act (some 17) (.op (.pure (.move (.tmp 1)))) (some (14, false)),
    .act (some 18) (.op (.pure (.idxSl 1 (.tmp 16) (.tmp 17)))) (some (14, false)),
    .act (some 19) (.op (.read (.load1 (.tmp 18)))) (some (14, false)),
    .act (some 20) (.op (.pure (.pick (.tmp 14) (.const (.bool true)) (.tmp 19)))) none,
    .act (some 4) (.op (.pure (.move (.tmp 20)))) none])
  .ret)) }
theorem c68 : compFn Try.prog (mkPlan Try.prog) [] true 68 = some L68 := by kernel_rfl
/-- sluiceway/hist.Right -/
def L69 : LFun := { n := 28, pop := true, res := [.tmp 2], code :=
  (.seq (.steps [
    .act (some 2) (.op (.pure (.move (.const (.bool false))))) none])
  (.seq (.seq (.steps [
    .act (some 6) (.op (.pure (.move (.tmp 0)))) none,
    .act (some 7) (.op (.pure (.len false (.tmp 6)))) none,
    .act (some 8) (.op (.pure (.bin .gtr (.tmp 7) (.const (.int .i64 1024))))) none])
  (.cond (.tmp 8)
   (.seq (.steps [
     .act (some 2) (.op (.pure (.move (.const (.bool false))))) none])
   .ret)
   .skip))
  (.seq (.seq (.steps [
    .act (some 9) (.op (.pure (.move (.tmp 0)))) none,
    .act (some 10) (.op (.pure (.len false (.tmp 9)))) none,
    .act (some 11) (.op (.pure (.move (.const (.int .i64 0))))) none])
  (.block 0 (.loop [0, 9, 10, 11] (.seq (.steps [
      .act (some 12) (.op (.pure (.bin .lss (.tmp 11) (.tmp 10)))) none])
    (.seq (.cond (.tmp 12)
     .skip
     (.exit 0))
    (.seq (.block 1 (.seq (.steps [
       .act (some 13) (.op (.pure (.move (.tmp 11)))) none,
       .act (some 14) (.op (.pure (.idxSl 8 (.tmp 9) (.tmp 11)))) none,
       .act (some 15) (.op (.read (.loadN 8 (.tmp 14)))) none,
       .act (some 4) (.op (.new (.alloc [(.int .i64 0), (.int .i64 0), (w64 0#64), (.int .i64 0), (.int .i64 0), (.bool false), (.int .i64 0), (w64 0#64)]))) none,
       .act (some 3) (.op (.pure (.move (.tmp 13)))) none,
       .act none (.op (.eff (.store 8 (.tmp 4) (.tmp 15)))) none])
     (.seq (.steps [
       .act (some 16) (.op (.pure (.mkFunc 81 [] [(.tmp 4)]))) none,
       .act (some 5) (.op (.pure (.move (.tmp 16)))) none])
     (.seq (.steps [
       .act (some 17) (.op (.read (.loadN 8 (.tmp 4)))) none,
       .act (some 18) (.call (.func 83) [(.tmp 17)]) none,
       .act (some 19) (.op (.pure (.not (.tmp 18)))) none,
       .act (some 20) (.op (.pure (.move (.tmp 19)))) none,
       .act (some 21) (.op (.pure (.move (.tmp 0)))) (some (20, false)),
       .act (some 22) (.op (.pure (.move (.tmp 3)))) (some (20, false)),
       .act (some 23) (.op (.read (.slSl 8 (.tmp 21) none (some (.tmp 22)) none))) (some (20, false)),
       .act (some 24) (.op (.pure (.move (.tmp 5)))) (some (20, false)),
       .act (some 25) (.call (.func 84) [(.tmp 23), (.tmp 24)]) (some (20, false)),
       .act (some 26) (.op (.pure (.pick (.tmp 20) (.const (.bool true)) (.tmp 25)))) none])
     (.cond (.tmp 26)
      (.seq (.steps [
        .act (some 2) (.op (.pure (.move (.const (.bool false))))) none])
      .ret)
      .skip)))))
    (.steps [
      .act (some 27) (.op (.pure (.bin .add (.tmp 11) (.const (.int .i64 1))))) none,
      .act (some 11) (.op (.pure (.move (.tmp 27)))) none])))))))
  (.seq (.steps [
    .act (some 2) (.op (.pure (.move (.const (.bool true))))) none])
  .ret)))) }
theorem c69 : compFn Try.prog (mkPlan Try.prog) [(4, [0, 9, 10, 11])] true 69 = some L69 := by kernel_rfl
/-- sluiceway/hist.Ahead -/
def L70 : LFun := { n := 14, pop := true, res := [.tmp 4], code :=
  (.seq (.steps [
    .act (some 2) (.op (.new (.box (.tmp 0)))) none,
    .act (some 3) (.op (.new (.box (.tmp 1)))) none,
    .act (some 4) (.op (.pure (.move (.const (.bool false))))) none])
  (.seq (.steps [
    .act (some 5) (.op (.pure (.fieldAddr 5 (.tmp 2)))) none,
    .act (some 6) (.op (.read (.load1 (.tmp 5)))) none,
    .act (some 7) (.op (.pure (.move (.tmp 6)))) none,
    .act (some 8) (.op (.pure (.fieldAddr 4 (.tmp 2)))) (some (7, true)),
    .act (some 9) (.op (.read (.load1 (.tmp 8)))) (some (7, true)),
    .act (some 10) (.op (.pure (.fieldAddr 3 (.tmp 3)))) (some (7, true)),
    .act (some 11) (.op (.read (.load1 (.tmp 10)))) (some (7, true)),
    .act (some 12) (.op (.pure (.bin .lss (.tmp 9) (.tmp 11)))) (some (7, true)),
    .act (some 13) (.op (.pure (.pick (.tmp 7) (.tmp 12) (.const (.bool false))))) none,
    .act (some 4) (.op (.pure (.move (.tmp 13)))) none])
  .ret)) }
theorem c70 : compFn Try.prog (mkPlan Try.prog) [] true 70 = some L70 := by kernel_rfl
/-- (sluiceway/lin.set).with -/
def L71 : LFun := { n := 9, pop := true, res := [.tmp 4], code :=
  (.seq (.steps [
    .act (some 4) (.op (.pure (.move (.const (w64 0#64))))) none])
  (.seq (.steps [
    .act (some 5) (.op (.pure (.move (.tmp 0)))) none,
    .act (some 6) (.op (.pure (.move (.tmp 1)))) none,
    .act (some 7) (.op (.pure (.bin .shl (.const (w64 1#64)) (.tmp 6)))) none,
    .act (some 8) (.op (.pure (.bin .or (.tmp 5) (.tmp 7)))) none,
    .act (some 4) (.op (.pure (.move (.tmp 8)))) none])
  .ret)) }
theorem c71 : compFn Try.prog (mkPlan Try.prog) [] true 71 = some L71 := by kernel_rfl
/-- (*sluiceway/lin.finder[sluiceway/spec.Fifo]).find -/
def L72 : LFun := { n := 99, pop := false, res := [.tmp 6], code :=
  (.seq (.steps [
    .act (some 5) (.op (.new (.box (.tmp 2)))) none,
    .act (some 6) (.op (.pure (.move (.const (.bool false))))) none])
  (.seq (.seq (.steps [
    .act (some 11) (.op (.pure (.move (.tmp 0)))) none,
    .act (some 12) (.op (.pure (.nilCheck (.tmp 11)))) none,
    .act (some 13) (.op (.pure (.fieldAddr 2 (.tmp 12)))) none,
    .act (some 14) (.op (.read (.load1 (.tmp 13)))) none,
    .act (some 15) (.op (.pure (.move (.tmp 1)))) none,
    .act (some 16) (.op (.pure (.bin .andNot (.tmp 14) (.tmp 15)))) none,
    .act (some 17) (.op (.pure (.bin .eql (.tmp 16) (.const (w64 0#64))))) none])
  (.cond (.tmp 17)
   (.seq (.steps [
     .act (some 6) (.op (.pure (.move (.const (.bool true))))) none])
   .ret)
   .skip))
  (.seq (.steps [
    .act (some 18) (.op (.pure (.move (.tmp 0)))) none,
    .act (some 19) (.op (.pure (.move (.tmp 1)))) none,
    .act (some 20) (.op (.read (.loadN 2 (.tmp 5)))) none,
    .act (some 21) (.call (.func 85) [(.tmp 18), (.tmp 19), (.tmp 20)]) none,
    .act (some 7) (.op (.pure (.move (.tmp 21)))) none])
  (.seq (.seq (.steps [
    .act (some 22) (.op (.pure (.move (.tmp 0)))) none,
    .act (some 23) (.op (.pure (.nilCheck (.tmp 22)))) none,
    .act (some 24) (.op (.pure (.fieldAddr 5 (.tmp 23)))) none,
    .act (some 25) (.op (.read (.load1 (.tmp 24)))) none,
    .act (some 26) (.op (.pure (.move (.tmp 7)))) none,
    .act (some 27) (.op (.read (.lookup true (.bool false) false (.tmp 25) (.tmp 26)))) none])
  (.cond (.tmp 27)
   (.seq (.steps [
     .act (some 6) (.op (.pure (.move (.const (.bool false))))) none])
   .ret)
   .skip))
  (.seq .skip
  (.seq (.seq (.steps [
    .act (some 28) (.op (.pure (.move (.tmp 0)))) none,
    .act (some 29) (.op (.pure (.nilCheck (.tmp 28)))) none,
    .act (some 30) (.op (.pure (.fieldAddr 0 (.tmp 29)))) none,
    .act (some 31) (.op (.read (.load1 (.tmp 30)))) none,
    .act (some 32) (.op (.pure (.len false (.tmp 31)))) none,
    .act (some 33) (.op (.pure (.move (.const (.int .i64 0))))) none])
  (.block 0 (.loop [0, 1, 5, 7, 32, 33] (.seq (.steps [
      .act (some 34) (.op (.pure (.bin .lss (.tmp 33) (.tmp 32)))) none])
    (.seq (.cond (.tmp 34)
     .skip
     (.exit 0))
    (.seq (.block 1 (.seq (.steps [
       .act (some 35) (.op (.pure (.move (.tmp 33)))) none,
       .act (some 8) (.op (.pure (.move (.tmp 35)))) none])
     (.seq (.seq (.steps [
       .act (some 36) (.op (.pure (.move (.tmp 1)))) none,
       .act (some 37) (.op (.pure (.move (.tmp 8)))) none,
       .act (some 38) (.call (.func 86) [(.tmp 36), (.tmp 37)]) none,
       .act (some 39) (.op (.pure (.move (.tmp 38)))) none,
       .act (some 40) (.op (.pure (.move (.tmp 0)))) (some (39, false)),
       .act (some 41) (.op (.pure (.nilCheck (.tmp 40)))) (some (39, false)),
       .act (some 42) (.op (.pure (.fieldAddr 1 (.tmp 41)))) (some (39, false)),
       .act (some 43) (.op (.read (.load1 (.tmp 42)))) (some (39, false)),
       .act (some 44) (.op (.pure (.move (.tmp 8)))) (some (39, false)),
       .act (some 45) (.op (.pure (.idxSl 1 (.tmp 43) (.tmp 44)))) (some (39, false)),
       .act (some 46) (.op (.read (.load1 (.tmp 45)))) (some (39, false)),
       .act (some 47) (.op (.pure (.move (.tmp 1)))) (some (39, false)),
       .act (some 48) (.op (.pure (.bin .andNot (.tmp 46) (.tmp 47)))) (some (39, false)),
       .act (some 49) (.op (.pure (.bin .neq (.tmp 48) (.const (w64 0#64))))) (some (39, false)),
       .act (some 50) (.op (.pure (.pick (.tmp 39) (.const (.bool true)) (.tmp 49)))) none])
     (.cond (.tmp 50)
      (.exit 1)
      .skip))
     (.seq (.steps [
       .act (some 52) (.op (.pure (.move (.tmp 0)))) none,
       .act (some 53) (.op (.pure (.nilCheck (.tmp 52)))) none,
       .act (some 54) (.op (.pure (.fieldAddr 3 (.tmp 53)))) none,
       .act (some 55) (.op (.read (.load1 (.tmp 54)))) none,
       .act (some 56) (.op (.read (.loadN 2 (.tmp 5)))) none,
       .act (some 57) (.op (.pure (.move (.tmp 8)))) none,
       .act (some 9) (.op (.new (.alloc [(.int .i64 0), (.slice none 0 0)]))) none,
       .act (some 58) (.call (.tmp 55) [(.tmp 56), (.tmp 57)]) none,
       .act (some 51) (.op (.pure (.move (.tmp 58)))) none,
       .act (some 59) (.op (.pure (.extract (.tmp 51) 0))) none,
       .act (some 60) (.op (.pure (.extract (.tmp 51) 1))) none,
       .act none (.op (.eff (.store 2 (.tmp 9) (.tmp 59)))) none,
       .act (some 10) (.op (.pure (.move (.tmp 60)))) none])
     (.seq (.seq (.steps [
       .act (some 61) (.op (.pure (.move (.tmp 10)))) none,
       .act (some 62) (.op (.pure (.not (.tmp 61)))) none])
     (.cond (.tmp 62)
      (.exit 1)
      .skip))
     (.seq (.steps [
       .act (some 63) (.op (.pure (.move (.tmp 0)))) none,
       .act (some 64) (.op (.pure (.move (.tmp 0)))) none,
       .act (some 65) (.op (.pure (.nilCheck (.tmp 64)))) none,
       .act (some 66) (.op (.pure (.fieldAddr 6 (.tmp 65)))) none,
       .act (some 67) (.op (.read (.load1 (.tmp 66)))) none,
       .act (some 68) (.op (.pure (.move (.tmp 8)))) none,
       .act (some 69) (.op (.new (.mkSlice 1 1 [(.int .i64 0)] [(0, 1, (.tmp 68))]))) none,
       .act (some 70) (.op (.eff (.append 1 8 (.tmp 67) (.tmp 69)))) none,
       .act (some 71) (.op (.pure (.nilCheck (.tmp 63)))) none,
       .act (some 72) (.op (.pure (.fieldAddr 6 (.tmp 71)))) none,
       .act none (.op (.eff (.store 1 (.tmp 72) (.tmp 70)))) none])
     (.seq (.seq (.steps [
       .act (some 73) (.op (.pure (.move (.tmp 0)))) none,
       .act (some 74) (.op (.pure (.move (.tmp 1)))) none,
       .act (some 75) (.op (.pure (.move (.tmp 8)))) none,
       .act (some 77) (.op (.read (.loadN 2 (.tmp 9)))) none,
       .act (some 76) (.call (.func 71) [(.tmp 74), (.tmp 75)]) none,
       .again 77 (.loadN 2 (.tmp 9)) none,
       .act (some 78) (.call (.func 72) [(.tmp 73), (.tmp 76), (.tmp 77)]) none])
     (.cond (.tmp 78)
      (.seq (.steps [
        .act (some 6) (.op (.pure (.move (.const (.bool true))))) none])
      .ret)
      .skip))
     (.steps [
       .act (some 79) (.op (.pure (.move (.tmp 0)))) none,
       .act (some 80) (.op (.pure (.move (.tmp 0)))) none,
       .act (some 81) (.op (.pure (.nilCheck (.tmp 80)))) none,
       .act (some 82) (.op (.pure (.fieldAddr 6 (.tmp 81)))) none,
       .act (some 83) (.op (.read (.load1 (.tmp 82)))) none,
       .act (some 84) (.op (.pure (.move (.tmp 0)))) none,
       .act (some 85) (.op (.pure (.nilCheck (.tmp 84)))) none,
       .act (some 86) (.op (.pure (.fieldAddr 6 (.tmp 85)))) none,
       .act (some 87) (.op (.read (.load1 (.tmp 86)))) none,
       .act (some 88) (.op (.pure (.len false (.tmp 87)))) none,
       .act (some 89) (.op (.pure (.bin .sub (.tmp 88) (.const (.int .i64 1))))) none,
       .act (some 90) (.op (.read (.slSl 1 (.tmp 83) none (some (.tmp 89)) none))) none,
       .act (some 91) (.op (.pure (.nilCheck (.tmp 79)))) none,
       .act (some 92) (.op (.pure (.fieldAddr 6 (.tmp 91)))) none,
       .act none (.op (.eff (.store 1 (.tmp 92) (.tmp 90)))) none]))))))))
    (.steps [
      .act (some 93) (.op (.pure (.bin .add (.tmp 33) (.const (.int .i64 1))))) none,
      .act (some 33) (.op (.pure (.move (.tmp 93)))) none])))))))
  (.seq (.steps [
    .act (some 94) (.op (.pure (.move (.tmp 0)))) none,
    .act (some 95) (.op (.pure (.nilCheck (.tmp 94)))) none,
    .act (some 96) (.op (.pure (.fieldAddr 5 (.tmp 95)))) none,
    .act (some 97) (.op (.read (.load1 (.tmp 96)))) none,
    .act (some 98) (.op (.pure (.move (.tmp 7)))) none,
    .act none (.op (.eff (.mapUpdate true (.tmp 97) (.tmp 98) (.const (.bool true))))) none])
  (.seq (.steps [
    .act (some 6) (.op (.pure (.move (.const (.bool false))))) none])
  .ret)))))))) }
theorem c72 : compFn Try.prog (mkPlan Try.prog) [(7, [0, 1, 5, 7, 32, 33])] false 72 = some L72 := by kernel_rfl
/-- sluiceway/lin.may$1 -/
def L73 : LFun := { n := 23, pop := false, res := [.loadN 2 6, .tmp 7], code :=
  (.seq (.steps [
    .act (some 4) (.op (.new (.box (.tmp 0)))) none,
    .act (some 6) (.op (.new (.alloc [(.int .i64 0), (.slice none 0 0)]))) none,
    .act (some 7) (.op (.pure (.move (.const (.bool false))))) none])
  (.seq (.steps [
    .act (some 8) (.op (.read (.loadN 2 (.tmp 4)))) none,
    .act (some 9) (.op (.read (.load1 (.tmp 2)))) none,
    .act (some 10) (.op (.pure (.move (.tmp 1)))) none,
    .act (some 11) (.op (.pure (.idxSl 8 (.tmp 9) (.tmp 10)))) none,
    .act (some 12) (.op (.read (.loadN 8 (.tmp 11)))) none,
    .act (some 13) (.op (.read (.load1 (.tmp 3)))) none,
    .act (some 14) (.op (.read (.load1 (.tmp 2)))) none,
    .act (some 15) (.op (.pure (.move (.tmp 1)))) none,
    .act (some 17) (.op (.read (.load1 (.tmp 2)))) none,
    .act (some 18) (.op (.pure (.move (.tmp 1)))) none,
    .act (some 16) (.call (.func 75) [(.tmp 14), (.tmp 15), (.const (.int .i64 0))]) none,
    .again 17 (.load1 (.tmp 2)) none,
    .again 13 (.load1 (.tmp 3)) none,
    .again 12 (.loadN 8 (.tmp 11)) none,
    .again 9 (.load1 (.tmp 2)) none,
    .again 8 (.loadN 2 (.tmp 4)) none,
    .act (some 19) (.call (.func 75) [(.tmp 17), (.tmp 18), (.const (.int .i64 1))]) none,
    .again 13 (.load1 (.tmp 3)) none,
    .again 12 (.loadN 8 (.tmp 11)) none,
    .again 9 (.load1 (.tmp 2)) none,
    .again 8 (.loadN 2 (.tmp 4)) none,
    .act (some 20) (.call (.func 74) [(.tmp 8), (.tmp 12), (.tmp 13), (.tmp 16), (.tmp 19)]) none,
    .act (some 21) (.op (.pure (.extract (.tmp 20) 0))) none,
    .act (some 22) (.op (.pure (.extract (.tmp 20) 1))) none,
    .act none (.op (.eff (.store 2 (.tmp 6) (.tmp 21)))) none,
    .act (some 7) (.op (.pure (.move (.tmp 22)))) none])
  .ret)) }
theorem c73 : compFn Try.prog (mkPlan Try.prog) [] false 73 = some L73 := by kernel_rfl
/-- (sluiceway/spec.Fifo).May -/
def L74 : LFun := { n := 61, pop := false, res := [.loadN 2 10, .tmp 11], code :=
  (.seq (.steps [
    .act (some 5) (.op (.new (.box (.tmp 0)))) none,
    .act (some 6) (.op (.new (.box (.tmp 1)))) none,
    .act (some 10) (.op (.new (.alloc [(.int .i64 0), (.slice none 0 0)]))) none,
    .act (some 11) (.op (.pure (.move (.const (.bool false))))) none])
  (.seq (.steps [
    .act (some 16) (.op (.read (.loadN 2 (.tmp 5)))) none,
    .act (some 17) (.op (.pure (.fieldAddr 1 (.tmp 6)))) none,
    .act (some 18) (.op (.read (.load1 (.tmp 17)))) none,
    .act (some 19) (.op (.pure (.fieldAddr 2 (.tmp 6)))) none,
    .act (some 20) (.op (.read (.load1 (.tmp 19)))) none,
    .act (some 21) (.call (.func 27) [(.tmp 16), (.tmp 18), (.tmp 20)]) none,
    .act (some 15) (.op (.pure (.move (.tmp 21)))) none,
    .act (some 22) (.op (.pure (.extract (.tmp 15) 0))) none,
    .act (some 23) (.op (.pure (.extract (.tmp 15) 1))) none,
    .act (some 24) (.op (.pure (.extract (.tmp 15) 2))) none,
    .act (some 12) (.op (.new (.alloc [(.int .i64 0), (.slice none 0 0)]))) none,
    .act none (.op (.eff (.store 2 (.tmp 12) (.tmp 22)))) none,
    .act (some 13) (.op (.pure (.move (.tmp 23)))) none,
    .act (some 14) (.op (.pure (.move (.tmp 24)))) none])
  (.seq (.block 0 (.seq (.seq (.steps [
     .act (some 26) (.op (.pure (.fieldAddr 5 (.tmp 6)))) none,
     .act (some 27) (.op (.read (.load1 (.tmp 26)))) none,
     .act (some 28) (.op (.pure (.not (.tmp 27)))) none,
     .act (some 29) (.op (.pure (.move (.tmp 28)))) none,
     .act (some 30) (.op (.pure (.move (.tmp 13)))) (some (29, true)),
     .act (some 31) (.op (.pure (.bin .eql (.tmp 30) (.const (.int .i64 0))))) (some (29, true)),
     .act (some 32) (.op (.pure (.pick (.tmp 29) (.tmp 31) (.const (.bool false))))) none,
     .act (some 25) (.op (.pure (.move (.tmp 32)))) none])
   (.cond (.tmp 25)
    .skip
    (.steps [
      .act (some 33) (.op (.pure (.fieldAddr 5 (.tmp 6)))) none,
      .act (some 34) (.op (.read (.load1 (.tmp 33)))) none,
      .act (some 35) (.op (.pure (.move (.tmp 34)))) none,
      .act (some 36) (.op (.pure (.move (.tmp 13)))) (some (35, true)),
      .act (some 37) (.op (.pure (.fieldAddr 6 (.tmp 6)))) (some (35, true)),
      .act (some 38) (.op (.read (.load1 (.tmp 37)))) (some (35, true)),
      .act (some 39) (.op (.pure (.bin .eql (.tmp 36) (.tmp 38)))) (some (35, true)),
      .act (some 40) (.op (.pure (.pick (.tmp 35) (.tmp 39) (.const (.bool false))))) none,
      .act (some 41) (.op (.pure (.move (.tmp 40)))) none,
      .act (some 42) (.op (.pure (.move (.tmp 14)))) (some (41, true)),
      .act (some 43) (.op (.pure (.fieldAddr 7 (.tmp 6)))) (some (41, true)),
      .act (some 44) (.op (.read (.load1 (.tmp 43)))) (some (41, true)),
      .act (some 45) (.op (.pure (.bin .eql (.tmp 42) (.tmp 44)))) (some (41, true)),
      .act (some 46) (.op (.pure (.pick (.tmp 41) (.tmp 45) (.const (.bool false))))) none,
      .act (some 25) (.op (.pure (.move (.tmp 46)))) none])))
   (.cond (.tmp 25)
    (.seq (.steps [
      .act (some 47) (.op (.read (.loadN 2 (.tmp 12)))) none,
      .act none (.op (.eff (.store 2 (.tmp 10) (.tmp 47)))) none,
      .act (some 11) (.op (.pure (.move (.const (.bool true))))) none])
    .ret)
    (.seq (.steps [
      .act (some 49) (.op (.pure (.fieldAddr 5 (.tmp 6)))) none,
      .act (some 50) (.op (.read (.load1 (.tmp 49)))) none,
      .act (some 51) (.op (.pure (.move (.tmp 50)))) none,
      .act (some 52) (.op (.read (.loadN 2 (.tmp 5)))) (some (51, true)),
      .act (some 53) (.op (.read (.loadN 8 (.tmp 6)))) (some (51, true)),
      .act (some 54) (.op (.pure (.move (.tmp 2)))) (some (51, true)),
      .act (some 55) (.op (.pure (.move (.tmp 3)))) (some (51, true)),
      .act (some 56) (.op (.pure (.move (.tmp 4)))) (some (51, true)),
      .act (some 57) (.call (.func 87) [(.tmp 52), (.tmp 53), (.tmp 54), (.tmp 55), (.tmp 56)]) (some (51, true)),
      .act (some 58) (.op (.pure (.pick (.tmp 51) (.tmp 57) (.const (.bool false))))) none,
      .act (some 48) (.op (.pure (.move (.tmp 58)))) none])
    (.cond (.tmp 48)
     (.seq (.steps [
       .act (some 59) (.op (.read (.loadN 2 (.tmp 5)))) none,
       .act none (.op (.eff (.store 2 (.tmp 10) (.tmp 59)))) none,
       .act (some 11) (.op (.pure (.move (.const (.bool true))))) none])
     .ret)
     .skip)))))
  (.seq (.steps [
    .act (some 60) (.op (.pure (.build [(.int .i64 0), (.slice none 0 0)] []))) none,
    .act none (.op (.eff (.store 2 (.tmp 10) (.tmp 60)))) none,
    .act (some 11) (.op (.pure (.move (.const (.bool false))))) none])
  .ret)))) }
theorem c74 : compFn Try.prog (mkPlan Try.prog) [] false 74 = some L74 := by kernel_rfl
/-- sluiceway/hist.Among -/
def L75 : LFun := { n := 50, pop := true, res := [.tmp 6], code :=
  (.seq (.steps [
    .act (some 6) (.op (.pure (.move (.const (.int .i64 0))))) none])
  (.seq (.seq (.steps [
    .act (some 10) (.op (.pure (.move (.tmp 1)))) none,
    .act (some 11) (.op (.pure (.bin .lss (.tmp 10) (.const (.int .i64 0))))) none,
    .act (some 12) (.op (.pure (.move (.tmp 11)))) none,
    .act (some 13) (.op (.pure (.move (.tmp 1)))) (some (12, false)),
    .act (some 14) (.op (.pure (.move (.tmp 0)))) (some (12, false)),
    .act (some 15) (.op (.pure (.len false (.tmp 14)))) (some (12, false)),
    .act (some 16) (.op (.pure (.bin .geq (.tmp 13) (.tmp 15)))) (some (12, false)),
    .act (some 17) (.op (.pure (.pick (.tmp 12) (.const (.bool true)) (.tmp 16)))) none])
  (.cond (.tmp 17)
   (.seq (.steps [
     .act (some 6) (.op (.pure (.move (.const (.int .i64 0))))) none])
   .ret)
   .skip))
  (.seq (.steps [
    .act (some 7) (.op (.pure (.move (.const (.int .i64 0))))) none])
  (.seq (.seq (.steps [
    .act (some 18) (.op (.pure (.move (.tmp 0)))) none,
    .act (some 19) (.op (.pure (.len false (.tmp 18)))) none,
    .act (some 20) (.op (.pure (.move (.const (.int .i64 0))))) none])
  (.block 0 (.loop [0, 1, 2, 7, 18, 19, 20] (.seq (.steps [
      .act (some 21) (.op (.pure (.bin .lss (.tmp 20) (.tmp 19)))) none])
    (.seq (.cond (.tmp 21)
     .skip
     (.exit 0))
    (.seq (.block 1 (.seq (.steps [
       .act (some 22) (.op (.pure (.move (.tmp 20)))) none,
       .act (some 23) (.op (.pure (.idxSl 8 (.tmp 18) (.tmp 20)))) none,
       .act (some 24) (.op (.read (.loadN 8 (.tmp 23)))) none,
       .act (some 9) (.op (.new (.alloc [(.int .i64 0), (.int .i64 0), (w64 0#64), (.int .i64 0), (.int .i64 0), (.bool false), (.int .i64 0), (w64 0#64)]))) none,
       .act (some 8) (.op (.pure (.move (.tmp 22)))) none,
       .act none (.op (.eff (.store 8 (.tmp 9) (.tmp 24)))) none])
     (.seq (.steps [
       .act (some 25) (.op (.pure (.move (.tmp 8)))) none,
       .act (some 26) (.op (.pure (.move (.tmp 1)))) none,
       .act (some 27) (.op (.pure (.bin .neq (.tmp 25) (.tmp 26)))) none,
       .act (some 28) (.op (.pure (.move (.tmp 27)))) none,
       .act (some 29) (.op (.pure (.move (.tmp 2)))) (some (28, true)),
       .act (some 30) (.op (.pure (.bin .lss (.tmp 29) (.const (.int .i64 0))))) (some (28, true)),
       .act (some 31) (.op (.pure (.move (.tmp 30)))) (some (28, true)),
       .act (some 32) (.op (.pure (.fieldAddr 1 (.tmp 9)))) (some (31, false)),
       .act (some 33) (.op (.read (.load1 (.tmp 32)))) (some (31, false)),
       .act (some 34) (.op (.pure (.move (.tmp 2)))) (some (31, false)),
       .act (some 35) (.op (.pure (.bin .eql (.tmp 33) (.tmp 34)))) (some (31, false)),
       .act (some 36) (.op (.pure (.pick (.tmp 31) (.const (.bool true)) (.tmp 35)))) (some (28, true)),
       .act (some 37) (.op (.pure (.pick (.tmp 28) (.tmp 36) (.const (.bool false))))) none,
       .act (some 38) (.op (.pure (.move (.tmp 37)))) none,
       .act (some 39) (.op (.read (.loadN 8 (.tmp 9)))) (some (38, true)),
       .act (some 40) (.op (.pure (.move (.tmp 0)))) (some (38, true)),
       .act (some 41) (.op (.pure (.move (.tmp 1)))) (some (38, true)),
       .act (some 42) (.op (.pure (.idxSl 8 (.tmp 40) (.tmp 41)))) (some (38, true)),
       .act (some 43) (.op (.read (.loadN 8 (.tmp 42)))) (some (38, true)),
       .act (some 44) (.call (.func 82) [(.tmp 39), (.tmp 43)]) (some (38, true)),
       .act (some 45) (.op (.pure (.pick (.tmp 38) (.tmp 44) (.const (.bool false))))) none])
     (.cond (.tmp 45)
      (.steps [
        .act (some 46) (.op (.pure (.move (.tmp 7)))) none,
        .act (some 47) (.op (.pure (.bin .add (.tmp 46) (.const (.int .i64 1))))) none,
        .act (some 7) (.op (.pure (.move (.tmp 47)))) none])
      .skip))))
    (.steps [
      .act (some 48) (.op (.pure (.bin .add (.tmp 20) (.const (.int .i64 1))))) none,
      .act (some 20) (.op (.pure (.move (.tmp 48)))) none])))))))
  (.seq (.steps [
    .act (some 49) (.op (.pure (.move (.tmp 7)))) none,
    .act (some 6) (.op (.pure (.move (.tmp 49)))) none])
  .ret))))) }
theorem c75 : compFn Try.prog (mkPlan Try.prog) [(5, [0, 1, 2, 7, 18, 19, 20])] true 75 = some L75 := by kernel_rfl
/-- sluiceway/spec.lay -/
def L76 : LFun := { n := 16, pop := false, res := [.tmp 4], code :=
  (.seq (.steps [
    .act (some 4) (.op (.pure (.move (.const (.slice none 0 0))))) none])
  (.seq (.seq (.steps [
    .act (some 5) (.op (.pure (.move (.const (.int .i64 0))))) none])
  (.block 0 (.loop [0, 1, 5] (.seq (.steps [
      .act (some 6) (.op (.pure (.bin .lss (.tmp 5) (.const (.int .i64 8))))) none])
    (.seq (.cond (.tmp 6)
     .skip
     (.exit 0))
    (.seq (.block 1 (.seq (.steps [
       .act (some 7) (.op (.pure (.move (.tmp 0)))) none,
       .act (some 8) (.op (.pure (.move (.tmp 1)))) none,
       .act (some 9) (.op (.pure (.conv .u8 (.tmp 8)))) none,
       .act (some 10) (.op (.new (.mkSlice 1 1 [(b8 0)] [(0, 1, (.tmp 9))]))) none,
       .act (some 11) (.op (.eff (.append 1 1 (.tmp 7) (.tmp 10)))) none,
       .act (some 0) (.op (.pure (.move (.tmp 11)))) none])
     (.steps [
       .act (some 12) (.op (.pure (.move (.tmp 1)))) none,
       .act (some 13) (.op (.pure (.bin .shr (.tmp 12) (.const (w64 8#64))))) none,
       .act (some 1) (.op (.pure (.move (.tmp 13)))) none])))
    (.steps [
      .act (some 14) (.op (.pure (.bin .add (.tmp 5) (.const (.int .i64 1))))) none,
      .act (some 5) (.op (.pure (.move (.tmp 14)))) none])))))))
  (.seq (.steps [
    .act (some 15) (.op (.pure (.move (.tmp 0)))) none,
    .act (some 4) (.op (.pure (.move (.tmp 15)))) none])
  .ret))) }
theorem c76 : compFn Try.prog (mkPlan Try.prog) [(2, [0, 1, 5])] false 76 = some L76 := by kernel_rfl
/-- (*sluiceway/mem.Mem).Barred -/
def L77 : LFun := { n := 22, pop := true, res := [.tmp 4], code :=
  (.seq (.steps [
    .act (some 4) (.op (.pure (.move (.const (.bool false))))) none])
  (.seq (.steps [
    .act (some 5) (.op (.pure (.move (.tmp 1)))) none,
    .act (some 6) (.op (.pure (.bin .lss (.tmp 5) (.const (.int .i64 0))))) none,
    .act (some 7) (.op (.pure (.move (.tmp 6)))) none,
    .act (some 8) (.op (.pure (.move (.tmp 1)))) (some (7, false)),
    .act (some 9) (.op (.pure (.move (.tmp 0)))) (some (7, false)),
    .act (some 10) (.call (.func 33) [(.tmp 9)]) (some (7, false)),
    .act (some 11) (.op (.pure (.bin .geq (.tmp 8) (.tmp 10)))) (some (7, false)),
    .act (some 12) (.op (.pure (.pick (.tmp 7) (.const (.bool true)) (.tmp 11)))) none,
    .act (some 13) (.op (.pure (.move (.tmp 12)))) none,
    .act (some 14) (.op (.pure (.move (.tmp 0)))) (some (13, false)),
    .act (some 15) (.op (.pure (.nilCheck (.tmp 14)))) (some (13, false)),
    .act (some 16) (.op (.pure (.fieldAddr 1 (.tmp 15)))) (some (13, false)),
    .act (some 17) (.op (.read (.load1 (.tmp 16)))) (some (13, false)),
    .act (some 18) (.op (.pure (.move (.tmp 1)))) (some (13, false)),
    .act (some 19) (.op (.pure (.idxSl 1 (.tmp 17) (.tmp 18)))) (some (13, false)),
    .act (some 20) (.op (.read (.load1 (.tmp 19)))) (some (13, false)),
    .act (some 21) (.op (.pure (.pick (.tmp 13) (.const (.bool true)) (.tmp 20)))) none,
    .act (some 4) (.op (.pure (.move (.tmp 21)))) none])
  .ret)) }
theorem c77 : compFn Try.prog (mkPlan Try.prog) [] true 77 = some L77 := by kernel_rfl
/-- (*sluiceway/mem.Mem).fall -/
def L78 : LFun := { n := 16, pop := true, res := [], code :=
  (.seq (.steps [
    .act (some 4) (.op (.pure (.move (.tmp 0)))) none,
    .act (some 5) (.op (.pure (.nilCheck (.tmp 4)))) none,
    .act (some 6) (.op (.pure (.fieldAddr 9 (.tmp 5)))) none,
    .act (some 7) (.op (.read (.load1 (.tmp 6)))) none,
    .act (some 8) (.op (.pure (.not (.tmp 7)))) none])
  (.cond (.tmp 8)
   (.steps [
     .act (some 9) (.op (.pure (.move (.tmp 0)))) none,
     .act (some 10) (.op (.pure (.move (.tmp 0)))) none,
     .act (some 11) (.op (.pure (.move (.tmp 1)))) none,
     .act (some 12) (.op (.pure (.nilCheck (.tmp 9)))) none,
     .act (some 13) (.op (.pure (.fieldAddr 8 (.tmp 12)))) none,
     .act none (.op (.eff (.store 1 (.tmp 13) (.tmp 11)))) none,
     .act (some 14) (.op (.pure (.nilCheck (.tmp 10)))) none,
     .act (some 15) (.op (.pure (.fieldAddr 9 (.tmp 14)))) none,
     .act none (.op (.eff (.store 1 (.tmp 15) (.const (.bool true))))) none])
   .skip)) }
theorem c78 : compFn Try.prog (mkPlan Try.prog) [] true 78 = some L78 := by kernel_rfl
/-- (*sluiceway/mem.Mem).Load$1 -/
def L79 : LFun := { n := 6, pop := true, res := [], code :=
  (.steps [
    .act (some 3) (.op (.pure (.move (.tmp 0)))) none,
    .act (some 4) (.op (.pure (.nilCheck (.tmp 3)))) none,
    .act (some 5) (.op (.read (.load1 (.tmp 4)))) none,
    .act none (.op (.eff (.store 1 (.tmp 1) (.tmp 5)))) none]) }
theorem c79 : compFn Try.prog (mkPlan Try.prog) [] true 79 = some L79 := by kernel_rfl
/-- (*sluiceway/mem.Mem).Swap$1 -/
def L80 : LFun := { n := 14, pop := true, res := [], code :=
  (.seq (.steps [
    .act (some 5) (.op (.pure (.move (.tmp 0)))) none,
    .act (some 6) (.op (.pure (.nilCheck (.tmp 5)))) none,
    .act (some 7) (.op (.read (.load1 (.tmp 6)))) none,
    .act (some 8) (.op (.read (.load1 (.tmp 1)))) none,
    .act (some 9) (.op (.pure (.bin .eql (.tmp 7) (.tmp 8)))) none,
    .act none (.op (.eff (.store 1 (.tmp 2) (.tmp 9)))) none])
  (.seq (.steps [
    .act (some 10) (.op (.read (.load1 (.tmp 2)))) none])
  (.cond (.tmp 10)
   (.steps [
     .act (some 11) (.op (.pure (.move (.tmp 0)))) none,
     .act (some 12) (.op (.read (.load1 (.tmp 3)))) none,
     .act (some 13) (.op (.pure (.nilCheck (.tmp 11)))) none,
     .act none (.op (.eff (.store 1 (.tmp 13) (.tmp 12)))) none])
   .skip))) }
theorem c80 : compFn Try.prog (mkPlan Try.prog) [] true 80 = some L80 := by kernel_rfl
/-- sluiceway/hist.Right$1 -/
def L81 : LFun := { n := 14, pop := true, res := [.tmp 3], code :=
  (.seq (.steps [
    .act (some 2) (.op (.new (.box (.tmp 0)))) none,
    .act (some 3) (.op (.pure (.move (.const (.bool false))))) none])
  (.seq (.steps [
    .act (some 4) (.op (.pure (.fieldAddr 0 (.tmp 2)))) none,
    .act (some 5) (.op (.read (.load1 (.tmp 4)))) none,
    .act (some 6) (.op (.pure (.fieldAddr 0 (.tmp 1)))) none,
    .act (some 7) (.op (.read (.load1 (.tmp 6)))) none,
    .act (some 8) (.op (.pure (.bin .eql (.tmp 5) (.tmp 7)))) none,
    .act (some 9) (.op (.pure (.move (.tmp 8)))) none,
    .act (some 10) (.op (.read (.loadN 8 (.tmp 2)))) (some (9, true)),
    .act (some 11) (.op (.read (.loadN 8 (.tmp 1)))) (some (9, true)),
    .act (some 12) (.call (.func 82) [(.tmp 10), (.tmp 11)]) (some (9, true)),
    .act (some 13) (.op (.pure (.pick (.tmp 9) (.tmp 12) (.const (.bool false))))) none,
    .act (some 3) (.op (.pure (.move (.tmp 13)))) none])
  .ret)) }
theorem c81 : compFn Try.prog (mkPlan Try.prog) [] true 81 = some L81 := by kernel_rfl
/-- sluiceway/hist.Meets -/
def L82 : LFun := { n := 15, pop := true, res := [.tmp 4], code :=
  (.seq (.steps [
    .act (some 2) (.op (.new (.box (.tmp 0)))) none,
    .act (some 3) (.op (.new (.box (.tmp 1)))) none,
    .act (some 4) (.op (.pure (.move (.const (.bool false))))) none])
  (.seq (.steps [
    .act (some 5) (.op (.read (.loadN 8 (.tmp 2)))) none,
    .act (some 6) (.op (.read (.loadN 8 (.tmp 3)))) none,
    .act (some 7) (.call (.func 70) [(.tmp 5), (.tmp 6)]) none,
    .act (some 8) (.op (.pure (.not (.tmp 7)))) none,
    .act (some 9) (.op (.pure (.move (.tmp 8)))) none,
    .act (some 10) (.op (.read (.loadN 8 (.tmp 3)))) (some (9, true)),
    .act (some 11) (.op (.read (.loadN 8 (.tmp 2)))) (some (9, true)),
    .act (some 12) (.call (.func 70) [(.tmp 10), (.tmp 11)]) (some (9, true)),
    .act (some 13) (.op (.pure (.not (.tmp 12)))) (some (9, true)),
    .act (some 14) (.op (.pure (.pick (.tmp 9) (.tmp 13) (.const (.bool false))))) none,
    .act (some 4) (.op (.pure (.move (.tmp 14)))) none])
  .ret)) }
theorem c82 : compFn Try.prog (mkPlan Try.prog) [] true 82 = some L82 := by kernel_rfl
/-- (sluiceway/hist.Call).right -/
def L83 : LFun := { n := 34, pop := true, res := [.tmp 2], code :=
  (.seq (.steps [
    .act (some 1) (.op (.new (.box (.tmp 0)))) none,
    .act (some 2) (.op (.pure (.move (.const (.bool false))))) none])
  (.seq (.seq (.steps [
    .act (some 3) (.op (.pure (.fieldAddr 0 (.tmp 1)))) none,
    .act (some 4) (.op (.read (.load1 (.tmp 3)))) none,
    .act (some 5) (.op (.pure (.bin .lss (.tmp 4) (.const (.int .i64 0))))) none,
    .act (some 6) (.op (.pure (.move (.tmp 5)))) none,
    .act (some 7) (.op (.pure (.fieldAddr 0 (.tmp 1)))) (some (6, false)),
    .act (some 8) (.op (.read (.load1 (.tmp 7)))) (some (6, false)),
    .act (some 9) (.op (.pure (.bin .geq (.tmp 8) (.const (.int .i64 64))))) (some (6, false)),
    .act (some 10) (.op (.pure (.pick (.tmp 6) (.const (.bool true)) (.tmp 9)))) none,
    .act (some 11) (.op (.pure (.move (.tmp 10)))) none,
    .act (some 12) (.op (.pure (.fieldAddr 3 (.tmp 1)))) (some (11, false)),
    .act (some 13) (.op (.read (.load1 (.tmp 12)))) (some (11, false)),
    .act (some 14) (.op (.pure (.bin .lss (.tmp 13) (.const (.int .i64 0))))) (some (11, false)),
    .act (some 15) (.op (.pure (.pick (.tmp 11) (.const (.bool true)) (.tmp 14)))) none])
  (.cond (.tmp 15)
   (.seq (.steps [
     .act (some 2) (.op (.pure (.move (.const (.bool false))))) none])
   .ret)
   .skip))
  (.seq (.seq (.steps [
    .act (some 16) (.op (.pure (.fieldAddr 5 (.tmp 1)))) none,
    .act (some 17) (.op (.read (.load1 (.tmp 16)))) none])
  (.cond (.tmp 17)
   (.seq (.steps [
     .act (some 18) (.op (.pure (.fieldAddr 4 (.tmp 1)))) none,
     .act (some 19) (.op (.read (.load1 (.tmp 18)))) none,
     .act (some 20) (.op (.pure (.fieldAddr 3 (.tmp 1)))) none,
     .act (some 21) (.op (.read (.load1 (.tmp 20)))) none,
     .act (some 22) (.op (.pure (.bin .geq (.tmp 19) (.tmp 21)))) none,
     .act (some 2) (.op (.pure (.move (.tmp 22)))) none])
   .ret)
   .skip))
  (.seq (.steps [
    .act (some 23) (.op (.read (.loadN 8 (.tmp 1)))) none,
    .act (some 24) (.op (.pure (.fieldAddr 0 (.tmp 1)))) none,
    .act (some 25) (.op (.read (.load1 (.tmp 24)))) none,
    .act (some 26) (.op (.pure (.fieldAddr 1 (.tmp 1)))) none,
    .act (some 27) (.op (.read (.load1 (.tmp 26)))) none,
    .act (some 28) (.op (.pure (.fieldAddr 2 (.tmp 1)))) none,
    .act (some 29) (.op (.read (.load1 (.tmp 28)))) none,
    .act (some 30) (.op (.pure (.fieldAddr 3 (.tmp 1)))) none,
    .act (some 31) (.op (.read (.load1 (.tmp 30)))) none,
    .act (some 32) (.op (.pure (.build [(.int .i64 0), (.int .i64 0), (w64 0#64), (.int .i64 0), (.int .i64 0), (.bool false), (.int .i64 0), (w64 0#64)] [(0, 1, (.tmp 25)), (1, 1, (.tmp 27)), (2, 1, (.tmp 29)), (3, 1, (.tmp 31))]))) none,
    .act (some 33) (.op (.pure (.eqAgg [false, false, false, false, false, true, false, false] false (.tmp 23) (.tmp 32)))) none,
    .act (some 2) (.op (.pure (.move (.tmp 33)))) none])
  .ret)))) }
theorem c83 : compFn Try.prog (mkPlan Try.prog) [] true 83 = some L83 := by kernel_rfl
/-- slices.ContainsFunc[[]sluiceway/hist.Call,sluiceway/hist.Call] -/
def L84 : LFun := { n := 9, pop := true, res := [.tmp 4], code :=
  (.seq (.steps [
    .act (some 4) (.op (.pure (.move (.const (.bool false))))) none])
  (.seq (.steps [
    .act (some 5) (.op (.pure (.move (.tmp 0)))) none,
    .act (some 6) (.op (.pure (.move (.tmp 1)))) none,
    .act (some 7) (.call (.func 88) [(.tmp 5), (.tmp 6)]) none,
    .act (some 8) (.op (.pure (.bin .geq (.tmp 7) (.const (.int .i64 0))))) none,
    .act (some 4) (.op (.pure (.move (.tmp 8)))) none])
  .ret)) }
theorem c84 : compFn Try.prog (mkPlan Try.prog) [] true 84 = some L84 := by kernel_rfl
/-- (*sluiceway/lin.finder[sluiceway/spec.Fifo]).name -/
def L85 : LFun := { n := 34, pop := true, res := [.tmp 6], code :=
  (.seq (.steps [
    .act (some 5) (.op (.new (.box (.tmp 2)))) none,
    .act (some 6) (.op (.pure (.move (.const (strV []))))) none])
  (.seq (.steps [
    .act (some 7) (.op (.pure (.move (.const (.slice none 0 0))))) none])
  (.seq (.seq (.steps [
    .act (some 9) (.op (.pure (.move (.tmp 1)))) none,
    .act (some 8) (.op (.pure (.move (.tmp 9)))) none])
  (.block 0 (.loop [0, 5, 7, 8] (.seq (.seq (.steps [
      .act (some 10) (.op (.pure (.move (.tmp 8)))) none,
      .act (some 11) (.op (.pure (.bin .gtr (.tmp 10) (.const (w64 0#64))))) none])
    (.cond (.tmp 11)
     .skip
     (.exit 0)))
    (.seq (.block 1 (.steps [
       .act (some 14) (.op (.pure (.move (.tmp 7)))) none,
       .act (some 15) (.op (.pure (.move (.tmp 8)))) none,
       .act (some 16) (.op (.pure (.conv .u8 (.tmp 15)))) none,
       .act (some 17) (.op (.new (.mkSlice 1 1 [(b8 0)] [(0, 1, (.tmp 16))]))) none,
       .act (some 18) (.op (.eff (.append 1 1 (.tmp 14) (.tmp 17)))) none,
       .act (some 7) (.op (.pure (.move (.tmp 18)))) none]))
    (.steps [
      .act (some 12) (.op (.pure (.move (.tmp 8)))) none,
      .act (some 13) (.op (.pure (.bin .shr (.tmp 12) (.const (w64 8#64))))) none,
      .act (some 8) (.op (.pure (.move (.tmp 13)))) none]))))))
  (.seq (.steps [
    .act (some 19) (.op (.pure (.move (.tmp 7)))) none,
    .act (some 20) (.op (.pure (.len false (.tmp 19)))) none,
    .act (some 21) (.op (.pure (.conv .u8 (.tmp 20)))) none,
    .act (some 22) (.op (.new (.mkSlice 1 1 [(b8 0)] [(0, 1, (.tmp 21))]))) none,
    .act (some 23) (.op (.read (.b2s (.tmp 22)))) none,
    .act (some 24) (.op (.pure (.move (.tmp 7)))) none,
    .act (some 25) (.op (.read (.b2s (.tmp 24)))) none,
    .act (some 26) (.op (.pure (.strOp .add (.tmp 23) (.tmp 25)))) none,
    .act (some 27) (.op (.pure (.move (.tmp 0)))) none,
    .act (some 28) (.op (.pure (.nilCheck (.tmp 27)))) none,
    .act (some 29) (.op (.pure (.fieldAddr 4 (.tmp 28)))) none,
    .act (some 30) (.op (.read (.load1 (.tmp 29)))) none,
    .act (some 31) (.op (.read (.loadN 2 (.tmp 5)))) none,
    .act (some 32) (.call (.tmp 30) [(.tmp 31)]) none,
    .act (some 33) (.op (.pure (.strOp .add (.tmp 26) (.tmp 32)))) none,
    .act (some 6) (.op (.pure (.move (.tmp 33)))) none,
    .again 25 (.b2s (.tmp 24)) none,
    .again 23 (.b2s (.tmp 22)) none])
  .ret)))) }
theorem c85 : compFn Try.prog (mkPlan Try.prog) [(3, [0, 5, 7, 8])] true 85 = some L85 := by kernel_rfl
/-- (sluiceway/lin.set).has -/
def L86 : LFun := { n := 10, pop := true, res := [.tmp 4], code :=
  (.seq (.steps [
    .act (some 4) (.op (.pure (.move (.const (.bool false))))) none])
  (.seq (.steps [
    .act (some 5) (.op (.pure (.move (.tmp 0)))) none,
    .act (some 6) (.op (.pure (.move (.tmp 1)))) none,
    .act (some 7) (.op (.pure (.bin .shr (.tmp 5) (.tmp 6)))) none,
    .act (some 8) (.op (.pure (.bin .and (.tmp 7) (.const (w64 1#64))))) none,
    .act (some 9) (.op (.pure (.bin .eql (.tmp 8) (.const (w64 1#64))))) none,
    .act (some 4) (.op (.pure (.move (.tmp 9)))) none])
  .ret)) }
theorem c86 : compFn Try.prog (mkPlan Try.prog) [] true 86 = some L86 := by kernel_rfl
/-- (sluiceway/spec.Fifo).let -/
def L87 : LFun := { n := 84, pop := true, res := [.tmp 10], code :=
  (.seq (.steps [
    .act (some 5) (.op (.new (.box (.tmp 0)))) none,
    .act (some 6) (.op (.new (.box (.tmp 1)))) none,
    .act (some 10) (.op (.pure (.move (.const (.bool false))))) none])
  (.seq (.steps [
    .act (some 11) (.op (.pure (.move (.tmp 3)))) none,
    .act (some 12) (.op (.pure (.minmax true [(.tmp 11), (.const (.int .i64 0))]))) none,
    .act (some 13) (.op (.pure (.move (.tmp 4)))) none,
    .act (some 14) (.op (.pure (.minmax true [(.tmp 13), (.const (.int .i64 0))]))) none,
    .act (some 3) (.op (.pure (.move (.tmp 12)))) none,
    .act (some 4) (.op (.pure (.move (.tmp 14)))) none])
  (.seq (.block 0 (.seq (.steps [
     .act (some 16) (.op (.pure (.fieldAddr 7 (.tmp 6)))) none,
     .act (some 17) (.op (.read (.load1 (.tmp 16)))) none,
     .act (some 18) (.op (.pure (.bin .neq (.tmp 17) (.const (w64 0#64))))) none,
     .act (some 15) (.op (.pure (.move (.tmp 18)))) none])
   (.cond (.tmp 15)
    (.seq (.steps [
      .act (some 10) (.op (.pure (.move (.const (.bool false))))) none])
    .ret)
    (.seq (.steps [
      .act (some 20) (.op (.pure (.fieldAddr 1 (.tmp 6)))) none,
      .act (some 21) (.op (.read (.load1 (.tmp 20)))) none,
      .act (some 22) (.op (.pure (.bin .eql (.tmp 21) (.const (.int .i64 0))))) none,
      .act (some 23) (.op (.pure (.move (.tmp 22)))) none,
      .act (some 24) (.op (.pure (.fieldAddr 6 (.tmp 6)))) (some (23, true)),
      .act (some 25) (.op (.read (.load1 (.tmp 24)))) (some (23, true)),
      .act (some 26) (.op (.pure (.bin .eql (.tmp 25) (.const (.int .i64 15))))) (some (23, true)),
      .act (some 27) (.op (.pure (.pick (.tmp 23) (.tmp 26) (.const (.bool false))))) none,
      .act (some 28) (.op (.pure (.move (.tmp 27)))) none,
      .act (some 29) (.op (.pure (.fieldAddr 0 (.tmp 5)))) (some (28, true)),
      .act (some 30) (.op (.read (.load1 (.tmp 29)))) (some (28, true)),
      .act (some 31) (.op (.pure (.bin .gtr (.tmp 30) (.const (.int .i64 0))))) (some (28, true)),
      .act (some 32) (.op (.pure (.pick (.tmp 28) (.tmp 31) (.const (.bool false))))) none,
      .act (some 33) (.op (.pure (.move (.tmp 32)))) none,
      .act (some 34) (.op (.pure (.move (.tmp 2)))) (some (33, true)),
      .act (some 35) (.op (.pure (.bin .eql (.tmp 34) (.const (.int .i64 1))))) (some (33, true)),
      .act (some 36) (.op (.pure (.pick (.tmp 33) (.tmp 35) (.const (.bool false))))) none,
      .act (some 19) (.op (.pure (.move (.tmp 36)))) none])
    (.cond (.tmp 19)
     (.seq (.steps [
       .act (some 37) (.op (.pure (.move (.tmp 3)))) none,
       .act (some 38) (.op (.read (.loadN 2 (.tmp 5)))) none,
       .act (some 39) (.call (.func 89) [(.tmp 38)]) none,
       .act (some 40) (.op (.pure (.bin .geq (.tmp 37) (.tmp 39)))) none,
       .act (some 41) (.op (.pure (.move (.tmp 40)))) none,
       .act (some 42) (.op (.pure (.move (.tmp 4)))) (some (41, false)),
       .act (some 43) (.op (.read (.loadN 2 (.tmp 5)))) (some (41, false)),
       .act (some 44) (.call (.func 89) [(.tmp 43)]) (some (41, false)),
       .act (some 45) (.op (.pure (.move (.tmp 3)))) (some (41, false)),
       .act (some 46) (.op (.pure (.bin .sub (.tmp 44) (.tmp 45)))) (some (41, false)),
       .act (some 47) (.op (.pure (.bin .geq (.tmp 42) (.tmp 46)))) (some (41, false)),
       .act (some 48) (.op (.pure (.pick (.tmp 41) (.const (.bool true)) (.tmp 47)))) none,
       .act (some 10) (.op (.pure (.move (.tmp 48)))) none])
     .ret)
     (.seq (.steps [
       .act (some 50) (.op (.pure (.fieldAddr 1 (.tmp 6)))) none,
       .act (some 51) (.op (.read (.load1 (.tmp 50)))) none,
       .act (some 52) (.op (.pure (.bin .eql (.tmp 51) (.const (.int .i64 0))))) none,
       .act (some 53) (.op (.pure (.move (.tmp 52)))) none,
       .act (some 54) (.op (.pure (.fieldAddr 6 (.tmp 6)))) (some (53, true)),
       .act (some 55) (.op (.read (.load1 (.tmp 54)))) (some (53, true)),
       .act (some 56) (.op (.pure (.bin .eql (.tmp 55) (.const (.int .i64 15))))) (some (53, true)),
       .act (some 57) (.op (.pure (.pick (.tmp 53) (.tmp 56) (.const (.bool false))))) none,
       .act (some 58) (.op (.pure (.move (.tmp 57)))) none,
       .act (some 59) (.op (.pure (.fieldAddr 0 (.tmp 5)))) (some (58, true)),
       .act (some 60) (.op (.read (.load1 (.tmp 59)))) (some (58, true)),
       .act (some 61) (.op (.pure (.bin .gtr (.tmp 60) (.const (.int .i64 0))))) (some (58, true)),
       .act (some 62) (.op (.pure (.pick (.tmp 58) (.tmp 61) (.const (.bool false))))) none,
       .act (some 63) (.op (.pure (.move (.tmp 62)))) none,
       .act (some 64) (.op (.pure (.move (.tmp 2)))) (some (63, true)),
       .act (some 65) (.op (.pure (.bin .eql (.tmp 64) (.const (.int .i64 2))))) (some (63, true)),
       .act (some 66) (.op (.pure (.pick (.tmp 63) (.tmp 65) (.const (.bool false))))) none,
       .act (some 49) (.op (.pure (.move (.tmp 66)))) none])
     (.cond (.tmp 49)
      (.seq (.steps [
        .act (some 67) (.op (.pure (.move (.tmp 4)))) none,
        .act (some 68) (.op (.pure (.bin .gtr (.tmp 67) (.const (.int .i64 0))))) none,
        .act (some 10) (.op (.pure (.move (.tmp 68)))) none])
      .ret)
      (.seq (.steps [
        .act (some 70) (.op (.pure (.fieldAddr 1 (.tmp 6)))) none,
        .act (some 71) (.op (.read (.load1 (.tmp 70)))) none,
        .act (some 72) (.op (.pure (.bin .eql (.tmp 71) (.const (.int .i64 1))))) none,
        .act (some 73) (.op (.pure (.move (.tmp 72)))) none,
        .act (some 74) (.op (.pure (.fieldAddr 6 (.tmp 6)))) (some (73, true)),
        .act (some 75) (.op (.read (.load1 (.tmp 74)))) (some (73, true)),
        .act (some 76) (.op (.pure (.bin .eql (.tmp 75) (.const (.int .i64 13))))) (some (73, true)),
        .act (some 77) (.op (.pure (.pick (.tmp 73) (.tmp 76) (.const (.bool false))))) none,
        .act (some 78) (.op (.pure (.move (.tmp 77)))) none,
        .act (some 79) (.op (.pure (.move (.tmp 2)))) (some (78, true)),
        .act (some 80) (.op (.pure (.bin .eql (.tmp 79) (.const (.int .i64 2))))) (some (78, true)),
        .act (some 81) (.op (.pure (.pick (.tmp 78) (.tmp 80) (.const (.bool false))))) none,
        .act (some 69) (.op (.pure (.move (.tmp 81)))) none])
      (.cond (.tmp 69)
       (.seq (.steps [
         .act (some 82) (.op (.pure (.move (.tmp 3)))) none,
         .act (some 83) (.op (.pure (.bin .gtr (.tmp 82) (.const (.int .i64 0))))) none,
         .act (some 10) (.op (.pure (.move (.tmp 83)))) none])
       .ret)
       .skip)))))))))
  (.seq (.steps [
    .act (some 10) (.op (.pure (.move (.const (.bool false))))) none])
  .ret)))) }
theorem c87 : compFn Try.prog (mkPlan Try.prog) [] true 87 = some L87 := by kernel_rfl
/-- slices.IndexFunc[[]sluiceway/hist.Call,sluiceway/hist.Call] -/
def L88 : LFun := { n := 19, pop := true, res := [.tmp 4], code :=
  (.seq (.steps [
    .act (some 4) (.op (.pure (.move (.const (.int .i64 0))))) none])
  (.seq (.seq (.steps [
    .act (some 6) (.op (.pure (.move (.tmp 0)))) none,
    .act (some 7) (.op (.pure (.len false (.tmp 6)))) none,
    .act (some 8) (.op (.pure (.move (.const (.int .i64 0))))) none])
  (.block 0 (.loop [0, 1, 7, 8] (.seq (.steps [
      .act (some 9) (.op (.pure (.bin .lss (.tmp 8) (.tmp 7)))) none])
    (.seq (.cond (.tmp 9)
     .skip
     (.exit 0))
    (.seq (.block 1 (.seq (.steps [
       .act (some 10) (.op (.pure (.move (.tmp 8)))) none,
       .act (some 5) (.op (.pure (.move (.tmp 10)))) none])
     (.seq (.steps [
       .act (some 11) (.op (.pure (.move (.tmp 1)))) none,
       .act (some 12) (.op (.pure (.move (.tmp 0)))) none,
       .act (some 13) (.op (.pure (.move (.tmp 5)))) none,
       .act (some 14) (.op (.pure (.idxSl 8 (.tmp 12) (.tmp 13)))) none,
       .act (some 15) (.op (.read (.loadN 8 (.tmp 14)))) none,
       .act (some 16) (.call (.tmp 11) [(.tmp 15)]) none])
     (.cond (.tmp 16)
      (.seq (.steps [
        .act (some 17) (.op (.pure (.move (.tmp 5)))) none,
        .act (some 4) (.op (.pure (.move (.tmp 17)))) none])
      .ret)
      .skip))))
    (.steps [
      .act (some 18) (.op (.pure (.bin .add (.tmp 8) (.const (.int .i64 1))))) none,
      .act (some 8) (.op (.pure (.move (.tmp 18)))) none])))))))
  (.seq (.steps [
    .act (some 4) (.op (.pure (.move (.const (.int .i64 (-1)))))) none])
  .ret))) }
theorem c88 : compFn Try.prog (mkPlan Try.prog) [(2, [0, 1, 7, 8])] true 88 = some L88 := by kernel_rfl
/-- (sluiceway/spec.Fifo).room -/
def L89 : LFun := { n := 10, pop := true, res := [.tmp 2], code :=
  (.seq (.steps [
    .act (some 1) (.op (.new (.box (.tmp 0)))) none,
    .act (some 2) (.op (.pure (.move (.const (.int .i64 0))))) none])
  (.seq (.steps [
    .act (some 3) (.op (.pure (.fieldAddr 0 (.tmp 1)))) none,
    .act (some 4) (.op (.read (.load1 (.tmp 3)))) none,
    .act (some 5) (.op (.pure (.fieldAddr 1 (.tmp 1)))) none,
    .act (some 6) (.op (.read (.load1 (.tmp 5)))) none,
    .act (some 7) (.op (.pure (.len false (.tmp 6)))) none,
    .act (some 8) (.op (.pure (.bin .sub (.tmp 4) (.tmp 7)))) none,
    .act (some 9) (.op (.pure (.minmax true [(.const (.int .i64 0)), (.tmp 8)]))) none,
    .act (some 2) (.op (.pure (.move (.tmp 9)))) none])
  .ret)) }
theorem c89 : compFn Try.prog (mkPlan Try.prog) [] true 89 = some L89 := by kernel_rfl
end Go.Proofs.Ytgipbamdefjenaa
