import Derived.Test.YtagpbakgjglnhaaLP
import Derived.KernelRfl
import Derived.Test.YtagpbakgjglnhaaProg
namespace Go.Proofs.Ytagpbakgjglnhaa
open Go Go.LK Go.Proofs
set_option maxRecDepth 100000
/-- sluiceway/sluicewaylaw21.BufTexts -/
def L3 : LFun := { n := 74, pop := true, res := [.tmp 4], code :=
  (.seq (.steps [
    .act (some 4) (.op (.pure (.move (.const (.bool false))))) none])
  (.seq (.seq (.steps [
    .act (some 9) (.op (.pure (.move (.tmp 0)))) none,
    .act (some 10) (.op (.pure (.len true (.tmp 9)))) none,
    .act (some 11) (.op (.pure (.bin .gtr (.tmp 10) (.const (.int .i64 2000))))) none,
    .act (some 12) (.op (.pure (.move (.tmp 11)))) none,
    .act (some 13) (.op (.pure (.move (.tmp 1)))) (some (12, false)),
    .act (some 14) (.op (.pure (.len false (.tmp 13)))) (some (12, false)),
    .act (some 15) (.op (.pure (.bin .gtr (.tmp 14) (.const (.int .i64 200))))) (some (12, false)),
    .act (some 16) (.op (.pure (.pick (.tmp 12) (.const (.bool true)) (.tmp 15)))) none])
  (.cond (.tmp 16)
   (.seq (.steps [
     .act (some 4) (.op (.pure (.move (.const (.bool true))))) none])
   .ret)
   .skip))
  (.seq (.steps [
    .act (some 18) (.op (.pure (.move (.tmp 0)))) none,
    .act (some 19) (.call (.func 6) [(.tmp 18)]) none,
    .act (some 17) (.op (.pure (.move (.tmp 19)))) none,
    .act (some 20) (.op (.pure (.extract (.tmp 17) 0))) none,
    .act (some 21) (.op (.pure (.extract (.tmp 17) 1))) none,
    .act (some 5) (.op (.pure (.move (.tmp 20)))) none,
    .act (some 6) (.op (.pure (.move (.tmp 21)))) none])
  (.seq (.seq (.steps [
    .act (some 22) (.op (.pure (.move (.tmp 0)))) none,
    .act (some 23) (.op (.pure (.len true (.tmp 22)))) none,
    .act (some 24) (.op (.pure (.bin .gtr (.tmp 23) (.const (.int .i64 56))))) none])
  (.cond (.tmp 24)
   (.seq (.steps [
     .act (some 25) (.op (.pure (.move (.tmp 6)))) none,
     .act (some 26) (.op (.pure (.bin .neq (.tmp 25) (.const (.int .i64 3))))) none,
     .act (some 27) (.op (.pure (.move (.tmp 26)))) none,
     .act (some 28) (.op (.pure (.move (.tmp 5)))) (some (27, false)),
     .act (some 29) (.op (.pure (.len false (.tmp 28)))) (some (27, false)),
     .act (some 30) (.op (.pure (.bin .neq (.tmp 29) (.const (.int .i64 0))))) (some (27, false)),
     .act (some 31) (.op (.pure (.pick (.tmp 27) (.const (.bool true)) (.tmp 30)))) none])
   (.cond (.tmp 31)
    (.seq (.steps [
      .act (some 4) (.op (.pure (.move (.const (.bool false))))) none])
    .ret)
    .skip))
   (.seq (.steps [
     .act (some 32) (.op (.pure (.move (.tmp 6)))) none,
     .act (some 33) (.op (.pure (.bin .neq (.tmp 32) (.const (.int .i64 0))))) none,
     .act (some 34) (.op (.pure (.move (.tmp 33)))) none,
     .act (some 35) (.op (.pure (.move (.tmp 5)))) (some (34, false)),
     .act (some 36) (.op (.pure (.move (.tmp 0)))) (some (34, false)),
     .act (some 37) (.call (.func 8) [(.tmp 36)]) (some (34, false)),
     .act (some 38) (.call (.func 7) [(.tmp 35), (.tmp 37)]) (some (34, false)),
     .act (some 39) (.op (.pure (.not (.tmp 38)))) (some (34, false)),
     .act (some 40) (.op (.pure (.pick (.tmp 34) (.const (.bool true)) (.tmp 39)))) none])
   (.cond (.tmp 40)
    (.seq (.steps [
      .act (some 4) (.op (.pure (.move (.const (.bool false))))) none])
    .ret)
    .skip))))
  (.seq (.steps [
    .act (some 42) (.op (.pure (.move (.tmp 1)))) none,
    .act (some 43) (.call (.func 9) [(.tmp 42)]) none,
    .act (some 41) (.op (.pure (.move (.tmp 43)))) none,
    .act (some 44) (.op (.pure (.extract (.tmp 41) 0))) none,
    .act (some 45) (.op (.pure (.extract (.tmp 41) 1))) none,
    .act (some 7) (.op (.pure (.move (.tmp 44)))) none,
    .act (some 8) (.op (.pure (.move (.tmp 45)))) none])
  (.seq (.seq (.steps [
    .act (some 46) (.op (.pure (.move (.tmp 8)))) none,
    .act (some 47) (.op (.pure (.bin .neq (.tmp 46) (.const (.int .i64 0))))) none])
  (.cond (.tmp 47)
   (.seq (.steps [
     .act (some 48) (.op (.pure (.move (.tmp 8)))) none,
     .act (some 49) (.op (.pure (.bin .eql (.tmp 48) (.const (.int .i64 11))))) none,
     .act (some 50) (.op (.pure (.move (.tmp 49)))) none,
     .act (some 51) (.op (.pure (.move (.tmp 7)))) (some (50, true)),
     .act (some 52) (.op (.pure (.strOp .eql (.tmp 51) (.const (strV []))))) (some (50, true)),
     .act (some 53) (.op (.pure (.pick (.tmp 50) (.tmp 52) (.const (.bool false))))) none,
     .act (some 54) (.op (.pure (.move (.tmp 53)))) none,
     .act (some 55) (.op (.pure (.move (.tmp 1)))) (some (54, true)),
     .act (some 56) (.call (.func 10) [(.tmp 55)]) (some (54, true)),
     .act (some 57) (.op (.pure (.not (.tmp 56)))) (some (54, true)),
     .act (some 58) (.op (.pure (.pick (.tmp 54) (.tmp 57) (.const (.bool false))))) none,
     .act (some 59) (.op (.pure (.move (.tmp 58)))) none,
     .act (some 60) (.call (.func 11) []) (some (59, true)),
     .act (some 61) (.op (.pure (.pick (.tmp 59) (.tmp 60) (.const (.bool false))))) none,
     .act (some 4) (.op (.pure (.move (.tmp 61)))) none])
   .ret)
   .skip))
  (.seq (.steps [
    .act (some 62) (.op (.pure (.move (.tmp 7)))) none,
    .act (some 63) (.op (.pure (.len true (.tmp 62)))) none,
    .act (some 64) (.op (.pure (.bin .leq (.tmp 63) (.const (.int .i64 56))))) none,
    .act (some 65) (.op (.pure (.move (.tmp 64)))) none,
    .act (some 66) (.op (.pure (.move (.tmp 7)))) (some (65, true)),
    .act (some 67) (.call (.func 8) [(.tmp 66)]) (some (65, true)),
    .act (some 68) (.op (.pure (.move (.tmp 1)))) (some (65, true)),
    .act (some 69) (.call (.func 7) [(.tmp 67), (.tmp 68)]) (some (65, true)),
    .act (some 70) (.op (.pure (.pick (.tmp 65) (.tmp 69) (.const (.bool false))))) none,
    .act (some 71) (.op (.pure (.move (.tmp 70)))) none,
    .act (some 72) (.call (.func 11) []) (some (71, true)),
    .act (some 73) (.op (.pure (.pick (.tmp 71) (.tmp 72) (.const (.bool false))))) none,
    .act (some 4) (.op (.pure (.move (.tmp 73)))) none])
  .ret))))))) }
theorem c3 : compFn Try.prog (mkPlan Try.prog) [] true 3 = some L3 := by kernel_rfl
/-- sluiceway/sluicewaylaw21.BufNobody -/
def L4 : LFun := { n := 89, pop := true, res := [.tmp 4], code :=
  (.seq (.steps [
    .act (some 4) (.op (.pure (.move (.const (.bool false))))) none])
  (.seq (.steps [
    .act (some 11) (.call (.func 12) [(.const (.int .i64 4))]) none,
    .act (some 10) (.op (.pure (.move (.tmp 11)))) none,
    .act (some 12) (.op (.pure (.extract (.tmp 10) 0))) none,
    .act (some 13) (.op (.pure (.extract (.tmp 10) 1))) none,
    .act (some 5) (.op (.pure (.move (.tmp 12)))) none,
    .act (some 6) (.op (.pure (.move (.tmp 13)))) none])
  (.seq (.steps [
    .act (some 7) (.op (.pure (.move (.const (.pointer none))))) none])
  (.seq (.steps [
    .act (some 14) (.op (.pure (.move (.tmp 0)))) none,
    .act (some 15) (.op (.pure (.move (.tmp 1)))) none,
    .act (some 16) (.call (.func 13) [(.tmp 14), (.tmp 15)]) none,
    .act (some 8) (.op (.pure (.move (.tmp 16)))) none])
  (.seq (.steps [
    .act (some 17) (.op (.pure (.move (.tmp 0)))) none,
    .act (some 18) (.op (.pure (.bin .geq (.tmp 17) (.const (.int .i64 0))))) none,
    .act (some 19) (.op (.pure (.move (.tmp 18)))) none,
    .act (some 20) (.op (.pure (.move (.tmp 1)))) (some (19, true)),
    .act (some 21) (.op (.pure (.bin .geq (.tmp 20) (.const (.int .i64 1))))) (some (19, true)),
    .act (some 22) (.op (.pure (.pick (.tmp 19) (.tmp 21) (.const (.bool false))))) none,
    .act (some 23) (.op (.pure (.move (.tmp 22)))) none,
    .act (some 24) (.op (.pure (.move (.tmp 1)))) (some (23, true)),
    .act (some 25) (.op (.pure (.bin .leq (.tmp 24) (.const (.int .i64 8))))) (some (23, true)),
    .act (some 26) (.op (.pure (.pick (.tmp 23) (.tmp 25) (.const (.bool false))))) none,
    .act (some 9) (.op (.pure (.move (.tmp 26)))) none])
  (.seq (.steps [
    .act (some 27) (.op (.pure (.move (.tmp 6)))) none,
    .act (some 28) (.op (.pure (.bin .eql (.tmp 27) (.const (.int .i64 0))))) none,
    .act (some 29) (.op (.pure (.move (.tmp 28)))) none,
    .act (some 30) (.op (.pure (.move (.tmp 7)))) (some (29, true)),
    .act (some 31) (.call (.func 14) [(.tmp 30)]) (some (29, true)),
    .act (some 32) (.op (.pure (.bin .eql (.tmp 31) (.const (.int .i64 1))))) (some (29, true)),
    .act (some 33) (.op (.pure (.pick (.tmp 29) (.tmp 32) (.const (.bool false))))) none,
    .act (some 34) (.op (.pure (.move (.tmp 33)))) none,
    .act (some 35) (.op (.pure (.build [(.bool false), (.int .i64 0), (.bool false), (.slice none 0 0), (.int .i64 0), (.int .i64 0), (.int .i64 0)] []))) (some (34, true)),
    .act (some 36) (.op (.new (.box (.tmp 35)))) (some (34, true)),
    .act (some 37) (.call (.func 14) [(.tmp 36)]) (some (34, true)),
    .act (some 38) (.op (.pure (.bin .eql (.tmp 37) (.const (.int .i64 1))))) (some (34, true)),
    .act (some 39) (.op (.pure (.pick (.tmp 34) (.tmp 38) (.const (.bool false))))) none,
    .act (some 40) (.op (.pure (.move (.tmp 39)))) none,
    .act (some 41) (.op (.pure (.move (.tmp 7)))) (some (40, true)),
    .act (some 42) (.call (.func 15) [(.tmp 41)]) (some (40, true)),
    .act (some 43) (.op (.pure (.pick (.tmp 40) (.tmp 42) (.const (.bool false))))) none,
    .act (some 44) (.op (.pure (.move (.tmp 43)))) none,
    .act (some 45) (.op (.pure (.move (.tmp 7)))) (some (44, true)),
    .act (some 46) (.op (.pure (.move (.tmp 5)))) (some (44, true)),
    .act (some 47) (.call (.func 16) [(.tmp 45), (.tmp 46)]) (some (44, true)),
    .act (some 48) (.op (.pure (.pick (.tmp 44) (.tmp 47) (.const (.bool false))))) none,
    .act (some 49) (.op (.pure (.move (.tmp 48)))) none,
    .act (some 50) (.op (.pure (.move (.tmp 7)))) (some (49, true)),
    .act (some 51) (.call (.func 17) [(.tmp 50)]) (some (49, true)),
    .act (some 52) (.op (.pure (.bin .eql (.tmp 51) (.const (.int .i64 0))))) (some (49, true)),
    .act (some 53) (.op (.pure (.pick (.tmp 49) (.tmp 52) (.const (.bool false))))) none,
    .act (some 54) (.op (.pure (.move (.tmp 53)))) none,
    .act (some 55) (.op (.pure (.move (.tmp 7)))) (some (54, true)),
    .act (some 56) (.call (.func 18) [(.tmp 55)]) (some (54, true)),
    .act (some 57) (.op (.pure (.len false (.tmp 56)))) (some (54, true)),
    .act (some 58) (.op (.pure (.bin .eql (.tmp 57) (.const (.int .i64 0))))) (some (54, true)),
    .act (some 59) (.op (.pure (.pick (.tmp 54) (.tmp 58) (.const (.bool false))))) none,
    .act (some 60) (.op (.pure (.move (.tmp 59)))) none,
    .act (some 61) (.op (.pure (.move (.tmp 8)))) (some (60, true)),
    .act (some 62) (.call (.func 14) [(.tmp 61)]) (some (60, true)),
    .act (some 63) (.op (.pure (.bin .eql (.tmp 62) (.const (.int .i64 0))))) (some (60, true)),
    .act (some 64) (.op (.pure (.move (.tmp 9)))) (some (60, true)),
    .act (some 65) (.op (.pure (.eqB false (.tmp 63) (.tmp 64)))) (some (60, true)),
    .act (some 66) (.op (.pure (.pick (.tmp 60) (.tmp 65) (.const (.bool false))))) none,
    .act (some 67) (.op (.pure (.move (.tmp 66)))) none,
    .act (some 68) (.op (.pure (.move (.tmp 8)))) (some (67, true)),
    .act (some 69) (.call (.func 15) [(.tmp 68)]) (some (67, true)),
    .act (some 70) (.op (.pure (.move (.tmp 9)))) (some (67, true)),
    .act (some 71) (.op (.pure (.eqB true (.tmp 69) (.tmp 70)))) (some (67, true)),
    .act (some 72) (.op (.pure (.pick (.tmp 67) (.tmp 71) (.const (.bool false))))) none,
    .act (some 73) (.op (.pure (.move (.tmp 72)))) none,
    .act (some 74) (.op (.pure (.move (.tmp 9)))) (some (73, true)),
    .act (some 75) (.op (.pure (.move (.tmp 74)))) (some (73, true)),
    .act (some 76) (.op (.pure (.move (.tmp 8)))) (some (75, false)),
    .act (some 77) (.call (.func 17) [(.tmp 76)]) (some (75, false)),
    .act (some 78) (.op (.pure (.bin .eql (.tmp 77) (.const (.int .i64 0))))) (some (75, false)),
    .act (some 79) (.op (.pure (.pick (.tmp 75) (.const (.bool true)) (.tmp 78)))) (some (73, true)),
    .act (some 80) (.op (.pure (.pick (.tmp 73) (.tmp 79) (.const (.bool false))))) none,
    .act (some 81) (.op (.pure (.move (.tmp 80)))) none,
    .act (some 82) (.op (.pure (.move (.tmp 5)))) (some (81, true)),
    .act (some 83) (.call (.func 19) [(.tmp 82)]) (some (81, true)),
    .act (some 84) (.op (.pure (.bin .eql (.tmp 83) (.const (.int .i64 0))))) (some (81, true)),
    .act (some 85) (.op (.pure (.pick (.tmp 81) (.tmp 84) (.const (.bool false))))) none,
    .act (some 86) (.op (.pure (.move (.tmp 85)))) none,
    .act (some 87) (.call (.func 11) []) (some (86, true)),
    .act (some 88) (.op (.pure (.pick (.tmp 86) (.tmp 87) (.const (.bool false))))) none,
    .act (some 4) (.op (.pure (.move (.tmp 88)))) none])
  .ret)))))) }
theorem c4 : compFn Try.prog (mkPlan Try.prog) [] true 4 = some L4 := by kernel_rfl
/-- sluiceway/sluicewaylaw21.BufCopies -/
def L5 : LFun := { n := 197, pop := true, res := [.tmp 6], code :=
  (.seq (.steps [
    .act (some 6) (.op (.pure (.move (.const (.bool false))))) none])
  (.seq (.steps [
    .act (some 17) (.call (.func 12) [(.const (.int .i64 40))]) none,
    .act (some 16) (.op (.pure (.move (.tmp 17)))) none,
    .act (some 18) (.op (.pure (.extract (.tmp 16) 0))) none,
    .act (some 19) (.op (.pure (.extract (.tmp 16) 1))) none,
    .act (some 7) (.op (.pure (.move (.tmp 18)))) none,
    .act (some 8) (.op (.pure (.move (.tmp 19)))) none])
  (.seq (.seq (.steps [
    .act (some 20) (.op (.pure (.move (.tmp 8)))) none,
    .act (some 21) (.op (.pure (.bin .neq (.tmp 20) (.const (.int .i64 0))))) none,
    .act (some 22) (.op (.pure (.move (.tmp 21)))) none,
    .act (some 23) (.op (.pure (.move (.tmp 1)))) (some (22, false)),
    .act (some 24) (.op (.pure (.len false (.tmp 23)))) (some (22, false)),
    .act (some 25) (.op (.pure (.bin .gtr (.tmp 24) (.const (.int .i64 100))))) (some (22, false)),
    .act (some 26) (.op (.pure (.pick (.tmp 22) (.const (.bool true)) (.tmp 25)))) none])
  (.cond (.tmp 26)
   (.seq (.steps [
     .act (some 27) (.op (.pure (.move (.tmp 8)))) none,
     .act (some 28) (.op (.pure (.bin .eql (.tmp 27) (.const (.int .i64 0))))) none,
     .act (some 6) (.op (.pure (.move (.tmp 28)))) none])
   .ret)
   .skip))
  (.seq (.steps [
    .act (some 29) (.op (.pure (.move (.tmp 0)))) none,
    .act (some 30) (.op (.pure (.bin .and (.tmp 29) (.const (.int .i64 31))))) none,
    .act (some 0) (.op (.pure (.move (.tmp 30)))) none])
  (.seq (.steps [
    .act (some 31) (.op (.pure (.move (.tmp 0)))) none,
    .act (some 32) (.op (.pure (.move (.tmp 1)))) none,
    .act (some 33) (.call (.func 20) [(.tmp 31), (.tmp 32)]) none,
    .act (some 9) (.op (.pure (.move (.tmp 33)))) none])
  (.seq (.steps [
    .act (some 34) (.op (.pure (.move (.tmp 1)))) none,
    .act (some 35) (.op (.pure (.len false (.tmp 34)))) none,
    .act (some 36) (.op (.pure (.bin .geq (.tmp 35) (.const (.int .i64 1))))) none,
    .act (some 37) (.op (.pure (.move (.tmp 36)))) none,
    .act (some 38) (.op (.pure (.move (.tmp 1)))) (some (37, true)),
    .act (some 39) (.op (.pure (.len false (.tmp 38)))) (some (37, true)),
    .act (some 40) (.op (.pure (.bin .leq (.tmp 39) (.const (.int .i64 8))))) (some (37, true)),
    .act (some 41) (.op (.pure (.pick (.tmp 37) (.tmp 40) (.const (.bool false))))) none,
    .act (some 10) (.op (.pure (.move (.tmp 41)))) none])
  (.seq (.seq (.steps [
    .act (some 42) (.op (.pure (.move (.tmp 9)))) none,
    .act (some 43) (.call (.func 14) [(.tmp 42)]) none,
    .act (some 44) (.op (.pure (.bin .eql (.tmp 43) (.const (.int .i64 0))))) none,
    .act (some 45) (.op (.pure (.move (.tmp 10)))) none,
    .act (some 46) (.op (.pure (.eqB true (.tmp 44) (.tmp 45)))) none,
    .act (some 47) (.op (.pure (.move (.tmp 46)))) none,
    .act (some 48) (.op (.pure (.move (.tmp 9)))) (some (47, false)),
    .act (some 49) (.call (.func 15) [(.tmp 48)]) (some (47, false)),
    .act (some 50) (.op (.pure (.move (.tmp 10)))) (some (47, false)),
    .act (some 51) (.op (.pure (.eqB false (.tmp 49) (.tmp 50)))) (some (47, false)),
    .act (some 52) (.op (.pure (.pick (.tmp 47) (.const (.bool true)) (.tmp 51)))) none,
    .act (some 53) (.op (.pure (.move (.tmp 52)))) none,
    .act (some 54) (.op (.pure (.move (.tmp 10)))) (some (53, false)),
    .act (some 55) (.op (.pure (.move (.tmp 54)))) (some (53, false)),
    .act (some 56) (.op (.pure (.move (.tmp 9)))) (some (55, true)),
    .act (some 57) (.call (.func 17) [(.tmp 56)]) (some (55, true)),
    .act (some 58) (.op (.pure (.move (.tmp 1)))) (some (55, true)),
    .act (some 59) (.op (.pure (.len false (.tmp 58)))) (some (55, true)),
    .act (some 60) (.op (.pure (.bin .neq (.tmp 57) (.tmp 59)))) (some (55, true)),
    .act (some 61) (.op (.pure (.pick (.tmp 55) (.tmp 60) (.const (.bool false))))) (some (53, false)),
    .act (some 62) (.op (.pure (.pick (.tmp 53) (.const (.bool true)) (.tmp 61)))) none,
    .act (some 63) (.op (.pure (.move (.tmp 62)))) none,
    .act (some 64) (.op (.pure (.move (.tmp 9)))) (some (63, false)),
    .act (some 65) (.call (.func 18) [(.tmp 64)]) (some (63, false)),
    .act (some 66) (.op (.pure (.len false (.tmp 65)))) (some (63, false)),
    .act (some 67) (.op (.pure (.bin .neq (.tmp 66) (.const (.int .i64 0))))) (some (63, false)),
    .act (some 68) (.op (.pure (.pick (.tmp 63) (.const (.bool true)) (.tmp 67)))) none])
  (.cond (.tmp 68)
   (.seq (.steps [
     .act (some 6) (.op (.pure (.move (.const (.bool false))))) none])
   .ret)
   .skip))
  (.seq (.seq (.steps [
    .act (some 69) (.op (.pure (.move (.tmp 10)))) none,
    .act (some 70) (.op (.pure (.not (.tmp 69)))) none])
  (.cond (.tmp 70)
   (.seq (.steps [
     .act (some 71) (.op (.pure (.move (.tmp 9)))) none,
     .act (some 72) (.call (.func 14) [(.tmp 71)]) none,
     .act (some 73) (.op (.pure (.bin .eql (.tmp 72) (.const (.int .i64 2))))) none,
     .act (some 74) (.op (.pure (.move (.tmp 73)))) none,
     .act (some 75) (.op (.pure (.move (.tmp 9)))) (some (74, true)),
     .act (some 76) (.op (.pure (.move (.tmp 7)))) (some (74, true)),
     .act (some 77) (.call (.func 16) [(.tmp 75), (.tmp 76)]) (some (74, true)),
     .act (some 78) (.op (.pure (.pick (.tmp 74) (.tmp 77) (.const (.bool false))))) none,
     .act (some 79) (.op (.pure (.move (.tmp 78)))) none,
     .act (some 80) (.op (.pure (.move (.tmp 7)))) (some (79, true)),
     .act (some 81) (.call (.func 19) [(.tmp 80)]) (some (79, true)),
     .act (some 82) (.op (.pure (.bin .eql (.tmp 81) (.const (.int .i64 0))))) (some (79, true)),
     .act (some 83) (.op (.pure (.pick (.tmp 79) (.tmp 82) (.const (.bool false))))) none,
     .act (some 84) (.op (.pure (.move (.tmp 83)))) none,
     .act (some 85) (.call (.func 11) []) (some (84, true)),
     .act (some 86) (.op (.pure (.pick (.tmp 84) (.tmp 85) (.const (.bool false))))) none,
     .act (some 6) (.op (.pure (.move (.tmp 86)))) none])
   .ret)
   .skip))
  (.seq (.seq (.steps [
    .act (some 87) (.op (.pure (.move (.tmp 7)))) none,
    .act (some 88) (.op (.pure (.move (.tmp 9)))) none,
    .act (some 89) (.call (.func 21) [(.tmp 87), (.tmp 88)]) none,
    .act (some 90) (.op (.pure (.move (.tmp 1)))) none,
    .act (some 91) (.op (.pure (.len false (.tmp 90)))) none,
    .act (some 92) (.op (.pure (.bin .neq (.tmp 89) (.tmp 91)))) none,
    .act (some 93) (.op (.pure (.move (.tmp 92)))) none,
    .act (some 94) (.op (.pure (.move (.tmp 7)))) (some (93, false)),
    .act (some 95) (.call (.func 19) [(.tmp 94)]) (some (93, false)),
    .act (some 96) (.op (.pure (.move (.tmp 1)))) (some (93, false)),
    .act (some 97) (.op (.pure (.len false (.tmp 96)))) (some (93, false)),
    .act (some 98) (.op (.pure (.bin .neq (.tmp 95) (.tmp 97)))) (some (93, false)),
    .act (some 99) (.op (.pure (.pick (.tmp 93) (.const (.bool true)) (.tmp 98)))) none,
    .act (some 100) (.op (.pure (.move (.tmp 99)))) none,
    .act (some 101) (.op (.pure (.move (.tmp 9)))) (some (100, false)),
    .act (some 102) (.call (.func 15) [(.tmp 101)]) (some (100, false)),
    .act (some 103) (.op (.pure (.not (.tmp 102)))) (some (100, false)),
    .act (some 104) (.op (.pure (.pick (.tmp 100) (.const (.bool true)) (.tmp 103)))) none])
  (.cond (.tmp 104)
   (.seq (.steps [
     .act (some 6) (.op (.pure (.move (.const (.bool false))))) none])
   .ret)
   .skip))
  (.seq (.steps [
    .act (some 105) (.op (.pure (.move (.tmp 2)))) none,
    .act (some 106) (.op (.pure (.bin .and (.tmp 105) (.const (.int .i64 63))))) none,
    .act (some 107) (.op (.pure (.move (.tmp 1)))) none,
    .act (some 108) (.op (.pure (.len false (.tmp 107)))) none,
    .act (some 109) (.op (.pure (.bin .rem (.tmp 106) (.tmp 108)))) none,
    .act (some 11) (.op (.pure (.move (.tmp 109)))) none])
  (.seq (.steps [
    .act (some 110) (.op (.pure (.move (.tmp 7)))) none,
    .act (some 111) (.op (.pure (.move (.tmp 0)))) none,
    .act (some 112) (.op (.pure (.move (.tmp 11)))) none,
    .act (some 113) (.op (.pure (.bin .add (.tmp 111) (.tmp 112)))) none,
    .act (some 114) (.call (.func 22) [(.tmp 110), (.tmp 113), (.const (w64 77#64))]) none])
  (.seq (.steps [
    .act (some 115) (.op (.pure (.move (.tmp 0)))) none,
    .act (some 116) (.op (.pure (.move (.tmp 1)))) none,
    .act (some 117) (.op (.pure (.len false (.tmp 116)))) none,
    .act (some 118) (.call (.func 13) [(.tmp 115), (.tmp 117)]) none,
    .act (some 12) (.op (.pure (.move (.tmp 118)))) none])
  (.seq (.seq (.steps [
    .act (some 13) (.op (.pure (.move (.const (.int .i64 0))))) none])
  (.block 0 (.loop [1, 7, 11, 12, 13] (.seq (.seq (.steps [
      .act (some 119) (.op (.pure (.move (.tmp 13)))) none,
      .act (some 120) (.op (.pure (.move (.tmp 1)))) none,
      .act (some 121) (.op (.pure (.len false (.tmp 120)))) none,
      .act (some 122) (.op (.pure (.bin .lss (.tmp 119) (.tmp 121)))) none])
    (.cond (.tmp 122)
     .skip
     (.exit 0)))
    (.seq (.block 1 (.seq (.seq (.steps [
       .act (some 125) (.op (.pure (.move (.tmp 12)))) none,
       .act (some 126) (.call (.func 15) [(.tmp 125)]) none,
       .act (some 127) (.op (.pure (.move (.tmp 126)))) none,
       .act (some 128) (.op (.pure (.move (.tmp 12)))) (some (127, false)),
       .act (some 129) (.call (.func 17) [(.tmp 128)]) (some (127, false)),
       .act (some 130) (.op (.pure (.move (.tmp 1)))) (some (127, false)),
       .act (some 131) (.op (.pure (.len false (.tmp 130)))) (some (127, false)),
       .act (some 132) (.op (.pure (.move (.tmp 13)))) (some (127, false)),
       .act (some 133) (.op (.pure (.bin .sub (.tmp 131) (.tmp 132)))) (some (127, false)),
       .act (some 134) (.op (.pure (.bin .neq (.tmp 129) (.tmp 133)))) (some (127, false)),
       .act (some 135) (.op (.pure (.pick (.tmp 127) (.const (.bool true)) (.tmp 134)))) none,
       .act (some 136) (.op (.pure (.move (.tmp 135)))) none,
       .act (some 137) (.op (.pure (.move (.tmp 12)))) (some (136, false)),
       .act (some 138) (.call (.func 18) [(.tmp 137)]) (some (136, false)),
       .act (some 139) (.op (.pure (.len false (.tmp 138)))) (some (136, false)),
       .act (some 140) (.op (.pure (.move (.tmp 13)))) (some (136, false)),
       .act (some 141) (.op (.pure (.bin .neq (.tmp 139) (.tmp 140)))) (some (136, false)),
       .act (some 142) (.op (.pure (.pick (.tmp 136) (.const (.bool true)) (.tmp 141)))) none])
     (.cond (.tmp 142)
      (.seq (.steps [
        .act (some 6) (.op (.pure (.move (.const (.bool false))))) none])
      .ret)
      .skip))
     (.steps [
       .act (some 143) (.op (.pure (.move (.tmp 12)))) none,
       .act (some 144) (.op (.pure (.move (.tmp 7)))) none,
       .act (some 145) (.call (.func 16) [(.tmp 143), (.tmp 144)]) none])))
    (.steps [
      .act (some 123) (.op (.pure (.move (.tmp 13)))) none,
      .act (some 124) (.op (.pure (.bin .add (.tmp 123) (.const (.int .i64 1))))) none,
      .act (some 13) (.op (.pure (.move (.tmp 124)))) none]))))))
  (.seq (.steps [
    .act (some 146) (.op (.pure (.move (.tmp 12)))) none,
    .act (some 147) (.call (.func 18) [(.tmp 146)]) none,
    .act (some 14) (.op (.pure (.move (.tmp 147)))) none])
  (.seq (.seq (.steps [
    .act (some 15) (.op (.pure (.move (.const (.int .i64 0))))) none])
  (.block 2 (.loop [1, 7, 11, 12, 14, 15] (.seq (.seq (.steps [
      .act (some 148) (.op (.pure (.move (.tmp 15)))) none,
      .act (some 149) (.op (.pure (.move (.tmp 1)))) none,
      .act (some 150) (.op (.pure (.len false (.tmp 149)))) none,
      .act (some 151) (.op (.pure (.bin .lss (.tmp 148) (.tmp 150)))) none])
    (.cond (.tmp 151)
     .skip
     (.exit 2)))
    (.seq (.block 3 (.seq (.steps [
       .act (some 154) (.op (.pure (.move (.tmp 15)))) none,
       .act (some 155) (.op (.pure (.move (.tmp 11)))) none,
       .act (some 156) (.op (.pure (.bin .neq (.tmp 154) (.tmp 155)))) none,
       .act (some 157) (.op (.pure (.move (.tmp 156)))) none,
       .act (some 158) (.op (.pure (.move (.tmp 14)))) (some (157, true)),
       .act (some 159) (.op (.pure (.move (.tmp 15)))) (some (157, true)),
       .act (some 160) (.op (.pure (.idxSl 1 (.tmp 158) (.tmp 159)))) (some (157, true)),
       .act (some 161) (.op (.read (.load1 (.tmp 160)))) (some (157, true)),
       .act (some 162) (.op (.pure (.move (.tmp 1)))) (some (157, true)),
       .act (some 163) (.op (.pure (.move (.tmp 15)))) (some (157, true)),
       .act (some 164) (.op (.pure (.idxSl 1 (.tmp 162) (.tmp 163)))) (some (157, true)),
       .act (some 165) (.op (.read (.load1 (.tmp 164)))) (some (157, true)),
       .act (some 166) (.op (.pure (.bin .neq (.tmp 161) (.tmp 165)))) (some (157, true)),
       .act (some 167) (.op (.pure (.pick (.tmp 157) (.tmp 166) (.const (.bool false))))) none,
       .act (some 168) (.op (.pure (.move (.tmp 167)))) none,
       .act (some 169) (.op (.pure (.move (.tmp 15)))) (some (168, false)),
       .act (some 170) (.op (.pure (.move (.tmp 11)))) (some (168, false)),
       .act (some 171) (.op (.pure (.bin .eql (.tmp 169) (.tmp 170)))) (some (168, false)),
       .act (some 172) (.op (.pure (.move (.tmp 171)))) (some (168, false)),
       .act (some 173) (.op (.pure (.move (.tmp 14)))) (some (172, true)),
       .act (some 174) (.op (.pure (.move (.tmp 15)))) (some (172, true)),
       .act (some 175) (.op (.pure (.idxSl 1 (.tmp 173) (.tmp 174)))) (some (172, true)),
       .act (some 176) (.op (.read (.load1 (.tmp 175)))) (some (172, true)),
       .act (some 177) (.op (.pure (.bin .neq (.tmp 176) (.const (w64 77#64))))) (some (172, true)),
       .act (some 178) (.op (.pure (.pick (.tmp 172) (.tmp 177) (.const (.bool false))))) (some (168, false)),
       .act (some 179) (.op (.pure (.pick (.tmp 168) (.const (.bool true)) (.tmp 178)))) none])
     (.cond (.tmp 179)
      (.seq (.steps [
        .act (some 6) (.op (.pure (.move (.const (.bool false))))) none])
      .ret)
      .skip)))
    (.steps [
      .act (some 152) (.op (.pure (.move (.tmp 15)))) none,
      .act (some 153) (.op (.pure (.bin .add (.tmp 152) (.const (.int .i64 1))))) none,
      .act (some 15) (.op (.pure (.move (.tmp 153)))) none]))))))
  (.seq (.steps [
    .act (some 180) (.op (.pure (.move (.tmp 12)))) none,
    .act (some 181) (.call (.func 15) [(.tmp 180)]) none,
    .act (some 182) (.op (.pure (.move (.tmp 181)))) none,
    .act (some 183) (.op (.pure (.move (.tmp 14)))) (some (182, true)),
    .act (some 184) (.op (.pure (.len false (.tmp 183)))) (some (182, true)),
    .act (some 185) (.op (.pure (.move (.tmp 1)))) (some (182, true)),
    .act (some 186) (.op (.pure (.len false (.tmp 185)))) (some (182, true)),
    .act (some 187) (.op (.pure (.bin .eql (.tmp 184) (.tmp 186)))) (some (182, true)),
    .act (some 188) (.op (.pure (.pick (.tmp 182) (.tmp 187) (.const (.bool false))))) none,
    .act (some 189) (.op (.pure (.move (.tmp 188)))) none,
    .act (some 190) (.op (.pure (.move (.tmp 7)))) (some (189, true)),
    .act (some 191) (.call (.func 23) [(.tmp 190)]) (some (189, true)),
    .act (some 192) (.op (.pure (.bin .eql (.tmp 191) (.const (.int .i64 (-1)))))) (some (189, true)),
    .act (some 193) (.op (.pure (.pick (.tmp 189) (.tmp 192) (.const (.bool false))))) none,
    .act (some 194) (.op (.pure (.move (.tmp 193)))) none,
    .act (some 195) (.call (.func 11) []) (some (194, true)),
    .act (some 196) (.op (.pure (.pick (.tmp 194) (.tmp 195) (.const (.bool false))))) none,
    .act (some 6) (.op (.pure (.move (.tmp 196)))) none])
  .ret)))))))))))))))) }
theorem c5 : compFn Try.prog (mkPlan Try.prog) [(17, [1, 7, 11, 12, 13]), (24, [1, 7, 11, 12, 14, 15])] true 5 = some L5 := by kernel_rfl
/-- sluiceway/buf.Payload -/
def L6 : LFun := { n := 44, pop := false, res := [.tmp 2, .tmp 3], code :=
  (.seq (.steps [
    .act (some 2) (.op (.pure (.move (.const (.slice none 0 0))))) none,
    .act (some 3) (.op (.pure (.move (.const (.int .i64 0))))) none])
  (.seq (.seq (.steps [
    .act (some 6) (.op (.pure (.move (.tmp 0)))) none,
    .act (some 7) (.op (.pure (.len true (.tmp 6)))) none,
    .act (some 8) (.op (.pure (.bin .gtr (.tmp 7) (.const (.int .i64 56))))) none])
  (.cond (.tmp 8)
   (.seq (.steps [
     .act (some 2) (.op (.pure (.move (.const (.slice none 0 0))))) none,
     .act (some 3) (.op (.pure (.move (.const (.int .i64 3))))) none])
   .ret)
   .skip))
  (.seq (.steps [
    .act (some 9) (.op (.pure (.move (.tmp 0)))) none,
    .act (some 10) (.op (.pure (.len true (.tmp 9)))) none,
    .act (some 11) (.op (.pure (.bin .add (.tmp 10) (.const (.int .i64 8))))) none,
    .act (some 12) (.op (.pure (.bin .sub (.tmp 11) (.const (.int .i64 1))))) none,
    .act (some 13) (.op (.pure (.bin .quo (.tmp 12) (.const (.int .i64 8))))) none,
    .act (some 14) (.op (.pure (.bin .add (.const (.int .i64 1)) (.tmp 13)))) none,
    .act (some 15) (.op (.new (.makeSlice 1 8 [(w64 0#64)] (.tmp 14) (.tmp 14)))) none,
    .act (some 4) (.op (.pure (.move (.tmp 15)))) none])
  (.seq (.steps [
    .act (some 16) (.op (.pure (.move (.tmp 4)))) none,
    .act (some 17) (.op (.pure (.move (.tmp 0)))) none,
    .act (some 18) (.op (.pure (.len true (.tmp 17)))) none,
    .act (some 19) (.op (.pure (.conv .u64 (.tmp 18)))) none,
    .act (some 20) (.op (.pure (.idxSl 1 (.tmp 16) (.const (.int .i64 0))))) none,
    .act none (.op (.eff (.store 1 (.tmp 20) (.tmp 19)))) none])
  (.seq (.seq (.steps [
    .act (some 21) (.op (.pure (.move (.tmp 0)))) none,
    .act (some 22) (.op (.pure (.len true (.tmp 21)))) none,
    .act (some 23) (.op (.pure (.move (.const (.int .i64 0))))) none])
  (.block 0 (.loop [0, 4, 22, 23] (.seq (.steps [
      .act (some 24) (.op (.pure (.bin .lss (.tmp 23) (.tmp 22)))) none])
    (.seq (.cond (.tmp 24)
     .skip
     (.exit 0))
    (.seq (.block 1 (.seq (.steps [
       .act (some 25) (.op (.pure (.move (.tmp 23)))) none,
       .act (some 5) (.op (.pure (.move (.tmp 25)))) none])
     (.steps [
       .act (some 26) (.op (.pure (.move (.tmp 4)))) none,
       .act (some 27) (.op (.pure (.move (.tmp 5)))) none,
       .act (some 28) (.op (.pure (.bin .quo (.tmp 27) (.const (.int .i64 8))))) none,
       .act (some 29) (.op (.pure (.bin .add (.const (.int .i64 1)) (.tmp 28)))) none,
       .act (some 30) (.op (.pure (.idxSl 1 (.tmp 26) (.tmp 29)))) none,
       .act (some 31) (.op (.read (.load1 (.tmp 30)))) none,
       .act (some 32) (.op (.pure (.move (.tmp 0)))) none,
       .act (some 33) (.op (.pure (.move (.tmp 5)))) none,
       .act (some 34) (.op (.pure (.idxStr (.tmp 32) (.tmp 33)))) none,
       .act (some 35) (.op (.pure (.conv .u64 (.tmp 34)))) none,
       .act (some 36) (.op (.pure (.move (.tmp 5)))) none,
       .act (some 37) (.op (.pure (.bin .rem (.tmp 36) (.const (.int .i64 8))))) none,
       .act (some 38) (.op (.pure (.bin .mul (.const (.int .i64 8)) (.tmp 37)))) none,
       .act (some 39) (.op (.pure (.bin .shl (.tmp 35) (.tmp 38)))) none,
       .act (some 40) (.op (.pure (.bin .or (.tmp 31) (.tmp 39)))) none,
       .act (some 41) (.op (.pure (.idxSl 1 (.tmp 26) (.tmp 29)))) none,
       .act none (.op (.eff (.store 1 (.tmp 41) (.tmp 40)))) none])))
    (.steps [
      .act (some 42) (.op (.pure (.bin .add (.tmp 23) (.const (.int .i64 1))))) none,
      .act (some 23) (.op (.pure (.move (.tmp 42)))) none])))))))
  (.seq (.steps [
    .act (some 43) (.op (.pure (.move (.tmp 4)))) none,
    .act (some 2) (.op (.pure (.move (.tmp 43)))) none,
    .act (some 3) (.op (.pure (.move (.const (.int .i64 0))))) none])
  .ret)))))) }
theorem c6 : compFn Try.prog (mkPlan Try.prog) [(6, [0, 4, 22, 23])] false 6 = some L6 := by kernel_rfl
/-- sluiceway/sluicewaylaw21.same -/
def L7 : LFun := { n := 26, pop := true, res := [.tmp 4], code :=
  (.seq (.steps [
    .act (some 4) (.op (.pure (.move (.const (.bool false))))) none])
  (.seq (.seq (.steps [
    .act (some 6) (.op (.pure (.move (.tmp 0)))) none,
    .act (some 7) (.op (.pure (.len false (.tmp 6)))) none,
    .act (some 8) (.op (.pure (.move (.tmp 1)))) none,
    .act (some 9) (.op (.pure (.len false (.tmp 8)))) none,
    .act (some 10) (.op (.pure (.bin .neq (.tmp 7) (.tmp 9)))) none])
  (.cond (.tmp 10)
   (.seq (.steps [
     .act (some 4) (.op (.pure (.move (.const (.bool false))))) none])
   .ret)
   .skip))
  (.seq (.seq (.steps [
    .act (some 5) (.op (.pure (.move (.const (.int .i64 0))))) none])
  (.block 0 (.loop [0, 1, 5] (.seq (.seq (.steps [
      .act (some 11) (.op (.pure (.move (.tmp 5)))) none,
      .act (some 12) (.op (.pure (.move (.tmp 0)))) none,
      .act (some 13) (.op (.pure (.len false (.tmp 12)))) none,
      .act (some 14) (.op (.pure (.bin .lss (.tmp 11) (.tmp 13)))) none])
    (.cond (.tmp 14)
     .skip
     (.exit 0)))
    (.seq (.block 1 (.seq (.steps [
       .act (some 17) (.op (.pure (.move (.tmp 0)))) none,
       .act (some 18) (.op (.pure (.move (.tmp 5)))) none,
       .act (some 19) (.op (.pure (.idxSl 1 (.tmp 17) (.tmp 18)))) none,
       .act (some 20) (.op (.read (.load1 (.tmp 19)))) none,
       .act (some 21) (.op (.pure (.move (.tmp 1)))) none,
       .act (some 22) (.op (.pure (.move (.tmp 5)))) none,
       .act (some 23) (.op (.pure (.idxSl 1 (.tmp 21) (.tmp 22)))) none,
       .act (some 24) (.op (.read (.load1 (.tmp 23)))) none,
       .act (some 25) (.op (.pure (.bin .neq (.tmp 20) (.tmp 24)))) none])
     (.cond (.tmp 25)
      (.seq (.steps [
        .act (some 4) (.op (.pure (.move (.const (.bool false))))) none])
      .ret)
      .skip)))
    (.steps [
      .act (some 15) (.op (.pure (.move (.tmp 5)))) none,
      .act (some 16) (.op (.pure (.bin .add (.tmp 15) (.const (.int .i64 1))))) none,
      .act (some 5) (.op (.pure (.move (.tmp 16)))) none]))))))
  (.seq (.steps [
    .act (some 4) (.op (.pure (.move (.const (.bool true))))) none])
  .ret)))) }
theorem c7 : compFn Try.prog (mkPlan Try.prog) [(4, [0, 1, 5])] true 7 = some L7 := by kernel_rfl
/-- sluiceway/sluicewayref21.Payload -/
def L8 : LFun := { n := 42, pop := false, res := [.tmp 2], code :=
  (.seq (.steps [
    .act (some 2) (.op (.pure (.move (.const (.slice none 0 0))))) none])
  (.seq (.steps [
    .act (some 7) (.op (.pure (.move (.tmp 0)))) none,
    .act (some 8) (.op (.pure (.len true (.tmp 7)))) none,
    .act (some 9) (.op (.pure (.conv .u64 (.tmp 8)))) none,
    .act (some 10) (.op (.new (.mkSlice 1 1 [(w64 0#64)] [(0, 1, (.tmp 9))]))) none,
    .act (some 3) (.op (.pure (.move (.tmp 10)))) none])
  (.seq (.seq (.steps [
    .act (some 4) (.op (.pure (.move (.const (.int .i64 0))))) none])
  (.block 0 (.loop [0, 3, 4] (.seq (.seq (.steps [
      .act (some 11) (.op (.pure (.move (.tmp 4)))) none,
      .act (some 12) (.op (.pure (.move (.tmp 0)))) none,
      .act (some 13) (.op (.pure (.len true (.tmp 12)))) none,
      .act (some 14) (.op (.pure (.bin .lss (.tmp 11) (.tmp 13)))) none])
    (.cond (.tmp 14)
     .skip
     (.exit 0)))
    (.seq (.block 1 (.seq (.steps [
       .act (some 5) (.op (.pure (.move (.const (w64 0#64))))) none])
     (.seq (.seq (.steps [
       .act (some 6) (.op (.pure (.move (.const (.int .i64 7))))) none])
     (.block 2 (.loop [0, 3, 4, 5, 6] (.seq (.seq (.steps [
         .act (some 17) (.op (.pure (.move (.tmp 6)))) none,
         .act (some 18) (.op (.pure (.bin .geq (.tmp 17) (.const (.int .i64 0))))) none])
       (.cond (.tmp 18)
        .skip
        (.exit 2)))
       (.seq (.block 3 (.seq (.steps [
          .act (some 21) (.op (.pure (.move (.tmp 5)))) none,
          .act (some 22) (.op (.pure (.bin .mul (.const (w64 256#64)) (.tmp 21)))) none,
          .act (some 5) (.op (.pure (.move (.tmp 22)))) none])
        (.seq (.steps [
          .act (some 23) (.op (.pure (.move (.tmp 4)))) none,
          .act (some 24) (.op (.pure (.move (.tmp 6)))) none,
          .act (some 25) (.op (.pure (.bin .add (.tmp 23) (.tmp 24)))) none,
          .act (some 26) (.op (.pure (.move (.tmp 0)))) none,
          .act (some 27) (.op (.pure (.len true (.tmp 26)))) none,
          .act (some 28) (.op (.pure (.bin .lss (.tmp 25) (.tmp 27)))) none])
        (.cond (.tmp 28)
         (.steps [
           .act (some 29) (.op (.pure (.move (.tmp 5)))) none,
           .act (some 30) (.op (.pure (.move (.tmp 0)))) none,
           .act (some 31) (.op (.pure (.move (.tmp 4)))) none,
           .act (some 32) (.op (.pure (.move (.tmp 6)))) none,
           .act (some 33) (.op (.pure (.bin .add (.tmp 31) (.tmp 32)))) none,
           .act (some 34) (.op (.pure (.idxStr (.tmp 30) (.tmp 33)))) none,
           .act (some 35) (.op (.pure (.conv .u64 (.tmp 34)))) none,
           .act (some 36) (.op (.pure (.bin .add (.tmp 29) (.tmp 35)))) none,
           .act (some 5) (.op (.pure (.move (.tmp 36)))) none])
         .skip))))
       (.steps [
         .act (some 19) (.op (.pure (.move (.tmp 6)))) none,
         .act (some 20) (.op (.pure (.bin .sub (.tmp 19) (.const (.int .i64 1))))) none,
         .act (some 6) (.op (.pure (.move (.tmp 20)))) none]))))))
     (.steps [
       .act (some 37) (.op (.pure (.move (.tmp 3)))) none,
       .act (some 38) (.op (.pure (.move (.tmp 5)))) none,
       .act (some 39) (.op (.new (.mkSlice 1 1 [(w64 0#64)] [(0, 1, (.tmp 38))]))) none,
       .act (some 40) (.op (.eff (.append 1 8 (.tmp 37) (.tmp 39)))) none,
       .act (some 3) (.op (.pure (.move (.tmp 40)))) none]))))
    (.steps [
      .act (some 15) (.op (.pure (.move (.tmp 4)))) none,
      .act (some 16) (.op (.pure (.bin .add (.tmp 15) (.const (.int .i64 8))))) none,
      .act (some 4) (.op (.pure (.move (.tmp 16)))) none]))))))
  (.seq (.steps [
    .act (some 41) (.op (.pure (.move (.tmp 3)))) none,
    .act (some 2) (.op (.pure (.move (.tmp 41)))) none])
  .ret)))) }
theorem c8 : compFn Try.prog (mkPlan Try.prog) [(3, [0, 3, 4]), (7, [0, 3, 4, 5, 6])] false 8 = some L8 := by kernel_rfl
/-- sluiceway/buf.Text -/
def L9 : LFun := { n := 57, pop := true, res := [.tmp 2, .tmp 3], code :=
  (.seq (.steps [
    .act (some 2) (.op (.pure (.move (.const (strV []))))) none,
    .act (some 3) (.op (.pure (.move (.const (.int .i64 0))))) none])
  (.seq (.seq (.steps [
    .act (some 10) (.op (.pure (.move (.tmp 0)))) none,
    .act (some 11) (.op (.pure (.len false (.tmp 10)))) none,
    .act (some 12) (.op (.pure (.bin .eql (.tmp 11) (.const (.int .i64 0))))) none,
    .act (some 13) (.op (.pure (.move (.tmp 12)))) none,
    .act (some 14) (.op (.pure (.move (.tmp 0)))) (some (13, false)),
    .act (some 15) (.op (.pure (.idxSl 1 (.tmp 14) (.const (.int .i64 0))))) (some (13, false)),
    .act (some 16) (.op (.read (.load1 (.tmp 15)))) (some (13, false)),
    .act (some 17) (.op (.pure (.bin .gtr (.tmp 16) (.const (w64 56#64))))) (some (13, false)),
    .act (some 18) (.op (.pure (.pick (.tmp 13) (.const (.bool true)) (.tmp 17)))) none])
  (.cond (.tmp 18)
   (.seq (.steps [
     .act (some 2) (.op (.pure (.move (.const (strV []))))) none,
     .act (some 3) (.op (.pure (.move (.const (.int .i64 11))))) none])
   .ret)
   .skip))
  (.seq (.steps [
    .act (some 4) (.op (.pure (.move (.const (.slice none 0 0))))) none])
  (.seq (.seq (.steps [
    .act (some 19) (.op (.pure (.move (.tmp 0)))) none,
    .act (some 20) (.op (.read (.slSl 1 (.tmp 19) (some (.const (.int .i64 1))) none none))) none,
    .act (some 21) (.op (.pure (.len false (.tmp 20)))) none,
    .act (some 22) (.op (.pure (.move (.const (.int .i64 0))))) none])
  (.block 0 (.loop [0, 4, 20, 21, 22] (.seq (.steps [
      .act (some 23) (.op (.pure (.bin .lss (.tmp 22) (.tmp 21)))) none])
    (.seq (.cond (.tmp 23)
     .skip
     (.exit 0))
    (.seq (.block 1 (.seq (.steps [
       .act (some 24) (.op (.pure (.idxSl 1 (.tmp 20) (.tmp 22)))) none,
       .act (some 25) (.op (.read (.load1 (.tmp 24)))) none,
       .act (some 6) (.op (.pure (.move (.tmp 25)))) none])
     (.seq (.steps [
       .act (some 26) (.op (.pure (.move (.const (.int .i64 0))))) none])
     (.block 2 (.loop [0, 4, 6, 20, 21, 22, 26] (.seq (.steps [
         .act (some 27) (.op (.pure (.bin .lss (.tmp 26) (.const (.int .i64 8))))) none])
       (.seq (.cond (.tmp 27)
        .skip
        (.exit 2))
       (.seq (.block 3 (.seq (.steps [
          .act (some 28) (.op (.pure (.move (.tmp 4)))) none,
          .act (some 29) (.op (.pure (.move (.tmp 6)))) none,
          .act (some 30) (.op (.pure (.conv .u8 (.tmp 29)))) none,
          .act (some 31) (.op (.new (.mkSlice 1 1 [(b8 0)] [(0, 1, (.tmp 30))]))) none,
          .act (some 32) (.op (.eff (.append 1 1 (.tmp 28) (.tmp 31)))) none,
          .act (some 4) (.op (.pure (.move (.tmp 32)))) none])
        (.steps [
          .act (some 33) (.op (.pure (.move (.tmp 6)))) none,
          .act (some 34) (.op (.pure (.bin .shr (.tmp 33) (.const (w64 8#64))))) none,
          .act (some 6) (.op (.pure (.move (.tmp 34)))) none])))
       (.steps [
         .act (some 35) (.op (.pure (.bin .add (.tmp 26) (.const (.int .i64 1))))) none,
         .act (some 26) (.op (.pure (.move (.tmp 35)))) none])))))))))
    (.steps [
      .act (some 36) (.op (.pure (.bin .add (.tmp 22) (.const (.int .i64 1))))) none,
      .act (some 22) (.op (.pure (.move (.tmp 36)))) none])))))))
  (.seq (.steps [
    .act (some 37) (.op (.pure (.move (.tmp 4)))) none,
    .act (some 38) (.op (.pure (.move (.tmp 4)))) none,
    .act (some 39) (.op (.pure (.len false (.tmp 38)))) none,
    .act (some 40) (.op (.pure (.move (.tmp 0)))) none,
    .act (some 41) (.op (.pure (.idxSl 1 (.tmp 40) (.const (.int .i64 0))))) none,
    .act (some 42) (.op (.read (.load1 (.tmp 41)))) none,
    .act (some 43) (.op (.pure (.conv .i64 (.tmp 42)))) none,
    .act (some 44) (.op (.pure (.minmax false [(.tmp 39), (.tmp 43)]))) none,
    .act (some 45) (.op (.read (.slSl 1 (.tmp 37) none (some (.tmp 44)) none))) none,
    .act (some 46) (.op (.read (.b2s (.tmp 45)))) none,
    .act (some 7) (.op (.pure (.move (.tmp 46)))) none])
  (.seq (.seq (.steps [
    .act (some 48) (.op (.pure (.move (.tmp 7)))) none,
    .act (some 49) (.call (.func 6) [(.tmp 48)]) none,
    .act (some 47) (.op (.pure (.move (.tmp 49)))) none,
    .act (some 50) (.op (.pure (.extract (.tmp 47) 0))) none,
    .act (some 51) (.op (.pure (.extract (.tmp 47) 1))) none,
    .act (some 8) (.op (.pure (.move (.tmp 50)))) none,
    .act (some 9) (.op (.pure (.move (.tmp 51)))) none])
  (.seq (.steps [
    .act (some 52) (.op (.pure (.move (.tmp 8)))) none,
    .act (some 53) (.op (.pure (.move (.tmp 0)))) none,
    .act (some 54) (.call (.func 24) [(.tmp 52), (.tmp 53)]) none,
    .act (some 55) (.op (.pure (.not (.tmp 54)))) none])
  (.cond (.tmp 55)
   (.seq (.steps [
     .act (some 2) (.op (.pure (.move (.const (strV []))))) none,
     .act (some 3) (.op (.pure (.move (.const (.int .i64 11))))) none])
   .ret)
   .skip)))
  (.seq (.steps [
    .act (some 56) (.op (.pure (.move (.tmp 7)))) none,
    .act (some 2) (.op (.pure (.move (.tmp 56)))) none,
    .act (some 3) (.op (.pure (.move (.const (.int .i64 0))))) none])
  .ret))))))) }
theorem c9 : compFn Try.prog (mkPlan Try.prog) [(5, [0, 4, 20, 21, 22]), (8, [0, 4, 6, 20, 21, 22, 26])] true 9 = some L9 := by kernel_rfl
/-- sluiceway/sluicewaylaw21.fits -/
def L10 : LFun := { n := 60, pop := true, res := [.tmp 2], code :=
  (.seq (.steps [
    .act (some 2) (.op (.pure (.move (.const (.bool false))))) none])
  (.seq (.seq (.steps [
    .act (some 7) (.op (.pure (.move (.tmp 0)))) none,
    .act (some 8) (.op (.pure (.len false (.tmp 7)))) none,
    .act (some 9) (.op (.pure (.bin .eql (.tmp 8) (.const (.int .i64 0))))) none,
    .act (some 10) (.op (.pure (.move (.tmp 9)))) none,
    .act (some 11) (.op (.pure (.move (.tmp 0)))) (some (10, false)),
    .act (some 12) (.op (.pure (.idxSl 1 (.tmp 11) (.const (.int .i64 0))))) (some (10, false)),
    .act (some 13) (.op (.read (.load1 (.tmp 12)))) (some (10, false)),
    .act (some 14) (.op (.pure (.bin .gtr (.tmp 13) (.const (w64 56#64))))) (some (10, false)),
    .act (some 15) (.op (.pure (.pick (.tmp 10) (.const (.bool true)) (.tmp 14)))) none,
    .act (some 16) (.op (.pure (.move (.tmp 15)))) none,
    .act (some 17) (.op (.pure (.move (.tmp 0)))) (some (16, false)),
    .act (some 18) (.op (.pure (.len false (.tmp 17)))) (some (16, false)),
    .act (some 19) (.op (.pure (.move (.tmp 0)))) (some (16, false)),
    .act (some 20) (.op (.pure (.idxSl 1 (.tmp 19) (.const (.int .i64 0))))) (some (16, false)),
    .act (some 21) (.op (.read (.load1 (.tmp 20)))) (some (16, false)),
    .act (some 22) (.op (.pure (.conv .i64 (.tmp 21)))) (some (16, false)),
    .act (some 23) (.op (.pure (.bin .add (.tmp 22) (.const (.int .i64 7))))) (some (16, false)),
    .act (some 24) (.op (.pure (.bin .quo (.tmp 23) (.const (.int .i64 8))))) (some (16, false)),
    .act (some 25) (.op (.pure (.bin .add (.const (.int .i64 1)) (.tmp 24)))) (some (16, false)),
    .act (some 26) (.op (.pure (.bin .neq (.tmp 18) (.tmp 25)))) (some (16, false)),
    .act (some 27) (.op (.pure (.pick (.tmp 16) (.const (.bool true)) (.tmp 26)))) none])
  (.cond (.tmp 27)
   (.seq (.steps [
     .act (some 2) (.op (.pure (.move (.const (.bool false))))) none])
   .ret)
   .skip))
  (.seq (.steps [
    .act (some 3) (.op (.pure (.move (.const (strV []))))) none])
  (.seq (.seq (.steps [
    .act (some 4) (.op (.pure (.move (.const (.int .i64 1))))) none])
  (.block 0 (.loop [0, 3, 4] (.seq (.seq (.steps [
      .act (some 28) (.op (.pure (.move (.tmp 4)))) none,
      .act (some 29) (.op (.pure (.move (.tmp 0)))) none,
      .act (some 30) (.op (.pure (.len false (.tmp 29)))) none,
      .act (some 31) (.op (.pure (.bin .lss (.tmp 28) (.tmp 30)))) none])
    (.cond (.tmp 31)
     .skip
     (.exit 0)))
    (.seq (.block 1 (.seq (.steps [
       .act (some 34) (.op (.pure (.move (.tmp 0)))) none,
       .act (some 35) (.op (.pure (.move (.tmp 4)))) none,
       .act (some 36) (.op (.pure (.idxSl 1 (.tmp 34) (.tmp 35)))) none,
       .act (some 37) (.op (.read (.load1 (.tmp 36)))) none,
       .act (some 5) (.op (.pure (.move (.tmp 37)))) none])
     (.seq (.steps [
       .act (some 6) (.op (.pure (.move (.const (.int .i64 0))))) none])
     (.block 2 (.loop [0, 3, 4, 5, 6] (.seq (.seq (.steps [
         .act (some 38) (.op (.pure (.move (.tmp 6)))) none,
         .act (some 39) (.op (.pure (.bin .lss (.tmp 38) (.const (.int .i64 8))))) none])
       (.cond (.tmp 39)
        .skip
        (.exit 2)))
       (.seq (.block 3 (.seq (.steps [
          .act (some 42) (.op (.pure (.move (.tmp 3)))) none,
          .act (some 43) (.op (.pure (.move (.tmp 5)))) none,
          .act (some 44) (.op (.pure (.bin .rem (.tmp 43) (.const (w64 256#64))))) none,
          .act (some 45) (.op (.pure (.conv .u8 (.tmp 44)))) none,
          .act (some 46) (.op (.new (.mkSlice 1 1 [(b8 0)] [(0, 1, (.tmp 45))]))) none,
          .act (some 47) (.op (.read (.b2s (.tmp 46)))) none,
          .act (some 48) (.op (.pure (.strOp .add (.tmp 42) (.tmp 47)))) none,
          .act (some 3) (.op (.pure (.move (.tmp 48)))) none])
        (.steps [
          .act (some 49) (.op (.pure (.move (.tmp 5)))) none,
          .act (some 50) (.op (.pure (.bin .quo (.tmp 49) (.const (w64 256#64))))) none,
          .act (some 5) (.op (.pure (.move (.tmp 50)))) none])))
       (.steps [
         .act (some 40) (.op (.pure (.move (.tmp 6)))) none,
         .act (some 41) (.op (.pure (.bin .add (.tmp 40) (.const (.int .i64 1))))) none,
         .act (some 6) (.op (.pure (.move (.tmp 41)))) none]))))))))
    (.steps [
      .act (some 32) (.op (.pure (.move (.tmp 4)))) none,
      .act (some 33) (.op (.pure (.bin .add (.tmp 32) (.const (.int .i64 1))))) none,
      .act (some 4) (.op (.pure (.move (.tmp 33)))) none]))))))
  (.seq (.steps [
    .act (some 51) (.op (.pure (.move (.tmp 3)))) none,
    .act (some 52) (.op (.pure (.move (.tmp 0)))) none,
    .act (some 53) (.op (.pure (.idxSl 1 (.tmp 52) (.const (.int .i64 0))))) none,
    .act (some 54) (.op (.read (.load1 (.tmp 53)))) none,
    .act (some 55) (.op (.pure (.conv .i64 (.tmp 54)))) none,
    .act (some 56) (.op (.pure (.slStr (.tmp 51) none (some (.tmp 55))))) none,
    .act (some 57) (.call (.func 8) [(.tmp 56)]) none,
    .act (some 58) (.op (.pure (.move (.tmp 0)))) none,
    .act (some 59) (.call (.func 7) [(.tmp 57), (.tmp 58)]) none,
    .act (some 2) (.op (.pure (.move (.tmp 59)))) none])
  .ret))))) }
theorem c10 : compFn Try.prog (mkPlan Try.prog) [(5, [0, 3, 4]), (9, [0, 3, 4, 5, 6])] true 10 = some L10 := by kernel_rfl
/-- sluiceway/sluicewaylaw21.one -/
def L11 : LFun := { n := 67, pop := true, res := [.tmp 0], code :=
  (.seq (.steps [
    .act (some 0) (.op (.pure (.move (.const (.bool false))))) none])
  (.seq (.steps [
    .act (some 11) (.call (.func 6) [(.const (strV [97, 98]))]) none,
    .act (some 10) (.op (.pure (.move (.tmp 11)))) none,
    .act (some 12) (.op (.pure (.extract (.tmp 10) 0))) none,
    .act (some 13) (.op (.pure (.extract (.tmp 10) 1))) none,
    .act (some 1) (.op (.pure (.move (.tmp 12)))) none,
    .act (some 2) (.op (.pure (.move (.tmp 13)))) none])
  (.seq (.steps [
    .act (some 15) (.call (.func 12) [(.const (.int .i64 4))]) none,
    .act (some 14) (.op (.pure (.move (.tmp 15)))) none,
    .act (some 16) (.op (.pure (.extract (.tmp 14) 0))) none,
    .act (some 17) (.op (.pure (.extract (.tmp 14) 1))) none,
    .act (some 3) (.op (.pure (.move (.tmp 16)))) none,
    .act (some 4) (.op (.pure (.move (.tmp 17)))) none])
  (.seq (.seq (.steps [
    .act (some 18) (.op (.pure (.move (.tmp 2)))) none,
    .act (some 19) (.op (.pure (.bin .neq (.tmp 18) (.const (.int .i64 0))))) none,
    .act (some 20) (.op (.pure (.move (.tmp 19)))) none,
    .act (some 21) (.op (.pure (.move (.tmp 4)))) (some (20, false)),
    .act (some 22) (.op (.pure (.bin .neq (.tmp 21) (.const (.int .i64 0))))) (some (20, false)),
    .act (some 23) (.op (.pure (.pick (.tmp 20) (.const (.bool true)) (.tmp 22)))) none,
    .act (some 24) (.op (.pure (.move (.tmp 23)))) none,
    .act (some 25) (.op (.pure (.move (.tmp 1)))) (some (24, false)),
    .act (some 26) (.op (.pure (.len false (.tmp 25)))) (some (24, false)),
    .act (some 27) (.op (.pure (.bin .neq (.tmp 26) (.const (.int .i64 2))))) (some (24, false)),
    .act (some 28) (.op (.pure (.pick (.tmp 24) (.const (.bool true)) (.tmp 27)))) none,
    .act (some 29) (.op (.pure (.move (.tmp 28)))) none,
    .act (some 30) (.op (.pure (.move (.tmp 1)))) (some (29, false)),
    .act (some 31) (.op (.pure (.idxSl 1 (.tmp 30) (.const (.int .i64 1))))) (some (29, false)),
    .act (some 32) (.op (.read (.load1 (.tmp 31)))) (some (29, false)),
    .act (some 33) (.op (.pure (.bin .neq (.tmp 32) (.const (w64 25185#64))))) (some (29, false)),
    .act (some 34) (.op (.pure (.pick (.tmp 29) (.const (.bool true)) (.tmp 33)))) none])
  (.cond (.tmp 34)
   (.seq (.steps [
     .act (some 0) (.op (.pure (.move (.const (.bool false))))) none])
   .ret)
   .skip))
  (.seq (.steps [
    .act (some 35) (.op (.pure (.move (.tmp 3)))) none,
    .act (some 36) (.op (.pure (.move (.tmp 1)))) none,
    .act (some 37) (.call (.func 20) [(.const (.int .i64 1)), (.tmp 36)]) none,
    .act (some 38) (.call (.func 21) [(.tmp 35), (.tmp 37)]) none,
    .act (some 5) (.op (.pure (.move (.tmp 38)))) none])
  (.seq (.steps [
    .act (some 39) (.call (.func 13) [(.const (.int .i64 1)), (.const (.int .i64 2))]) none,
    .act (some 6) (.op (.pure (.move (.tmp 39)))) none])
  (.seq (.steps [
    .act (some 40) (.op (.pure (.move (.tmp 3)))) none,
    .act (some 41) (.op (.pure (.move (.tmp 6)))) none,
    .act (some 42) (.call (.func 21) [(.tmp 40), (.tmp 41)]) none,
    .act (some 7) (.op (.pure (.move (.tmp 42)))) none])
  (.seq (.steps [
    .act (some 44) (.op (.pure (.move (.tmp 6)))) none,
    .act (some 45) (.call (.func 18) [(.tmp 44)]) none,
    .act (some 46) (.call (.func 9) [(.tmp 45)]) none,
    .act (some 43) (.op (.pure (.move (.tmp 46)))) none,
    .act (some 47) (.op (.pure (.extract (.tmp 43) 0))) none,
    .act (some 48) (.op (.pure (.extract (.tmp 43) 1))) none,
    .act (some 8) (.op (.pure (.move (.tmp 47)))) none,
    .act (some 9) (.op (.pure (.move (.tmp 48)))) none])
  (.seq (.steps [
    .act (some 49) (.op (.pure (.move (.tmp 5)))) none,
    .act (some 50) (.op (.pure (.bin .eql (.tmp 49) (.const (.int .i64 2))))) none,
    .act (some 51) (.op (.pure (.move (.tmp 50)))) none,
    .act (some 52) (.op (.pure (.move (.tmp 7)))) (some (51, true)),
    .act (some 53) (.op (.pure (.bin .eql (.tmp 52) (.const (.int .i64 2))))) (some (51, true)),
    .act (some 54) (.op (.pure (.pick (.tmp 51) (.tmp 53) (.const (.bool false))))) none,
    .act (some 55) (.op (.pure (.move (.tmp 54)))) none,
    .act (some 56) (.op (.pure (.move (.tmp 9)))) (some (55, true)),
    .act (some 57) (.op (.pure (.bin .eql (.tmp 56) (.const (.int .i64 0))))) (some (55, true)),
    .act (some 58) (.op (.pure (.pick (.tmp 55) (.tmp 57) (.const (.bool false))))) none,
    .act (some 59) (.op (.pure (.move (.tmp 58)))) none,
    .act (some 60) (.op (.pure (.move (.tmp 8)))) (some (59, true)),
    .act (some 61) (.op (.pure (.strOp .eql (.tmp 60) (.const (strV [97, 98]))))) (some (59, true)),
    .act (some 62) (.op (.pure (.pick (.tmp 59) (.tmp 61) (.const (.bool false))))) none,
    .act (some 63) (.op (.pure (.move (.tmp 62)))) none,
    .act (some 64) (.call (.func 25) []) (some (63, true)),
    .act (some 65) (.op (.pure (.bin .eql (.tmp 64) (.const (.int .i64 56))))) (some (63, true)),
    .act (some 66) (.op (.pure (.pick (.tmp 63) (.tmp 65) (.const (.bool false))))) none,
    .act (some 0) (.op (.pure (.move (.tmp 66)))) none])
  .ret))))))))) }
theorem c11 : compFn Try.prog (mkPlan Try.prog) [] true 11 = some L11 := by kernel_rfl
/-- sluiceway/mem.New -/
def L12 : LFun := { n := 16, pop := false, res := [.tmp 2, .tmp 3], code :=
  (.seq (.steps [
    .act (some 2) (.op (.pure (.move (.const (.pointer none))))) none,
    .act (some 3) (.op (.pure (.move (.const (.int .i64 0))))) none])
  (.seq (.seq (.steps [
    .act (some 4) (.op (.pure (.move (.tmp 0)))) none,
    .act (some 5) (.op (.pure (.bin .lss (.tmp 4) (.const (.int .i64 1))))) none,
    .act (some 6) (.op (.pure (.move (.tmp 5)))) none,
    .act (some 7) (.op (.pure (.move (.tmp 0)))) (some (6, false)),
    .act (some 8) (.op (.pure (.bin .gtr (.tmp 7) (.const (.int .i64 65536))))) (some (6, false)),
    .act (some 9) (.op (.pure (.pick (.tmp 6) (.const (.bool true)) (.tmp 8)))) none])
  (.cond (.tmp 9)
   (.seq (.steps [
     .act (some 2) (.op (.pure (.move (.const (.pointer none))))) none,
     .act (some 3) (.op (.pure (.move (.const (.int .i64 2))))) none])
   .ret)
   .skip))
  (.seq (.steps [
    .act (some 10) (.op (.pure (.move (.tmp 0)))) none,
    .act (some 11) (.op (.new (.makeSlice 1 8 [(w64 0#64)] (.tmp 10) (.tmp 10)))) none,
    .act (some 12) (.op (.pure (.move (.tmp 0)))) none,
    .act (some 13) (.op (.new (.makeSlice 1 1 [(.bool false)] (.tmp 12) (.tmp 12)))) none,
    .act (some 14) (.op (.pure (.build [(.slice none 0 0), (.slice none 0 0), (.int .i64 0), (.int .i64 0), (.int .i64 0), (.int .i64 0), (.int .i64 0), (.int .i64 0), (.int .i64 0), (.bool false)] [(0, 1, (.tmp 11)), (1, 1, (.tmp 13)), (8, 1, (.const (.int .i64 (-1))))]))) none,
    .act (some 15) (.op (.new (.box (.tmp 14)))) none,
    .act (some 2) (.op (.pure (.move (.tmp 15)))) none,
    .act (some 3) (.op (.pure (.move (.const (.int .i64 0))))) none])
  .ret))) }
theorem c12 : compFn Try.prog (mkPlan Try.prog) [] false 12 = some L12 := by kernel_rfl
/-- sluiceway/buf.Read -/
def L13 : LFun := { n := 9, pop := false, res := [.tmp 4], code :=
  (.seq (.steps [
    .act (some 4) (.op (.pure (.move (.const (.pointer none))))) none])
  (.seq (.steps [
    .act (some 5) (.op (.pure (.move (.tmp 0)))) none,
    .act (some 6) (.op (.pure (.move (.tmp 1)))) none,
    .act (some 7) (.op (.pure (.build [(.bool false), (.int .i64 0), (.bool false), (.slice none 0 0), (.int .i64 0), (.int .i64 0), (.int .i64 0)] [(1, 1, (.tmp 5)), (2, 1, (.const (.bool true))), (5, 1, (.tmp 6))]))) none,
    .act (some 8) (.call (.func 26) [(.tmp 7)]) none,
    .act (some 4) (.op (.pure (.move (.tmp 8)))) none])
  .ret)) }
theorem c13 : compFn Try.prog (mkPlan Try.prog) [] false 13 = some L13 := by kernel_rfl
/-- (*sluiceway/buf.Op).Result -/
def L14 : LFun := { n := 9, pop := true, res := [.tmp 2], code :=
  (.seq (.steps [
    .act (some 2) (.op (.pure (.move (.const (.int .i64 0))))) none])
  (.seq (.seq (.steps [
    .act (some 3) (.op (.pure (.move (.tmp 0)))) none,
    .act (some 4) (.call (.func 27) [(.tmp 3)]) none])
  (.cond (.tmp 4)
   (.seq (.steps [
     .act (some 2) (.op (.pure (.move (.const (.int .i64 1))))) none])
   .ret)
   .skip))
  (.seq (.steps [
    .act (some 5) (.op (.pure (.move (.tmp 0)))) none,
    .act (some 6) (.op (.pure (.nilCheck (.tmp 5)))) none,
    .act (some 7) (.op (.pure (.fieldAddr 6 (.tmp 6)))) none,
    .act (some 8) (.op (.read (.load1 (.tmp 7)))) none,
    .act (some 2) (.op (.pure (.move (.tmp 8)))) none])
  .ret))) }
theorem c14 : compFn Try.prog (mkPlan Try.prog) [] true 14 = some L14 := by kernel_rfl
/-- (*sluiceway/buf.Op).Done -/
def L15 : LFun := { n := 6, pop := true, res := [.tmp 2], code :=
  (.seq (.steps [
    .act (some 2) (.op (.pure (.move (.const (.bool false))))) none])
  (.seq (.steps [
    .act (some 3) (.op (.pure (.move (.tmp 0)))) none,
    .act (some 4) (.call (.func 17) [(.tmp 3)]) none,
    .act (some 5) (.op (.pure (.bin .eql (.tmp 4) (.const (.int .i64 0))))) none,
    .act (some 2) (.op (.pure (.move (.tmp 5)))) none])
  .ret)) }
theorem c15 : compFn Try.prog (mkPlan Try.prog) [] true 15 = some L15 := by kernel_rfl
/-- (*sluiceway/buf.Op).Step -/
def L16 : LFun := { n := 30, pop := false, res := [.tmp 4], code :=
  (.seq (.steps [
    .act (some 4) (.op (.pure (.move (.const (.bool false))))) none])
  (.seq (.seq (.steps [
    .act (some 5) (.op (.pure (.move (.tmp 0)))) none,
    .act (some 6) (.call (.func 15) [(.tmp 5)]) none,
    .act (some 7) (.op (.pure (.not (.tmp 6)))) none,
    .act (some 8) (.op (.pure (.move (.tmp 7)))) none,
    .act (some 9) (.op (.pure (.move (.tmp 1)))) (some (8, true)),
    .act (some 10) (.call (.func 28) [(.tmp 9)]) (some (8, true)),
    .act (some 11) (.op (.pure (.bin .gtr (.tmp 10) (.const (.int .i64 0))))) (some (8, true)),
    .act (some 12) (.op (.pure (.pick (.tmp 8) (.tmp 11) (.const (.bool false))))) none])
  (.cond (.tmp 12)
   (.seq (.steps [
     .act (some 13) (.op (.pure (.move (.tmp 0)))) none,
     .act (some 14) (.op (.pure (.move (.tmp 1)))) none,
     .act (some 16) (.op (.pure (.move (.tmp 0)))) none,
     .act (some 17) (.op (.pure (.nilCheck (.tmp 16)))) none,
     .act (some 18) (.op (.pure (.fieldAddr 4 (.tmp 17)))) none,
     .act (some 19) (.op (.read (.load1 (.tmp 18)))) none,
     .act (some 15) (.call (.func 29) [(.tmp 13), (.tmp 14)]) none,
     .again 19 (.load1 (.tmp 18)) none,
     .act (some 20) (.call (.tmp 15) [(.tmp 19)]) none])
   (.steps [
     .act (some 21) (.op (.pure (.move (.tmp 0)))) none,
     .act (some 22) (.op (.pure (.nilCheck (.tmp 21)))) none,
     .act (some 23) (.op (.pure (.fieldAddr 4 (.tmp 22)))) none,
     .act (some 24) (.op (.read (.load1 (.tmp 23)))) none,
     .act (some 25) (.op (.pure (.bin .add (.tmp 24) (.const (.int .i64 1))))) none,
     .act (some 26) (.op (.pure (.nilCheck (.tmp 21)))) none,
     .act (some 27) (.op (.pure (.fieldAddr 4 (.tmp 26)))) none,
     .act none (.op (.eff (.store 1 (.tmp 27) (.tmp 25)))) none]))
   .skip))
  (.seq (.steps [
    .act (some 28) (.op (.pure (.move (.tmp 0)))) none,
    .act (some 29) (.call (.func 15) [(.tmp 28)]) none,
    .act (some 4) (.op (.pure (.move (.tmp 29)))) none])
  .ret))) }
theorem c16 : compFn Try.prog (mkPlan Try.prog) [] false 16 = some L16 := by kernel_rfl
/-- (*sluiceway/buf.Op).Left -/
def L17 : LFun := { n := 14, pop := true, res := [.tmp 2], code :=
  (.seq (.steps [
    .act (some 2) (.op (.pure (.move (.const (.int .i64 0))))) none])
  (.seq (.seq (.steps [
    .act (some 3) (.op (.pure (.move (.tmp 0)))) none,
    .act (some 4) (.call (.func 27) [(.tmp 3)]) none])
  (.cond (.tmp 4)
   (.seq (.steps [
     .act (some 2) (.op (.pure (.move (.const (.int .i64 0))))) none])
   .ret)
   .skip))
  (.seq (.steps [
    .act (some 5) (.op (.pure (.move (.tmp 0)))) none,
    .act (some 6) (.op (.pure (.nilCheck (.tmp 5)))) none,
    .act (some 7) (.op (.pure (.fieldAddr 5 (.tmp 6)))) none,
    .act (some 8) (.op (.read (.load1 (.tmp 7)))) none,
    .act (some 9) (.op (.pure (.move (.tmp 0)))) none,
    .act (some 10) (.op (.pure (.nilCheck (.tmp 9)))) none,
    .act (some 11) (.op (.pure (.fieldAddr 4 (.tmp 10)))) none,
    .act (some 12) (.op (.read (.load1 (.tmp 11)))) none,
    .act (some 13) (.op (.pure (.bin .sub (.tmp 8) (.tmp 12)))) none,
    .act (some 2) (.op (.pure (.move (.tmp 13)))) none])
  .ret))) }
theorem c17 : compFn Try.prog (mkPlan Try.prog) [] true 17 = some L17 := by kernel_rfl
/-- (*sluiceway/buf.Op).Words -/
def L18 : LFun := { n := 28, pop := false, res := [.tmp 2], code :=
  (.seq (.steps [
    .act (some 2) (.op (.pure (.move (.const (.slice none 0 0))))) none])
  (.seq (.seq (.steps [
    .act (some 3) (.op (.pure (.move (.tmp 0)))) none,
    .act (some 4) (.call (.func 27) [(.tmp 3)]) none,
    .act (some 5) (.op (.pure (.move (.tmp 4)))) none,
    .act (some 6) (.op (.pure (.move (.tmp 0)))) (some (5, false)),
    .act (some 7) (.op (.pure (.nilCheck (.tmp 6)))) (some (5, false)),
    .act (some 8) (.op (.pure (.fieldAddr 2 (.tmp 7)))) (some (5, false)),
    .act (some 9) (.op (.read (.load1 (.tmp 8)))) (some (5, false)),
    .act (some 10) (.op (.pure (.not (.tmp 9)))) (some (5, false)),
    .act (some 11) (.op (.pure (.pick (.tmp 5) (.const (.bool true)) (.tmp 10)))) none])
  (.cond (.tmp 11)
   (.seq (.steps [
     .act (some 2) (.op (.pure (.move (.const (.slice none 0 0))))) none])
   .ret)
   .skip))
  (.seq (.steps [
    .act (some 12) (.op (.pure (.move (.tmp 0)))) none,
    .act (some 13) (.op (.pure (.nilCheck (.tmp 12)))) none,
    .act (some 14) (.op (.pure (.fieldAddr 3 (.tmp 13)))) none,
    .act (some 15) (.op (.read (.load1 (.tmp 14)))) none,
    .act (some 16) (.op (.pure (.move (.tmp 0)))) none,
    .act (some 17) (.op (.pure (.nilCheck (.tmp 16)))) none,
    .act (some 18) (.op (.pure (.fieldAddr 3 (.tmp 17)))) none,
    .act (some 19) (.op (.read (.load1 (.tmp 18)))) none,
    .act (some 20) (.op (.pure (.len false (.tmp 19)))) none,
    .act (some 21) (.op (.pure (.move (.tmp 0)))) none,
    .act (some 22) (.op (.pure (.nilCheck (.tmp 21)))) none,
    .act (some 23) (.op (.pure (.fieldAddr 3 (.tmp 22)))) none,
    .act (some 24) (.op (.read (.load1 (.tmp 23)))) none,
    .act (some 25) (.op (.pure (.len false (.tmp 24)))) none,
    .act (some 26) (.op (.read (.slSl 1 (.tmp 15) none (some (.tmp 20)) (some (.tmp 25))))) none,
    .act (some 27) (.call (.func 30) [(.tmp 26)]) none,
    .act (some 2) (.op (.pure (.move (.tmp 27)))) none])
  .ret))) }
theorem c18 : compFn Try.prog (mkPlan Try.prog) [] false 18 = some L18 := by kernel_rfl
/-- (*sluiceway/mem.Mem).Steps -/
def L19 : LFun := { n := 15, pop := true, res := [.tmp 2], code :=
  (.seq (.steps [
    .act (some 2) (.op (.pure (.move (.const (.int .i64 0))))) none])
  (.seq (.steps [
    .act (some 3) (.op (.pure (.move (.const (.int .i64 0))))) none])
  (.seq (.seq (.steps [
    .act (some 5) (.op (.pure (.move (.const (.int .i64 0))))) none])
  (.block 0 (.loop [0, 3, 5] (.seq (.steps [
      .act (some 6) (.op (.pure (.bin .lss (.tmp 5) (.const (.int .i64 6))))) none])
    (.seq (.cond (.tmp 6)
     .skip
     (.exit 0))
    (.seq (.block 1 (.seq (.steps [
       .act (some 7) (.op (.pure (.move (.tmp 5)))) none,
       .act (some 4) (.op (.pure (.move (.tmp 7)))) none])
     (.steps [
       .act (some 8) (.op (.pure (.move (.tmp 3)))) none,
       .act (some 9) (.op (.pure (.move (.tmp 0)))) none,
       .act (some 10) (.op (.pure (.move (.tmp 4)))) none,
       .act (some 11) (.call (.func 31) [(.tmp 9), (.tmp 10)]) none,
       .act (some 12) (.op (.pure (.bin .add (.tmp 8) (.tmp 11)))) none,
       .act (some 3) (.op (.pure (.move (.tmp 12)))) none])))
    (.steps [
      .act (some 13) (.op (.pure (.bin .add (.tmp 5) (.const (.int .i64 1))))) none,
      .act (some 5) (.op (.pure (.move (.tmp 13)))) none])))))))
  (.seq (.steps [
    .act (some 14) (.op (.pure (.move (.tmp 3)))) none,
    .act (some 2) (.op (.pure (.move (.tmp 14)))) none])
  .ret)))) }
theorem c19 : compFn Try.prog (mkPlan Try.prog) [(3, [0, 3, 5])] true 19 = some L19 := by kernel_rfl
/-- sluiceway/buf.Write -/
def L20 : LFun := { n := 16, pop := false, res := [.tmp 4], code :=
  (.seq (.steps [
    .act (some 4) (.op (.pure (.move (.const (.pointer none))))) none])
  (.seq (.steps [
    .act (some 5) (.op (.pure (.move (.tmp 0)))) none,
    .act (some 6) (.op (.pure (.move (.tmp 1)))) none,
    .act (some 7) (.op (.pure (.move (.tmp 1)))) none,
    .act (some 8) (.op (.pure (.len false (.tmp 7)))) none,
    .act (some 9) (.op (.pure (.minmax false [(.tmp 8), (.const (.int .i64 8))]))) none,
    .act (some 10) (.op (.read (.slSl 1 (.tmp 6) none (some (.tmp 9)) none))) none,
    .act (some 11) (.call (.func 30) [(.tmp 10)]) none,
    .act (some 12) (.op (.pure (.move (.tmp 1)))) none,
    .act (some 13) (.op (.pure (.len false (.tmp 12)))) none,
    .act (some 14) (.op (.pure (.build [(.bool false), (.int .i64 0), (.bool false), (.slice none 0 0), (.int .i64 0), (.int .i64 0), (.int .i64 0)] [(1, 1, (.tmp 5)), (3, 1, (.tmp 11)), (5, 1, (.tmp 13))]))) none,
    .act (some 15) (.call (.func 26) [(.tmp 14)]) none,
    .act (some 4) (.op (.pure (.move (.tmp 15)))) none])
  .ret)) }
theorem c20 : compFn Try.prog (mkPlan Try.prog) [] false 20 = some L20 := by kernel_rfl
/-- sluiceway/sluicewaylaw21.run -/
def L21 : LFun := { n := 19, pop := false, res := [.tmp 4], code :=
  (.seq (.steps [
    .act (some 4) (.op (.pure (.move (.const (.int .i64 0))))) none])
  (.seq (.steps [
    .act (some 5) (.op (.pure (.move (.const (.int .i64 0))))) none])
  (.seq (.block 0 (.loop [0, 1, 5] (.seq (.seq (.steps [
      .act (some 6) (.op (.pure (.move (.tmp 5)))) none,
      .act (some 7) (.op (.pure (.bin .lss (.tmp 6) (.const (.int .i64 20))))) none,
      .act (some 8) (.op (.pure (.move (.tmp 7)))) none,
      .act (some 9) (.op (.pure (.move (.tmp 1)))) (some (8, true)),
      .act (some 10) (.call (.func 15) [(.tmp 9)]) (some (8, true)),
      .act (some 11) (.op (.pure (.not (.tmp 10)))) (some (8, true)),
      .act (some 12) (.op (.pure (.pick (.tmp 8) (.tmp 11) (.const (.bool false))))) none])
    (.cond (.tmp 12)
     .skip
     (.exit 0)))
    (.block 1 (.seq (.steps [
       .act (some 13) (.op (.pure (.move (.tmp 1)))) none,
       .act (some 14) (.op (.pure (.move (.tmp 0)))) none,
       .act (some 15) (.call (.func 16) [(.tmp 13), (.tmp 14)]) none])
     (.steps [
       .act (some 16) (.op (.pure (.move (.tmp 5)))) none,
       .act (some 17) (.op (.pure (.bin .add (.tmp 16) (.const (.int .i64 1))))) none,
       .act (some 5) (.op (.pure (.move (.tmp 17)))) none]))))))
  (.seq (.steps [
    .act (some 18) (.op (.pure (.move (.tmp 5)))) none,
    .act (some 4) (.op (.pure (.move (.tmp 18)))) none])
  .ret)))) }
theorem c21 : compFn Try.prog (mkPlan Try.prog) [(2, [0, 1, 5])] false 21 = some L21 := by kernel_rfl
/-- (*sluiceway/mem.Mem).Store -/
def L22 : LFun := { n := 10, pop := true, res := [], code :=
  (.seq (.steps [
    .act (some 5) (.op (.new (.box (.tmp 2)))) none])
  (.steps [
    .act (some 6) (.op (.pure (.move (.tmp 0)))) none,
    .act (some 7) (.op (.pure (.move (.tmp 1)))) none,
    .act (some 8) (.op (.pure (.mkFunc 33 [] [(.tmp 5)]))) none,
    .act (some 9) (.call (.func 32) [(.tmp 6), (.const (.int .i64 1)), (.tmp 7), (.tmp 8)]) none])) }
theorem c22 : compFn Try.prog (mkPlan Try.prog) [] true 22 = some L22 := by kernel_rfl
/-- (*sluiceway/mem.Mem).Trap -/
def L23 : LFun := { n := 9, pop := true, res := [.tmp 2], code :=
  (.seq (.steps [
    .act (some 2) (.op (.pure (.move (.const (.int .i64 0))))) none])
  (.seq (.seq (.steps [
    .act (some 3) (.op (.pure (.move (.tmp 0)))) none,
    .act (some 4) (.call (.func 34) [(.tmp 3)]) none])
  (.cond (.tmp 4)
   (.seq (.steps [
     .act (some 2) (.op (.pure (.move (.const (.int .i64 (-1)))))) none])
   .ret)
   .skip))
  (.seq (.steps [
    .act (some 5) (.op (.pure (.move (.tmp 0)))) none,
    .act (some 6) (.op (.pure (.nilCheck (.tmp 5)))) none,
    .act (some 7) (.op (.pure (.fieldAddr 8 (.tmp 6)))) none,
    .act (some 8) (.op (.read (.load1 (.tmp 7)))) none,
    .act (some 2) (.op (.pure (.move (.tmp 8)))) none])
  .ret))) }
theorem c23 : compFn Try.prog (mkPlan Try.prog) [] true 23 = some L23 := by kernel_rfl
/-- slices.Equal[[]uint64,uint64] -/
def L24 : LFun := { n := 26, pop := true, res := [.tmp 4], code :=
  (.seq (.steps [
    .act (some 4) (.op (.pure (.move (.const (.bool false))))) none])
  (.seq (.seq (.steps [
    .act (some 6) (.op (.pure (.move (.tmp 0)))) none,
    .act (some 7) (.op (.pure (.len false (.tmp 6)))) none,
    .act (some 8) (.op (.pure (.move (.tmp 1)))) none,
    .act (some 9) (.op (.pure (.len false (.tmp 8)))) none,
    .act (some 10) (.op (.pure (.bin .neq (.tmp 7) (.tmp 9)))) none])
  (.cond (.tmp 10)
   (.seq (.steps [
     .act (some 4) (.op (.pure (.move (.const (.bool false))))) none])
   .ret)
   .skip))
  (.seq (.seq (.steps [
    .act (some 11) (.op (.pure (.move (.tmp 0)))) none,
    .act (some 12) (.op (.pure (.len false (.tmp 11)))) none,
    .act (some 13) (.op (.pure (.move (.const (.int .i64 0))))) none])
  (.block 0 (.loop [0, 1, 12, 13] (.seq (.steps [
      .act (some 14) (.op (.pure (.bin .lss (.tmp 13) (.tmp 12)))) none])
    (.seq (.cond (.tmp 14)
     .skip
     (.exit 0))
    (.seq (.block 1 (.seq (.steps [
       .act (some 15) (.op (.pure (.move (.tmp 13)))) none,
       .act (some 5) (.op (.pure (.move (.tmp 15)))) none])
     (.seq (.steps [
       .act (some 16) (.op (.pure (.move (.tmp 0)))) none,
       .act (some 17) (.op (.pure (.move (.tmp 5)))) none,
       .act (some 18) (.op (.pure (.idxSl 1 (.tmp 16) (.tmp 17)))) none,
       .act (some 19) (.op (.read (.load1 (.tmp 18)))) none,
       .act (some 20) (.op (.pure (.move (.tmp 1)))) none,
       .act (some 21) (.op (.pure (.move (.tmp 5)))) none,
       .act (some 22) (.op (.pure (.idxSl 1 (.tmp 20) (.tmp 21)))) none,
       .act (some 23) (.op (.read (.load1 (.tmp 22)))) none,
       .act (some 24) (.op (.pure (.bin .neq (.tmp 19) (.tmp 23)))) none])
     (.cond (.tmp 24)
      (.seq (.steps [
        .act (some 4) (.op (.pure (.move (.const (.bool false))))) none])
      .ret)
      .skip))))
    (.steps [
      .act (some 25) (.op (.pure (.bin .add (.tmp 13) (.const (.int .i64 1))))) none,
      .act (some 13) (.op (.pure (.move (.tmp 25)))) none])))))))
  (.seq (.steps [
    .act (some 4) (.op (.pure (.move (.const (.bool true))))) none])
  .ret)))) }
theorem c24 : compFn Try.prog (mkPlan Try.prog) [(4, [0, 1, 12, 13])] true 24 = some L24 := by kernel_rfl
/-- sluiceway/buf.Most -/
def L25 : LFun := { n := 1, pop := true, res := [.tmp 0], code :=
  (.seq (.steps [
    .act (some 0) (.op (.pure (.move (.const (.int .i64 0))))) none])
  (.seq (.steps [
    .act (some 0) (.op (.pure (.move (.const (.int .i64 56))))) none])
  .ret)) }
theorem c25 : compFn Try.prog (mkPlan Try.prog) [] true 25 = some L25 := by kernel_rfl
/-- sluiceway/buf.begin -/
def L26 : LFun := { n := 19, pop := false, res := [.tmp 2], code :=
  (.seq (.steps [
    .act (some 1) (.op (.new (.box (.tmp 0)))) none,
    .act (some 2) (.op (.pure (.move (.const (.pointer none))))) none])
  (.seq (.steps [
    .act (some 3) (.op (.pure (.fieldAddr 0 (.tmp 1)))) none,
    .act none (.op (.eff (.store 1 (.tmp 3) (.const (.bool true))))) none])
  (.seq (.seq (.steps [
    .act (some 4) (.op (.pure (.fieldAddr 5 (.tmp 1)))) none,
    .act (some 5) (.op (.read (.load1 (.tmp 4)))) none,
    .act (some 6) (.op (.pure (.bin .lss (.tmp 5) (.const (.int .i64 1))))) none,
    .act (some 7) (.op (.pure (.move (.tmp 6)))) none,
    .act (some 8) (.op (.pure (.fieldAddr 5 (.tmp 1)))) (some (7, false)),
    .act (some 9) (.op (.read (.load1 (.tmp 8)))) (some (7, false)),
    .act (some 10) (.op (.pure (.bin .gtr (.tmp 9) (.const (.int .i64 8))))) (some (7, false)),
    .act (some 11) (.op (.pure (.pick (.tmp 7) (.const (.bool true)) (.tmp 10)))) none,
    .act (some 12) (.op (.pure (.move (.tmp 11)))) none,
    .act (some 13) (.op (.pure (.fieldAddr 1 (.tmp 1)))) (some (12, false)),
    .act (some 14) (.op (.read (.load1 (.tmp 13)))) (some (12, false)),
    .act (some 15) (.op (.pure (.bin .lss (.tmp 14) (.const (.int .i64 0))))) (some (12, false)),
    .act (some 16) (.op (.pure (.pick (.tmp 12) (.const (.bool true)) (.tmp 15)))) none])
  (.cond (.tmp 16)
   (.steps [
     .act (some 17) (.op (.pure (.fieldAddr 5 (.tmp 1)))) none,
     .act none (.op (.eff (.store 1 (.tmp 17) (.const (.int .i64 0))))) none,
     .act (some 18) (.op (.pure (.fieldAddr 6 (.tmp 1)))) none,
     .act none (.op (.eff (.store 1 (.tmp 18) (.const (.int .i64 2))))) none])
   .skip))
  (.seq (.steps [
    .act (some 2) (.op (.pure (.move (.tmp 1)))) none])
  .ret)))) }
theorem c26 : compFn Try.prog (mkPlan Try.prog) [] false 26 = some L26 := by kernel_rfl
/-- (*sluiceway/buf.Op).none -/
def L27 : LFun := { n := 12, pop := true, res := [.tmp 2], code :=
  (.seq (.steps [
    .act (some 2) (.op (.pure (.move (.const (.bool false))))) none])
  (.seq (.steps [
    .act (some 3) (.op (.pure (.move (.tmp 0)))) none,
    .act (some 4) (.op (.pure (.eqNil .p false (.tmp 3) (.const (.pointer none))))) none,
    .act (some 5) (.op (.pure (.move (.tmp 4)))) none,
    .act (some 6) (.op (.pure (.move (.tmp 0)))) (some (5, false)),
    .act (some 7) (.op (.pure (.nilCheck (.tmp 6)))) (some (5, false)),
    .act (some 8) (.op (.pure (.fieldAddr 0 (.tmp 7)))) (some (5, false)),
    .act (some 9) (.op (.read (.load1 (.tmp 8)))) (some (5, false)),
    .act (some 10) (.op (.pure (.not (.tmp 9)))) (some (5, false)),
    .act (some 11) (.op (.pure (.pick (.tmp 5) (.const (.bool true)) (.tmp 10)))) none,
    .act (some 2) (.op (.pure (.move (.tmp 11)))) none])
  .ret)) }
theorem c27 : compFn Try.prog (mkPlan Try.prog) [] true 27 = some L27 := by kernel_rfl
/-- (*sluiceway/mem.Mem).Len -/
def L28 : LFun := { n := 10, pop := true, res := [.tmp 2], code :=
  (.seq (.steps [
    .act (some 2) (.op (.pure (.move (.const (.int .i64 0))))) none])
  (.seq (.seq (.steps [
    .act (some 3) (.op (.pure (.move (.tmp 0)))) none,
    .act (some 4) (.op (.pure (.eqNil .p false (.tmp 3) (.const (.pointer none))))) none])
  (.cond (.tmp 4)
   (.seq (.steps [
     .act (some 2) (.op (.pure (.move (.const (.int .i64 0))))) none])
   .ret)
   .skip))
  (.seq (.steps [
    .act (some 5) (.op (.pure (.move (.tmp 0)))) none,
    .act (some 6) (.op (.pure (.nilCheck (.tmp 5)))) none,
    .act (some 7) (.op (.pure (.fieldAddr 0 (.tmp 6)))) none,
    .act (some 8) (.op (.read (.load1 (.tmp 7)))) none,
    .act (some 9) (.op (.pure (.len false (.tmp 8)))) none,
    .act (some 2) (.op (.pure (.move (.tmp 9)))) none])
  .ret))) }
theorem c28 : compFn Try.prog (mkPlan Try.prog) [] true 28 = some L28 := by kernel_rfl
/-- (*sluiceway/buf.Op).each -/
def L29 : LFun := { n := 11, pop := false, res := [.tmp 4], code :=
  (.seq (.steps [
    .act (some 2) (.op (.new (.box (.tmp 0)))) none,
    .act (some 3) (.op (.new (.box (.tmp 1)))) none,
    .act (some 4) (.op (.pure (.move (.const .nilFunc)))) none])
  (.seq (.seq (.steps [
    .act (some 5) (.op (.read (.load1 (.tmp 2)))) none,
    .act (some 6) (.op (.pure (.nilCheck (.tmp 5)))) none,
    .act (some 7) (.op (.pure (.fieldAddr 2 (.tmp 6)))) none,
    .act (some 8) (.op (.read (.load1 (.tmp 7)))) none])
  (.cond (.tmp 8)
   (.seq (.steps [
     .act (some 9) (.op (.pure (.mkFunc 35 [] [(.tmp 2), (.tmp 3)]))) none,
     .act (some 4) (.op (.pure (.move (.tmp 9)))) none])
   .ret)
   .skip))
  (.seq (.steps [
    .act (some 10) (.op (.pure (.mkFunc 37 [] [(.tmp 3), (.tmp 2)]))) none,
    .act (some 4) (.op (.pure (.move (.tmp 10)))) none])
  .ret))) }
theorem c29 : compFn Try.prog (mkPlan Try.prog) [] false 29 = some L29 := by kernel_rfl
/-- slices.Clone[[]uint64,uint64] -/
def L30 : LFun := { n := 8, pop := false, res := [.tmp 2], code :=
  (.seq (.steps [
    .act (some 2) (.op (.pure (.move (.const (.slice none 0 0))))) none])
  (.seq (.seq (.steps [
    .act (some 3) (.op (.pure (.move (.tmp 0)))) none,
    .act (some 4) (.op (.pure (.eqNil .s false (.tmp 3) (.const (.slice none 0 0))))) none])
  (.cond (.tmp 4)
   (.seq (.steps [
     .act (some 2) (.op (.pure (.move (.const (.slice none 0 0))))) none])
   .ret)
   .skip))
  (.seq (.steps [
    .act (some 5) (.op (.new (.mkSlice 1 0 [] []))) none,
    .act (some 6) (.op (.pure (.move (.tmp 0)))) none,
    .act (some 7) (.op (.eff (.append 1 8 (.tmp 5) (.tmp 6)))) none,
    .act (some 2) (.op (.pure (.move (.tmp 7)))) none])
  .ret))) }
theorem c30 : compFn Try.prog (mkPlan Try.prog) [] false 30 = some L30 := by kernel_rfl
/-- (*sluiceway/mem.Mem).Count -/
def L31 : LFun := { n := 21, pop := true, res := [.tmp 4], code :=
  (.seq (.steps [
    .act (some 4) (.op (.pure (.move (.const (.int .i64 0))))) none])
  (.seq (.seq (.steps [
    .act (some 5) (.op (.pure (.move (.tmp 0)))) none,
    .act (some 6) (.call (.func 34) [(.tmp 5)]) none,
    .act (some 7) (.op (.pure (.move (.tmp 6)))) none,
    .act (some 8) (.op (.pure (.move (.tmp 1)))) (some (7, false)),
    .act (some 9) (.op (.pure (.bin .lss (.tmp 8) (.const (.int .i64 0))))) (some (7, false)),
    .act (some 10) (.op (.pure (.pick (.tmp 7) (.const (.bool true)) (.tmp 9)))) none,
    .act (some 11) (.op (.pure (.move (.tmp 10)))) none,
    .act (some 12) (.op (.pure (.move (.tmp 1)))) (some (11, false)),
    .act (some 13) (.op (.pure (.bin .geq (.tmp 12) (.const (.int .i64 6))))) (some (11, false)),
    .act (some 14) (.op (.pure (.pick (.tmp 11) (.const (.bool true)) (.tmp 13)))) none])
  (.cond (.tmp 14)
   (.seq (.steps [
     .act (some 4) (.op (.pure (.move (.const (.int .i64 0))))) none])
   .ret)
   .skip))
  (.seq (.steps [
    .act (some 15) (.op (.pure (.move (.tmp 0)))) none,
    .act (some 16) (.op (.pure (.move (.tmp 1)))) none,
    .act (some 17) (.op (.pure (.nilCheck (.tmp 15)))) none,
    .act (some 18) (.op (.pure (.fieldAddr 2 (.tmp 17)))) none,
    .act (some 19) (.op (.pure (.idxArr 6 1 (.tmp 18) (.tmp 16)))) none,
    .act (some 20) (.op (.read (.load1 (.tmp 19)))) none,
    .act (some 4) (.op (.pure (.move (.tmp 20)))) none])
  .ret))) }
theorem c31 : compFn Try.prog (mkPlan Try.prog) [] true 31 = some L31 := by kernel_rfl
/-- (*sluiceway/mem.Mem).use -/
def L32 : LFun := { n := 34, pop := true, res := [], code :=
  (.seq (.seq (.steps [
    .act (some 8) (.op (.pure (.move (.tmp 0)))) none,
    .act (some 9) (.call (.func 34) [(.tmp 8)]) none])
  (.cond (.tmp 9)
   .ret
   .skip))
  (.seq (.steps [
    .act (some 10) (.op (.pure (.move (.tmp 0)))) none,
    .act (some 11) (.op (.pure (.move (.tmp 1)))) none,
    .act (some 12) (.op (.pure (.nilCheck (.tmp 10)))) none,
    .act (some 13) (.op (.pure (.fieldAddr 2 (.tmp 12)))) none,
    .act (some 14) (.op (.pure (.idxArr 6 1 (.tmp 13) (.tmp 11)))) none,
    .act (some 15) (.op (.read (.load1 (.tmp 14)))) none,
    .act (some 16) (.op (.pure (.bin .add (.tmp 15) (.const (.int .i64 1))))) none,
    .act (some 17) (.op (.pure (.nilCheck (.tmp 10)))) none,
    .act (some 18) (.op (.pure (.fieldAddr 2 (.tmp 17)))) none,
    .act (some 19) (.op (.pure (.idxArr 6 1 (.tmp 18) (.tmp 11)))) none,
    .act none (.op (.eff (.store 1 (.tmp 19) (.tmp 16)))) none])
  (.seq (.seq (.steps [
    .act (some 20) (.op (.pure (.move (.tmp 0)))) none,
    .act (some 21) (.op (.pure (.move (.tmp 2)))) none,
    .act (some 22) (.call (.func 38) [(.tmp 20), (.tmp 21)]) none])
  (.cond (.tmp 22)
   (.seq (.steps [
     .act (some 23) (.op (.pure (.move (.tmp 0)))) none,
     .act (some 24) (.op (.pure (.move (.tmp 2)))) none,
     .act (some 25) (.call (.func 39) [(.tmp 23), (.tmp 24)]) none])
   .ret)
   .skip))
  (.steps [
    .act (some 26) (.op (.pure (.move (.tmp 3)))) none,
    .act (some 27) (.op (.pure (.move (.tmp 0)))) none,
    .act (some 28) (.op (.pure (.nilCheck (.tmp 27)))) none,
    .act (some 29) (.op (.pure (.fieldAddr 0 (.tmp 28)))) none,
    .act (some 30) (.op (.read (.load1 (.tmp 29)))) none,
    .act (some 31) (.op (.pure (.move (.tmp 2)))) none,
    .act (some 32) (.op (.pure (.idxSl 1 (.tmp 30) (.tmp 31)))) none,
    .act (some 33) (.call (.tmp 26) [(.tmp 32)]) none])))) }
theorem c32 : compFn Try.prog (mkPlan Try.prog) [] true 32 = some L32 := by kernel_rfl
/-- (*sluiceway/mem.Mem).Store$1 -/
def L33 : LFun := { n := 6, pop := true, res := [], code :=
  (.steps [
    .act (some 3) (.op (.pure (.move (.tmp 0)))) none,
    .act (some 4) (.op (.read (.load1 (.tmp 1)))) none,
    .act (some 5) (.op (.pure (.nilCheck (.tmp 3)))) none,
    .act none (.op (.eff (.store 1 (.tmp 5) (.tmp 4)))) none]) }
theorem c33 : compFn Try.prog (mkPlan Try.prog) [] true 33 = some L33 := by kernel_rfl
/-- (*sluiceway/mem.Mem).none -/
def L34 : LFun := { n := 13, pop := true, res := [.tmp 2], code :=
  (.seq (.steps [
    .act (some 2) (.op (.pure (.move (.const (.bool false))))) none])
  (.seq (.steps [
    .act (some 3) (.op (.pure (.move (.tmp 0)))) none,
    .act (some 4) (.op (.pure (.eqNil .p false (.tmp 3) (.const (.pointer none))))) none,
    .act (some 5) (.op (.pure (.move (.tmp 4)))) none,
    .act (some 6) (.op (.pure (.move (.tmp 0)))) (some (5, false)),
    .act (some 7) (.op (.pure (.nilCheck (.tmp 6)))) (some (5, false)),
    .act (some 8) (.op (.pure (.fieldAddr 0 (.tmp 7)))) (some (5, false)),
    .act (some 9) (.op (.read (.load1 (.tmp 8)))) (some (5, false)),
    .act (some 10) (.op (.pure (.len false (.tmp 9)))) (some (5, false)),
    .act (some 11) (.op (.pure (.bin .eql (.tmp 10) (.const (.int .i64 0))))) (some (5, false)),
    .act (some 12) (.op (.pure (.pick (.tmp 5) (.const (.bool true)) (.tmp 11)))) none,
    .act (some 2) (.op (.pure (.move (.tmp 12)))) none])
  .ret)) }
theorem c34 : compFn Try.prog (mkPlan Try.prog) [] true 34 = some L34 := by kernel_rfl
/-- (*sluiceway/buf.Op).each$1 -/
def L35 : LFun := { n := 21, pop := false, res := [], code :=
  (.steps [
    .act (some 4) (.op (.read (.load1 (.tmp 1)))) none,
    .act (some 5) (.op (.read (.load1 (.tmp 1)))) none,
    .act (some 6) (.op (.pure (.nilCheck (.tmp 5)))) none,
    .act (some 7) (.op (.pure (.fieldAddr 3 (.tmp 6)))) none,
    .act (some 8) (.op (.read (.load1 (.tmp 7)))) none,
    .act (some 9) (.op (.read (.load1 (.tmp 2)))) none,
    .act (some 10) (.op (.read (.load1 (.tmp 1)))) none,
    .act (some 11) (.op (.pure (.nilCheck (.tmp 10)))) none,
    .act (some 12) (.op (.pure (.fieldAddr 1 (.tmp 11)))) none,
    .act (some 13) (.op (.read (.load1 (.tmp 12)))) none,
    .act (some 14) (.op (.pure (.move (.tmp 0)))) none,
    .act (some 15) (.op (.pure (.bin .add (.tmp 13) (.tmp 14)))) none,
    .act (some 16) (.call (.func 36) [(.tmp 9), (.tmp 15)]) none,
    .act (some 17) (.op (.new (.mkSlice 1 1 [(w64 0#64)] [(0, 1, (.tmp 16))]))) none,
    .again 8 (.load1 (.tmp 7)) none,
    .again 5 (.load1 (.tmp 1)) none,
    .again 4 (.load1 (.tmp 1)) none,
    .act (some 18) (.op (.eff (.append 1 8 (.tmp 8) (.tmp 17)))) none,
    .act (some 19) (.op (.pure (.nilCheck (.tmp 4)))) none,
    .act (some 20) (.op (.pure (.fieldAddr 3 (.tmp 19)))) none,
    .again 4 (.load1 (.tmp 1)) none,
    .act none (.op (.eff (.store 1 (.tmp 20) (.tmp 18)))) none]) }
theorem c35 : compFn Try.prog (mkPlan Try.prog) [] false 35 = some L35 := by kernel_rfl
/-- (*sluiceway/mem.Mem).Load -/
def L36 : LFun := { n := 10, pop := true, res := [.load1 4], code :=
  (.seq (.steps [
    .act (some 4) (.op (.new (.alloc [(w64 0#64)]))) none])
  (.seq (.steps [
    .act (some 5) (.op (.pure (.move (.tmp 0)))) none,
    .act (some 6) (.op (.pure (.move (.tmp 1)))) none,
    .act (some 7) (.op (.pure (.mkFunc 40 [] [(.tmp 4)]))) none,
    .act (some 8) (.call (.func 32) [(.tmp 5), (.const (.int .i64 0)), (.tmp 6), (.tmp 7)]) none])
  (.seq (.steps [
    .act (some 9) (.op (.read (.load1 (.tmp 4)))) none,
    .act none (.op (.eff (.store 1 (.tmp 4) (.tmp 9)))) none])
  .ret))) }
theorem c36 : compFn Try.prog (mkPlan Try.prog) [] true 36 = some L36 := by kernel_rfl
/-- (*sluiceway/buf.Op).each$2 -/
def L37 : LFun := { n := 19, pop := true, res := [], code :=
  (.steps [
    .act (some 4) (.op (.read (.load1 (.tmp 1)))) none,
    .act (some 5) (.op (.read (.load1 (.tmp 2)))) none,
    .act (some 6) (.op (.pure (.nilCheck (.tmp 5)))) none,
    .act (some 7) (.op (.pure (.fieldAddr 1 (.tmp 6)))) none,
    .act (some 8) (.op (.read (.load1 (.tmp 7)))) none,
    .act (some 9) (.op (.pure (.move (.tmp 0)))) none,
    .act (some 10) (.op (.pure (.bin .add (.tmp 8) (.tmp 9)))) none,
    .act (some 11) (.op (.read (.load1 (.tmp 2)))) none,
    .act (some 12) (.op (.pure (.nilCheck (.tmp 11)))) none,
    .act (some 13) (.op (.pure (.fieldAddr 3 (.tmp 12)))) none,
    .act (some 14) (.op (.read (.load1 (.tmp 13)))) none,
    .act (some 15) (.op (.pure (.move (.tmp 0)))) none,
    .act (some 16) (.op (.pure (.idxSl 1 (.tmp 14) (.tmp 15)))) none,
    .act (some 17) (.op (.read (.load1 (.tmp 16)))) none,
    .act (some 18) (.call (.func 22) [(.tmp 4), (.tmp 10), (.tmp 17)]) none]) }
theorem c37 : compFn Try.prog (mkPlan Try.prog) [] true 37 = some L37 := by kernel_rfl
/-- (*sluiceway/mem.Mem).Barred -/
def L38 : LFun := { n := 22, pop := true, res := [.tmp 4], code :=
  (.seq (.steps [
    .act (some 4) (.op (.pure (.move (.const (.bool false))))) none])
  (.seq (.steps [
    .act (some 5) (.op (.pure (.move (.tmp 1)))) none,
    .act (some 6) (.op (.pure (.bin .lss (.tmp 5) (.const (.int .i64 0))))) none,
    .act (some 7) (.op (.pure (.move (.tmp 6)))) none,
    .act (some 8) (.op (.pure (.move (.tmp 1)))) (some (7, false)),
    .act (some 9) (.op (.pure (.move (.tmp 0)))) (some (7, false)),
    .act (some 10) (.call (.func 28) [(.tmp 9)]) (some (7, false)),
    .act (some 11) (.op (.pure (.bin .geq (.tmp 8) (.tmp 10)))) (some (7, false)),
    .act (some 12) (.op (.pure (.pick (.tmp 7) (.const (.bool true)) (.tmp 11)))) none,
    .act (some 13) (.op (.pure (.move (.tmp 12)))) none,
    .act (some 14) (.op (.pure (.move (.tmp 0)))) (some (13, false)),
    .act (some 15) (.op (.pure (.nilCheck (.tmp 14)))) (some (13, false)),
    .act (some 16) (.op (.pure (.fieldAddr 1 (.tmp 15)))) (some (13, false)),
    .act (some 17) (.op (.read (.load1 (.tmp 16)))) (some (13, false)),
    .act (some 18) (.op (.pure (.move (.tmp 1)))) (some (13, false)),
    .act (some 19) (.op (.pure (.idxSl 1 (.tmp 17) (.tmp 18)))) (some (13, false)),
    .act (some 20) (.op (.read (.load1 (.tmp 19)))) (some (13, false)),
    .act (some 21) (.op (.pure (.pick (.tmp 13) (.const (.bool true)) (.tmp 20)))) none,
    .act (some 4) (.op (.pure (.move (.tmp 21)))) none])
  .ret)) }
theorem c38 : compFn Try.prog (mkPlan Try.prog) [] true 38 = some L38 := by kernel_rfl
/-- (*sluiceway/mem.Mem).fall -/
def L39 : LFun := { n := 16, pop := true, res := [], code :=
  (.seq (.steps [
    .act (some 4) (.op (.pure (.move (.tmp 0)))) none,
    .act (some 5) (.op (.pure (.nilCheck (.tmp 4)))) none,
    .act (some 6) (.op (.pure (.fieldAddr 9 (.tmp 5)))) none,
    .act (some 7) (.op (.read (.load1 (.tmp 6)))) none,
    .act (some 8) (.op (.pure (.not (.tmp 7)))) none])
  (.cond (.tmp 8)
   (.steps [
     .act (some 9) (.op (.pure (.move (.tmp 0)))) none,
     .act (some 10) (.op (.pure (.move (.tmp 0)))) none,
     .act (some 11) (.op (.pure (.move (.tmp 1)))) none,
     .act (some 12) (.op (.pure (.nilCheck (.tmp 9)))) none,
     .act (some 13) (.op (.pure (.fieldAddr 8 (.tmp 12)))) none,
     .act none (.op (.eff (.store 1 (.tmp 13) (.tmp 11)))) none,
     .act (some 14) (.op (.pure (.nilCheck (.tmp 10)))) none,
     .act (some 15) (.op (.pure (.fieldAddr 9 (.tmp 14)))) none,
     .act none (.op (.eff (.store 1 (.tmp 15) (.const (.bool true))))) none])
   .skip)) }
theorem c39 : compFn Try.prog (mkPlan Try.prog) [] true 39 = some L39 := by kernel_rfl
/-- (*sluiceway/mem.Mem).Load$1 -/
def L40 : LFun := { n := 6, pop := true, res := [], code :=
  (.steps [
    .act (some 3) (.op (.pure (.move (.tmp 0)))) none,
    .act (some 4) (.op (.pure (.nilCheck (.tmp 3)))) none,
    .act (some 5) (.op (.read (.load1 (.tmp 4)))) none,
    .act none (.op (.eff (.store 1 (.tmp 1) (.tmp 5)))) none]) }
theorem c40 : compFn Try.prog (mkPlan Try.prog) [] true 40 = some L40 := by kernel_rfl
end Go.Proofs.Ytagpbakgjglnhaa
