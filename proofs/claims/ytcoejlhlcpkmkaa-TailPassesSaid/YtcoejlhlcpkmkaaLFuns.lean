import Derived.Test.YtcoejlhlcpkmkaaLP
import Derived.KernelRfl
import Derived.Test.YtcoejlhlcpkmkaaProg
namespace Go.Proofs.Ytcoejlhlcpkmkaa
open Go Go.LK Go.Proofs
set_option maxRecDepth 100000
/-- sluiceway/sluicewaylaw22.TailPacks -/
def L3 : LFun := { n := 31, pop := true, res := [.tmp 2], code :=
  (.seq (.steps [
    .act (some 1) (.op (.new (.box (.tmp 0)))) none,
    .act (some 2) (.op (.pure (.move (.const (.bool false))))) none])
  (.seq (.steps [
    .act (some 4) (.op (.read (.loadN 3 (.tmp 1)))) none,
    .act (some 5) (.call (.func 8) [(.tmp 4)]) none,
    .act (some 3) (.op (.new (.alloc [(w64 0#64), (w64 0#64), (w64 0#64)]))) none,
    .act none (.op (.eff (.store 3 (.tmp 3) (.tmp 5)))) none])
  (.seq (.steps [
    .act (some 6) (.op (.read (.loadN 3 (.tmp 1)))) none,
    .act (some 8) (.op (.read (.loadN 3 (.tmp 3)))) none,
    .act (some 7) (.call (.func 9) [(.tmp 6)]) none,
    .again 8 (.loadN 3 (.tmp 3)) none,
    .act (some 9) (.call (.func 10) [(.tmp 8)]) none,
    .act (some 10) (.op (.pure (.bin .eql (.tmp 7) (.tmp 9)))) none,
    .act (some 11) (.op (.pure (.move (.tmp 10)))) none,
    .act (some 12) (.op (.read (.loadN 3 (.tmp 1)))) (some (11, true)),
    .act (some 16) (.op (.pure (.fieldAddr 0 (.tmp 3)))) (some (11, true)),
    .act (some 17) (.op (.read (.load1 (.tmp 16)))) (some (11, true)),
    .act (some 18) (.op (.pure (.bin .rem (.tmp 17) (.const (w64 1099511627776#64))))) (some (11, true)),
    .act (some 19) (.op (.pure (.fieldAddr 1 (.tmp 3)))) (some (11, true)),
    .act (some 20) (.op (.read (.load1 (.tmp 19)))) (some (11, true)),
    .act (some 21) (.op (.pure (.bin .rem (.tmp 20) (.const (w64 65536#64))))) (some (11, true)),
    .act (some 22) (.op (.pure (.fieldAddr 2 (.tmp 3)))) (some (11, true)),
    .act (some 23) (.op (.read (.load1 (.tmp 22)))) (some (11, true)),
    .act (some 24) (.op (.pure (.bin .rem (.tmp 23) (.const (w64 256#64))))) (some (11, true)),
    .act (some 25) (.op (.pure (.build [(w64 0#64), (w64 0#64), (w64 0#64)] [(0, 1, (.tmp 18)), (1, 1, (.tmp 21)), (2, 1, (.tmp 24))]))) (some (11, true)),
    .act (some 13) (.call (.func 9) [(.tmp 12)]) (some (11, true)),
    .again 23 (.load1 (.tmp 22)) (some (11, true)),
    .again 20 (.load1 (.tmp 19)) (some (11, true)),
    .again 17 (.load1 (.tmp 16)) (some (11, true)),
    .act (some 14) (.call (.func 11) [(.tmp 13)]) (some (11, true)),
    .again 23 (.load1 (.tmp 22)) (some (11, true)),
    .again 20 (.load1 (.tmp 19)) (some (11, true)),
    .again 17 (.load1 (.tmp 16)) (some (11, true)),
    .act (some 15) (.call (.func 8) [(.tmp 14)]) (some (11, true)),
    .act (some 26) (.op (.pure (.eqAgg [false, false, false] false (.tmp 15) (.tmp 25)))) (some (11, true)),
    .act (some 27) (.op (.pure (.pick (.tmp 11) (.tmp 26) (.const (.bool false))))) none,
    .act (some 28) (.op (.pure (.move (.tmp 27)))) none,
    .again 23 (.load1 (.tmp 22)) (some (11, true)),
    .again 20 (.load1 (.tmp 19)) (some (11, true)),
    .again 17 (.load1 (.tmp 16)) (some (11, true)),
    .act (some 29) (.call (.func 12) []) (some (28, true)),
    .act (some 30) (.op (.pure (.pick (.tmp 28) (.tmp 29) (.const (.bool false))))) none,
    .act (some 2) (.op (.pure (.move (.tmp 30)))) none])
  .ret))) }
theorem c3 : compFn Try.prog (mkPlan Try.prog) [] true 3 = some L3 := by kernel_rfl
/-- sluiceway/sluicewaylaw22.TailWords -/
def L4 : LFun := { n := 75, pop := true, res := [.tmp 6], code :=
  (.seq (.steps [
    .act (some 3) (.op (.new (.box (.tmp 0)))) none,
    .act (some 6) (.op (.pure (.move (.const (.bool false))))) none])
  (.seq (.steps [
    .act (some 9) (.op (.read (.loadN 3 (.tmp 3)))) none,
    .act (some 10) (.call (.func 9) [(.tmp 9)]) none,
    .act (some 11) (.call (.func 11) [(.tmp 10)]) none,
    .act none (.op (.eff (.store 3 (.tmp 3) (.tmp 11)))) none])
  (.seq (.steps [
    .act (some 12) (.op (.read (.loadN 3 (.tmp 3)))) none,
    .act (some 13) (.call (.func 8) [(.tmp 12)]) none,
    .act (some 7) (.op (.new (.alloc [(w64 0#64), (w64 0#64), (w64 0#64)]))) none,
    .act none (.op (.eff (.store 3 (.tmp 7) (.tmp 13)))) none])
  (.seq (.steps [
    .act (some 14) (.op (.pure (.fieldAddr 0 (.tmp 7)))) none,
    .act (some 15) (.op (.read (.load1 (.tmp 14)))) none,
    .act (some 16) (.op (.pure (.bin .add (.tmp 15) (.const (w64 1#64))))) none,
    .act (some 17) (.op (.pure (.bin .rem (.tmp 16) (.const (w64 1099511627776#64))))) none,
    .act (some 18) (.op (.pure (.fieldAddr 1 (.tmp 7)))) none,
    .act (some 19) (.op (.read (.load1 (.tmp 18)))) none,
    .act (some 20) (.op (.pure (.fieldAddr 2 (.tmp 7)))) none,
    .act (some 21) (.op (.read (.load1 (.tmp 20)))) none,
    .act (some 22) (.op (.pure (.build [(w64 0#64), (w64 0#64), (w64 0#64)] [(0, 1, (.tmp 17)), (1, 1, (.tmp 19)), (2, 1, (.tmp 21))]))) none,
    .act (some 8) (.op (.new (.alloc [(w64 0#64), (w64 0#64), (w64 0#64)]))) none,
    .act none (.op (.eff (.store 3 (.tmp 8) (.tmp 22)))) none])
  (.seq (.steps [
    .act (some 23) (.op (.read (.loadN 3 (.tmp 3)))) none,
    .act (some 25) (.op (.read (.loadN 3 (.tmp 7)))) none,
    .act (some 24) (.call (.func 9) [(.tmp 23)]) none,
    .again 25 (.loadN 3 (.tmp 7)) none,
    .act (some 26) (.call (.func 10) [(.tmp 25)]) none,
    .act (some 27) (.op (.pure (.bin .eql (.tmp 24) (.tmp 26)))) none,
    .act (some 28) (.op (.pure (.move (.tmp 27)))) none,
    .act (some 29) (.op (.pure (.move (.tmp 1)))) (some (28, true)),
    .act (some 32) (.op (.pure (.move (.tmp 1)))) (some (28, true)),
    .act (some 30) (.call (.func 11) [(.tmp 29)]) (some (28, true)),
    .act (some 31) (.call (.func 8) [(.tmp 30)]) (some (28, true)),
    .act (some 33) (.call (.func 13) [(.tmp 32)]) (some (28, true)),
    .act (some 34) (.op (.pure (.eqAgg [false, false, false] false (.tmp 31) (.tmp 33)))) (some (28, true)),
    .act (some 35) (.op (.pure (.pick (.tmp 28) (.tmp 34) (.const (.bool false))))) none,
    .act (some 36) (.op (.pure (.move (.tmp 35)))) none,
    .act (some 37) (.op (.read (.loadN 3 (.tmp 3)))) (some (36, true)),
    .act (some 38) (.op (.pure (.move (.tmp 2)))) (some (36, true)),
    .act (some 40) (.op (.read (.loadN 3 (.tmp 7)))) (some (36, true)),
    .act (some 41) (.op (.pure (.move (.tmp 2)))) (some (36, true)),
    .act (some 39) (.call (.func 14) [(.tmp 37), (.tmp 38)]) (some (36, true)),
    .again 40 (.loadN 3 (.tmp 7)) (some (36, true)),
    .act (some 42) (.call (.func 15) [(.tmp 40), (.tmp 41)]) (some (36, true)),
    .act (some 43) (.op (.pure (.eqB false (.tmp 39) (.tmp 42)))) (some (36, true)),
    .act (some 44) (.op (.pure (.pick (.tmp 36) (.tmp 43) (.const (.bool false))))) none,
    .act (some 45) (.op (.pure (.move (.tmp 44)))) none,
    .act (some 46) (.op (.read (.loadN 3 (.tmp 3)))) (some (45, true)),
    .act (some 47) (.op (.pure (.move (.tmp 2)))) (some (45, true)),
    .act (some 50) (.op (.read (.loadN 3 (.tmp 7)))) (some (45, true)),
    .act (some 51) (.op (.pure (.move (.tmp 2)))) (some (45, true)),
    .act (some 48) (.call (.func 16) [(.tmp 46), (.tmp 47)]) (some (45, true)),
    .again 50 (.loadN 3 (.tmp 7)) (some (45, true)),
    .act (some 49) (.call (.func 8) [(.tmp 48)]) (some (45, true)),
    .again 50 (.loadN 3 (.tmp 7)) (some (45, true)),
    .act (some 52) (.call (.func 17) [(.tmp 50), (.tmp 51), (.const (.bool true))]) (some (45, true)),
    .act (some 53) (.op (.pure (.eqAgg [false, false, false] false (.tmp 49) (.tmp 52)))) (some (45, true)),
    .act (some 54) (.op (.pure (.pick (.tmp 45) (.tmp 53) (.const (.bool false))))) none,
    .act (some 55) (.op (.pure (.move (.tmp 54)))) none,
    .act (some 56) (.op (.read (.loadN 3 (.tmp 3)))) (some (55, true)),
    .act (some 57) (.op (.pure (.move (.tmp 2)))) (some (55, true)),
    .act (some 60) (.op (.read (.loadN 3 (.tmp 7)))) (some (55, true)),
    .act (some 61) (.op (.pure (.move (.tmp 2)))) (some (55, true)),
    .act (some 58) (.call (.func 18) [(.tmp 56), (.tmp 57)]) (some (55, true)),
    .again 60 (.loadN 3 (.tmp 7)) (some (55, true)),
    .act (some 59) (.call (.func 8) [(.tmp 58)]) (some (55, true)),
    .again 60 (.loadN 3 (.tmp 7)) (some (55, true)),
    .act (some 62) (.call (.func 17) [(.tmp 60), (.tmp 61), (.const (.bool false))]) (some (55, true)),
    .act (some 63) (.op (.pure (.eqAgg [false, false, false] false (.tmp 59) (.tmp 62)))) (some (55, true)),
    .act (some 64) (.op (.pure (.pick (.tmp 55) (.tmp 63) (.const (.bool false))))) none,
    .act (some 65) (.op (.pure (.move (.tmp 64)))) none,
    .act (some 66) (.op (.read (.loadN 3 (.tmp 3)))) (some (65, true)),
    .act (some 69) (.op (.read (.loadN 3 (.tmp 8)))) (some (65, true)),
    .act (some 67) (.call (.func 19) [(.tmp 66)]) (some (65, true)),
    .again 69 (.loadN 3 (.tmp 8)) (some (65, true)),
    .act (some 68) (.call (.func 8) [(.tmp 67)]) (some (65, true)),
    .act (some 70) (.op (.pure (.eqAgg [false, false, false] false (.tmp 68) (.tmp 69)))) (some (65, true)),
    .act (some 71) (.op (.pure (.pick (.tmp 65) (.tmp 70) (.const (.bool false))))) none,
    .act (some 72) (.op (.pure (.move (.tmp 71)))) none,
    .again 69 (.loadN 3 (.tmp 8)) (some (65, true)),
    .act (some 73) (.call (.func 12) []) (some (72, true)),
    .act (some 74) (.op (.pure (.pick (.tmp 72) (.tmp 73) (.const (.bool false))))) none,
    .act (some 6) (.op (.pure (.move (.tmp 74)))) none])
  .ret))))) }
theorem c4 : compFn Try.prog (mkPlan Try.prog) [] true 4 = some L4 := by kernel_rfl
/-- sluiceway/sluicewaylaw22.TailTurns -/
def L5 : LFun := { n := 118, pop := true, res := [.tmp 6], code :=
  (.seq (.steps [
    .act (some 3) (.op (.new (.box (.tmp 0)))) none,
    .act (some 6) (.op (.pure (.move (.const (.bool false))))) none])
  (.seq (.steps [
    .act (some 10) (.op (.read (.loadN 3 (.tmp 3)))) none,
    .act (some 11) (.call (.func 9) [(.tmp 10)]) none,
    .act (some 12) (.call (.func 11) [(.tmp 11)]) none,
    .act none (.op (.eff (.store 3 (.tmp 3) (.tmp 12)))) none])
  (.seq (.steps [
    .act (some 13) (.op (.pure (.move (.tmp 1)))) none,
    .act (some 14) (.op (.pure (.bin .and (.tmp 13) (.const (.int .i64 7))))) none,
    .act (some 15) (.op (.pure (.move (.tmp 2)))) none,
    .act (some 16) (.op (.pure (.bin .and (.tmp 15) (.const (.int .i64 7))))) none,
    .act (some 1) (.op (.pure (.move (.tmp 14)))) none,
    .act (some 2) (.op (.pure (.move (.tmp 16)))) none])
  (.seq (.steps [
    .act (some 17) (.op (.read (.loadN 3 (.tmp 3)))) none,
    .act (some 18) (.op (.pure (.move (.tmp 1)))) none,
    .act (some 19) (.call (.func 16) [(.tmp 17), (.tmp 18)]) none,
    .act (some 7) (.op (.new (.alloc [(w64 0#64), (w64 0#64), (w64 0#64)]))) none,
    .act none (.op (.eff (.store 3 (.tmp 7) (.tmp 19)))) none])
  (.seq (.steps [
    .act (some 20) (.op (.read (.loadN 3 (.tmp 7)))) none,
    .act (some 21) (.op (.pure (.move (.tmp 1)))) none,
    .act (some 22) (.call (.func 18) [(.tmp 20), (.tmp 21)]) none,
    .act (some 8) (.op (.new (.alloc [(w64 0#64), (w64 0#64), (w64 0#64)]))) none,
    .act none (.op (.eff (.store 3 (.tmp 8) (.tmp 22)))) none])
  (.seq (.seq (.steps [
    .act (some 23) (.op (.read (.loadN 3 (.tmp 7)))) none,
    .act (some 24) (.op (.pure (.move (.tmp 1)))) none,
    .act (some 25) (.call (.func 14) [(.tmp 23), (.tmp 24)]) none,
    .act (some 26) (.op (.pure (.not (.tmp 25)))) none,
    .act (some 27) (.op (.pure (.move (.tmp 26)))) none,
    .act (some 28) (.op (.read (.loadN 3 (.tmp 8)))) (some (27, false)),
    .act (some 29) (.op (.pure (.move (.tmp 1)))) (some (27, false)),
    .act (some 30) (.call (.func 14) [(.tmp 28), (.tmp 29)]) (some (27, false)),
    .act (some 31) (.op (.pure (.pick (.tmp 27) (.const (.bool true)) (.tmp 30)))) none,
    .act (some 32) (.op (.pure (.move (.tmp 31)))) none,
    .act (some 33) (.op (.pure (.fieldAddr 0 (.tmp 7)))) (some (32, false)),
    .act (some 34) (.op (.read (.load1 (.tmp 33)))) (some (32, false)),
    .act (some 35) (.op (.pure (.fieldAddr 0 (.tmp 3)))) (some (32, false)),
    .act (some 36) (.op (.read (.load1 (.tmp 35)))) (some (32, false)),
    .act (some 37) (.op (.pure (.bin .neq (.tmp 34) (.tmp 36)))) (some (32, false)),
    .act (some 38) (.op (.pure (.pick (.tmp 32) (.const (.bool true)) (.tmp 37)))) none,
    .act (some 39) (.op (.pure (.move (.tmp 38)))) none,
    .act (some 40) (.op (.pure (.fieldAddr 0 (.tmp 8)))) (some (39, false)),
    .act (some 41) (.op (.read (.load1 (.tmp 40)))) (some (39, false)),
    .act (some 42) (.op (.pure (.fieldAddr 0 (.tmp 3)))) (some (39, false)),
    .act (some 43) (.op (.read (.load1 (.tmp 42)))) (some (39, false)),
    .act (some 44) (.op (.pure (.bin .neq (.tmp 41) (.tmp 43)))) (some (39, false)),
    .act (some 45) (.op (.pure (.pick (.tmp 39) (.const (.bool true)) (.tmp 44)))) none,
    .act (some 46) (.op (.pure (.move (.tmp 45)))) none,
    .act (some 47) (.op (.pure (.fieldAddr 1 (.tmp 8)))) (some (46, false)),
    .act (some 48) (.op (.read (.load1 (.tmp 47)))) (some (46, false)),
    .act (some 49) (.op (.pure (.fieldAddr 1 (.tmp 3)))) (some (46, false)),
    .act (some 50) (.op (.read (.load1 (.tmp 49)))) (some (46, false)),
    .act (some 51) (.op (.pure (.bin .sub (.tmp 48) (.tmp 50)))) (some (46, false)),
    .act (some 52) (.op (.pure (.bin .and (.tmp 51) (.const (w64 65535#64))))) (some (46, false)),
    .act (some 53) (.op (.pure (.bin .neq (.tmp 52) (.const (w64 2#64))))) (some (46, false)),
    .act (some 54) (.op (.pure (.pick (.tmp 46) (.const (.bool true)) (.tmp 53)))) none,
    .act (some 55) (.op (.pure (.move (.tmp 54)))) none,
    .act (some 56) (.op (.pure (.move (.tmp 2)))) (some (55, false)),
    .act (some 57) (.op (.pure (.move (.tmp 1)))) (some (55, false)),
    .act (some 58) (.op (.pure (.bin .neq (.tmp 56) (.tmp 57)))) (some (55, false)),
    .act (some 59) (.op (.pure (.move (.tmp 58)))) (some (55, false)),
    .act (some 60) (.op (.read (.loadN 3 (.tmp 7)))) (some (59, true)),
    .act (some 61) (.op (.pure (.move (.tmp 2)))) (some (59, true)),
    .act (some 63) (.op (.read (.loadN 3 (.tmp 3)))) (some (59, true)),
    .act (some 64) (.op (.pure (.move (.tmp 2)))) (some (59, true)),
    .act (some 62) (.call (.func 14) [(.tmp 60), (.tmp 61)]) (some (59, true)),
    .again 63 (.loadN 3 (.tmp 3)) (some (59, true)),
    .act (some 65) (.call (.func 14) [(.tmp 63), (.tmp 64)]) (some (59, true)),
    .act (some 66) (.op (.pure (.eqB true (.tmp 62) (.tmp 65)))) (some (59, true)),
    .act (some 67) (.op (.pure (.move (.tmp 66)))) (some (59, true)),
    .act (some 68) (.op (.read (.loadN 3 (.tmp 8)))) (some (67, false)),
    .act (some 69) (.op (.pure (.move (.tmp 2)))) (some (67, false)),
    .act (some 71) (.op (.read (.loadN 3 (.tmp 3)))) (some (67, false)),
    .act (some 72) (.op (.pure (.move (.tmp 2)))) (some (67, false)),
    .act (some 70) (.call (.func 14) [(.tmp 68), (.tmp 69)]) (some (67, false)),
    .again 71 (.loadN 3 (.tmp 3)) (some (67, false)),
    .act (some 73) (.call (.func 14) [(.tmp 71), (.tmp 72)]) (some (67, false)),
    .act (some 74) (.op (.pure (.eqB true (.tmp 70) (.tmp 73)))) (some (67, false)),
    .act (some 75) (.op (.pure (.pick (.tmp 67) (.const (.bool true)) (.tmp 74)))) (some (59, true)),
    .act (some 76) (.op (.pure (.pick (.tmp 59) (.tmp 75) (.const (.bool false))))) (some (55, false)),
    .act (some 77) (.op (.pure (.pick (.tmp 55) (.const (.bool true)) (.tmp 76)))) none])
  (.cond (.tmp 77)
   (.seq (.steps [
     .act (some 6) (.op (.pure (.move (.const (.bool false))))) none])
   .ret)
   .skip))
  (.seq (.steps [
    .act (some 78) (.op (.read (.loadN 3 (.tmp 3)))) none,
    .act (some 79) (.call (.func 19) [(.tmp 78)]) none,
    .act (some 9) (.op (.new (.alloc [(w64 0#64), (w64 0#64), (w64 0#64)]))) none,
    .act none (.op (.eff (.store 3 (.tmp 9) (.tmp 79)))) none])
  (.seq (.steps [
    .act (some 80) (.op (.pure (.fieldAddr 2 (.tmp 9)))) none,
    .act (some 81) (.op (.read (.load1 (.tmp 80)))) none,
    .act (some 82) (.op (.pure (.fieldAddr 2 (.tmp 3)))) none,
    .act (some 83) (.op (.read (.load1 (.tmp 82)))) none,
    .act (some 84) (.op (.pure (.bin .eql (.tmp 81) (.tmp 83)))) none,
    .act (some 85) (.op (.pure (.move (.tmp 84)))) none,
    .act (some 86) (.op (.pure (.fieldAddr 1 (.tmp 9)))) (some (85, true)),
    .act (some 87) (.op (.read (.load1 (.tmp 86)))) (some (85, true)),
    .act (some 88) (.op (.pure (.fieldAddr 1 (.tmp 3)))) (some (85, true)),
    .act (some 89) (.op (.read (.load1 (.tmp 88)))) (some (85, true)),
    .act (some 90) (.op (.pure (.bin .eql (.tmp 87) (.tmp 89)))) (some (85, true)),
    .act (some 91) (.op (.pure (.pick (.tmp 85) (.tmp 90) (.const (.bool false))))) none,
    .act (some 92) (.op (.pure (.move (.tmp 91)))) none,
    .act (some 93) (.op (.pure (.fieldAddr 0 (.tmp 9)))) (some (92, true)),
    .act (some 94) (.op (.read (.load1 (.tmp 93)))) (some (92, true)),
    .act (some 95) (.op (.pure (.fieldAddr 0 (.tmp 3)))) (some (92, true)),
    .act (some 96) (.op (.read (.load1 (.tmp 95)))) (some (92, true)),
    .act (some 97) (.op (.pure (.bin .sub (.tmp 94) (.tmp 96)))) (some (92, true)),
    .act (some 98) (.op (.pure (.bin .and (.tmp 97) (.const (w64 1099511627775#64))))) (some (92, true)),
    .act (some 99) (.op (.pure (.bin .eql (.tmp 98) (.const (w64 1#64))))) (some (92, true)),
    .act (some 100) (.op (.pure (.pick (.tmp 92) (.tmp 99) (.const (.bool false))))) none,
    .act (some 101) (.op (.pure (.move (.tmp 100)))) none,
    .act (some 102) (.op (.read (.loadN 3 (.tmp 7)))) (some (101, true)),
    .act (some 105) (.op (.read (.loadN 3 (.tmp 7)))) (some (101, true)),
    .act (some 103) (.call (.func 9) [(.tmp 102)]) (some (101, true)),
    .again 105 (.loadN 3 (.tmp 7)) (some (101, true)),
    .act (some 104) (.call (.func 11) [(.tmp 103)]) (some (101, true)),
    .act (some 106) (.op (.pure (.eqAgg [false, false, false] false (.tmp 104) (.tmp 105)))) (some (101, true)),
    .act (some 107) (.op (.pure (.pick (.tmp 101) (.tmp 106) (.const (.bool false))))) none,
    .act (some 108) (.op (.pure (.move (.tmp 107)))) none,
    .act (some 109) (.op (.read (.loadN 3 (.tmp 9)))) (some (108, true)),
    .act (some 112) (.op (.read (.loadN 3 (.tmp 9)))) (some (108, true)),
    .again 105 (.loadN 3 (.tmp 7)) (some (101, true)),
    .act (some 110) (.call (.func 9) [(.tmp 109)]) (some (108, true)),
    .again 112 (.loadN 3 (.tmp 9)) (some (108, true)),
    .act (some 111) (.call (.func 11) [(.tmp 110)]) (some (108, true)),
    .act (some 113) (.op (.pure (.eqAgg [false, false, false] false (.tmp 111) (.tmp 112)))) (some (108, true)),
    .act (some 114) (.op (.pure (.pick (.tmp 108) (.tmp 113) (.const (.bool false))))) none,
    .act (some 115) (.op (.pure (.move (.tmp 114)))) none,
    .again 112 (.loadN 3 (.tmp 9)) (some (108, true)),
    .act (some 116) (.call (.func 12) []) (some (115, true)),
    .act (some 117) (.op (.pure (.pick (.tmp 115) (.tmp 116) (.const (.bool false))))) none,
    .act (some 6) (.op (.pure (.move (.tmp 117)))) none])
  .ret)))))))) }
theorem c5 : compFn Try.prog (mkPlan Try.prog) [] true 5 = some L5 := by kernel_rfl
/-- sluiceway/sluicewaylaw22.TailNobody -/
def L6 : LFun := { n := 91, pop := true, res := [.tmp 4], code :=
  (.seq (.steps [
    .act (some 2) (.op (.new (.box (.tmp 0)))) none,
    .act (some 4) (.op (.pure (.move (.const (.bool false))))) none])
  (.seq (.steps [
    .act (some 17) (.call (.func 20) [(.const (.int .i64 2))]) none,
    .act (some 16) (.op (.pure (.move (.tmp 17)))) none,
    .act (some 18) (.op (.pure (.extract (.tmp 16) 0))) none,
    .act (some 19) (.op (.pure (.extract (.tmp 16) 1))) none,
    .act (some 5) (.op (.pure (.move (.tmp 18)))) none,
    .act (some 6) (.op (.pure (.move (.tmp 19)))) none])
  (.seq (.steps [
    .act (some 7) (.op (.pure (.move (.const (.pointer none))))) none])
  (.seq (.steps [
    .act (some 21) (.op (.pure (.move (.tmp 7)))) none,
    .act (some 22) (.call (.func 21) [(.tmp 21)]) none,
    .act (some 20) (.op (.pure (.move (.tmp 22)))) none,
    .act (some 23) (.op (.pure (.extract (.tmp 20) 0))) none,
    .act (some 24) (.op (.pure (.extract (.tmp 20) 1))) none,
    .act (some 8) (.op (.pure (.move (.tmp 23)))) none,
    .act (some 9) (.op (.pure (.move (.tmp 24)))) none])
  (.seq (.steps [
    .act (some 26) (.op (.pure (.build [(.bool false), (.int .i64 0), (w64 0#64), (w64 0#64), (w64 0#64), (w64 0#64), (.int .i64 0), (.int .i64 0), (.int .i64 0), (.bool false)] []))) none,
    .act (some 27) (.op (.new (.box (.tmp 26)))) none,
    .act (some 28) (.call (.func 21) [(.tmp 27)]) none,
    .act (some 25) (.op (.pure (.move (.tmp 28)))) none,
    .act (some 29) (.op (.pure (.extract (.tmp 25) 0))) none,
    .act (some 30) (.op (.pure (.extract (.tmp 25) 1))) none,
    .act (some 10) (.op (.pure (.move (.tmp 29)))) none,
    .act (some 11) (.op (.pure (.move (.tmp 30)))) none])
  (.seq (.steps [
    .act (some 31) (.op (.pure (.move (.tmp 1)))) none,
    .act (some 32) (.op (.read (.loadN 3 (.tmp 2)))) none,
    .act (some 33) (.call (.func 22) [(.const (.int .i64 0)), (.tmp 31), (.tmp 32)]) none,
    .act (some 12) (.op (.pure (.move (.tmp 33)))) none])
  (.seq (.steps [
    .act (some 35) (.op (.pure (.move (.tmp 12)))) none,
    .act (some 36) (.call (.func 21) [(.tmp 35)]) none,
    .act (some 34) (.op (.pure (.move (.tmp 36)))) none,
    .act (some 37) (.op (.pure (.extract (.tmp 34) 0))) none,
    .act (some 38) (.op (.pure (.extract (.tmp 34) 1))) none,
    .act (some 13) (.op (.pure (.move (.tmp 37)))) none,
    .act (some 14) (.op (.pure (.move (.tmp 38)))) none])
  (.seq (.steps [
    .act (some 39) (.op (.read (.loadN 3 (.tmp 2)))) none,
    .act (some 40) (.call (.func 8) [(.tmp 39)]) none,
    .act (some 41) (.op (.pure (.move (.tmp 1)))) none,
    .act (some 42) (.call (.func 15) [(.tmp 40), (.tmp 41)]) none,
    .act (some 15) (.op (.pure (.move (.tmp 42)))) none])
  (.seq (.steps [
    .act (some 43) (.op (.pure (.move (.tmp 6)))) none,
    .act (some 44) (.op (.pure (.bin .eql (.tmp 43) (.const (.int .i64 0))))) none,
    .act (some 45) (.op (.pure (.move (.tmp 44)))) none,
    .act (some 46) (.op (.pure (.move (.tmp 8)))) (some (45, true)),
    .act (some 47) (.op (.pure (.bin .eql (.tmp 46) (.const (.int .i64 1))))) (some (45, true)),
    .act (some 48) (.op (.pure (.pick (.tmp 45) (.tmp 47) (.const (.bool false))))) none,
    .act (some 49) (.op (.pure (.move (.tmp 48)))) none,
    .act (some 50) (.op (.pure (.move (.tmp 10)))) (some (49, true)),
    .act (some 51) (.op (.pure (.bin .eql (.tmp 50) (.const (.int .i64 1))))) (some (49, true)),
    .act (some 52) (.op (.pure (.pick (.tmp 49) (.tmp 51) (.const (.bool false))))) none,
    .act (some 53) (.op (.pure (.move (.tmp 52)))) none,
    .act (some 54) (.op (.pure (.move (.tmp 9)))) (some (53, true)),
    .act (some 55) (.op (.pure (.not (.tmp 54)))) (some (53, true)),
    .act (some 56) (.op (.pure (.pick (.tmp 53) (.tmp 55) (.const (.bool false))))) none,
    .act (some 57) (.op (.pure (.move (.tmp 56)))) none,
    .act (some 58) (.op (.pure (.move (.tmp 7)))) (some (57, true)),
    .act (some 59) (.call (.func 23) [(.tmp 58)]) (some (57, true)),
    .act (some 60) (.op (.pure (.pick (.tmp 57) (.tmp 59) (.const (.bool false))))) none,
    .act (some 61) (.op (.pure (.move (.tmp 60)))) none,
    .act (some 62) (.op (.pure (.move (.tmp 7)))) (some (61, true)),
    .act (some 63) (.op (.pure (.move (.tmp 5)))) (some (61, true)),
    .act (some 64) (.call (.func 24) [(.tmp 62), (.tmp 63)]) (some (61, true)),
    .act (some 65) (.op (.pure (.pick (.tmp 61) (.tmp 64) (.const (.bool false))))) none,
    .act (some 66) (.op (.pure (.move (.tmp 65)))) none,
    .act (some 67) (.op (.pure (.move (.tmp 12)))) (some (66, true)),
    .act (some 68) (.call (.func 23) [(.tmp 67)]) (some (66, true)),
    .act (some 69) (.op (.pure (.move (.tmp 15)))) (some (66, true)),
    .act (some 70) (.op (.pure (.eqB true (.tmp 68) (.tmp 69)))) (some (66, true)),
    .act (some 71) (.op (.pure (.pick (.tmp 66) (.tmp 70) (.const (.bool false))))) none,
    .act (some 72) (.op (.pure (.move (.tmp 71)))) none,
    .act (some 73) (.op (.pure (.move (.tmp 13)))) (some (72, true)),
    .act (some 74) (.op (.pure (.bin .eql (.tmp 73) (.const (.int .i64 2))))) (some (72, true)),
    .act (some 75) (.op (.pure (.move (.tmp 15)))) (some (72, true)),
    .act (some 76) (.op (.pure (.eqB true (.tmp 74) (.tmp 75)))) (some (72, true)),
    .act (some 77) (.op (.pure (.pick (.tmp 72) (.tmp 76) (.const (.bool false))))) none,
    .act (some 78) (.op (.pure (.move (.tmp 77)))) none,
    .act (some 79) (.call (.func 25) [(.const (.int .i64 0)), (.const (w64 5#64))]) (some (78, true)),
    .act (some 80) (.call (.func 24) [(.tmp 79), (.const (.pointer none))]) (some (78, true)),
    .act (some 81) (.op (.pure (.not (.tmp 80)))) (some (78, true)),
    .act (some 82) (.op (.pure (.pick (.tmp 78) (.tmp 81) (.const (.bool false))))) none,
    .act (some 83) (.op (.pure (.move (.tmp 82)))) none,
    .act (some 84) (.op (.pure (.move (.tmp 5)))) (some (83, true)),
    .act (some 85) (.call (.func 26) [(.tmp 84)]) (some (83, true)),
    .act (some 86) (.op (.pure (.bin .eql (.tmp 85) (.const (.int .i64 0))))) (some (83, true)),
    .act (some 87) (.op (.pure (.pick (.tmp 83) (.tmp 86) (.const (.bool false))))) none,
    .act (some 88) (.op (.pure (.move (.tmp 87)))) none,
    .act (some 89) (.call (.func 12) []) (some (88, true)),
    .act (some 90) (.op (.pure (.pick (.tmp 88) (.tmp 89) (.const (.bool false))))) none,
    .act (some 4) (.op (.pure (.move (.tmp 90)))) none])
  .ret))))))))) }
theorem c6 : compFn Try.prog (mkPlan Try.prog) [] true 6 = some L6 := by kernel_rfl
/-- sluiceway/sluicewaylaw22.TailPasses -/
def L7 : LFun := { n := 256, pop := true, res := [.tmp 6], code :=
  (.seq (.steps [
    .act (some 3) (.op (.new (.box (.tmp 0)))) none,
    .act (some 6) (.op (.pure (.move (.const (.bool false))))) none])
  (.seq (.steps [
    .act (some 27) (.call (.func 20) [(.const (.int .i64 1))]) none,
    .act (some 26) (.op (.pure (.move (.tmp 27)))) none,
    .act (some 28) (.op (.pure (.extract (.tmp 26) 0))) none,
    .act (some 29) (.op (.pure (.extract (.tmp 26) 1))) none,
    .act (some 7) (.op (.pure (.move (.tmp 28)))) none,
    .act (some 8) (.op (.pure (.move (.tmp 29)))) none])
  (.seq (.seq (.steps [
    .act (some 30) (.op (.pure (.move (.tmp 8)))) none,
    .act (some 31) (.op (.pure (.bin .neq (.tmp 30) (.const (.int .i64 0))))) none])
  (.cond (.tmp 31)
   (.seq (.steps [
     .act (some 6) (.op (.pure (.move (.const (.bool false))))) none])
   .ret)
   .skip))
  (.seq (.steps [
    .act (some 32) (.op (.pure (.fieldAddr 0 (.tmp 3)))) none,
    .act (some 33) (.op (.read (.load1 (.tmp 32)))) none,
    .act (some 34) (.op (.pure (.bin .and (.tmp 33) (.const (w64 16777215#64))))) none,
    .act (some 35) (.op (.pure (.fieldAddr 0 (.tmp 3)))) none,
    .act none (.op (.eff (.store 1 (.tmp 35) (.tmp 34)))) none])
  (.seq (.steps [
    .act (some 36) (.op (.pure (.move (.tmp 7)))) none,
    .act (some 37) (.op (.read (.loadN 3 (.tmp 3)))) none,
    .act (some 38) (.call (.func 9) [(.tmp 37)]) none,
    .act (some 39) (.call (.func 27) [(.tmp 36), (.const (.int .i64 0)), (.tmp 38)]) none])
  (.seq (.steps [
    .act (some 40) (.op (.read (.loadN 3 (.tmp 3)))) none,
    .act (some 41) (.call (.func 9) [(.tmp 40)]) none,
    .act (some 42) (.call (.func 11) [(.tmp 41)]) none,
    .act none (.op (.eff (.store 3 (.tmp 3) (.tmp 42)))) none])
  (.seq (.steps [
    .act (some 9) (.op (.new (.alloc [(.pointer none), (.pointer none), (.pointer none), (.pointer none)]))) none])
  (.seq (.steps [
    .act (some 10) (.op (.new (.alloc [(w64 0#64), (w64 0#64), (w64 0#64), (w64 0#64)]))) none,
    .act (some 11) (.op (.new (.alloc [(w64 0#64), (w64 0#64), (w64 0#64), (w64 0#64)]))) none])
  (.seq (.steps [
    .act (some 12) (.op (.new (.alloc [(.bool false), (.bool false), (.bool false), (.bool false)]))) none])
  (.seq (.steps [
    .act (some 43) (.op (.new (.makeMap))) none,
    .act (some 13) (.op (.pure (.move (.tmp 43)))) none])
  (.seq (.steps [
    .act (some 14) (.op (.pure (.move (.const (.int .i64 0))))) none])
  (.seq (.seq (.steps [
    .act (some 15) (.op (.pure (.move (.const (.int .i64 0))))) none])
  (.block 0 (.loop [1, 2, 3, 7, 9, 10, 11, 12, 13, 14, 15] (.seq (.seq (.steps [
      .act (some 44) (.op (.pure (.move (.tmp 15)))) none,
      .act (some 45) (.op (.pure (.move (.tmp 2)))) none,
      .act (some 46) (.op (.pure (.len false (.tmp 45)))) none,
      .act (some 47) (.op (.pure (.bin .lss (.tmp 44) (.tmp 46)))) none,
      .act (some 48) (.op (.pure (.move (.tmp 47)))) none,
      .act (some 49) (.op (.pure (.move (.tmp 15)))) (some (48, true)),
      .act (some 50) (.op (.pure (.bin .lss (.tmp 49) (.const (.int .i64 200))))) (some (48, true)),
      .act (some 51) (.op (.pure (.pick (.tmp 48) (.tmp 50) (.const (.bool false))))) none])
    (.cond (.tmp 51)
     .skip
     (.exit 0)))
    (.seq (.block 1 (.seq (.steps [
       .act (some 54) (.op (.pure (.move (.tmp 2)))) none,
       .act (some 55) (.op (.pure (.move (.tmp 15)))) none,
       .act (some 56) (.op (.pure (.idxSl 1 (.tmp 54) (.tmp 55)))) none,
       .act (some 57) (.op (.read (.load1 (.tmp 56)))) none,
       .act (some 58) (.op (.pure (.bin .and (.tmp 57) (.const (.int .i64 3))))) none,
       .act (some 16) (.op (.pure (.move (.tmp 58)))) none])
     (.seq (.steps [
       .act (some 59) (.op (.pure (.move (.tmp 7)))) none,
       .act (some 60) (.call (.func 28) [(.tmp 59), (.const (.int .i64 0)), (.const (.int .i64 1))]) none,
       .act (some 17) (.op (.pure (.move (.tmp 60)))) none])
     (.seq (.seq (.steps [
       .act (some 61) (.op (.pure (.move (.tmp 17)))) none,
       .act (some 62) (.op (.pure (.len false (.tmp 61)))) none,
       .act (some 63) (.op (.pure (.bin .neq (.tmp 62) (.const (.int .i64 1))))) none])
     (.cond (.tmp 63)
      (.seq (.steps [
        .act (some 6) (.op (.pure (.move (.const (.bool false))))) none])
      .ret)
      .skip))
     (.seq (.steps [
       .act (some 64) (.op (.pure (.move (.tmp 17)))) none,
       .act (some 65) (.op (.pure (.idxSl 1 (.tmp 64) (.const (.int .i64 0))))) none,
       .act (some 66) (.op (.read (.load1 (.tmp 65)))) none,
       .act (some 67) (.call (.func 11) [(.tmp 66)]) none,
       .act (some 18) (.op (.new (.alloc [(w64 0#64), (w64 0#64), (w64 0#64)]))) none,
       .act none (.op (.eff (.store 3 (.tmp 18) (.tmp 67)))) none])
     (.seq (.seq (.steps [
       .act (some 68) (.op (.pure (.move (.tmp 16)))) none,
       .act (some 69) (.op (.pure (.idxArr 4 1 (.tmp 9) (.tmp 68)))) none,
       .act (some 70) (.op (.read (.load1 (.tmp 69)))) none,
       .act (some 71) (.op (.pure (.eqNil .p false (.tmp 70) (.const (.pointer none))))) none])
     (.cond (.tmp 71)
      (.seq (.seq (.steps [
        .act (some 72) (.op (.pure (.move (.tmp 14)))) none,
        .act (some 73) (.op (.pure (.move (.tmp 1)))) none,
        .act (some 74) (.op (.pure (.len false (.tmp 73)))) none,
        .act (some 75) (.op (.pure (.bin .geq (.tmp 72) (.tmp 74)))) none])
      (.cond (.tmp 75)
       (.exit 1)
       .skip))
      (.seq (.steps [
        .act (some 76) (.op (.pure (.move (.tmp 1)))) none,
        .act (some 77) (.op (.pure (.move (.tmp 14)))) none,
        .act (some 78) (.op (.pure (.idxSl 1 (.tmp 76) (.tmp 77)))) none,
        .act (some 79) (.op (.read (.load1 (.tmp 78)))) none,
        .act (some 80) (.op (.pure (.bin .and (.tmp 79) (.const (.int .i64 7))))) none,
        .act (some 19) (.op (.pure (.move (.tmp 80)))) none])
      (.seq (.steps [
        .act (some 81) (.op (.pure (.move (.tmp 16)))) none,
        .act (some 82) (.op (.pure (.move (.tmp 1)))) none,
        .act (some 83) (.op (.pure (.move (.tmp 14)))) none,
        .act (some 84) (.op (.pure (.idxSl 1 (.tmp 82) (.tmp 83)))) none,
        .act (some 85) (.op (.read (.load1 (.tmp 84)))) none,
        .act (some 86) (.op (.pure (.bin .shr (.tmp 85) (.const (w64 3#64))))) none,
        .act (some 87) (.op (.pure (.bin .and (.tmp 86) (.const (.int .i64 1))))) none,
        .act (some 88) (.op (.pure (.bin .eql (.tmp 87) (.const (.int .i64 1))))) none,
        .act (some 89) (.op (.pure (.move (.tmp 88)))) none,
        .act (some 90) (.op (.read (.loadN 3 (.tmp 18)))) (some (89, true)),
        .act (some 91) (.op (.pure (.move (.tmp 19)))) (some (89, true)),
        .act (some 92) (.call (.func 14) [(.tmp 90), (.tmp 91)]) (some (89, true)),
        .act (some 93) (.op (.pure (.pick (.tmp 89) (.tmp 92) (.const (.bool false))))) none,
        .act (some 94) (.op (.pure (.idxArr 4 1 (.tmp 12) (.tmp 81)))) none,
        .act none (.op (.eff (.store 1 (.tmp 94) (.tmp 93)))) none])
      (.seq (.steps [
        .act (some 95) (.op (.pure (.move (.tmp 16)))) none,
        .act (some 96) (.op (.pure (.fieldAddr 0 (.tmp 18)))) none,
        .act (some 97) (.op (.read (.load1 (.tmp 96)))) none,
        .act (some 98) (.call (.func 25) [(.const (.int .i64 0)), (.tmp 97)]) none,
        .act (some 99) (.op (.pure (.idxArr 4 1 (.tmp 9) (.tmp 95)))) none,
        .act none (.op (.eff (.store 1 (.tmp 99) (.tmp 98)))) none])
      (.seq (.steps [
        .act (some 100) (.op (.pure (.move (.tmp 16)))) none,
        .act (some 101) (.op (.pure (.move (.tmp 16)))) none,
        .act (some 102) (.op (.pure (.fieldAddr 0 (.tmp 18)))) none,
        .act (some 103) (.op (.read (.load1 (.tmp 102)))) none,
        .act (some 104) (.op (.pure (.move (.tmp 17)))) none,
        .act (some 105) (.op (.pure (.idxSl 1 (.tmp 104) (.const (.int .i64 0))))) none,
        .act (some 106) (.op (.read (.load1 (.tmp 105)))) none,
        .act (some 107) (.op (.pure (.idxArr 4 1 (.tmp 10) (.tmp 100)))) none,
        .act none (.op (.eff (.store 1 (.tmp 107) (.tmp 103)))) none,
        .act (some 108) (.op (.pure (.idxArr 4 1 (.tmp 11) (.tmp 101)))) none,
        .again 106 (.load1 (.tmp 105)) none,
        .act none (.op (.eff (.store 1 (.tmp 108) (.tmp 106)))) none])
      (.seq (.seq (.steps [
        .act (some 109) (.op (.pure (.move (.tmp 16)))) none,
        .act (some 110) (.op (.pure (.idxArr 4 1 (.tmp 12) (.tmp 109)))) none,
        .act (some 111) (.op (.read (.load1 (.tmp 110)))) none])
      (.cond (.tmp 111)
       (.steps [
         .act (some 112) (.op (.pure (.move (.tmp 16)))) none,
         .act (some 113) (.op (.pure (.move (.tmp 19)))) none,
         .act (some 114) (.op (.read (.loadN 3 (.tmp 18)))) none,
         .act (some 115) (.call (.func 22) [(.const (.int .i64 0)), (.tmp 113), (.tmp 114)]) none,
         .act (some 116) (.op (.pure (.idxArr 4 1 (.tmp 9) (.tmp 112)))) none,
         .act none (.op (.eff (.store 1 (.tmp 116) (.tmp 115)))) none])
       .skip))
      (.steps [
        .act (some 117) (.op (.pure (.move (.tmp 14)))) none,
        .act (some 118) (.op (.pure (.bin .add (.tmp 117) (.const (.int .i64 1))))) none,
        .act (some 14) (.op (.pure (.move (.tmp 118)))) none])))))))
      .skip))
     (.seq (.seq (.steps [
       .act (some 119) (.op (.pure (.move (.tmp 16)))) none,
       .act (some 120) (.op (.pure (.idxArr 4 1 (.tmp 9) (.tmp 119)))) none,
       .act (some 121) (.op (.read (.load1 (.tmp 120)))) none,
       .act (some 122) (.op (.pure (.move (.tmp 7)))) none,
       .act (some 123) (.call (.func 24) [(.tmp 121), (.tmp 122)]) none,
       .act (some 124) (.op (.pure (.not (.tmp 123)))) none])
     (.cond (.tmp 124)
      (.exit 1)
      .skip))
     (.seq (.steps [
       .act (some 126) (.op (.pure (.move (.tmp 16)))) none,
       .act (some 127) (.op (.pure (.idxArr 4 1 (.tmp 9) (.tmp 126)))) none,
       .act (some 128) (.op (.read (.load1 (.tmp 127)))) none,
       .act (some 129) (.call (.func 21) [(.tmp 128)]) none,
       .act (some 125) (.op (.pure (.move (.tmp 129)))) none,
       .act (some 130) (.op (.pure (.extract (.tmp 125) 0))) none,
       .act (some 131) (.op (.pure (.extract (.tmp 125) 1))) none,
       .act (some 20) (.op (.pure (.move (.tmp 130)))) none,
       .act (some 21) (.op (.pure (.move (.tmp 131)))) none])
     (.seq (.steps [
       .act (some 132) (.op (.pure (.move (.tmp 16)))) none,
       .act (some 133) (.op (.pure (.idxArr 4 1 (.tmp 9) (.tmp 132)))) none,
       .act none (.op (.eff (.store 1 (.tmp 133) (.const (.pointer none))))) none])
     (.seq (.steps [
       .act (some 134) (.op (.pure (.move (.tmp 7)))) none,
       .act (some 135) (.call (.func 28) [(.tmp 134), (.const (.int .i64 0)), (.const (.int .i64 1))]) none,
       .act (some 22) (.op (.pure (.move (.tmp 135)))) none])
     (.seq (.seq (.steps [
       .act (some 136) (.op (.pure (.move (.tmp 22)))) none,
       .act (some 137) (.op (.pure (.len false (.tmp 136)))) none,
       .act (some 138) (.op (.pure (.bin .neq (.tmp 137) (.const (.int .i64 1))))) none])
     (.cond (.tmp 138)
      (.seq (.steps [
        .act (some 6) (.op (.pure (.move (.const (.bool false))))) none])
      .ret)
      .skip))
     (.seq (.steps [
       .act (some 139) (.op (.pure (.move (.tmp 22)))) none,
       .act (some 140) (.op (.pure (.idxSl 1 (.tmp 139) (.const (.int .i64 0))))) none,
       .act (some 141) (.op (.read (.load1 (.tmp 140)))) none,
       .act (some 142) (.call (.func 11) [(.tmp 141)]) none,
       .act (some 23) (.op (.new (.alloc [(w64 0#64), (w64 0#64), (w64 0#64)]))) none,
       .act none (.op (.eff (.store 3 (.tmp 23) (.tmp 142)))) none])
     (.seq (.seq (.steps [
       .act (some 143) (.op (.pure (.move (.tmp 20)))) none,
       .act (some 144) (.op (.pure (.bin .neq (.tmp 143) (.const (.int .i64 0))))) none,
       .act (some 145) (.op (.pure (.move (.tmp 144)))) none,
       .act (some 146) (.op (.pure (.fieldAddr 0 (.tmp 23)))) (some (145, false)),
       .act (some 147) (.op (.read (.load1 (.tmp 146)))) (some (145, false)),
       .act (some 148) (.op (.pure (.fieldAddr 0 (.tmp 18)))) (some (145, false)),
       .act (some 149) (.op (.read (.load1 (.tmp 148)))) (some (145, false)),
       .act (some 150) (.op (.pure (.bin .lss (.tmp 147) (.tmp 149)))) (some (145, false)),
       .act (some 151) (.op (.pure (.pick (.tmp 145) (.const (.bool true)) (.tmp 150)))) none,
       .act (some 152) (.op (.pure (.move (.tmp 151)))) none,
       .act (some 153) (.op (.pure (.fieldAddr 0 (.tmp 23)))) (some (152, false)),
       .act (some 154) (.op (.read (.load1 (.tmp 153)))) (some (152, false)),
       .act (some 155) (.op (.pure (.fieldAddr 0 (.tmp 18)))) (some (152, false)),
       .act (some 156) (.op (.read (.load1 (.tmp 155)))) (some (152, false)),
       .act (some 157) (.op (.pure (.bin .add (.tmp 156) (.const (w64 1#64))))) (some (152, false)),
       .act (some 158) (.op (.pure (.bin .gtr (.tmp 154) (.tmp 157)))) (some (152, false)),
       .act (some 159) (.op (.pure (.pick (.tmp 152) (.const (.bool true)) (.tmp 158)))) none,
       .act (some 160) (.op (.pure (.move (.tmp 159)))) none,
       .act (some 161) (.op (.pure (.move (.tmp 16)))) (some (160, false)),
       .act (some 162) (.op (.pure (.idxArr 4 1 (.tmp 12) (.tmp 161)))) (some (160, false)),
       .act (some 163) (.op (.read (.load1 (.tmp 162)))) (some (160, false)),
       .act (some 164) (.op (.pure (.move (.tmp 163)))) (some (160, false)),
       .act (some 165) (.op (.pure (.move (.tmp 21)))) (some (164, true)),
       .act (some 166) (.op (.pure (.move (.tmp 17)))) (some (164, true)),
       .act (some 167) (.op (.pure (.idxSl 1 (.tmp 166) (.const (.int .i64 0))))) (some (164, true)),
       .act (some 168) (.op (.read (.load1 (.tmp 167)))) (some (164, true)),
       .act (some 169) (.op (.pure (.move (.tmp 16)))) (some (164, true)),
       .act (some 170) (.op (.pure (.idxArr 4 1 (.tmp 11) (.tmp 169)))) (some (164, true)),
       .act (some 171) (.op (.read (.load1 (.tmp 170)))) (some (164, true)),
       .act (some 172) (.op (.pure (.bin .eql (.tmp 168) (.tmp 171)))) (some (164, true)),
       .act (some 173) (.op (.pure (.eqB true (.tmp 165) (.tmp 172)))) (some (164, true)),
       .act (some 174) (.op (.pure (.pick (.tmp 164) (.tmp 173) (.const (.bool false))))) (some (160, false)),
       .act (some 175) (.op (.pure (.pick (.tmp 160) (.const (.bool true)) (.tmp 174)))) none,
       .act (some 176) (.op (.pure (.move (.tmp 175)))) none,
       .act (some 177) (.op (.pure (.move (.tmp 16)))) (some (176, false)),
       .act (some 178) (.op (.pure (.idxArr 4 1 (.tmp 12) (.tmp 177)))) (some (176, false)),
       .act (some 179) (.op (.read (.load1 (.tmp 178)))) (some (176, false)),
       .act (some 180) (.op (.pure (.move (.tmp 179)))) (some (176, false)),
       .act (some 181) (.op (.pure (.move (.tmp 21)))) (some (180, true)),
       .act (some 182) (.op (.pure (.pick (.tmp 180) (.tmp 181) (.const (.bool false))))) (some (176, false)),
       .act (some 183) (.op (.pure (.move (.tmp 182)))) (some (176, false)),
       .act (some 184) (.op (.pure (.fieldAddr 2 (.tmp 23)))) (some (183, true)),
       .act (some 185) (.op (.read (.load1 (.tmp 184)))) (some (183, true)),
       .act (some 186) (.op (.pure (.fieldAddr 2 (.tmp 18)))) (some (183, true)),
       .act (some 187) (.op (.read (.load1 (.tmp 186)))) (some (183, true)),
       .act (some 188) (.op (.pure (.bin .geq (.tmp 185) (.tmp 187)))) (some (183, true)),
       .act (some 189) (.op (.pure (.move (.tmp 188)))) (some (183, true)),
       .act (some 190) (.op (.pure (.fieldAddr 0 (.tmp 23)))) (some (189, false)),
       .act (some 191) (.op (.read (.load1 (.tmp 190)))) (some (189, false)),
       .act (some 192) (.op (.pure (.fieldAddr 0 (.tmp 18)))) (some (189, false)),
       .act (some 193) (.op (.read (.load1 (.tmp 192)))) (some (189, false)),
       .act (some 194) (.op (.pure (.bin .neq (.tmp 191) (.tmp 193)))) (some (189, false)),
       .act (some 195) (.op (.pure (.pick (.tmp 189) (.const (.bool true)) (.tmp 194)))) (some (183, true)),
       .act (some 196) (.op (.pure (.pick (.tmp 183) (.tmp 195) (.const (.bool false))))) (some (176, false)),
       .act (some 197) (.op (.pure (.pick (.tmp 176) (.const (.bool true)) (.tmp 196)))) none])
     (.cond (.tmp 197)
      (.seq (.steps [
        .act (some 6) (.op (.pure (.move (.const (.bool false))))) none])
      .ret)
      .skip))
     (.seq (.steps [
       .act (some 198) (.op (.pure (.move (.tmp 16)))) none,
       .act (some 199) (.op (.pure (.idxArr 4 1 (.tmp 12) (.tmp 198)))) none,
       .act (some 200) (.op (.read (.load1 (.tmp 199)))) none,
       .act (some 201) (.op (.pure (.not (.tmp 200)))) none])
     (.cond (.tmp 201)
      (.seq (.seq (.steps [
        .act (some 202) (.op (.pure (.fieldAddr 0 (.tmp 23)))) none,
        .act (some 203) (.op (.read (.load1 (.tmp 202)))) none,
        .act (some 204) (.op (.pure (.move (.tmp 16)))) none,
        .act (some 205) (.op (.pure (.idxArr 4 1 (.tmp 10) (.tmp 204)))) none,
        .act (some 206) (.op (.read (.load1 (.tmp 205)))) none,
        .act (some 207) (.op (.pure (.bin .leq (.tmp 203) (.tmp 206)))) none,
        .act (some 208) (.op (.pure (.move (.tmp 207)))) none,
        .act (some 209) (.op (.pure (.move (.tmp 21)))) (some (208, false)),
        .act (some 210) (.op (.pure (.move (.tmp 209)))) (some (208, false)),
        .act (some 211) (.op (.pure (.move (.tmp 13)))) (some (210, true)),
        .act (some 212) (.op (.pure (.move (.tmp 16)))) (some (210, true)),
        .act (some 213) (.op (.pure (.idxArr 4 1 (.tmp 10) (.tmp 212)))) (some (210, true)),
        .act (some 214) (.op (.read (.load1 (.tmp 213)))) (some (210, true)),
        .act (some 215) (.op (.read (.lookup false (.bool false) false (.tmp 211) (.tmp 214)))) (some (210, true)),
        .act (some 216) (.op (.pure (.pick (.tmp 210) (.tmp 215) (.const (.bool false))))) (some (208, false)),
        .act (some 217) (.op (.pure (.pick (.tmp 208) (.const (.bool true)) (.tmp 216)))) none])
      (.cond (.tmp 217)
       (.seq (.steps [
         .act (some 6) (.op (.pure (.move (.const (.bool false))))) none])
       .ret)
       .skip))
      (.steps [
        .act (some 218) (.op (.pure (.move (.tmp 13)))) none,
        .act (some 219) (.op (.pure (.move (.tmp 16)))) none,
        .act (some 220) (.op (.pure (.idxArr 4 1 (.tmp 10) (.tmp 219)))) none,
        .act (some 221) (.op (.read (.load1 (.tmp 220)))) none,
        .act (some 222) (.op (.pure (.move (.tmp 13)))) none,
        .act (some 223) (.op (.pure (.move (.tmp 16)))) none,
        .act (some 224) (.op (.pure (.idxArr 4 1 (.tmp 10) (.tmp 223)))) none,
        .act (some 225) (.op (.read (.load1 (.tmp 224)))) none,
        .act (some 226) (.op (.read (.lookup false (.bool false) false (.tmp 222) (.tmp 225)))) none,
        .act (some 227) (.op (.pure (.move (.tmp 226)))) none,
        .act (some 228) (.op (.pure (.move (.tmp 21)))) (some (227, false)),
        .act (some 229) (.op (.pure (.pick (.tmp 227) (.const (.bool true)) (.tmp 228)))) none,
        .act none (.op (.eff (.mapUpdate false (.tmp 218) (.tmp 221) (.tmp 229)))) none]))
      .skip)))))))))))))))
    (.steps [
      .act (some 52) (.op (.pure (.move (.tmp 15)))) none,
      .act (some 53) (.op (.pure (.bin .add (.tmp 52) (.const (.int .i64 1))))) none,
      .act (some 15) (.op (.pure (.move (.tmp 53)))) none]))))))
  (.seq (.steps [
    .act (some 230) (.op (.pure (.move (.tmp 7)))) none,
    .act (some 231) (.call (.func 28) [(.tmp 230), (.const (.int .i64 0)), (.const (.int .i64 1))]) none,
    .act (some 24) (.op (.pure (.move (.tmp 231)))) none])
  (.seq (.seq (.steps [
    .act (some 232) (.op (.pure (.move (.tmp 24)))) none,
    .act (some 233) (.op (.pure (.len false (.tmp 232)))) none,
    .act (some 234) (.op (.pure (.bin .neq (.tmp 233) (.const (.int .i64 1))))) none])
  (.cond (.tmp 234)
   (.seq (.steps [
     .act (some 6) (.op (.pure (.move (.const (.bool false))))) none])
   .ret)
   .skip))
  (.seq (.seq (.steps [
    .act (some 235) (.op (.pure (.fieldAddr 0 (.tmp 3)))) none,
    .act (some 236) (.op (.read (.load1 (.tmp 235)))) none,
    .act (some 25) (.op (.pure (.move (.tmp 236)))) none])
  (.block 2 (.loop [7, 13, 24, 25] (.seq (.seq (.steps [
      .act (some 237) (.op (.pure (.move (.tmp 25)))) none,
      .act (some 238) (.op (.pure (.move (.tmp 24)))) none,
      .act (some 239) (.op (.pure (.idxSl 1 (.tmp 238) (.const (.int .i64 0))))) none,
      .act (some 240) (.op (.read (.load1 (.tmp 239)))) none,
      .act (some 241) (.call (.func 11) [(.tmp 240)]) none,
      .act (some 242) (.op (.pure (.field false 0 1 (.tmp 241)))) none,
      .act (some 243) (.op (.pure (.bin .lss (.tmp 237) (.tmp 242)))) none])
    (.cond (.tmp 243)
     .skip
     (.exit 2)))
    (.seq (.block 3 (.seq (.steps [
       .act (some 246) (.op (.pure (.move (.tmp 13)))) none,
       .act (some 247) (.op (.pure (.move (.tmp 25)))) none,
       .act (some 248) (.op (.read (.lookup false (.bool false) false (.tmp 246) (.tmp 247)))) none,
       .act (some 249) (.op (.pure (.not (.tmp 248)))) none])
     (.cond (.tmp 249)
      (.seq (.steps [
        .act (some 6) (.op (.pure (.move (.const (.bool false))))) none])
      .ret)
      .skip)))
    (.steps [
      .act (some 244) (.op (.pure (.move (.tmp 25)))) none,
      .act (some 245) (.op (.pure (.bin .add (.tmp 244) (.const (w64 1#64))))) none,
      .act (some 25) (.op (.pure (.move (.tmp 245)))) none]))))))
  (.seq (.steps [
    .act (some 250) (.op (.pure (.move (.tmp 7)))) none,
    .act (some 251) (.call (.func 29) [(.tmp 250)]) none,
    .act (some 252) (.op (.pure (.bin .eql (.tmp 251) (.const (.int .i64 (-1)))))) none,
    .act (some 253) (.op (.pure (.move (.tmp 252)))) none,
    .act (some 254) (.call (.func 12) []) (some (253, true)),
    .act (some 255) (.op (.pure (.pick (.tmp 253) (.tmp 254) (.const (.bool false))))) none,
    .act (some 6) (.op (.pure (.move (.tmp 255)))) none])
  .ret)))))))))))))))) }
theorem c7 : compFn Try.prog (mkPlan Try.prog) [(13, [1, 2, 3, 7, 9, 10, 11, 12, 13, 14, 15]), (46, [7, 13, 24, 25])] true 7 = some L7 := by kernel_rfl
/-- sluiceway/sluicewaylaw22.own -/
def L8 : LFun := { n := 10, pop := true, res := [.loadN 3 2], code :=
  (.seq (.steps [
    .act (some 1) (.op (.new (.box (.tmp 0)))) none,
    .act (some 2) (.op (.new (.alloc [(w64 0#64), (w64 0#64), (w64 0#64)]))) none])
  (.seq (.steps [
    .act (some 3) (.op (.pure (.fieldAddr 0 (.tmp 1)))) none,
    .act (some 4) (.op (.read (.load1 (.tmp 3)))) none,
    .act (some 5) (.op (.pure (.fieldAddr 1 (.tmp 1)))) none,
    .act (some 6) (.op (.read (.load1 (.tmp 5)))) none,
    .act (some 7) (.op (.pure (.fieldAddr 2 (.tmp 1)))) none,
    .act (some 8) (.op (.read (.load1 (.tmp 7)))) none,
    .act (some 9) (.op (.pure (.build [(w64 0#64), (w64 0#64), (w64 0#64)] [(0, 1, (.tmp 4)), (1, 1, (.tmp 6)), (2, 1, (.tmp 8))]))) none,
    .act none (.op (.eff (.store 3 (.tmp 2) (.tmp 9)))) none])
  .ret)) }
theorem c8 : compFn Try.prog (mkPlan Try.prog) [] true 8 = some L8 := by kernel_rfl
/-- (sluiceway/tail.Head).Word -/
def L9 : LFun := { n := 12, pop := true, res := [.tmp 2], code :=
  (.seq (.steps [
    .act (some 1) (.op (.new (.box (.tmp 0)))) none,
    .act (some 2) (.op (.pure (.move (.const (w64 0#64))))) none])
  (.seq (.steps [
    .act (some 4) (.op (.pure (.fieldAddr 0 (.tmp 1)))) none,
    .act (some 5) (.op (.read (.load1 (.tmp 4)))) none,
    .act (some 6) (.op (.pure (.fieldAddr 1 (.tmp 1)))) none,
    .act (some 7) (.op (.read (.load1 (.tmp 6)))) none,
    .act (some 8) (.op (.pure (.fieldAddr 2 (.tmp 1)))) none,
    .act (some 9) (.op (.read (.load1 (.tmp 8)))) none,
    .act (some 10) (.op (.new (.mkSlice 1 3 [(w64 0#64), (w64 0#64), (w64 0#64)] [(0, 1, (.tmp 5)), (1, 1, (.tmp 7)), (2, 1, (.tmp 9))]))) none,
    .act (some 3) (.call (.func 31) []) none,
    .again 9 (.load1 (.tmp 8)) none,
    .again 7 (.load1 (.tmp 6)) none,
    .again 5 (.load1 (.tmp 4)) none,
    .act (some 11) (.call (.func 30) [(.tmp 3), (.tmp 10)]) none,
    .act (some 2) (.op (.pure (.move (.tmp 11)))) none])
  .ret)) }
theorem c9 : compFn Try.prog (mkPlan Try.prog) [] true 9 = some L9 := by kernel_rfl
/-- (sluiceway/sluicewayref22.Head).Word -/
def L10 : LFun := { n := 16, pop := true, res := [.tmp 2], code :=
  (.seq (.steps [
    .act (some 1) (.op (.new (.box (.tmp 0)))) none,
    .act (some 2) (.op (.pure (.move (.const (w64 0#64))))) none])
  (.seq (.steps [
    .act (some 3) (.op (.pure (.fieldAddr 2 (.tmp 1)))) none,
    .act (some 4) (.op (.read (.load1 (.tmp 3)))) none,
    .act (some 5) (.op (.pure (.bin .rem (.tmp 4) (.const (w64 256#64))))) none,
    .act (some 6) (.op (.pure (.bin .mul (.tmp 5) (.const (w64 65536#64))))) none,
    .act (some 7) (.op (.pure (.fieldAddr 1 (.tmp 1)))) none,
    .act (some 8) (.op (.read (.load1 (.tmp 7)))) none,
    .act (some 9) (.op (.pure (.bin .rem (.tmp 8) (.const (w64 65536#64))))) none,
    .act (some 10) (.op (.pure (.bin .add (.tmp 6) (.tmp 9)))) none,
    .act (some 11) (.op (.pure (.bin .mul (.tmp 10) (.const (w64 1099511627776#64))))) none,
    .act (some 12) (.op (.pure (.fieldAddr 0 (.tmp 1)))) none,
    .act (some 13) (.op (.read (.load1 (.tmp 12)))) none,
    .act (some 14) (.op (.pure (.bin .rem (.tmp 13) (.const (w64 1099511627776#64))))) none,
    .act (some 15) (.op (.pure (.bin .add (.tmp 11) (.tmp 14)))) none,
    .act (some 2) (.op (.pure (.move (.tmp 15)))) none])
  .ret)) }
theorem c10 : compFn Try.prog (mkPlan Try.prog) [] true 10 = some L10 := by kernel_rfl
/-- sluiceway/tail.Of -/
def L11 : LFun := { n := 21, pop := true, res := [.loadN 3 2], code :=
  (.seq (.steps [
    .act (some 2) (.op (.new (.alloc [(w64 0#64), (w64 0#64), (w64 0#64)]))) none])
  (.seq (.steps [
    .act (some 4) (.call (.func 31) []) none,
    .act (some 3) (.op (.pure (.move (.tmp 4)))) none])
  (.seq (.steps [
    .act (some 5) (.op (.pure (.move (.tmp 3)))) none,
    .act (some 6) (.op (.pure (.idxSl 2 (.tmp 5) (.const (.int .i64 0))))) none,
    .act (some 7) (.op (.read (.loadN 2 (.tmp 6)))) none,
    .act (some 8) (.op (.pure (.move (.tmp 0)))) none,
    .act (some 10) (.op (.pure (.move (.tmp 3)))) none,
    .act (some 11) (.op (.pure (.idxSl 2 (.tmp 10) (.const (.int .i64 1))))) none,
    .act (some 12) (.op (.read (.loadN 2 (.tmp 11)))) none,
    .act (some 13) (.op (.pure (.move (.tmp 0)))) none,
    .act (some 15) (.op (.pure (.move (.tmp 3)))) none,
    .act (some 16) (.op (.pure (.idxSl 2 (.tmp 15) (.const (.int .i64 2))))) none,
    .act (some 17) (.op (.read (.loadN 2 (.tmp 16)))) none,
    .act (some 18) (.op (.pure (.move (.tmp 0)))) none,
    .act (some 9) (.call (.func 32) [(.tmp 7), (.tmp 8)]) none,
    .again 17 (.loadN 2 (.tmp 16)) none,
    .again 12 (.loadN 2 (.tmp 11)) none,
    .act (some 14) (.call (.func 32) [(.tmp 12), (.tmp 13)]) none,
    .again 17 (.loadN 2 (.tmp 16)) none,
    .act (some 19) (.call (.func 32) [(.tmp 17), (.tmp 18)]) none,
    .act (some 20) (.op (.pure (.build [(w64 0#64), (w64 0#64), (w64 0#64)] [(0, 1, (.tmp 9)), (1, 1, (.tmp 14)), (2, 1, (.tmp 19))]))) none,
    .act none (.op (.eff (.store 3 (.tmp 2) (.tmp 20)))) none])
  .ret))) }
theorem c11 : compFn Try.prog (mkPlan Try.prog) [] true 11 = some L11 := by kernel_rfl
/-- sluiceway/sluicewaylaw22.one -/
def L12 : LFun := { n := 60, pop := true, res := [.tmp 0], code :=
  (.seq (.steps [
    .act (some 0) (.op (.pure (.move (.const (.bool false))))) none])
  (.seq (.steps [
    .act (some 9) (.op (.pure (.build [(w64 0#64), (w64 0#64), (w64 0#64)] [(0, 1, (.const (w64 5#64))), (2, 1, (.const (w64 1#64)))]))) none,
    .act (some 1) (.op (.new (.alloc [(w64 0#64), (w64 0#64), (w64 0#64)]))) none,
    .act none (.op (.eff (.store 3 (.tmp 1) (.tmp 9)))) none])
  (.seq (.steps [
    .act (some 11) (.call (.func 20) [(.const (.int .i64 2))]) none,
    .act (some 10) (.op (.pure (.move (.tmp 11)))) none,
    .act (some 12) (.op (.pure (.extract (.tmp 10) 0))) none,
    .act (some 13) (.op (.pure (.extract (.tmp 10) 1))) none,
    .act (some 2) (.op (.pure (.move (.tmp 12)))) none,
    .act (some 3) (.op (.pure (.move (.tmp 13)))) none])
  (.seq (.seq (.steps [
    .act (some 14) (.op (.pure (.move (.tmp 3)))) none,
    .act (some 15) (.op (.pure (.bin .neq (.tmp 14) (.const (.int .i64 0))))) none])
  (.cond (.tmp 15)
   (.seq (.steps [
     .act (some 0) (.op (.pure (.move (.const (.bool false))))) none])
   .ret)
   .skip))
  (.seq (.steps [
    .act (some 16) (.op (.pure (.move (.tmp 2)))) none,
    .act (some 17) (.op (.read (.loadN 3 (.tmp 1)))) none,
    .act (some 18) (.call (.func 9) [(.tmp 17)]) none,
    .act (some 19) (.call (.func 27) [(.tmp 16), (.const (.int .i64 1)), (.tmp 18)]) none])
  (.seq (.steps [
    .act (some 20) (.call (.func 25) [(.const (.int .i64 1)), (.const (w64 5#64))]) none,
    .act (some 4) (.op (.pure (.move (.tmp 20)))) none])
  (.seq (.steps [
    .act (some 21) (.op (.pure (.move (.tmp 4)))) none,
    .act (some 22) (.op (.pure (.move (.tmp 2)))) none,
    .act (some 23) (.call (.func 24) [(.tmp 21), (.tmp 22)]) none,
    .act (some 24) (.op (.pure (.move (.tmp 4)))) none,
    .act (some 25) (.op (.pure (.move (.tmp 2)))) none,
    .act (some 26) (.call (.func 24) [(.tmp 24), (.tmp 25)]) none,
    .act (some 5) (.op (.pure (.move (.tmp 23)))) none,
    .act (some 6) (.op (.pure (.move (.tmp 26)))) none])
  (.seq (.steps [
    .act (some 28) (.op (.pure (.move (.tmp 4)))) none,
    .act (some 29) (.call (.func 21) [(.tmp 28)]) none,
    .act (some 27) (.op (.pure (.move (.tmp 29)))) none,
    .act (some 30) (.op (.pure (.extract (.tmp 27) 0))) none,
    .act (some 31) (.op (.pure (.extract (.tmp 27) 1))) none,
    .act (some 7) (.op (.pure (.move (.tmp 30)))) none,
    .act (some 8) (.op (.pure (.move (.tmp 31)))) none])
  (.seq (.steps [
    .act (some 32) (.op (.read (.loadN 3 (.tmp 1)))) none,
    .act (some 34) (.op (.pure (.build [(w64 0#64), (w64 0#64), (w64 0#64)] [(0, 1, (.const (w64 6#64))), (2, 1, (.const (w64 1#64)))]))) none,
    .act (some 33) (.call (.func 19) [(.tmp 32)]) none,
    .act (some 35) (.op (.pure (.eqAgg [false, false, false] false (.tmp 33) (.tmp 34)))) none,
    .act (some 36) (.op (.pure (.move (.tmp 35)))) none,
    .act (some 37) (.op (.read (.loadN 3 (.tmp 1)))) (some (36, true)),
    .act (some 39) (.op (.pure (.build [(w64 0#64), (w64 0#64), (w64 0#64)] [(0, 1, (.const (w64 5#64))), (1, 1, (.const (w64 1#64))), (2, 1, (.const (w64 5#64)))]))) (some (36, true)),
    .act (some 38) (.call (.func 16) [(.tmp 37), (.const (.int .i64 2))]) (some (36, true)),
    .act (some 40) (.op (.pure (.eqAgg [false, false, false] false (.tmp 38) (.tmp 39)))) (some (36, true)),
    .act (some 41) (.op (.pure (.pick (.tmp 36) (.tmp 40) (.const (.bool false))))) none,
    .act (some 42) (.op (.pure (.move (.tmp 41)))) none,
    .act (some 43) (.op (.pure (.move (.tmp 5)))) (some (42, true)),
    .act (some 44) (.op (.pure (.not (.tmp 43)))) (some (42, true)),
    .act (some 45) (.op (.pure (.pick (.tmp 42) (.tmp 44) (.const (.bool false))))) none,
    .act (some 46) (.op (.pure (.move (.tmp 45)))) none,
    .act (some 47) (.op (.pure (.move (.tmp 6)))) (some (46, true)),
    .act (some 48) (.op (.pure (.pick (.tmp 46) (.tmp 47) (.const (.bool false))))) none,
    .act (some 49) (.op (.pure (.move (.tmp 48)))) none,
    .act (some 50) (.op (.pure (.move (.tmp 8)))) (some (49, true)),
    .act (some 51) (.op (.pure (.pick (.tmp 49) (.tmp 50) (.const (.bool false))))) none,
    .act (some 52) (.op (.pure (.move (.tmp 51)))) none,
    .act (some 53) (.op (.pure (.move (.tmp 2)))) (some (52, true)),
    .act (some 56) (.op (.read (.loadN 3 (.tmp 1)))) (some (52, true)),
    .act (some 54) (.call (.func 33) [(.tmp 53), (.const (.int .i64 1))]) (some (52, true)),
    .again 56 (.loadN 3 (.tmp 1)) (some (52, true)),
    .act (some 55) (.call (.func 11) [(.tmp 54)]) (some (52, true)),
    .again 56 (.loadN 3 (.tmp 1)) (some (52, true)),
    .act (some 57) (.call (.func 19) [(.tmp 56)]) (some (52, true)),
    .act (some 58) (.op (.pure (.eqAgg [false, false, false] false (.tmp 55) (.tmp 57)))) (some (52, true)),
    .act (some 59) (.op (.pure (.pick (.tmp 52) (.tmp 58) (.const (.bool false))))) none,
    .act (some 0) (.op (.pure (.move (.tmp 59)))) none])
  .ret))))))))) }
theorem c12 : compFn Try.prog (mkPlan Try.prog) [] true 12 = some L12 := by kernel_rfl
/-- sluiceway/sluicewayref22.Of -/
def L13 : LFun := { n := 12, pop := true, res := [.loadN 3 2], code :=
  (.seq (.steps [
    .act (some 2) (.op (.new (.alloc [(w64 0#64), (w64 0#64), (w64 0#64)]))) none])
  (.seq (.steps [
    .act (some 3) (.op (.pure (.move (.tmp 0)))) none,
    .act (some 4) (.op (.pure (.bin .rem (.tmp 3) (.const (w64 1099511627776#64))))) none,
    .act (some 5) (.op (.pure (.move (.tmp 0)))) none,
    .act (some 6) (.op (.pure (.bin .quo (.tmp 5) (.const (w64 1099511627776#64))))) none,
    .act (some 7) (.op (.pure (.bin .rem (.tmp 6) (.const (w64 65536#64))))) none,
    .act (some 8) (.op (.pure (.move (.tmp 0)))) none,
    .act (some 9) (.op (.pure (.bin .quo (.tmp 8) (.const (w64 1099511627776#64))))) none,
    .act (some 10) (.op (.pure (.bin .quo (.tmp 9) (.const (w64 65536#64))))) none,
    .act (some 11) (.op (.pure (.build [(w64 0#64), (w64 0#64), (w64 0#64)] [(0, 1, (.tmp 4)), (1, 1, (.tmp 7)), (2, 1, (.tmp 10))]))) none,
    .act none (.op (.eff (.store 3 (.tmp 2) (.tmp 11)))) none])
  .ret)) }
theorem c13 : compFn Try.prog (mkPlan Try.prog) [] true 13 = some L13 := by kernel_rfl
/-- (sluiceway/tail.Head).Has -/
def L14 : LFun := { n := 15, pop := true, res := [.tmp 4], code :=
  (.seq (.steps [
    .act (some 2) (.op (.new (.box (.tmp 0)))) none,
    .act (some 4) (.op (.pure (.move (.const (.bool false))))) none])
  (.seq (.steps [
    .act (some 5) (.op (.pure (.move (.tmp 1)))) none,
    .act (some 6) (.call (.func 34) [(.tmp 5)]) none,
    .act (some 7) (.op (.pure (.move (.tmp 6)))) none,
    .act (some 8) (.op (.pure (.fieldAddr 2 (.tmp 2)))) (some (7, true)),
    .act (some 9) (.op (.read (.load1 (.tmp 8)))) (some (7, true)),
    .act (some 10) (.op (.pure (.move (.tmp 1)))) (some (7, true)),
    .act (some 11) (.op (.pure (.bin .shr (.tmp 9) (.tmp 10)))) (some (7, true)),
    .act (some 12) (.op (.pure (.bin .and (.tmp 11) (.const (w64 1#64))))) (some (7, true)),
    .act (some 13) (.op (.pure (.bin .eql (.tmp 12) (.const (w64 1#64))))) (some (7, true)),
    .act (some 14) (.op (.pure (.pick (.tmp 7) (.tmp 13) (.const (.bool false))))) none,
    .act (some 4) (.op (.pure (.move (.tmp 14)))) none])
  .ret)) }
theorem c14 : compFn Try.prog (mkPlan Try.prog) [] true 14 = some L14 := by kernel_rfl
/-- (sluiceway/sluicewayref22.Head).Has -/
def L15 : LFun := { n := 25, pop := true, res := [.tmp 4], code :=
  (.seq (.steps [
    .act (some 2) (.op (.new (.box (.tmp 0)))) none,
    .act (some 4) (.op (.pure (.move (.const (.bool false))))) none])
  (.seq (.seq (.steps [
    .act (some 7) (.op (.pure (.move (.tmp 1)))) none,
    .act (some 8) (.op (.pure (.bin .lss (.tmp 7) (.const (.int .i64 0))))) none,
    .act (some 9) (.op (.pure (.move (.tmp 8)))) none,
    .act (some 10) (.op (.pure (.move (.tmp 1)))) (some (9, false)),
    .act (some 11) (.op (.pure (.bin .gtr (.tmp 10) (.const (.int .i64 7))))) (some (9, false)),
    .act (some 12) (.op (.pure (.pick (.tmp 9) (.const (.bool true)) (.tmp 11)))) none])
  (.cond (.tmp 12)
   (.seq (.steps [
     .act (some 4) (.op (.pure (.move (.const (.bool false))))) none])
   .ret)
   .skip))
  (.seq (.steps [
    .act (some 13) (.op (.pure (.fieldAddr 2 (.tmp 2)))) none,
    .act (some 14) (.op (.read (.load1 (.tmp 13)))) none,
    .act (some 5) (.op (.pure (.move (.tmp 14)))) none])
  (.seq (.seq (.steps [
    .act (some 6) (.op (.pure (.move (.const (.int .i64 0))))) none])
  (.block 0 (.loop [1, 5, 6] (.seq (.seq (.steps [
      .act (some 15) (.op (.pure (.move (.tmp 6)))) none,
      .act (some 16) (.op (.pure (.move (.tmp 1)))) none,
      .act (some 17) (.op (.pure (.bin .lss (.tmp 15) (.tmp 16)))) none])
    (.cond (.tmp 17)
     .skip
     (.exit 0)))
    (.seq (.block 1 (.steps [
       .act (some 20) (.op (.pure (.move (.tmp 5)))) none,
       .act (some 21) (.op (.pure (.bin .quo (.tmp 20) (.const (w64 2#64))))) none,
       .act (some 5) (.op (.pure (.move (.tmp 21)))) none]))
    (.steps [
      .act (some 18) (.op (.pure (.move (.tmp 6)))) none,
      .act (some 19) (.op (.pure (.bin .add (.tmp 18) (.const (.int .i64 1))))) none,
      .act (some 6) (.op (.pure (.move (.tmp 19)))) none]))))))
  (.seq (.steps [
    .act (some 22) (.op (.pure (.move (.tmp 5)))) none,
    .act (some 23) (.op (.pure (.bin .rem (.tmp 22) (.const (w64 2#64))))) none,
    .act (some 24) (.op (.pure (.bin .eql (.tmp 23) (.const (w64 1#64))))) none,
    .act (some 4) (.op (.pure (.move (.tmp 24)))) none])
  .ret))))) }
theorem c15 : compFn Try.prog (mkPlan Try.prog) [(5, [1, 5, 6])] true 15 = some L15 := by kernel_rfl
/-- (sluiceway/tail.Head).With -/
def L16 : LFun := { n := 16, pop := true, res := [.loadN 3 4], code :=
  (.seq (.steps [
    .act (some 2) (.op (.new (.box (.tmp 0)))) none,
    .act (some 4) (.op (.new (.alloc [(w64 0#64), (w64 0#64), (w64 0#64)]))) none])
  (.seq (.seq (.steps [
    .act (some 5) (.op (.pure (.move (.tmp 1)))) none,
    .act (some 6) (.call (.func 34) [(.tmp 5)]) none,
    .act (some 7) (.op (.pure (.not (.tmp 6)))) none])
  (.cond (.tmp 7)
   (.seq (.steps [
     .act (some 8) (.op (.read (.loadN 3 (.tmp 2)))) none,
     .act none (.op (.eff (.store 3 (.tmp 4) (.tmp 8)))) none])
   .ret)
   .skip))
  (.seq (.steps [
    .act (some 9) (.op (.read (.loadN 3 (.tmp 2)))) none,
    .act (some 10) (.op (.pure (.fieldAddr 2 (.tmp 2)))) none,
    .act (some 11) (.op (.read (.load1 (.tmp 10)))) none,
    .act (some 12) (.op (.pure (.move (.tmp 1)))) none,
    .act (some 13) (.op (.pure (.bin .shl (.const (w64 1#64)) (.tmp 12)))) none,
    .act (some 14) (.op (.pure (.bin .or (.tmp 11) (.tmp 13)))) none,
    .act (some 15) (.call (.func 35) [(.tmp 9), (.tmp 14)]) none,
    .act none (.op (.eff (.store 3 (.tmp 4) (.tmp 15)))) none])
  .ret))) }
theorem c16 : compFn Try.prog (mkPlan Try.prog) [] true 16 = some L16 := by kernel_rfl
/-- (sluiceway/sluicewayref22.Head).Turned -/
def L17 : LFun := { n := 48, pop := true, res := [.loadN 3 6], code :=
  (.seq (.steps [
    .act (some 3) (.op (.new (.box (.tmp 0)))) none,
    .act (some 6) (.op (.new (.alloc [(w64 0#64), (w64 0#64), (w64 0#64)]))) none])
  (.seq (.seq (.steps [
    .act (some 8) (.op (.pure (.move (.tmp 1)))) none,
    .act (some 9) (.op (.pure (.bin .lss (.tmp 8) (.const (.int .i64 0))))) none,
    .act (some 10) (.op (.pure (.move (.tmp 9)))) none,
    .act (some 11) (.op (.pure (.move (.tmp 1)))) (some (10, false)),
    .act (some 12) (.op (.pure (.bin .gtr (.tmp 11) (.const (.int .i64 7))))) (some (10, false)),
    .act (some 13) (.op (.pure (.pick (.tmp 10) (.const (.bool true)) (.tmp 12)))) none])
  (.cond (.tmp 13)
   (.seq (.steps [
     .act (some 14) (.op (.read (.loadN 3 (.tmp 3)))) none,
     .act none (.op (.eff (.store 3 (.tmp 6) (.tmp 14)))) none])
   .ret)
   .skip))
  (.seq (.steps [
    .act (some 15) (.op (.pure (.move (.tmp 1)))) none,
    .act (some 16) (.op (.pure (.conv .u64 (.tmp 15)))) none,
    .act (some 17) (.op (.pure (.bin .shl (.const (w64 1#64)) (.tmp 16)))) none,
    .act (some 7) (.op (.pure (.move (.tmp 17)))) none])
  (.seq (.seq (.steps [
    .act (some 18) (.op (.pure (.move (.tmp 2)))) none,
    .act (some 19) (.op (.pure (.move (.tmp 18)))) none,
    .act (some 20) (.op (.read (.loadN 3 (.tmp 3)))) (some (19, true)),
    .act (some 21) (.op (.pure (.move (.tmp 1)))) (some (19, true)),
    .act (some 22) (.call (.func 15) [(.tmp 20), (.tmp 21)]) (some (19, true)),
    .act (some 23) (.op (.pure (.not (.tmp 22)))) (some (19, true)),
    .act (some 24) (.op (.pure (.pick (.tmp 19) (.tmp 23) (.const (.bool false))))) none])
  (.cond (.tmp 24)
   (.steps [
     .act (some 25) (.op (.pure (.fieldAddr 2 (.tmp 3)))) none,
     .act (some 26) (.op (.read (.load1 (.tmp 25)))) none,
     .act (some 27) (.op (.pure (.move (.tmp 7)))) none,
     .act (some 28) (.op (.pure (.bin .add (.tmp 26) (.tmp 27)))) none,
     .act (some 29) (.op (.pure (.fieldAddr 2 (.tmp 3)))) none,
     .act none (.op (.eff (.store 1 (.tmp 29) (.tmp 28)))) none])
   .skip))
  (.seq (.seq (.steps [
    .act (some 30) (.op (.pure (.move (.tmp 2)))) none,
    .act (some 31) (.op (.pure (.not (.tmp 30)))) none,
    .act (some 32) (.op (.pure (.move (.tmp 31)))) none,
    .act (some 33) (.op (.read (.loadN 3 (.tmp 3)))) (some (32, true)),
    .act (some 34) (.op (.pure (.move (.tmp 1)))) (some (32, true)),
    .act (some 35) (.call (.func 15) [(.tmp 33), (.tmp 34)]) (some (32, true)),
    .act (some 36) (.op (.pure (.pick (.tmp 32) (.tmp 35) (.const (.bool false))))) none])
  (.cond (.tmp 36)
   (.steps [
     .act (some 37) (.op (.pure (.fieldAddr 2 (.tmp 3)))) none,
     .act (some 38) (.op (.read (.load1 (.tmp 37)))) none,
     .act (some 39) (.op (.pure (.move (.tmp 7)))) none,
     .act (some 40) (.op (.pure (.bin .sub (.tmp 38) (.tmp 39)))) none,
     .act (some 41) (.op (.pure (.fieldAddr 2 (.tmp 3)))) none,
     .act none (.op (.eff (.store 1 (.tmp 41) (.tmp 40)))) none])
   .skip))
  (.seq (.steps [
    .act (some 42) (.op (.pure (.fieldAddr 1 (.tmp 3)))) none,
    .act (some 43) (.op (.read (.load1 (.tmp 42)))) none,
    .act (some 44) (.op (.pure (.bin .add (.tmp 43) (.const (w64 1#64))))) none,
    .act (some 45) (.op (.pure (.bin .rem (.tmp 44) (.const (w64 65536#64))))) none,
    .act (some 46) (.op (.pure (.fieldAddr 1 (.tmp 3)))) none,
    .act none (.op (.eff (.store 1 (.tmp 46) (.tmp 45)))) none])
  (.seq (.steps [
    .act (some 47) (.op (.read (.loadN 3 (.tmp 3)))) none,
    .act none (.op (.eff (.store 3 (.tmp 6) (.tmp 47)))) none])
  .ret))))))) }
theorem c17 : compFn Try.prog (mkPlan Try.prog) [] true 17 = some L17 := by kernel_rfl
/-- (sluiceway/tail.Head).Without -/
def L18 : LFun := { n := 16, pop := true, res := [.loadN 3 4], code :=
  (.seq (.steps [
    .act (some 2) (.op (.new (.box (.tmp 0)))) none,
    .act (some 4) (.op (.new (.alloc [(w64 0#64), (w64 0#64), (w64 0#64)]))) none])
  (.seq (.seq (.steps [
    .act (some 5) (.op (.pure (.move (.tmp 1)))) none,
    .act (some 6) (.call (.func 34) [(.tmp 5)]) none,
    .act (some 7) (.op (.pure (.not (.tmp 6)))) none])
  (.cond (.tmp 7)
   (.seq (.steps [
     .act (some 8) (.op (.read (.loadN 3 (.tmp 2)))) none,
     .act none (.op (.eff (.store 3 (.tmp 4) (.tmp 8)))) none])
   .ret)
   .skip))
  (.seq (.steps [
    .act (some 9) (.op (.read (.loadN 3 (.tmp 2)))) none,
    .act (some 10) (.op (.pure (.fieldAddr 2 (.tmp 2)))) none,
    .act (some 11) (.op (.read (.load1 (.tmp 10)))) none,
    .act (some 12) (.op (.pure (.move (.tmp 1)))) none,
    .act (some 13) (.op (.pure (.bin .shl (.const (w64 1#64)) (.tmp 12)))) none,
    .act (some 14) (.op (.pure (.bin .andNot (.tmp 11) (.tmp 13)))) none,
    .act (some 15) (.call (.func 35) [(.tmp 9), (.tmp 14)]) none,
    .act none (.op (.eff (.store 3 (.tmp 4) (.tmp 15)))) none])
  .ret))) }
theorem c18 : compFn Try.prog (mkPlan Try.prog) [] true 18 = some L18 := by kernel_rfl
/-- (sluiceway/tail.Head).On -/
def L19 : LFun := { n := 9, pop := true, res := [.loadN 3 2], code :=
  (.seq (.steps [
    .act (some 1) (.op (.new (.box (.tmp 0)))) none,
    .act (some 2) (.op (.new (.alloc [(w64 0#64), (w64 0#64), (w64 0#64)]))) none])
  (.seq (.steps [
    .act (some 3) (.op (.pure (.fieldAddr 0 (.tmp 1)))) none,
    .act (some 4) (.op (.read (.load1 (.tmp 3)))) none,
    .act (some 5) (.op (.pure (.bin .add (.tmp 4) (.const (w64 1#64))))) none,
    .act (some 6) (.op (.pure (.bin .and (.tmp 5) (.const (w64 1099511627775#64))))) none,
    .act (some 7) (.op (.pure (.fieldAddr 0 (.tmp 1)))) none,
    .act none (.op (.eff (.store 1 (.tmp 7) (.tmp 6)))) none])
  (.seq (.steps [
    .act (some 8) (.op (.read (.loadN 3 (.tmp 1)))) none,
    .act none (.op (.eff (.store 3 (.tmp 2) (.tmp 8)))) none])
  .ret))) }
theorem c19 : compFn Try.prog (mkPlan Try.prog) [] true 19 = some L19 := by kernel_rfl
/-- sluiceway/mem.New -/
def L20 : LFun := { n := 16, pop := false, res := [.tmp 2, .tmp 3], code :=
  (.seq (.steps [
    .act (some 2) (.op (.pure (.move (.const (.pointer none))))) none,
    .act (some 3) (.op (.pure (.move (.const (.int .i64 0))))) none])
  (.seq (.seq (.steps [
    .act (some 4) (.op (.pure (.move (.tmp 0)))) none,
    .act (some 5) (.op (.pure (.bin .lss (.tmp 4) (.const (.int .i64 1))))) none,
    .act (some 6) (.op (.pure (.move (.tmp 5)))) none,
    .act (some 7) (.op (.pure (.move (.tmp 0)))) (some (6, false)),
    .act (some 8) (.op (.pure (.bin .gtr (.tmp 7) (.const (.int .i64 65536))))) (some (6, false)),
    .act (some 9) (.op (.pure (.pick (.tmp 6) (.const (.bool true)) (.tmp 8)))) none])
  (.cond (.tmp 9)
   (.seq (.steps [
     .act (some 2) (.op (.pure (.move (.const (.pointer none))))) none,
     .act (some 3) (.op (.pure (.move (.const (.int .i64 2))))) none])
   .ret)
   .skip))
  (.seq (.steps [
    .act (some 10) (.op (.pure (.move (.tmp 0)))) none,
    .act (some 11) (.op (.new (.makeSlice 1 8 [(w64 0#64)] (.tmp 10) (.tmp 10)))) none,
    .act (some 12) (.op (.pure (.move (.tmp 0)))) none,
    .act (some 13) (.op (.new (.makeSlice 1 1 [(.bool false)] (.tmp 12) (.tmp 12)))) none,
    .act (some 14) (.op (.pure (.build [(.slice none 0 0), (.slice none 0 0), (.int .i64 0), (.int .i64 0), (.int .i64 0), (.int .i64 0), (.int .i64 0), (.int .i64 0), (.int .i64 0), (.bool false)] [(0, 1, (.tmp 11)), (1, 1, (.tmp 13)), (8, 1, (.const (.int .i64 (-1))))]))) none,
    .act (some 15) (.op (.new (.box (.tmp 14)))) none,
    .act (some 2) (.op (.pure (.move (.tmp 15)))) none,
    .act (some 3) (.op (.pure (.move (.const (.int .i64 0))))) none])
  .ret))) }
theorem c20 : compFn Try.prog (mkPlan Try.prog) [] false 20 = some L20 := by kernel_rfl
/-- (*sluiceway/tail.Op).Result -/
def L21 : LFun := { n := 21, pop := true, res := [.tmp 2, .tmp 3], code :=
  (.seq (.steps [
    .act (some 2) (.op (.pure (.move (.const (.int .i64 0))))) none,
    .act (some 3) (.op (.pure (.move (.const (.bool false))))) none])
  (.seq (.block 0 (.seq (.steps [
     .act (some 5) (.op (.pure (.move (.tmp 0)))) none,
     .act (some 6) (.call (.func 36) [(.tmp 5)]) none,
     .act (some 4) (.op (.pure (.move (.tmp 6)))) none])
   (.cond (.tmp 4)
    (.seq (.steps [
      .act (some 2) (.op (.pure (.move (.const (.int .i64 1))))) none,
      .act (some 3) (.op (.pure (.move (.const (.bool false))))) none])
    .ret)
    (.seq (.steps [
      .act (some 8) (.op (.pure (.move (.tmp 0)))) none,
      .act (some 9) (.op (.pure (.nilCheck (.tmp 8)))) none,
      .act (some 10) (.op (.pure (.fieldAddr 7 (.tmp 9)))) none,
      .act (some 11) (.op (.read (.load1 (.tmp 10)))) none,
      .act (some 12) (.op (.pure (.bin .neq (.tmp 11) (.const (.int .i64 3))))) none,
      .act (some 7) (.op (.pure (.move (.tmp 12)))) none])
    (.cond (.tmp 7)
     (.seq (.steps [
       .act (some 2) (.op (.pure (.move (.const (.int .i64 0))))) none,
       .act (some 3) (.op (.pure (.move (.const (.bool false))))) none])
     .ret)
     .skip)))))
  (.seq (.steps [
    .act (some 13) (.op (.pure (.move (.tmp 0)))) none,
    .act (some 14) (.op (.pure (.nilCheck (.tmp 13)))) none,
    .act (some 15) (.op (.pure (.fieldAddr 8 (.tmp 14)))) none,
    .act (some 16) (.op (.read (.load1 (.tmp 15)))) none,
    .act (some 17) (.op (.pure (.move (.tmp 0)))) none,
    .act (some 18) (.op (.pure (.nilCheck (.tmp 17)))) none,
    .act (some 19) (.op (.pure (.fieldAddr 9 (.tmp 18)))) none,
    .act (some 20) (.op (.read (.load1 (.tmp 19)))) none,
    .act (some 2) (.op (.pure (.move (.tmp 16)))) none,
    .act (some 3) (.op (.pure (.move (.tmp 20)))) none])
  .ret))) }
theorem c21 : compFn Try.prog (mkPlan Try.prog) [] true 21 = some L21 := by kernel_rfl
/-- sluiceway/tail.Drop -/
def L22 : LFun := { n := 20, pop := false, res := [.tmp 6], code :=
  (.seq (.steps [
    .act (some 5) (.op (.new (.box (.tmp 2)))) none,
    .act (some 6) (.op (.pure (.move (.const (.pointer none))))) none])
  (.seq (.steps [
    .act (some 8) (.op (.pure (.move (.tmp 0)))) none,
    .act (some 9) (.op (.pure (.move (.tmp 1)))) none,
    .act (some 10) (.op (.read (.loadN 3 (.tmp 5)))) none,
    .act (some 11) (.op (.pure (.build [(.bool false), (.int .i64 0), (w64 0#64), (w64 0#64), (w64 0#64), (w64 0#64), (.int .i64 0), (.int .i64 0), (.int .i64 0), (.bool false)] [(0, 1, (.const (.bool true))), (1, 1, (.tmp 8)), (6, 1, (.tmp 9)), (3, 3, (.tmp 10)), (7, 1, (.const (.int .i64 0)))]))) none,
    .act (some 12) (.op (.new (.box (.tmp 11)))) none,
    .act (some 7) (.op (.pure (.move (.tmp 12)))) none])
  (.seq (.seq (.steps [
    .act (some 13) (.op (.read (.loadN 3 (.tmp 5)))) none,
    .act (some 14) (.op (.pure (.move (.tmp 1)))) none,
    .act (some 15) (.call (.func 14) [(.tmp 13), (.tmp 14)]) none,
    .act (some 16) (.op (.pure (.not (.tmp 15)))) none])
  (.cond (.tmp 16)
   (.steps [
     .act (some 17) (.op (.pure (.move (.tmp 7)))) none,
     .act (some 18) (.call (.func 37) [(.tmp 17), (.const (.int .i64 2)), (.const (.bool false))]) none])
   .skip))
  (.seq (.steps [
    .act (some 19) (.op (.pure (.move (.tmp 7)))) none,
    .act (some 6) (.op (.pure (.move (.tmp 19)))) none])
  .ret)))) }
theorem c22 : compFn Try.prog (mkPlan Try.prog) [] false 22 = some L22 := by kernel_rfl
/-- (*sluiceway/tail.Op).Done -/
def L23 : LFun := { n := 12, pop := true, res := [.tmp 2], code :=
  (.seq (.steps [
    .act (some 2) (.op (.pure (.move (.const (.bool false))))) none])
  (.seq (.steps [
    .act (some 3) (.op (.pure (.move (.tmp 0)))) none,
    .act (some 4) (.call (.func 36) [(.tmp 3)]) none,
    .act (some 5) (.op (.pure (.move (.tmp 4)))) none,
    .act (some 6) (.op (.pure (.move (.tmp 0)))) (some (5, false)),
    .act (some 7) (.op (.pure (.nilCheck (.tmp 6)))) (some (5, false)),
    .act (some 8) (.op (.pure (.fieldAddr 7 (.tmp 7)))) (some (5, false)),
    .act (some 9) (.op (.read (.load1 (.tmp 8)))) (some (5, false)),
    .act (some 10) (.op (.pure (.bin .eql (.tmp 9) (.const (.int .i64 3))))) (some (5, false)),
    .act (some 11) (.op (.pure (.pick (.tmp 5) (.const (.bool true)) (.tmp 10)))) none,
    .act (some 2) (.op (.pure (.move (.tmp 11)))) none])
  .ret)) }
theorem c23 : compFn Try.prog (mkPlan Try.prog) [] true 23 = some L23 := by kernel_rfl
/-- (*sluiceway/tail.Op).Step -/
def L24 : LFun := { n := 94, pop := true, res := [.tmp 4], code :=
  (.seq (.steps [
    .act (some 4) (.op (.pure (.move (.const (.bool false))))) none])
  (.seq (.seq (.steps [
    .act (some 5) (.op (.pure (.move (.tmp 0)))) none,
    .act (some 6) (.call (.func 23) [(.tmp 5)]) none,
    .act (some 7) (.op (.pure (.move (.tmp 6)))) none,
    .act (some 8) (.op (.pure (.move (.tmp 1)))) (some (7, false)),
    .act (some 9) (.call (.func 38) [(.tmp 8)]) (some (7, false)),
    .act (some 10) (.op (.pure (.bin .eql (.tmp 9) (.const (.int .i64 0))))) (some (7, false)),
    .act (some 11) (.op (.pure (.pick (.tmp 7) (.const (.bool true)) (.tmp 10)))) none])
  (.cond (.tmp 11)
   (.seq (.steps [
     .act (some 12) (.op (.pure (.move (.tmp 0)))) none,
     .act (some 13) (.call (.func 23) [(.tmp 12)]) none,
     .act (some 4) (.op (.pure (.move (.tmp 13)))) none])
   .ret)
   .skip))
  (.seq (.seq (.steps [
    .act (some 14) (.op (.pure (.move (.tmp 0)))) none,
    .act (some 15) (.op (.pure (.nilCheck (.tmp 14)))) none,
    .act (some 16) (.op (.pure (.fieldAddr 7 (.tmp 15)))) none,
    .act (some 17) (.op (.read (.load1 (.tmp 16)))) none])
  (.block 0 (.seq (.steps [
     .act (some 41) (.op (.pure (.bin .eql (.tmp 17) (.const (.int .i64 0))))) none,
     .act (some 40) (.op (.pure (.move (.tmp 41)))) none])
   (.cond (.tmp 40)
    (.steps [
      .act (some 42) (.op (.pure (.move (.tmp 0)))) none,
      .act (some 43) (.op (.pure (.move (.tmp 1)))) none,
      .act (some 44) (.op (.pure (.move (.tmp 0)))) none,
      .act (some 45) (.op (.pure (.nilCheck (.tmp 44)))) none,
      .act (some 46) (.op (.pure (.fieldAddr 1 (.tmp 45)))) none,
      .act (some 47) (.op (.read (.load1 (.tmp 46)))) none,
      .act (some 48) (.op (.pure (.move (.tmp 0)))) none,
      .act (some 49) (.op (.pure (.nilCheck (.tmp 48)))) none,
      .act (some 50) (.op (.pure (.fieldAddr 3 (.tmp 49)))) none,
      .act (some 51) (.op (.read (.loadN 3 (.tmp 50)))) none,
      .act (some 53) (.op (.pure (.move (.tmp 0)))) none,
      .act (some 54) (.op (.pure (.nilCheck (.tmp 53)))) none,
      .act (some 55) (.op (.pure (.fieldAddr 3 (.tmp 54)))) none,
      .act (some 56) (.op (.read (.loadN 3 (.tmp 55)))) none,
      .act (some 57) (.op (.pure (.move (.tmp 0)))) none,
      .act (some 58) (.op (.pure (.nilCheck (.tmp 57)))) none,
      .act (some 59) (.op (.pure (.fieldAddr 6 (.tmp 58)))) none,
      .act (some 60) (.op (.read (.load1 (.tmp 59)))) none,
      .act (some 52) (.call (.func 9) [(.tmp 51)]) none,
      .again 60 (.load1 (.tmp 59)) none,
      .again 56 (.loadN 3 (.tmp 55)) none,
      .again 47 (.load1 (.tmp 46)) none,
      .act (some 61) (.call (.func 18) [(.tmp 56), (.tmp 60)]) none,
      .again 47 (.load1 (.tmp 46)) none,
      .act (some 62) (.call (.func 9) [(.tmp 61)]) none,
      .again 47 (.load1 (.tmp 46)) none,
      .act (some 63) (.call (.func 39) [(.tmp 43), (.tmp 47), (.tmp 52), (.tmp 62)]) none,
      .act (some 64) (.call (.func 37) [(.tmp 42), (.const (.int .i64 0)), (.tmp 63)]) none])
    (.seq (.steps [
      .act (some 66) (.op (.pure (.bin .eql (.tmp 17) (.const (.int .i64 1))))) none,
      .act (some 65) (.op (.pure (.move (.tmp 66)))) none])
    (.cond (.tmp 65)
     (.seq (.steps [
       .act (some 67) (.op (.pure (.move (.tmp 0)))) none,
       .act (some 68) (.op (.pure (.nilCheck (.tmp 67)))) none,
       .act (some 69) (.op (.pure (.fieldAddr 7 (.tmp 68)))) none,
       .act none (.op (.eff (.store 1 (.tmp 69) (.const (.int .i64 2))))) none])
     (.seq (.steps [
       .act (some 70) (.op (.pure (.move (.tmp 0)))) none,
       .act (some 71) (.op (.pure (.move (.tmp 1)))) none,
       .act (some 72) (.op (.pure (.move (.tmp 0)))) none,
       .act (some 73) (.op (.pure (.nilCheck (.tmp 72)))) none,
       .act (some 74) (.op (.pure (.fieldAddr 1 (.tmp 73)))) none,
       .act (some 75) (.op (.read (.load1 (.tmp 74)))) none,
       .act (some 76) (.call (.func 33) [(.tmp 71), (.tmp 75)]) none,
       .act (some 77) (.call (.func 11) [(.tmp 76)]) none,
       .act (some 78) (.op (.pure (.nilCheck (.tmp 70)))) none,
       .act (some 79) (.op (.pure (.fieldAddr 3 (.tmp 78)))) none,
       .act none (.op (.eff (.store 3 (.tmp 79) (.tmp 77)))) none])
     (.seq (.steps [
       .act (some 80) (.op (.pure (.move (.tmp 0)))) none,
       .act (some 81) (.op (.pure (.nilCheck (.tmp 80)))) none,
       .act (some 82) (.op (.pure (.fieldAddr 3 (.tmp 81)))) none,
       .act (some 83) (.op (.pure (.fieldAddr 0 (.tmp 82)))) none,
       .act (some 84) (.op (.read (.load1 (.tmp 83)))) none,
       .act (some 85) (.op (.pure (.move (.tmp 0)))) none,
       .act (some 86) (.op (.pure (.nilCheck (.tmp 85)))) none,
       .act (some 87) (.op (.pure (.fieldAddr 2 (.tmp 86)))) none,
       .act (some 88) (.op (.read (.load1 (.tmp 87)))) none,
       .act (some 89) (.op (.pure (.bin .neq (.tmp 84) (.tmp 88)))) none])
     (.cond (.tmp 89)
      (.steps [
        .act (some 90) (.op (.pure (.move (.tmp 0)))) none,
        .act (some 91) (.call (.func 37) [(.tmp 90), (.const (.int .i64 0)), (.const (.bool false))]) none])
      .skip))))
     (.seq (.steps [
       .act (some 18) (.op (.pure (.move (.tmp 0)))) none,
       .act (some 19) (.op (.pure (.nilCheck (.tmp 18)))) none,
       .act (some 20) (.op (.pure (.fieldAddr 7 (.tmp 19)))) none,
       .act none (.op (.eff (.store 1 (.tmp 20) (.const (.int .i64 1))))) none])
     (.seq (.steps [
       .act (some 21) (.op (.pure (.move (.tmp 1)))) none,
       .act (some 22) (.op (.pure (.move (.tmp 0)))) none,
       .act (some 23) (.op (.pure (.nilCheck (.tmp 22)))) none,
       .act (some 24) (.op (.pure (.fieldAddr 1 (.tmp 23)))) none,
       .act (some 25) (.op (.read (.load1 (.tmp 24)))) none,
       .act (some 26) (.op (.pure (.move (.tmp 0)))) none,
       .act (some 27) (.op (.pure (.nilCheck (.tmp 26)))) none,
       .act (some 28) (.op (.pure (.fieldAddr 3 (.tmp 27)))) none,
       .act (some 29) (.op (.read (.loadN 3 (.tmp 28)))) none,
       .act (some 31) (.op (.pure (.move (.tmp 0)))) none,
       .act (some 32) (.op (.pure (.nilCheck (.tmp 31)))) none,
       .act (some 33) (.op (.pure (.fieldAddr 3 (.tmp 32)))) none,
       .act (some 34) (.op (.read (.loadN 3 (.tmp 33)))) none,
       .act (some 30) (.call (.func 9) [(.tmp 29)]) none,
       .again 34 (.loadN 3 (.tmp 33)) none,
       .again 25 (.load1 (.tmp 24)) none,
       .act (some 35) (.call (.func 19) [(.tmp 34)]) none,
       .again 25 (.load1 (.tmp 24)) none,
       .act (some 36) (.call (.func 9) [(.tmp 35)]) none,
       .again 25 (.load1 (.tmp 24)) none,
       .act (some 37) (.call (.func 39) [(.tmp 21), (.tmp 25), (.tmp 30), (.tmp 36)]) none])
     (.cond (.tmp 37)
      (.steps [
        .act (some 38) (.op (.pure (.move (.tmp 0)))) none,
        .act (some 39) (.call (.func 37) [(.tmp 38), (.const (.int .i64 0)), (.const (.bool true))]) none])
      .skip)))))))))
  (.seq (.steps [
    .act (some 92) (.op (.pure (.move (.tmp 0)))) none,
    .act (some 93) (.call (.func 23) [(.tmp 92)]) none,
    .act (some 4) (.op (.pure (.move (.tmp 93)))) none])
  .ret)))) }
theorem c24 : compFn Try.prog (mkPlan Try.prog) [] true 24 = some L24 := by kernel_rfl
/-- sluiceway/tail.Pass -/
def L25 : LFun := { n := 9, pop := false, res := [.tmp 4], code :=
  (.seq (.steps [
    .act (some 4) (.op (.pure (.move (.const (.pointer none))))) none])
  (.seq (.steps [
    .act (some 5) (.op (.pure (.move (.tmp 0)))) none,
    .act (some 6) (.op (.pure (.move (.tmp 1)))) none,
    .act (some 7) (.op (.pure (.build [(.bool false), (.int .i64 0), (w64 0#64), (w64 0#64), (w64 0#64), (w64 0#64), (.int .i64 0), (.int .i64 0), (.int .i64 0), (.bool false)] [(0, 1, (.const (.bool true))), (1, 1, (.tmp 5)), (2, 1, (.tmp 6)), (7, 1, (.const (.int .i64 1)))]))) none,
    .act (some 8) (.op (.new (.box (.tmp 7)))) none,
    .act (some 4) (.op (.pure (.move (.tmp 8)))) none])
  .ret)) }
theorem c25 : compFn Try.prog (mkPlan Try.prog) [] false 25 = some L25 := by kernel_rfl
/-- (*sluiceway/mem.Mem).Steps -/
def L26 : LFun := { n := 15, pop := true, res := [.tmp 2], code :=
  (.seq (.steps [
    .act (some 2) (.op (.pure (.move (.const (.int .i64 0))))) none])
  (.seq (.steps [
    .act (some 3) (.op (.pure (.move (.const (.int .i64 0))))) none])
  (.seq (.seq (.steps [
    .act (some 5) (.op (.pure (.move (.const (.int .i64 0))))) none])
  (.block 0 (.loop [0, 3, 5] (.seq (.steps [
      .act (some 6) (.op (.pure (.bin .lss (.tmp 5) (.const (.int .i64 6))))) none])
    (.seq (.cond (.tmp 6)
     .skip
     (.exit 0))
    (.seq (.block 1 (.seq (.steps [
       .act (some 7) (.op (.pure (.move (.tmp 5)))) none,
       .act (some 4) (.op (.pure (.move (.tmp 7)))) none])
     (.steps [
       .act (some 8) (.op (.pure (.move (.tmp 3)))) none,
       .act (some 9) (.op (.pure (.move (.tmp 0)))) none,
       .act (some 10) (.op (.pure (.move (.tmp 4)))) none,
       .act (some 11) (.call (.func 40) [(.tmp 9), (.tmp 10)]) none,
       .act (some 12) (.op (.pure (.bin .add (.tmp 8) (.tmp 11)))) none,
       .act (some 3) (.op (.pure (.move (.tmp 12)))) none])))
    (.steps [
      .act (some 13) (.op (.pure (.bin .add (.tmp 5) (.const (.int .i64 1))))) none,
      .act (some 5) (.op (.pure (.move (.tmp 13)))) none])))))))
  (.seq (.steps [
    .act (some 14) (.op (.pure (.move (.tmp 3)))) none,
    .act (some 2) (.op (.pure (.move (.tmp 14)))) none])
  .ret)))) }
theorem c26 : compFn Try.prog (mkPlan Try.prog) [(3, [0, 3, 5])] true 26 = some L26 := by kernel_rfl
/-- (*sluiceway/mem.Mem).Store -/
def L27 : LFun := { n := 10, pop := true, res := [], code :=
  (.seq (.steps [
    .act (some 5) (.op (.new (.box (.tmp 2)))) none])
  (.steps [
    .act (some 6) (.op (.pure (.move (.tmp 0)))) none,
    .act (some 7) (.op (.pure (.move (.tmp 1)))) none,
    .act (some 8) (.op (.pure (.mkFunc 42 [] [(.tmp 5)]))) none,
    .act (some 9) (.call (.func 41) [(.tmp 6), (.const (.int .i64 1)), (.tmp 7), (.tmp 8)]) none])) }
theorem c27 : compFn Try.prog (mkPlan Try.prog) [] true 27 = some L27 := by kernel_rfl
/-- (*sluiceway/mem.Mem).Peek -/
def L28 : LFun := { n := 37, pop := false, res := [.tmp 6], code :=
  (.seq (.steps [
    .act (some 6) (.op (.pure (.move (.const (.slice none 0 0))))) none])
  (.seq (.seq (.steps [
    .act (some 7) (.op (.pure (.move (.tmp 1)))) none,
    .act (some 8) (.op (.pure (.bin .lss (.tmp 7) (.const (.int .i64 0))))) none,
    .act (some 9) (.op (.pure (.move (.tmp 8)))) none,
    .act (some 10) (.op (.pure (.move (.tmp 2)))) (some (9, false)),
    .act (some 11) (.op (.pure (.bin .lss (.tmp 10) (.const (.int .i64 1))))) (some (9, false)),
    .act (some 12) (.op (.pure (.pick (.tmp 9) (.const (.bool true)) (.tmp 11)))) none,
    .act (some 13) (.op (.pure (.move (.tmp 12)))) none,
    .act (some 14) (.op (.pure (.move (.tmp 1)))) (some (13, false)),
    .act (some 15) (.op (.pure (.move (.tmp 0)))) (some (13, false)),
    .act (some 16) (.call (.func 38) [(.tmp 15)]) (some (13, false)),
    .act (some 17) (.op (.pure (.bin .geq (.tmp 14) (.tmp 16)))) (some (13, false)),
    .act (some 18) (.op (.pure (.pick (.tmp 13) (.const (.bool true)) (.tmp 17)))) none])
  (.cond (.tmp 18)
   (.seq (.steps [
     .act (some 6) (.op (.pure (.move (.const (.slice none 0 0))))) none])
   .ret)
   .skip))
  (.seq (.steps [
    .act (some 19) (.op (.pure (.move (.tmp 0)))) none,
    .act (some 20) (.op (.pure (.nilCheck (.tmp 19)))) none,
    .act (some 21) (.op (.pure (.fieldAddr 0 (.tmp 20)))) none,
    .act (some 22) (.op (.read (.load1 (.tmp 21)))) none,
    .act (some 23) (.op (.pure (.move (.tmp 1)))) none,
    .act (some 24) (.op (.pure (.move (.tmp 1)))) none,
    .act (some 25) (.op (.pure (.move (.tmp 2)))) none,
    .act (some 26) (.op (.pure (.move (.tmp 0)))) none,
    .act (some 27) (.op (.pure (.nilCheck (.tmp 26)))) none,
    .act (some 28) (.op (.pure (.fieldAddr 0 (.tmp 27)))) none,
    .act (some 29) (.op (.read (.load1 (.tmp 28)))) none,
    .act (some 30) (.op (.pure (.len false (.tmp 29)))) none,
    .act (some 31) (.op (.pure (.move (.tmp 1)))) none,
    .act (some 32) (.op (.pure (.bin .sub (.tmp 30) (.tmp 31)))) none,
    .act (some 33) (.op (.pure (.minmax false [(.tmp 25), (.tmp 32)]))) none,
    .act (some 34) (.op (.pure (.bin .add (.tmp 24) (.tmp 33)))) none,
    .act (some 35) (.op (.read (.slSl 1 (.tmp 22) (some (.tmp 23)) (some (.tmp 34)) none))) none,
    .act (some 36) (.call (.func 43) [(.tmp 35)]) none,
    .act (some 6) (.op (.pure (.move (.tmp 36)))) none])
  .ret))) }
theorem c28 : compFn Try.prog (mkPlan Try.prog) [] false 28 = some L28 := by kernel_rfl
/-- (*sluiceway/mem.Mem).Trap -/
def L29 : LFun := { n := 9, pop := true, res := [.tmp 2], code :=
  (.seq (.steps [
    .act (some 2) (.op (.pure (.move (.const (.int .i64 0))))) none])
  (.seq (.seq (.steps [
    .act (some 3) (.op (.pure (.move (.tmp 0)))) none,
    .act (some 4) (.call (.func 44) [(.tmp 3)]) none])
  (.cond (.tmp 4)
   (.seq (.steps [
     .act (some 2) (.op (.pure (.move (.const (.int .i64 (-1)))))) none])
   .ret)
   .skip))
  (.seq (.steps [
    .act (some 5) (.op (.pure (.move (.tmp 0)))) none,
    .act (some 6) (.op (.pure (.nilCheck (.tmp 5)))) none,
    .act (some 7) (.op (.pure (.fieldAddr 8 (.tmp 6)))) none,
    .act (some 8) (.op (.read (.load1 (.tmp 7)))) none,
    .act (some 2) (.op (.pure (.move (.tmp 8)))) none])
  .ret))) }
theorem c29 : compFn Try.prog (mkPlan Try.prog) [] true 29 = some L29 := by kernel_rfl
/-- sluiceway/word.Pack -/
def L30 : LFun := { n := 27, pop := true, res := [.tmp 4], code :=
  (.seq (.steps [
    .act (some 4) (.op (.pure (.move (.const (w64 0#64))))) none])
  (.seq (.steps [
    .act (some 5) (.op (.pure (.move (.const (w64 0#64))))) none])
  (.seq (.seq (.steps [
    .act (some 7) (.op (.pure (.move (.tmp 0)))) none,
    .act (some 8) (.op (.pure (.len false (.tmp 7)))) none,
    .act (some 9) (.op (.pure (.move (.tmp 1)))) none,
    .act (some 10) (.op (.pure (.len false (.tmp 9)))) none,
    .act (some 11) (.op (.pure (.minmax false [(.tmp 8), (.tmp 10)]))) none,
    .act (some 12) (.op (.pure (.move (.const (.int .i64 0))))) none])
  (.block 0 (.loop [0, 1, 5, 11, 12] (.seq (.steps [
      .act (some 13) (.op (.pure (.bin .lss (.tmp 12) (.tmp 11)))) none])
    (.seq (.cond (.tmp 13)
     .skip
     (.exit 0))
    (.seq (.block 1 (.seq (.steps [
       .act (some 14) (.op (.pure (.move (.tmp 12)))) none,
       .act (some 6) (.op (.pure (.move (.tmp 14)))) none])
     (.steps [
       .act (some 15) (.op (.pure (.move (.tmp 0)))) none,
       .act (some 16) (.op (.pure (.move (.tmp 6)))) none,
       .act (some 17) (.op (.pure (.idxSl 2 (.tmp 15) (.tmp 16)))) none,
       .act (some 18) (.op (.read (.loadN 2 (.tmp 17)))) none,
       .act (some 19) (.op (.pure (.move (.tmp 5)))) none,
       .act (some 20) (.op (.pure (.move (.tmp 1)))) none,
       .act (some 21) (.op (.pure (.move (.tmp 6)))) none,
       .act (some 22) (.op (.pure (.idxSl 1 (.tmp 20) (.tmp 21)))) none,
       .act (some 23) (.op (.read (.load1 (.tmp 22)))) none,
       .act (some 24) (.call (.func 45) [(.tmp 18), (.tmp 19), (.tmp 23)]) none,
       .act (some 5) (.op (.pure (.move (.tmp 24)))) none])))
    (.steps [
      .act (some 25) (.op (.pure (.bin .add (.tmp 12) (.const (.int .i64 1))))) none,
      .act (some 12) (.op (.pure (.move (.tmp 25)))) none])))))))
  (.seq (.steps [
    .act (some 26) (.op (.pure (.move (.tmp 5)))) none,
    .act (some 4) (.op (.pure (.move (.tmp 26)))) none])
  .ret)))) }
theorem c30 : compFn Try.prog (mkPlan Try.prog) [(3, [0, 1, 5, 11, 12])] true 30 = some L30 := by kernel_rfl
/-- sluiceway/tail.fields -/
def L31 : LFun := { n := 5, pop := false, res := [.tmp 0], code :=
  (.seq (.steps [
    .act (some 0) (.op (.pure (.move (.const (.slice none 0 0))))) none])
  (.seq (.steps [
    .act (some 1) (.op (.pure (.build [(.int .i64 0), (.int .i64 0)] [(0, 1, (.const (.int .i64 0))), (1, 1, (.const (.int .i64 40)))]))) none,
    .act (some 2) (.op (.pure (.build [(.int .i64 0), (.int .i64 0)] [(0, 1, (.const (.int .i64 40))), (1, 1, (.const (.int .i64 16)))]))) none,
    .act (some 3) (.op (.pure (.build [(.int .i64 0), (.int .i64 0)] [(0, 1, (.const (.int .i64 56))), (1, 1, (.const (.int .i64 8)))]))) none,
    .act (some 4) (.op (.new (.mkSlice 2 3 [(.int .i64 0), (.int .i64 0), (.int .i64 0), (.int .i64 0), (.int .i64 0), (.int .i64 0)] [(0, 2, (.tmp 1)), (2, 2, (.tmp 2)), (4, 2, (.tmp 3))]))) none,
    .act (some 0) (.op (.pure (.move (.tmp 4)))) none])
  .ret)) }
theorem c31 : compFn Try.prog (mkPlan Try.prog) [] false 31 = some L31 := by kernel_rfl
/-- (sluiceway/word.Field).Get -/
def L32 : LFun := { n := 15, pop := true, res := [.tmp 4], code :=
  (.seq (.steps [
    .act (some 2) (.op (.new (.box (.tmp 0)))) none,
    .act (some 4) (.op (.pure (.move (.const (w64 0#64))))) none])
  (.seq (.seq (.steps [
    .act (some 5) (.op (.read (.loadN 2 (.tmp 2)))) none,
    .act (some 6) (.call (.func 46) [(.tmp 5)]) none,
    .act (some 7) (.op (.pure (.not (.tmp 6)))) none])
  (.cond (.tmp 7)
   (.seq (.steps [
     .act (some 4) (.op (.pure (.move (.const (w64 0#64))))) none])
   .ret)
   .skip))
  (.seq (.steps [
    .act (some 8) (.op (.pure (.move (.tmp 1)))) none,
    .act (some 9) (.op (.pure (.fieldAddr 0 (.tmp 2)))) none,
    .act (some 10) (.op (.read (.load1 (.tmp 9)))) none,
    .act (some 11) (.op (.pure (.bin .shr (.tmp 8) (.tmp 10)))) none,
    .act (some 12) (.op (.read (.loadN 2 (.tmp 2)))) none,
    .act (some 13) (.call (.func 47) [(.tmp 12)]) none,
    .act (some 14) (.op (.pure (.bin .and (.tmp 11) (.tmp 13)))) none,
    .act (some 4) (.op (.pure (.move (.tmp 14)))) none,
    .again 10 (.load1 (.tmp 9)) none])
  .ret))) }
theorem c32 : compFn Try.prog (mkPlan Try.prog) [] true 32 = some L32 := by kernel_rfl
/-- (*sluiceway/mem.Mem).Load -/
def L33 : LFun := { n := 10, pop := true, res := [.load1 4], code :=
  (.seq (.steps [
    .act (some 4) (.op (.new (.alloc [(w64 0#64)]))) none])
  (.seq (.steps [
    .act (some 5) (.op (.pure (.move (.tmp 0)))) none,
    .act (some 6) (.op (.pure (.move (.tmp 1)))) none,
    .act (some 7) (.op (.pure (.mkFunc 48 [] [(.tmp 4)]))) none,
    .act (some 8) (.call (.func 41) [(.tmp 5), (.const (.int .i64 0)), (.tmp 6), (.tmp 7)]) none])
  (.seq (.steps [
    .act (some 9) (.op (.read (.load1 (.tmp 4)))) none,
    .act none (.op (.eff (.store 1 (.tmp 4) (.tmp 9)))) none])
  .ret))) }
theorem c33 : compFn Try.prog (mkPlan Try.prog) [] true 33 = some L33 := by kernel_rfl
/-- sluiceway/tail.is -/
def L34 : LFun := { n := 9, pop := true, res := [.tmp 2], code :=
  (.seq (.steps [
    .act (some 2) (.op (.pure (.move (.const (.bool false))))) none])
  (.seq (.steps [
    .act (some 3) (.op (.pure (.move (.tmp 0)))) none,
    .act (some 4) (.op (.pure (.bin .geq (.tmp 3) (.const (.int .i64 0))))) none,
    .act (some 5) (.op (.pure (.move (.tmp 4)))) none,
    .act (some 6) (.op (.pure (.move (.tmp 0)))) (some (5, true)),
    .act (some 7) (.op (.pure (.bin .lss (.tmp 6) (.const (.int .i64 8))))) (some (5, true)),
    .act (some 8) (.op (.pure (.pick (.tmp 5) (.tmp 7) (.const (.bool false))))) none,
    .act (some 2) (.op (.pure (.move (.tmp 8)))) none])
  .ret)) }
theorem c34 : compFn Try.prog (mkPlan Try.prog) [] true 34 = some L34 := by kernel_rfl
/-- (sluiceway/tail.Head).turned -/
def L35 : LFun := { n := 13, pop := true, res := [.loadN 3 4], code :=
  (.seq (.steps [
    .act (some 2) (.op (.new (.box (.tmp 0)))) none,
    .act (some 4) (.op (.new (.alloc [(w64 0#64), (w64 0#64), (w64 0#64)]))) none])
  (.seq (.steps [
    .act (some 5) (.op (.pure (.fieldAddr 0 (.tmp 2)))) none,
    .act (some 6) (.op (.read (.load1 (.tmp 5)))) none,
    .act (some 7) (.op (.pure (.fieldAddr 1 (.tmp 2)))) none,
    .act (some 8) (.op (.read (.load1 (.tmp 7)))) none,
    .act (some 9) (.op (.pure (.bin .add (.tmp 8) (.const (w64 1#64))))) none,
    .act (some 10) (.op (.pure (.bin .and (.tmp 9) (.const (w64 65535#64))))) none,
    .act (some 11) (.op (.pure (.move (.tmp 1)))) none,
    .act (some 12) (.op (.pure (.build [(w64 0#64), (w64 0#64), (w64 0#64)] [(0, 1, (.tmp 6)), (1, 1, (.tmp 10)), (2, 1, (.tmp 11))]))) none,
    .act none (.op (.eff (.store 3 (.tmp 4) (.tmp 12)))) none])
  .ret)) }
theorem c35 : compFn Try.prog (mkPlan Try.prog) [] true 35 = some L35 := by kernel_rfl
/-- (*sluiceway/tail.Op).none -/
def L36 : LFun := { n := 12, pop := true, res := [.tmp 2], code :=
  (.seq (.steps [
    .act (some 2) (.op (.pure (.move (.const (.bool false))))) none])
  (.seq (.steps [
    .act (some 3) (.op (.pure (.move (.tmp 0)))) none,
    .act (some 4) (.op (.pure (.eqNil .p false (.tmp 3) (.const (.pointer none))))) none,
    .act (some 5) (.op (.pure (.move (.tmp 4)))) none,
    .act (some 6) (.op (.pure (.move (.tmp 0)))) (some (5, false)),
    .act (some 7) (.op (.pure (.nilCheck (.tmp 6)))) (some (5, false)),
    .act (some 8) (.op (.pure (.fieldAddr 0 (.tmp 7)))) (some (5, false)),
    .act (some 9) (.op (.read (.load1 (.tmp 8)))) (some (5, false)),
    .act (some 10) (.op (.pure (.not (.tmp 9)))) (some (5, false)),
    .act (some 11) (.op (.pure (.pick (.tmp 5) (.const (.bool true)) (.tmp 10)))) none,
    .act (some 2) (.op (.pure (.move (.tmp 11)))) none])
  .ret)) }
theorem c36 : compFn Try.prog (mkPlan Try.prog) [] true 36 = some L36 := by kernel_rfl
/-- (*sluiceway/tail.Op).end -/
def L37 : LFun := { n := 17, pop := true, res := [], code :=
  (.steps [
    .act (some 6) (.op (.pure (.move (.tmp 0)))) none,
    .act (some 7) (.op (.pure (.move (.tmp 0)))) none,
    .act (some 8) (.op (.pure (.move (.tmp 0)))) none,
    .act (some 9) (.op (.pure (.move (.tmp 1)))) none,
    .act (some 10) (.op (.pure (.move (.tmp 2)))) none,
    .act (some 11) (.op (.pure (.nilCheck (.tmp 6)))) none,
    .act (some 12) (.op (.pure (.fieldAddr 7 (.tmp 11)))) none,
    .act none (.op (.eff (.store 1 (.tmp 12) (.const (.int .i64 3))))) none,
    .act (some 13) (.op (.pure (.nilCheck (.tmp 7)))) none,
    .act (some 14) (.op (.pure (.fieldAddr 8 (.tmp 13)))) none,
    .act none (.op (.eff (.store 1 (.tmp 14) (.tmp 9)))) none,
    .act (some 15) (.op (.pure (.nilCheck (.tmp 8)))) none,
    .act (some 16) (.op (.pure (.fieldAddr 9 (.tmp 15)))) none,
    .act none (.op (.eff (.store 1 (.tmp 16) (.tmp 10)))) none]) }
theorem c37 : compFn Try.prog (mkPlan Try.prog) [] true 37 = some L37 := by kernel_rfl
/-- (*sluiceway/mem.Mem).Len -/
def L38 : LFun := { n := 10, pop := true, res := [.tmp 2], code :=
  (.seq (.steps [
    .act (some 2) (.op (.pure (.move (.const (.int .i64 0))))) none])
  (.seq (.seq (.steps [
    .act (some 3) (.op (.pure (.move (.tmp 0)))) none,
    .act (some 4) (.op (.pure (.eqNil .p false (.tmp 3) (.const (.pointer none))))) none])
  (.cond (.tmp 4)
   (.seq (.steps [
     .act (some 2) (.op (.pure (.move (.const (.int .i64 0))))) none])
   .ret)
   .skip))
  (.seq (.steps [
    .act (some 5) (.op (.pure (.move (.tmp 0)))) none,
    .act (some 6) (.op (.pure (.nilCheck (.tmp 5)))) none,
    .act (some 7) (.op (.pure (.fieldAddr 0 (.tmp 6)))) none,
    .act (some 8) (.op (.read (.load1 (.tmp 7)))) none,
    .act (some 9) (.op (.pure (.len false (.tmp 8)))) none,
    .act (some 2) (.op (.pure (.move (.tmp 9)))) none])
  .ret))) }
theorem c38 : compFn Try.prog (mkPlan Try.prog) [] true 38 = some L38 := by kernel_rfl
/-- (*sluiceway/mem.Mem).Swap -/
def L39 : LFun := { n := 14, pop := true, res := [.load1 8], code :=
  (.seq (.steps [
    .act (some 6) (.op (.new (.box (.tmp 2)))) none,
    .act (some 7) (.op (.new (.box (.tmp 3)))) none,
    .act (some 8) (.op (.new (.alloc [(.bool false)]))) none])
  (.seq (.steps [
    .act (some 9) (.op (.pure (.move (.tmp 0)))) none,
    .act (some 10) (.op (.pure (.move (.tmp 1)))) none,
    .act (some 11) (.op (.pure (.mkFunc 49 [] [(.tmp 6), (.tmp 8), (.tmp 7)]))) none,
    .act (some 12) (.call (.func 41) [(.tmp 9), (.const (.int .i64 2)), (.tmp 10), (.tmp 11)]) none])
  (.seq (.steps [
    .act (some 13) (.op (.read (.load1 (.tmp 8)))) none,
    .act none (.op (.eff (.store 1 (.tmp 8) (.tmp 13)))) none])
  .ret))) }
theorem c39 : compFn Try.prog (mkPlan Try.prog) [] true 39 = some L39 := by kernel_rfl
/-- (*sluiceway/mem.Mem).Count -/
def L40 : LFun := { n := 21, pop := true, res := [.tmp 4], code :=
  (.seq (.steps [
    .act (some 4) (.op (.pure (.move (.const (.int .i64 0))))) none])
  (.seq (.seq (.steps [
    .act (some 5) (.op (.pure (.move (.tmp 0)))) none,
    .act (some 6) (.call (.func 44) [(.tmp 5)]) none,
    .act (some 7) (.op (.pure (.move (.tmp 6)))) none,
    .act (some 8) (.op (.pure (.move (.tmp 1)))) (some (7, false)),
    .act (some 9) (.op (.pure (.bin .lss (.tmp 8) (.const (.int .i64 0))))) (some (7, false)),
    .act (some 10) (.op (.pure (.pick (.tmp 7) (.const (.bool true)) (.tmp 9)))) none,
    .act (some 11) (.op (.pure (.move (.tmp 10)))) none,
    .act (some 12) (.op (.pure (.move (.tmp 1)))) (some (11, false)),
    .act (some 13) (.op (.pure (.bin .geq (.tmp 12) (.const (.int .i64 6))))) (some (11, false)),
    .act (some 14) (.op (.pure (.pick (.tmp 11) (.const (.bool true)) (.tmp 13)))) none])
  (.cond (.tmp 14)
   (.seq (.steps [
     .act (some 4) (.op (.pure (.move (.const (.int .i64 0))))) none])
   .ret)
   .skip))
  (.seq (.steps [
    .act (some 15) (.op (.pure (.move (.tmp 0)))) none,
    .act (some 16) (.op (.pure (.move (.tmp 1)))) none,
    .act (some 17) (.op (.pure (.nilCheck (.tmp 15)))) none,
    .act (some 18) (.op (.pure (.fieldAddr 2 (.tmp 17)))) none,
    .act (some 19) (.op (.pure (.idxArr 6 1 (.tmp 18) (.tmp 16)))) none,
    .act (some 20) (.op (.read (.load1 (.tmp 19)))) none,
    .act (some 4) (.op (.pure (.move (.tmp 20)))) none])
  .ret))) }
theorem c40 : compFn Try.prog (mkPlan Try.prog) [] true 40 = some L40 := by kernel_rfl
/-- (*sluiceway/mem.Mem).use -/
def L41 : LFun := { n := 34, pop := true, res := [], code :=
  (.seq (.seq (.steps [
    .act (some 8) (.op (.pure (.move (.tmp 0)))) none,
    .act (some 9) (.call (.func 44) [(.tmp 8)]) none])
  (.cond (.tmp 9)
   .ret
   .skip))
  (.seq (.steps [
    .act (some 10) (.op (.pure (.move (.tmp 0)))) none,
    .act (some 11) (.op (.pure (.move (.tmp 1)))) none,
    .act (some 12) (.op (.pure (.nilCheck (.tmp 10)))) none,
    .act (some 13) (.op (.pure (.fieldAddr 2 (.tmp 12)))) none,
    .act (some 14) (.op (.pure (.idxArr 6 1 (.tmp 13) (.tmp 11)))) none,
    .act (some 15) (.op (.read (.load1 (.tmp 14)))) none,
    .act (some 16) (.op (.pure (.bin .add (.tmp 15) (.const (.int .i64 1))))) none,
    .act (some 17) (.op (.pure (.nilCheck (.tmp 10)))) none,
    .act (some 18) (.op (.pure (.fieldAddr 2 (.tmp 17)))) none,
    .act (some 19) (.op (.pure (.idxArr 6 1 (.tmp 18) (.tmp 11)))) none,
    .act none (.op (.eff (.store 1 (.tmp 19) (.tmp 16)))) none])
  (.seq (.seq (.steps [
    .act (some 20) (.op (.pure (.move (.tmp 0)))) none,
    .act (some 21) (.op (.pure (.move (.tmp 2)))) none,
    .act (some 22) (.call (.func 50) [(.tmp 20), (.tmp 21)]) none])
  (.cond (.tmp 22)
   (.seq (.steps [
     .act (some 23) (.op (.pure (.move (.tmp 0)))) none,
     .act (some 24) (.op (.pure (.move (.tmp 2)))) none,
     .act (some 25) (.call (.func 51) [(.tmp 23), (.tmp 24)]) none])
   .ret)
   .skip))
  (.steps [
    .act (some 26) (.op (.pure (.move (.tmp 3)))) none,
    .act (some 27) (.op (.pure (.move (.tmp 0)))) none,
    .act (some 28) (.op (.pure (.nilCheck (.tmp 27)))) none,
    .act (some 29) (.op (.pure (.fieldAddr 0 (.tmp 28)))) none,
    .act (some 30) (.op (.read (.load1 (.tmp 29)))) none,
    .act (some 31) (.op (.pure (.move (.tmp 2)))) none,
    .act (some 32) (.op (.pure (.idxSl 1 (.tmp 30) (.tmp 31)))) none,
    .act (some 33) (.call (.tmp 26) [(.tmp 32)]) none])))) }
theorem c41 : compFn Try.prog (mkPlan Try.prog) [] true 41 = some L41 := by kernel_rfl
/-- (*sluiceway/mem.Mem).Store$1 -/
def L42 : LFun := { n := 6, pop := true, res := [], code :=
  (.steps [
    .act (some 3) (.op (.pure (.move (.tmp 0)))) none,
    .act (some 4) (.op (.read (.load1 (.tmp 1)))) none,
    .act (some 5) (.op (.pure (.nilCheck (.tmp 3)))) none,
    .act none (.op (.eff (.store 1 (.tmp 5) (.tmp 4)))) none]) }
theorem c42 : compFn Try.prog (mkPlan Try.prog) [] true 42 = some L42 := by kernel_rfl
/-- slices.Clone[[]uint64,uint64] -/
def L43 : LFun := { n := 8, pop := false, res := [.tmp 2], code :=
  (.seq (.steps [
    .act (some 2) (.op (.pure (.move (.const (.slice none 0 0))))) none])
  (.seq (.seq (.steps [
    .act (some 3) (.op (.pure (.move (.tmp 0)))) none,
    .act (some 4) (.op (.pure (.eqNil .s false (.tmp 3) (.const (.slice none 0 0))))) none])
  (.cond (.tmp 4)
   (.seq (.steps [
     .act (some 2) (.op (.pure (.move (.const (.slice none 0 0))))) none])
   .ret)
   .skip))
  (.seq (.steps [
    .act (some 5) (.op (.new (.mkSlice 1 0 [] []))) none,
    .act (some 6) (.op (.pure (.move (.tmp 0)))) none,
    .act (some 7) (.op (.eff (.append 1 8 (.tmp 5) (.tmp 6)))) none,
    .act (some 2) (.op (.pure (.move (.tmp 7)))) none])
  .ret))) }
theorem c43 : compFn Try.prog (mkPlan Try.prog) [] false 43 = some L43 := by kernel_rfl
/-- (*sluiceway/mem.Mem).none -/
def L44 : LFun := { n := 13, pop := true, res := [.tmp 2], code :=
  (.seq (.steps [
    .act (some 2) (.op (.pure (.move (.const (.bool false))))) none])
  (.seq (.steps [
    .act (some 3) (.op (.pure (.move (.tmp 0)))) none,
    .act (some 4) (.op (.pure (.eqNil .p false (.tmp 3) (.const (.pointer none))))) none,
    .act (some 5) (.op (.pure (.move (.tmp 4)))) none,
    .act (some 6) (.op (.pure (.move (.tmp 0)))) (some (5, false)),
    .act (some 7) (.op (.pure (.nilCheck (.tmp 6)))) (some (5, false)),
    .act (some 8) (.op (.pure (.fieldAddr 0 (.tmp 7)))) (some (5, false)),
    .act (some 9) (.op (.read (.load1 (.tmp 8)))) (some (5, false)),
    .act (some 10) (.op (.pure (.len false (.tmp 9)))) (some (5, false)),
    .act (some 11) (.op (.pure (.bin .eql (.tmp 10) (.const (.int .i64 0))))) (some (5, false)),
    .act (some 12) (.op (.pure (.pick (.tmp 5) (.const (.bool true)) (.tmp 11)))) none,
    .act (some 2) (.op (.pure (.move (.tmp 12)))) none])
  .ret)) }
theorem c44 : compFn Try.prog (mkPlan Try.prog) [] true 44 = some L44 := by kernel_rfl
/-- (sluiceway/word.Field).Set -/
def L45 : LFun := { n := 27, pop := true, res := [.tmp 6], code :=
  (.seq (.steps [
    .act (some 3) (.op (.new (.box (.tmp 0)))) none,
    .act (some 6) (.op (.pure (.move (.const (w64 0#64))))) none])
  (.seq (.seq (.steps [
    .act (some 8) (.op (.read (.loadN 2 (.tmp 3)))) none,
    .act (some 9) (.call (.func 46) [(.tmp 8)]) none,
    .act (some 10) (.op (.pure (.not (.tmp 9)))) none])
  (.cond (.tmp 10)
   (.seq (.steps [
     .act (some 11) (.op (.pure (.move (.tmp 1)))) none,
     .act (some 6) (.op (.pure (.move (.tmp 11)))) none])
   .ret)
   .skip))
  (.seq (.steps [
    .act (some 12) (.op (.read (.loadN 2 (.tmp 3)))) none,
    .act (some 14) (.op (.pure (.fieldAddr 0 (.tmp 3)))) none,
    .act (some 15) (.op (.read (.load1 (.tmp 14)))) none,
    .act (some 13) (.call (.func 47) [(.tmp 12)]) none,
    .act (some 16) (.op (.pure (.bin .shl (.tmp 13) (.tmp 15)))) none,
    .act (some 7) (.op (.pure (.move (.tmp 16)))) none,
    .again 15 (.load1 (.tmp 14)) none])
  (.seq (.steps [
    .act (some 17) (.op (.pure (.move (.tmp 1)))) none,
    .act (some 18) (.op (.pure (.move (.tmp 7)))) none,
    .act (some 19) (.op (.pure (.bin .andNot (.tmp 17) (.tmp 18)))) none,
    .act (some 20) (.op (.pure (.move (.tmp 2)))) none,
    .act (some 21) (.op (.pure (.fieldAddr 0 (.tmp 3)))) none,
    .act (some 22) (.op (.read (.load1 (.tmp 21)))) none,
    .act (some 23) (.op (.pure (.bin .shl (.tmp 20) (.tmp 22)))) none,
    .act (some 24) (.op (.pure (.move (.tmp 7)))) none,
    .act (some 25) (.op (.pure (.bin .and (.tmp 23) (.tmp 24)))) none,
    .act (some 26) (.op (.pure (.bin .or (.tmp 19) (.tmp 25)))) none,
    .act (some 6) (.op (.pure (.move (.tmp 26)))) none])
  .ret)))) }
theorem c45 : compFn Try.prog (mkPlan Try.prog) [] true 45 = some L45 := by kernel_rfl
/-- (sluiceway/word.Field).Right -/
def L46 : LFun := { n := 24, pop := true, res := [.tmp 2], code :=
  (.seq (.steps [
    .act (some 1) (.op (.new (.box (.tmp 0)))) none,
    .act (some 2) (.op (.pure (.move (.const (.bool false))))) none])
  (.seq (.steps [
    .act (some 3) (.op (.pure (.fieldAddr 0 (.tmp 1)))) none,
    .act (some 4) (.op (.read (.load1 (.tmp 3)))) none,
    .act (some 5) (.op (.pure (.bin .geq (.tmp 4) (.const (.int .i64 0))))) none,
    .act (some 6) (.op (.pure (.move (.tmp 5)))) none,
    .act (some 7) (.op (.pure (.fieldAddr 1 (.tmp 1)))) (some (6, true)),
    .act (some 8) (.op (.read (.load1 (.tmp 7)))) (some (6, true)),
    .act (some 9) (.op (.pure (.bin .geq (.tmp 8) (.const (.int .i64 1))))) (some (6, true)),
    .act (some 10) (.op (.pure (.pick (.tmp 6) (.tmp 9) (.const (.bool false))))) none,
    .act (some 11) (.op (.pure (.move (.tmp 10)))) none,
    .act (some 12) (.op (.pure (.fieldAddr 0 (.tmp 1)))) (some (11, true)),
    .act (some 13) (.op (.read (.load1 (.tmp 12)))) (some (11, true)),
    .act (some 14) (.op (.pure (.bin .lss (.tmp 13) (.const (.int .i64 64))))) (some (11, true)),
    .act (some 15) (.op (.pure (.pick (.tmp 11) (.tmp 14) (.const (.bool false))))) none,
    .act (some 16) (.op (.pure (.move (.tmp 15)))) none,
    .act (some 17) (.op (.pure (.fieldAddr 1 (.tmp 1)))) (some (16, true)),
    .act (some 18) (.op (.read (.load1 (.tmp 17)))) (some (16, true)),
    .act (some 19) (.op (.pure (.fieldAddr 0 (.tmp 1)))) (some (16, true)),
    .act (some 20) (.op (.read (.load1 (.tmp 19)))) (some (16, true)),
    .act (some 21) (.op (.pure (.bin .sub (.const (.int .i64 64)) (.tmp 20)))) (some (16, true)),
    .act (some 22) (.op (.pure (.bin .leq (.tmp 18) (.tmp 21)))) (some (16, true)),
    .act (some 23) (.op (.pure (.pick (.tmp 16) (.tmp 22) (.const (.bool false))))) none,
    .act (some 2) (.op (.pure (.move (.tmp 23)))) none])
  .ret)) }
theorem c46 : compFn Try.prog (mkPlan Try.prog) [] true 46 = some L46 := by kernel_rfl
/-- (sluiceway/word.Field).Max -/
def L47 : LFun := { n := 9, pop := true, res := [.tmp 2], code :=
  (.seq (.steps [
    .act (some 1) (.op (.new (.box (.tmp 0)))) none,
    .act (some 2) (.op (.pure (.move (.const (w64 0#64))))) none])
  (.seq (.seq (.steps [
    .act (some 3) (.op (.read (.loadN 2 (.tmp 1)))) none,
    .act (some 4) (.call (.func 46) [(.tmp 3)]) none,
    .act (some 5) (.op (.pure (.not (.tmp 4)))) none])
  (.cond (.tmp 5)
   (.seq (.steps [
     .act (some 2) (.op (.pure (.move (.const (w64 0#64))))) none])
   .ret)
   .skip))
  (.seq (.steps [
    .act (some 6) (.op (.pure (.fieldAddr 1 (.tmp 1)))) none,
    .act (some 7) (.op (.read (.load1 (.tmp 6)))) none,
    .act (some 8) (.call (.func 52) [(.tmp 7)]) none,
    .act (some 2) (.op (.pure (.move (.tmp 8)))) none])
  .ret))) }
theorem c47 : compFn Try.prog (mkPlan Try.prog) [] true 47 = some L47 := by kernel_rfl
/-- (*sluiceway/mem.Mem).Load$1 -/
def L48 : LFun := { n := 6, pop := true, res := [], code :=
  (.steps [
    .act (some 3) (.op (.pure (.move (.tmp 0)))) none,
    .act (some 4) (.op (.pure (.nilCheck (.tmp 3)))) none,
    .act (some 5) (.op (.read (.load1 (.tmp 4)))) none,
    .act none (.op (.eff (.store 1 (.tmp 1) (.tmp 5)))) none]) }
theorem c48 : compFn Try.prog (mkPlan Try.prog) [] true 48 = some L48 := by kernel_rfl
/-- (*sluiceway/mem.Mem).Swap$1 -/
def L49 : LFun := { n := 14, pop := true, res := [], code :=
  (.seq (.steps [
    .act (some 5) (.op (.pure (.move (.tmp 0)))) none,
    .act (some 6) (.op (.pure (.nilCheck (.tmp 5)))) none,
    .act (some 7) (.op (.read (.load1 (.tmp 6)))) none,
    .act (some 8) (.op (.read (.load1 (.tmp 1)))) none,
    .act (some 9) (.op (.pure (.bin .eql (.tmp 7) (.tmp 8)))) none,
    .act none (.op (.eff (.store 1 (.tmp 2) (.tmp 9)))) none])
  (.seq (.steps [
    .act (some 10) (.op (.read (.load1 (.tmp 2)))) none])
  (.cond (.tmp 10)
   (.steps [
     .act (some 11) (.op (.pure (.move (.tmp 0)))) none,
     .act (some 12) (.op (.read (.load1 (.tmp 3)))) none,
     .act (some 13) (.op (.pure (.nilCheck (.tmp 11)))) none,
     .act none (.op (.eff (.store 1 (.tmp 13) (.tmp 12)))) none])
   .skip))) }
theorem c49 : compFn Try.prog (mkPlan Try.prog) [] true 49 = some L49 := by kernel_rfl
/-- (*sluiceway/mem.Mem).Barred -/
def L50 : LFun := { n := 22, pop := true, res := [.tmp 4], code :=
  (.seq (.steps [
    .act (some 4) (.op (.pure (.move (.const (.bool false))))) none])
  (.seq (.steps [
    .act (some 5) (.op (.pure (.move (.tmp 1)))) none,
    .act (some 6) (.op (.pure (.bin .lss (.tmp 5) (.const (.int .i64 0))))) none,
    .act (some 7) (.op (.pure (.move (.tmp 6)))) none,
    .act (some 8) (.op (.pure (.move (.tmp 1)))) (some (7, false)),
    .act (some 9) (.op (.pure (.move (.tmp 0)))) (some (7, false)),
    .act (some 10) (.call (.func 38) [(.tmp 9)]) (some (7, false)),
    .act (some 11) (.op (.pure (.bin .geq (.tmp 8) (.tmp 10)))) (some (7, false)),
    .act (some 12) (.op (.pure (.pick (.tmp 7) (.const (.bool true)) (.tmp 11)))) none,
    .act (some 13) (.op (.pure (.move (.tmp 12)))) none,
    .act (some 14) (.op (.pure (.move (.tmp 0)))) (some (13, false)),
    .act (some 15) (.op (.pure (.nilCheck (.tmp 14)))) (some (13, false)),
    .act (some 16) (.op (.pure (.fieldAddr 1 (.tmp 15)))) (some (13, false)),
    .act (some 17) (.op (.read (.load1 (.tmp 16)))) (some (13, false)),
    .act (some 18) (.op (.pure (.move (.tmp 1)))) (some (13, false)),
    .act (some 19) (.op (.pure (.idxSl 1 (.tmp 17) (.tmp 18)))) (some (13, false)),
    .act (some 20) (.op (.read (.load1 (.tmp 19)))) (some (13, false)),
    .act (some 21) (.op (.pure (.pick (.tmp 13) (.const (.bool true)) (.tmp 20)))) none,
    .act (some 4) (.op (.pure (.move (.tmp 21)))) none])
  .ret)) }
theorem c50 : compFn Try.prog (mkPlan Try.prog) [] true 50 = some L50 := by kernel_rfl
/-- (*sluiceway/mem.Mem).fall -/
def L51 : LFun := { n := 16, pop := true, res := [], code :=
  (.seq (.steps [
    .act (some 4) (.op (.pure (.move (.tmp 0)))) none,
    .act (some 5) (.op (.pure (.nilCheck (.tmp 4)))) none,
    .act (some 6) (.op (.pure (.fieldAddr 9 (.tmp 5)))) none,
    .act (some 7) (.op (.read (.load1 (.tmp 6)))) none,
    .act (some 8) (.op (.pure (.not (.tmp 7)))) none])
  (.cond (.tmp 8)
   (.steps [
     .act (some 9) (.op (.pure (.move (.tmp 0)))) none,
     .act (some 10) (.op (.pure (.move (.tmp 0)))) none,
     .act (some 11) (.op (.pure (.move (.tmp 1)))) none,
     .act (some 12) (.op (.pure (.nilCheck (.tmp 9)))) none,
     .act (some 13) (.op (.pure (.fieldAddr 8 (.tmp 12)))) none,
     .act none (.op (.eff (.store 1 (.tmp 13) (.tmp 11)))) none,
     .act (some 14) (.op (.pure (.nilCheck (.tmp 10)))) none,
     .act (some 15) (.op (.pure (.fieldAddr 9 (.tmp 14)))) none,
     .act none (.op (.eff (.store 1 (.tmp 15) (.const (.bool true))))) none])
   .skip)) }
theorem c51 : compFn Try.prog (mkPlan Try.prog) [] true 51 = some L51 := by kernel_rfl
/-- sluiceway/word.ones[uint64] -/
def L52 : LFun := { n := 8, pop := true, res := [.tmp 2], code :=
  (.seq (.steps [
    .act (some 2) (.op (.pure (.move (.const (w64 0#64))))) none])
  (.seq (.steps [
    .act (some 3) (.op (.pure (.conv .u64 (.const (.int .i64 0))))) none,
    .act (some 4) (.op (.pure (.cpl (.tmp 3)))) none,
    .act (some 5) (.op (.pure (.move (.tmp 0)))) none,
    .act (some 6) (.op (.pure (.bin .sub (.const (.int .i64 64)) (.tmp 5)))) none,
    .act (some 7) (.op (.pure (.bin .shr (.tmp 4) (.tmp 6)))) none,
    .act (some 2) (.op (.pure (.move (.tmp 7)))) none])
  .ret)) }
theorem c52 : compFn Try.prog (mkPlan Try.prog) [] true 52 = some L52 := by kernel_rfl
end Go.Proofs.Ytcoejlhlcpkmkaa
