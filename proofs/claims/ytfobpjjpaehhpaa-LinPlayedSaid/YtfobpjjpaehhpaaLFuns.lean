import Derived.Test.YtfobpjjpaehhpaaLP
import Derived.KernelRfl
import Derived.Test.YtfobpjjpaehhpaaProg
namespace Go.Proofs.Ytfobpjjpaehhpaa
open Go Go.LK Go.Proofs
set_option maxRecDepth 100000
/-- sluiceway/sluicewaylaw06.LinFinds -/
def L3 : LFun := { n := 61, pop := true, res := [.tmp 6], code :=
  (.seq (.steps [
    .act (some 6) (.op (.pure (.move (.const (.bool false))))) none])
  (.seq (.steps [
    .act (some 13) (.op (.pure (.move (.tmp 0)))) none,
    .act (some 14) (.call (.func 8) [(.tmp 13), (.const (.int .i64 6))]) none,
    .act (some 0) (.op (.pure (.move (.tmp 14)))) none])
  (.seq (.steps [
    .act (some 15) (.op (.pure (.move (.tmp 0)))) none,
    .act (some 16) (.call (.func 9) [(.tmp 15)]) none,
    .act (some 7) (.op (.pure (.move (.tmp 16)))) none])
  (.seq (.steps [
    .act (some 18) (.op (.pure (.move (.tmp 0)))) none,
    .act (some 19) (.op (.pure (.move (.tmp 1)))) none,
    .act (some 20) (.op (.pure (.move (.tmp 2)))) none,
    .act (some 21) (.call (.func 10) [(.tmp 18), (.tmp 19), (.tmp 20)]) none,
    .act (some 17) (.op (.pure (.move (.tmp 21)))) none,
    .act (some 22) (.op (.pure (.extract (.tmp 17) 0))) none,
    .act (some 23) (.op (.pure (.extract (.tmp 17) 1))) none,
    .act (some 8) (.op (.pure (.move (.tmp 22)))) none,
    .act (some 9) (.op (.pure (.move (.tmp 23)))) none])
  (.seq (.steps [
    .act (some 25) (.op (.pure (.move (.tmp 7)))) none,
    .act (some 26) (.op (.pure (.move (.tmp 0)))) none,
    .act (some 27) (.op (.pure (.len false (.tmp 26)))) none,
    .act (some 28) (.op (.new (.makeSlice 1 1 [(.bool false)] (.tmp 27) (.tmp 27)))) none,
    .act (some 29) (.op (.pure (.move (.tmp 1)))) none,
    .act (some 30) (.op (.pure (.build [(.int .i64 0), (.slice none 0 0)] [(0, 1, (.tmp 29))]))) none,
    .act (some 31) (.op (.pure (.move (.tmp 2)))) none,
    .act (some 32) (.call (.func 11) [(.tmp 25), (.tmp 28), (.tmp 30), (.tmp 31)]) none,
    .act (some 24) (.op (.pure (.move (.tmp 32)))) none,
    .act (some 33) (.op (.pure (.extract (.tmp 24) 0))) none,
    .act (some 34) (.op (.pure (.extract (.tmp 24) 1))) none,
    .act (some 10) (.op (.pure (.move (.tmp 33)))) none,
    .act (some 11) (.op (.pure (.move (.tmp 34)))) none])
  (.seq (.seq (.steps [
    .act (some 35) (.op (.pure (.move (.tmp 9)))) none,
    .act (some 36) (.op (.pure (.move (.tmp 11)))) none,
    .act (some 37) (.op (.pure (.eqB true (.tmp 35) (.tmp 36)))) none,
    .act (some 38) (.op (.pure (.move (.tmp 37)))) none,
    .act (some 39) (.op (.pure (.move (.tmp 8)))) (some (38, false)),
    .act (some 40) (.op (.pure (.len false (.tmp 39)))) (some (38, false)),
    .act (some 41) (.op (.pure (.move (.tmp 10)))) (some (38, false)),
    .act (some 42) (.op (.pure (.len false (.tmp 41)))) (some (38, false)),
    .act (some 43) (.op (.pure (.bin .neq (.tmp 40) (.tmp 42)))) (some (38, false)),
    .act (some 44) (.op (.pure (.pick (.tmp 38) (.const (.bool true)) (.tmp 43)))) none])
  (.cond (.tmp 44)
   (.seq (.steps [
     .act (some 6) (.op (.pure (.move (.const (.bool false))))) none])
   .ret)
   .skip))
  (.seq (.seq (.steps [
    .act (some 12) (.op (.pure (.move (.const (.int .i64 0))))) none])
  (.block 0 (.loop [8, 10, 12] (.seq (.seq (.steps [
      .act (some 45) (.op (.pure (.move (.tmp 12)))) none,
      .act (some 46) (.op (.pure (.move (.tmp 8)))) none,
      .act (some 47) (.op (.pure (.len false (.tmp 46)))) none,
      .act (some 48) (.op (.pure (.bin .lss (.tmp 45) (.tmp 47)))) none])
    (.cond (.tmp 48)
     .skip
     (.exit 0)))
    (.seq (.block 1 (.seq (.steps [
       .act (some 51) (.op (.pure (.move (.tmp 8)))) none,
       .act (some 52) (.op (.pure (.move (.tmp 12)))) none,
       .act (some 53) (.op (.pure (.idxSl 1 (.tmp 51) (.tmp 52)))) none,
       .act (some 54) (.op (.read (.load1 (.tmp 53)))) none,
       .act (some 55) (.op (.pure (.move (.tmp 10)))) none,
       .act (some 56) (.op (.pure (.move (.tmp 12)))) none,
       .act (some 57) (.op (.pure (.idxSl 1 (.tmp 55) (.tmp 56)))) none,
       .act (some 58) (.op (.read (.load1 (.tmp 57)))) none,
       .act (some 59) (.op (.pure (.bin .neq (.tmp 54) (.tmp 58)))) none])
     (.cond (.tmp 59)
      (.seq (.steps [
        .act (some 6) (.op (.pure (.move (.const (.bool false))))) none])
      .ret)
      .skip)))
    (.steps [
      .act (some 49) (.op (.pure (.move (.tmp 12)))) none,
      .act (some 50) (.op (.pure (.bin .add (.tmp 49) (.const (.int .i64 1))))) none,
      .act (some 12) (.op (.pure (.move (.tmp 50)))) none]))))))
  (.seq (.steps [
    .act (some 60) (.call (.func 12) []) none,
    .act (some 6) (.op (.pure (.move (.tmp 60)))) none])
  .ret)))))))) }
theorem c3 : compFn Try.prog (mkPlan Try.prog) [(8, [8, 10, 12])] true 3 = some L3 := by kernel_rfl
/-- sluiceway/sluicewaylaw06.LinPrefix -/
def L4 : LFun := { n := 70, pop := true, res := [.tmp 6], code :=
  (.seq (.steps [
    .act (some 6) (.op (.pure (.move (.const (.bool false))))) none])
  (.seq (.steps [
    .act (some 14) (.op (.pure (.move (.tmp 0)))) none,
    .act (some 15) (.call (.func 8) [(.tmp 14), (.const (.int .i64 7))]) none,
    .act (some 0) (.op (.pure (.move (.tmp 15)))) none])
  (.seq (.steps [
    .act (some 17) (.op (.pure (.move (.tmp 0)))) none,
    .act (some 18) (.op (.pure (.move (.tmp 1)))) none,
    .act (some 19) (.call (.func 10) [(.tmp 17), (.tmp 18), (.const (.int .i64 0))]) none,
    .act (some 16) (.op (.pure (.move (.tmp 19)))) none,
    .act (some 20) (.op (.pure (.extract (.tmp 16) 0))) none,
    .act (some 21) (.op (.pure (.extract (.tmp 16) 1))) none,
    .act (some 7) (.op (.pure (.move (.tmp 20)))) none,
    .act (some 8) (.op (.pure (.move (.tmp 21)))) none])
  (.seq (.seq (.steps [
    .act (some 22) (.op (.pure (.move (.tmp 8)))) none,
    .act (some 23) (.op (.pure (.not (.tmp 22)))) none])
  (.cond (.tmp 23)
   (.seq (.steps [
     .act (some 24) (.call (.func 12) []) none,
     .act (some 6) (.op (.pure (.move (.tmp 24)))) none])
   .ret)
   .skip))
  (.seq (.steps [
    .act (some 9) (.op (.pure (.move (.const (.slice none 0 0))))) none])
  (.seq (.seq (.steps [
    .act (some 10) (.op (.pure (.move (.const (.int .i64 0))))) none])
  (.block 0 (.loop [0, 1, 2, 9, 10] (.seq (.seq (.steps [
      .act (some 25) (.op (.pure (.move (.tmp 10)))) none,
      .act (some 26) (.op (.pure (.move (.tmp 0)))) none,
      .act (some 27) (.op (.pure (.len false (.tmp 26)))) none,
      .act (some 28) (.op (.pure (.bin .lss (.tmp 25) (.tmp 27)))) none])
    (.cond (.tmp 28)
     .skip
     (.exit 0)))
    (.seq (.block 1 (.seq (.steps [
       .act (some 31) (.op (.pure (.move (.tmp 0)))) none,
       .act (some 32) (.op (.pure (.move (.tmp 10)))) none,
       .act (some 33) (.op (.pure (.idxSl 8 (.tmp 31) (.tmp 32)))) none,
       .act (some 34) (.op (.read (.loadN 8 (.tmp 33)))) none,
       .act (some 11) (.op (.new (.alloc [(.int .i64 0), (.int .i64 0), (w64 0#64), (.int .i64 0), (.int .i64 0), (.bool false), (.int .i64 0), (w64 0#64)]))) none,
       .act none (.op (.eff (.store 8 (.tmp 11) (.tmp 34)))) none])
     (.seq (.seq (.steps [
       .act (some 35) (.op (.pure (.fieldAddr 3 (.tmp 11)))) none,
       .act (some 36) (.op (.read (.load1 (.tmp 35)))) none,
       .act (some 37) (.op (.pure (.move (.tmp 2)))) none,
       .act (some 38) (.op (.pure (.bin .geq (.tmp 36) (.tmp 37)))) none])
     (.cond (.tmp 38)
      (.exit 1)
      .skip))
     (.seq (.seq (.steps [
       .act (some 39) (.op (.pure (.fieldAddr 5 (.tmp 11)))) none,
       .act (some 40) (.op (.read (.load1 (.tmp 39)))) none,
       .act (some 41) (.op (.pure (.move (.tmp 40)))) none,
       .act (some 42) (.op (.pure (.fieldAddr 4 (.tmp 11)))) (some (41, true)),
       .act (some 43) (.op (.read (.load1 (.tmp 42)))) (some (41, true)),
       .act (some 44) (.op (.pure (.move (.tmp 2)))) (some (41, true)),
       .act (some 45) (.op (.pure (.bin .geq (.tmp 43) (.tmp 44)))) (some (41, true)),
       .act (some 46) (.op (.pure (.pick (.tmp 41) (.tmp 45) (.const (.bool false))))) none])
     (.cond (.tmp 46)
      (.steps [
        .act (some 47) (.op (.pure (.fieldAddr 0 (.tmp 11)))) none,
        .act (some 48) (.op (.read (.load1 (.tmp 47)))) none,
        .act (some 49) (.op (.pure (.fieldAddr 1 (.tmp 11)))) none,
        .act (some 50) (.op (.read (.load1 (.tmp 49)))) none,
        .act (some 51) (.op (.pure (.fieldAddr 2 (.tmp 11)))) none,
        .act (some 52) (.op (.read (.load1 (.tmp 51)))) none,
        .act (some 53) (.op (.pure (.fieldAddr 3 (.tmp 11)))) none,
        .act (some 54) (.op (.read (.load1 (.tmp 53)))) none,
        .act (some 55) (.op (.pure (.build [(.int .i64 0), (.int .i64 0), (w64 0#64), (.int .i64 0), (.int .i64 0), (.bool false), (.int .i64 0), (w64 0#64)] [(0, 1, (.tmp 48)), (1, 1, (.tmp 50)), (2, 1, (.tmp 52)), (3, 1, (.tmp 54))]))) none,
        .act none (.op (.eff (.store 8 (.tmp 11) (.tmp 55)))) none])
      .skip))
     (.steps [
       .act (some 56) (.op (.pure (.move (.tmp 9)))) none,
       .act (some 57) (.op (.read (.loadN 8 (.tmp 11)))) none,
       .act (some 58) (.op (.new (.mkSlice 8 1 [(.int .i64 0), (.int .i64 0), (w64 0#64), (.int .i64 0), (.int .i64 0), (.bool false), (.int .i64 0), (w64 0#64)] [(0, 8, (.tmp 57))]))) none,
       .act (some 59) (.op (.eff (.append 8 64 (.tmp 56) (.tmp 58)))) none,
       .act (some 9) (.op (.pure (.move (.tmp 59)))) none])))))
    (.steps [
      .act (some 29) (.op (.pure (.move (.tmp 10)))) none,
      .act (some 30) (.op (.pure (.bin .add (.tmp 29) (.const (.int .i64 1))))) none,
      .act (some 10) (.op (.pure (.move (.tmp 30)))) none]))))))
  (.seq (.steps [
    .act (some 61) (.op (.pure (.move (.tmp 9)))) none,
    .act (some 62) (.op (.pure (.move (.tmp 1)))) none,
    .act (some 63) (.call (.func 10) [(.tmp 61), (.tmp 62), (.const (.int .i64 0))]) none,
    .act (some 60) (.op (.pure (.move (.tmp 63)))) none,
    .act (some 64) (.op (.pure (.extract (.tmp 60) 0))) none,
    .act (some 65) (.op (.pure (.extract (.tmp 60) 1))) none,
    .act (some 12) (.op (.pure (.move (.tmp 64)))) none,
    .act (some 13) (.op (.pure (.move (.tmp 65)))) none])
  (.seq (.steps [
    .act (some 66) (.op (.pure (.move (.tmp 13)))) none,
    .act (some 67) (.op (.pure (.move (.tmp 66)))) none,
    .act (some 68) (.call (.func 12) []) (some (67, true)),
    .act (some 69) (.op (.pure (.pick (.tmp 67) (.tmp 68) (.const (.bool false))))) none,
    .act (some 6) (.op (.pure (.move (.tmp 69)))) none])
  .ret)))))))) }
theorem c4 : compFn Try.prog (mkPlan Try.prog) [(7, [0, 1, 2, 9, 10])] true 4 = some L4 := by kernel_rfl
/-- sluiceway/sluicewaylaw06.LinModes -/
def L5 : LFun := { n := 43, pop := true, res := [.tmp 4], code :=
  (.seq (.steps [
    .act (some 4) (.op (.pure (.move (.const (.bool false))))) none])
  (.seq (.steps [
    .act (some 10) (.op (.pure (.move (.tmp 0)))) none,
    .act (some 11) (.call (.func 8) [(.tmp 10), (.const (.int .i64 7))]) none,
    .act (some 0) (.op (.pure (.move (.tmp 11)))) none])
  (.seq (.steps [
    .act (some 13) (.op (.pure (.move (.tmp 0)))) none,
    .act (some 14) (.op (.pure (.move (.tmp 1)))) none,
    .act (some 15) (.call (.func 10) [(.tmp 13), (.tmp 14), (.const (.int .i64 0))]) none,
    .act (some 12) (.op (.pure (.move (.tmp 15)))) none,
    .act (some 16) (.op (.pure (.extract (.tmp 12) 0))) none,
    .act (some 17) (.op (.pure (.extract (.tmp 12) 1))) none,
    .act (some 5) (.op (.pure (.move (.tmp 16)))) none,
    .act (some 6) (.op (.pure (.move (.tmp 17)))) none])
  (.seq (.seq (.steps [
    .act (some 7) (.op (.pure (.move (.const (.int .i64 0))))) none])
  (.block 0 (.loop [0, 1, 5, 6, 7] (.seq (.seq (.steps [
      .act (some 18) (.op (.pure (.move (.tmp 7)))) none,
      .act (some 19) (.op (.pure (.bin .lss (.tmp 18) (.const (.int .i64 3))))) none])
    (.cond (.tmp 19)
     .skip
     (.exit 0)))
    (.seq (.block 1 (.seq (.steps [
       .act (some 23) (.op (.pure (.move (.tmp 0)))) none,
       .act (some 24) (.op (.pure (.move (.tmp 1)))) none,
       .act (some 25) (.op (.pure (.move (.tmp 7)))) none,
       .act (some 26) (.call (.func 10) [(.tmp 23), (.tmp 24), (.tmp 25)]) none,
       .act (some 22) (.op (.pure (.move (.tmp 26)))) none,
       .act (some 27) (.op (.pure (.extract (.tmp 22) 0))) none,
       .act (some 28) (.op (.pure (.extract (.tmp 22) 1))) none,
       .act (some 8) (.op (.pure (.move (.tmp 27)))) none,
       .act (some 9) (.op (.pure (.move (.tmp 28)))) none])
     (.seq (.steps [
       .act (some 29) (.op (.pure (.move (.tmp 6)))) none,
       .act (some 30) (.op (.pure (.move (.tmp 29)))) none,
       .act (some 31) (.op (.pure (.move (.tmp 9)))) (some (30, true)),
       .act (some 32) (.op (.pure (.not (.tmp 31)))) (some (30, true)),
       .act (some 33) (.op (.pure (.move (.tmp 32)))) (some (30, true)),
       .act (some 34) (.op (.pure (.move (.tmp 0)))) (some (33, false)),
       .act (some 35) (.op (.pure (.move (.tmp 5)))) (some (33, false)),
       .act (some 36) (.op (.pure (.move (.tmp 1)))) (some (33, false)),
       .act (some 37) (.op (.pure (.move (.tmp 7)))) (some (33, false)),
       .act (some 38) (.call (.func 13) [(.tmp 34), (.tmp 35), (.tmp 36), (.tmp 37)]) (some (33, false)),
       .act (some 39) (.op (.pure (.not (.tmp 38)))) (some (33, false)),
       .act (some 40) (.op (.pure (.pick (.tmp 33) (.const (.bool true)) (.tmp 39)))) (some (30, true)),
       .act (some 41) (.op (.pure (.pick (.tmp 30) (.tmp 40) (.const (.bool false))))) none])
     (.cond (.tmp 41)
      (.seq (.steps [
        .act (some 4) (.op (.pure (.move (.const (.bool false))))) none])
      .ret)
      .skip))))
    (.steps [
      .act (some 20) (.op (.pure (.move (.tmp 7)))) none,
      .act (some 21) (.op (.pure (.bin .add (.tmp 20) (.const (.int .i64 1))))) none,
      .act (some 7) (.op (.pure (.move (.tmp 21)))) none]))))))
  (.seq (.steps [
    .act (some 42) (.call (.func 12) []) none,
    .act (some 4) (.op (.pure (.move (.tmp 42)))) none])
  .ret))))) }
theorem c5 : compFn Try.prog (mkPlan Try.prog) [(4, [0, 1, 5, 6, 7])] true 5 = some L5 := by kernel_rfl
/-- sluiceway/sluicewaylaw06.LinSearch -/
def L6 : LFun := { n := 56, pop := true, res := [.tmp 4], code :=
  (.seq (.steps [
    .act (some 2) (.op (.new (.box (.tmp 0)))) none,
    .act (some 4) (.op (.pure (.move (.const (.bool false))))) none])
  (.seq (.steps [
    .act (some 12) (.op (.read (.load1 (.tmp 2)))) none,
    .act (some 13) (.call (.func 8) [(.tmp 12), (.const (.int .i64 6))]) none,
    .act none (.op (.eff (.store 1 (.tmp 2) (.tmp 13)))) none])
  (.seq (.steps [
    .act (some 14) (.op (.pure (.mkFunc 14 [] [(.tmp 2)]))) none,
    .act (some 5) (.op (.pure (.move (.tmp 14)))) none])
  (.seq (.steps [
    .act (some 6) (.op (.pure (.move (.func 16)))) none])
  (.seq (.steps [
    .act (some 16) (.op (.read (.load1 (.tmp 2)))) none,
    .act (some 17) (.op (.pure (.move (.tmp 1)))) none,
    .act (some 18) (.op (.pure (.build [(.int .i64 0), (.slice none 0 0)] [(0, 1, (.tmp 17))]))) none,
    .act (some 19) (.op (.pure (.move (.tmp 5)))) none,
    .act (some 20) (.op (.pure (.move (.tmp 6)))) none,
    .act (some 21) (.call (.func 18) [(.tmp 16), (.tmp 18), (.tmp 19), (.tmp 20)]) none,
    .act (some 15) (.op (.pure (.move (.tmp 21)))) none,
    .act (some 22) (.op (.pure (.extract (.tmp 15) 0))) none,
    .act (some 23) (.op (.pure (.extract (.tmp 15) 1))) none,
    .act (some 7) (.op (.pure (.move (.tmp 22)))) none,
    .act (some 8) (.op (.pure (.move (.tmp 23)))) none])
  (.seq (.steps [
    .act (some 25) (.op (.read (.load1 (.tmp 2)))) none,
    .act (some 26) (.op (.pure (.move (.tmp 1)))) none,
    .act (some 27) (.call (.func 10) [(.tmp 25), (.tmp 26), (.const (.int .i64 0))]) none,
    .act (some 24) (.op (.pure (.move (.tmp 27)))) none,
    .act (some 28) (.op (.pure (.extract (.tmp 24) 0))) none,
    .act (some 29) (.op (.pure (.extract (.tmp 24) 1))) none,
    .act (some 9) (.op (.pure (.move (.tmp 28)))) none,
    .act (some 10) (.op (.pure (.move (.tmp 29)))) none])
  (.seq (.seq (.steps [
    .act (some 30) (.op (.pure (.move (.tmp 8)))) none,
    .act (some 31) (.op (.pure (.move (.tmp 10)))) none,
    .act (some 32) (.op (.pure (.eqB true (.tmp 30) (.tmp 31)))) none,
    .act (some 33) (.op (.pure (.move (.tmp 32)))) none,
    .act (some 34) (.op (.pure (.move (.tmp 7)))) (some (33, false)),
    .act (some 35) (.op (.pure (.len false (.tmp 34)))) (some (33, false)),
    .act (some 36) (.op (.pure (.move (.tmp 9)))) (some (33, false)),
    .act (some 37) (.op (.pure (.len false (.tmp 36)))) (some (33, false)),
    .act (some 38) (.op (.pure (.bin .neq (.tmp 35) (.tmp 37)))) (some (33, false)),
    .act (some 39) (.op (.pure (.pick (.tmp 33) (.const (.bool true)) (.tmp 38)))) none])
  (.cond (.tmp 39)
   (.seq (.steps [
     .act (some 4) (.op (.pure (.move (.const (.bool false))))) none])
   .ret)
   .skip))
  (.seq (.seq (.steps [
    .act (some 11) (.op (.pure (.move (.const (.int .i64 0))))) none])
  (.block 0 (.loop [7, 9, 11] (.seq (.seq (.steps [
      .act (some 40) (.op (.pure (.move (.tmp 11)))) none,
      .act (some 41) (.op (.pure (.move (.tmp 7)))) none,
      .act (some 42) (.op (.pure (.len false (.tmp 41)))) none,
      .act (some 43) (.op (.pure (.bin .lss (.tmp 40) (.tmp 42)))) none])
    (.cond (.tmp 43)
     .skip
     (.exit 0)))
    (.seq (.block 1 (.seq (.steps [
       .act (some 46) (.op (.pure (.move (.tmp 7)))) none,
       .act (some 47) (.op (.pure (.move (.tmp 11)))) none,
       .act (some 48) (.op (.pure (.idxSl 1 (.tmp 46) (.tmp 47)))) none,
       .act (some 49) (.op (.read (.load1 (.tmp 48)))) none,
       .act (some 50) (.op (.pure (.move (.tmp 9)))) none,
       .act (some 51) (.op (.pure (.move (.tmp 11)))) none,
       .act (some 52) (.op (.pure (.idxSl 1 (.tmp 50) (.tmp 51)))) none,
       .act (some 53) (.op (.read (.load1 (.tmp 52)))) none,
       .act (some 54) (.op (.pure (.bin .neq (.tmp 49) (.tmp 53)))) none])
     (.cond (.tmp 54)
      (.seq (.steps [
        .act (some 4) (.op (.pure (.move (.const (.bool false))))) none])
      .ret)
      .skip)))
    (.steps [
      .act (some 44) (.op (.pure (.move (.tmp 11)))) none,
      .act (some 45) (.op (.pure (.bin .add (.tmp 44) (.const (.int .i64 1))))) none,
      .act (some 11) (.op (.pure (.move (.tmp 45)))) none]))))))
  (.seq (.steps [
    .act (some 55) (.call (.func 12) []) none,
    .act (some 4) (.op (.pure (.move (.tmp 55)))) none])
  .ret))))))))) }
theorem c6 : compFn Try.prog (mkPlan Try.prog) [(9, [7, 9, 11])] true 6 = some L6 := by kernel_rfl
/-- sluiceway/sluicewaylaw06.LinPlayed -/
def L7 : LFun := { n := 144, pop := true, res := [.tmp 6], code :=
  (.seq (.steps [
    .act (some 6) (.op (.pure (.move (.const (.bool false))))) none])
  (.seq (.steps [
    .act (some 16) (.op (.pure (.move (.tmp 0)))) none,
    .act (some 17) (.op (.pure (.bin .and (.tmp 16) (.const (.int .i64 7))))) none,
    .act (some 0) (.op (.pure (.move (.tmp 17)))) none])
  (.seq (.steps [
    .act (some 18) (.op (.pure (.move (.tmp 0)))) none,
    .act (some 19) (.op (.pure (.move (.tmp 1)))) none,
    .act (some 20) (.call (.func 19) [(.tmp 18), (.tmp 19)]) none,
    .act (some 7) (.op (.pure (.move (.tmp 20)))) none])
  (.seq (.steps [
    .act (some 22) (.op (.pure (.move (.tmp 7)))) none,
    .act (some 23) (.op (.pure (.move (.tmp 0)))) none,
    .act (some 24) (.call (.func 10) [(.tmp 22), (.tmp 23), (.const (.int .i64 0))]) none,
    .act (some 21) (.op (.pure (.move (.tmp 24)))) none,
    .act (some 25) (.op (.pure (.extract (.tmp 21) 0))) none,
    .act (some 26) (.op (.pure (.extract (.tmp 21) 1))) none,
    .act (some 8) (.op (.pure (.move (.tmp 25)))) none,
    .act (some 9) (.op (.pure (.move (.tmp 26)))) none])
  (.seq (.seq (.steps [
    .act (some 27) (.op (.pure (.move (.tmp 9)))) none,
    .act (some 28) (.op (.pure (.not (.tmp 27)))) none,
    .act (some 29) (.op (.pure (.move (.tmp 28)))) none,
    .act (some 30) (.op (.pure (.move (.tmp 8)))) (some (29, false)),
    .act (some 31) (.op (.pure (.len false (.tmp 30)))) (some (29, false)),
    .act (some 32) (.op (.pure (.move (.tmp 7)))) (some (29, false)),
    .act (some 33) (.op (.pure (.len false (.tmp 32)))) (some (29, false)),
    .act (some 34) (.op (.pure (.bin .neq (.tmp 31) (.tmp 33)))) (some (29, false)),
    .act (some 35) (.op (.pure (.pick (.tmp 29) (.const (.bool true)) (.tmp 34)))) none,
    .act (some 36) (.op (.pure (.move (.tmp 35)))) none,
    .act (some 37) (.op (.pure (.move (.tmp 7)))) (some (36, false)),
    .act (some 38) (.op (.pure (.move (.tmp 8)))) (some (36, false)),
    .act (some 39) (.op (.pure (.move (.tmp 0)))) (some (36, false)),
    .act (some 40) (.call (.func 13) [(.tmp 37), (.tmp 38), (.tmp 39), (.const (.int .i64 0))]) (some (36, false)),
    .act (some 41) (.op (.pure (.not (.tmp 40)))) (some (36, false)),
    .act (some 42) (.op (.pure (.pick (.tmp 36) (.const (.bool true)) (.tmp 41)))) none])
  (.cond (.tmp 42)
   (.seq (.steps [
     .act (some 6) (.op (.pure (.move (.const (.bool false))))) none])
   .ret)
   .skip))
  (.seq (.seq (.steps [
    .act (some 10) (.op (.pure (.move (.const (.int .i64 0))))) none])
  (.block 0 (.loop [0, 2, 7, 8, 10] (.seq (.seq (.steps [
      .act (some 43) (.op (.pure (.move (.tmp 10)))) none,
      .act (some 44) (.op (.pure (.move (.tmp 8)))) none,
      .act (some 45) (.op (.pure (.len false (.tmp 44)))) none,
      .act (some 46) (.op (.pure (.bin .lss (.tmp 43) (.tmp 45)))) none])
    (.cond (.tmp 46)
     .skip
     (.exit 0)))
    (.seq (.block 1 (.seq (.steps [
       .act (some 49) (.op (.pure (.move (.tmp 8)))) none,
       .act (some 50) (.op (.pure (.move (.tmp 10)))) none,
       .act (some 51) (.op (.pure (.idxSl 1 (.tmp 49) (.tmp 50)))) none,
       .act (some 52) (.op (.read (.load1 (.tmp 51)))) none,
       .act (some 53) (.op (.pure (.move (.tmp 10)))) none,
       .act (some 54) (.op (.pure (.bin .neq (.tmp 52) (.tmp 53)))) none])
     (.cond (.tmp 54)
      (.seq (.steps [
        .act (some 6) (.op (.pure (.move (.const (.bool false))))) none])
      .ret)
      .skip)))
    (.steps [
      .act (some 47) (.op (.pure (.move (.tmp 10)))) none,
      .act (some 48) (.op (.pure (.bin .add (.tmp 47) (.const (.int .i64 1))))) none,
      .act (some 10) (.op (.pure (.move (.tmp 48)))) none]))))))
  (.seq (.seq (.steps [
    .act (some 55) (.op (.pure (.move (.tmp 7)))) none,
    .act (some 56) (.op (.pure (.len false (.tmp 55)))) none,
    .act (some 57) (.op (.pure (.bin .eql (.tmp 56) (.const (.int .i64 0))))) none])
  (.cond (.tmp 57)
   (.seq (.steps [
     .act (some 58) (.call (.func 12) []) none,
     .act (some 6) (.op (.pure (.move (.tmp 58)))) none])
   .ret)
   .skip))
  (.seq (.steps [
    .act (some 59) (.op (.pure (.move (.tmp 2)))) none,
    .act (some 60) (.op (.pure (.move (.tmp 7)))) none,
    .act (some 61) (.op (.pure (.len false (.tmp 60)))) none,
    .act (some 62) (.op (.pure (.bin .rem (.tmp 59) (.tmp 61)))) none,
    .act (some 63) (.op (.pure (.move (.tmp 7)))) none,
    .act (some 64) (.op (.pure (.len false (.tmp 63)))) none,
    .act (some 65) (.op (.pure (.bin .add (.tmp 62) (.tmp 64)))) none,
    .act (some 66) (.op (.pure (.move (.tmp 7)))) none,
    .act (some 67) (.op (.pure (.len false (.tmp 66)))) none,
    .act (some 68) (.op (.pure (.bin .rem (.tmp 65) (.tmp 67)))) none,
    .act (some 11) (.op (.pure (.move (.tmp 68)))) none])
  (.seq (.steps [
    .act (some 69) (.op (.new (.mkSlice 8 0 [] []))) none,
    .act (some 70) (.op (.pure (.move (.tmp 7)))) none,
    .act (some 71) (.op (.eff (.append 8 64 (.tmp 69) (.tmp 70)))) none,
    .act (some 12) (.op (.pure (.move (.tmp 71)))) none])
  (.seq (.seq (.steps [
    .act (some 72) (.op (.pure (.move (.tmp 12)))) none,
    .act (some 73) (.op (.pure (.move (.tmp 11)))) none,
    .act (some 74) (.op (.pure (.idxSl 8 (.tmp 72) (.tmp 73)))) none,
    .act (some 75) (.op (.pure (.fieldAddr 1 (.tmp 74)))) none,
    .act (some 76) (.op (.read (.load1 (.tmp 75)))) none,
    .act (some 77) (.op (.pure (.bin .eql (.tmp 76) (.const (.int .i64 1))))) none,
    .act (some 78) (.op (.pure (.move (.tmp 77)))) none,
    .act (some 79) (.op (.pure (.move (.tmp 12)))) (some (78, true)),
    .act (some 80) (.op (.pure (.move (.tmp 11)))) (some (78, true)),
    .act (some 81) (.op (.pure (.idxSl 8 (.tmp 79) (.tmp 80)))) (some (78, true)),
    .act (some 82) (.op (.pure (.fieldAddr 6 (.tmp 81)))) (some (78, true)),
    .act (some 83) (.op (.read (.load1 (.tmp 82)))) (some (78, true)),
    .act (some 84) (.op (.pure (.bin .eql (.tmp 83) (.const (.int .i64 0))))) (some (78, true)),
    .act (some 85) (.op (.pure (.pick (.tmp 78) (.tmp 84) (.const (.bool false))))) none])
  (.cond (.tmp 85)
   (.seq (.steps [
     .act (some 86) (.op (.pure (.move (.tmp 12)))) none,
     .act (some 87) (.op (.pure (.move (.tmp 11)))) none,
     .act (some 88) (.op (.pure (.move (.tmp 12)))) none,
     .act (some 89) (.op (.pure (.move (.tmp 11)))) none,
     .act (some 90) (.op (.pure (.idxSl 8 (.tmp 88) (.tmp 89)))) none,
     .act (some 91) (.op (.pure (.fieldAddr 7 (.tmp 90)))) none,
     .act (some 92) (.op (.read (.load1 (.tmp 91)))) none,
     .act (some 93) (.op (.pure (.bin .xor (.tmp 92) (.const (w64 2#64))))) none,
     .act (some 94) (.op (.pure (.idxSl 8 (.tmp 86) (.tmp 87)))) none,
     .act (some 95) (.op (.pure (.fieldAddr 7 (.tmp 94)))) none,
     .act none (.op (.eff (.store 1 (.tmp 95) (.tmp 93)))) none])
   (.seq (.steps [
     .act (some 96) (.op (.pure (.move (.tmp 12)))) none,
     .act (some 97) (.op (.pure (.move (.tmp 8)))) none,
     .act (some 98) (.op (.pure (.move (.tmp 0)))) none,
     .act (some 99) (.call (.func 13) [(.tmp 96), (.tmp 97), (.tmp 98), (.const (.int .i64 0))]) none])
   (.cond (.tmp 99)
    (.seq (.steps [
      .act (some 6) (.op (.pure (.move (.const (.bool false))))) none])
    .ret)
    .skip)))
   .skip))
  (.seq (.steps [
    .act (some 100) (.op (.new (.mkSlice 8 0 [] []))) none,
    .act (some 101) (.op (.pure (.move (.tmp 7)))) none,
    .act (some 102) (.op (.eff (.append 8 64 (.tmp 100) (.tmp 101)))) none,
    .act (some 13) (.op (.pure (.move (.tmp 102)))) none])
  (.seq (.steps [
    .act (some 103) (.op (.pure (.move (.tmp 13)))) none,
    .act (some 104) (.op (.pure (.move (.tmp 11)))) none,
    .act (some 105) (.op (.pure (.idxSl 8 (.tmp 103) (.tmp 104)))) none,
    .act (some 106) (.op (.pure (.fieldAddr 0 (.tmp 105)))) none,
    .act none (.op (.eff (.store 1 (.tmp 106) (.const (.int .i64 60))))) none])
  (.seq (.steps [
    .act (some 107) (.op (.pure (.move (.tmp 13)))) none,
    .act (some 108) (.op (.pure (.move (.tmp 11)))) none,
    .act (some 109) (.op (.pure (.move (.tmp 13)))) none,
    .act (some 110) (.op (.pure (.move (.tmp 11)))) none,
    .act (some 111) (.op (.pure (.idxSl 8 (.tmp 109) (.tmp 110)))) none,
    .act (some 112) (.op (.pure (.fieldAddr 3 (.tmp 111)))) none,
    .act (some 113) (.op (.read (.load1 (.tmp 112)))) none,
    .act (some 114) (.op (.pure (.bin .sub (.tmp 113) (.const (.int .i64 3))))) none,
    .act (some 115) (.op (.pure (.minmax true [(.const (.int .i64 0)), (.tmp 114)]))) none,
    .act (some 116) (.op (.pure (.idxSl 8 (.tmp 107) (.tmp 108)))) none,
    .act (some 117) (.op (.pure (.fieldAddr 3 (.tmp 116)))) none,
    .act none (.op (.eff (.store 1 (.tmp 117) (.tmp 115)))) none])
  (.seq (.steps [
    .act (some 118) (.op (.pure (.move (.tmp 13)))) none,
    .act (some 119) (.op (.pure (.move (.tmp 11)))) none,
    .act (some 120) (.op (.pure (.move (.tmp 13)))) none,
    .act (some 121) (.op (.pure (.move (.tmp 11)))) none,
    .act (some 122) (.op (.pure (.idxSl 8 (.tmp 120) (.tmp 121)))) none,
    .act (some 123) (.op (.pure (.fieldAddr 4 (.tmp 122)))) none,
    .act (some 124) (.op (.read (.load1 (.tmp 123)))) none,
    .act (some 125) (.op (.pure (.bin .add (.tmp 124) (.const (.int .i64 4))))) none,
    .act (some 126) (.op (.pure (.idxSl 8 (.tmp 118) (.tmp 119)))) none,
    .act (some 127) (.op (.pure (.fieldAddr 4 (.tmp 126)))) none,
    .act none (.op (.eff (.store 1 (.tmp 127) (.tmp 125)))) none])
  (.seq (.steps [
    .act (some 129) (.op (.pure (.move (.tmp 13)))) none,
    .act (some 130) (.op (.pure (.move (.tmp 0)))) none,
    .act (some 131) (.call (.func 10) [(.tmp 129), (.tmp 130), (.const (.int .i64 0))]) none,
    .act (some 128) (.op (.pure (.move (.tmp 131)))) none,
    .act (some 132) (.op (.pure (.extract (.tmp 128) 0))) none,
    .act (some 133) (.op (.pure (.extract (.tmp 128) 1))) none,
    .act (some 14) (.op (.pure (.move (.tmp 132)))) none,
    .act (some 15) (.op (.pure (.move (.tmp 133)))) none])
  (.seq (.steps [
    .act (some 134) (.op (.pure (.move (.tmp 15)))) none,
    .act (some 135) (.op (.pure (.move (.tmp 134)))) none,
    .act (some 136) (.op (.pure (.move (.tmp 13)))) (some (135, true)),
    .act (some 137) (.op (.pure (.move (.tmp 14)))) (some (135, true)),
    .act (some 138) (.op (.pure (.move (.tmp 0)))) (some (135, true)),
    .act (some 139) (.call (.func 13) [(.tmp 136), (.tmp 137), (.tmp 138), (.const (.int .i64 0))]) (some (135, true)),
    .act (some 140) (.op (.pure (.pick (.tmp 135) (.tmp 139) (.const (.bool false))))) none,
    .act (some 141) (.op (.pure (.move (.tmp 140)))) none,
    .act (some 142) (.call (.func 12) []) (some (141, true)),
    .act (some 143) (.op (.pure (.pick (.tmp 141) (.tmp 142) (.const (.bool false))))) none,
    .act (some 6) (.op (.pure (.move (.tmp 143)))) none])
  .ret)))))))))))))))) }
theorem c7 : compFn Try.prog (mkPlan Try.prog) [(7, [0, 2, 7, 8, 10])] true 7 = some L7 := by kernel_rfl
/-- sluiceway/sluicewaylaw06.Few -/
def L8 : LFun := { n := 34, pop := false, res := [.tmp 4], code :=
  (.seq (.steps [
    .act (some 4) (.op (.pure (.move (.const (.slice none 0 0))))) none])
  (.seq (.steps [
    .act (some 5) (.op (.pure (.move (.const (.slice none 0 0))))) none])
  (.seq (.seq (.steps [
    .act (some 6) (.op (.pure (.move (.const (.int .i64 0))))) none])
  (.block 0 (.loop [0, 1, 5, 6] (.seq (.seq (.steps [
      .act (some 8) (.op (.pure (.move (.tmp 6)))) none,
      .act (some 9) (.op (.pure (.move (.tmp 0)))) none,
      .act (some 10) (.op (.pure (.len false (.tmp 9)))) none,
      .act (some 11) (.op (.pure (.bin .lss (.tmp 8) (.tmp 10)))) none,
      .act (some 12) (.op (.pure (.move (.tmp 11)))) none,
      .act (some 13) (.op (.pure (.move (.tmp 5)))) (some (12, true)),
      .act (some 14) (.op (.pure (.len false (.tmp 13)))) (some (12, true)),
      .act (some 15) (.op (.pure (.move (.tmp 1)))) (some (12, true)),
      .act (some 16) (.op (.pure (.bin .lss (.tmp 14) (.tmp 15)))) (some (12, true)),
      .act (some 17) (.op (.pure (.pick (.tmp 12) (.tmp 16) (.const (.bool false))))) none])
    (.cond (.tmp 17)
     .skip
     (.exit 0)))
    (.seq (.block 1 (.seq (.steps [
       .act (some 20) (.op (.new (.mkSlice 8 0 [] []))) none,
       .act (some 21) (.op (.pure (.move (.tmp 5)))) none,
       .act (some 23) (.op (.pure (.move (.tmp 0)))) none,
       .act (some 24) (.op (.pure (.move (.tmp 6)))) none,
       .act (some 25) (.op (.pure (.idxSl 8 (.tmp 23) (.tmp 24)))) none,
       .act (some 26) (.op (.read (.loadN 8 (.tmp 25)))) none,
       .act (some 27) (.op (.new (.mkSlice 8 1 [(.int .i64 0), (.int .i64 0), (w64 0#64), (.int .i64 0), (.int .i64 0), (.bool false), (.int .i64 0), (w64 0#64)] [(0, 8, (.tmp 26))]))) none,
       .act (some 22) (.op (.eff (.append 8 64 (.tmp 20) (.tmp 21)))) none,
       .again 26 (.loadN 8 (.tmp 25)) none,
       .act (some 28) (.op (.eff (.append 8 64 (.tmp 22) (.tmp 27)))) none,
       .act (some 7) (.op (.pure (.move (.tmp 28)))) none])
     (.seq (.steps [
       .act (some 29) (.op (.pure (.move (.tmp 7)))) none,
       .act (some 30) (.call (.func 9) [(.tmp 29)]) none,
       .act (some 31) (.call (.func 20) [(.tmp 30)]) none])
     (.cond (.tmp 31)
      (.steps [
        .act (some 32) (.op (.pure (.move (.tmp 7)))) none,
        .act (some 5) (.op (.pure (.move (.tmp 32)))) none])
      .skip))))
    (.steps [
      .act (some 18) (.op (.pure (.move (.tmp 6)))) none,
      .act (some 19) (.op (.pure (.bin .add (.tmp 18) (.const (.int .i64 1))))) none,
      .act (some 6) (.op (.pure (.move (.tmp 19)))) none]))))))
  (.seq (.steps [
    .act (some 33) (.op (.pure (.move (.tmp 5)))) none,
    .act (some 4) (.op (.pure (.move (.tmp 33)))) none])
  .ret)))) }
theorem c8 : compFn Try.prog (mkPlan Try.prog) [(3, [0, 1, 5, 6])] false 8 = some L8 := by kernel_rfl
/-- sluiceway/sluicewaylaw04.Own -/
def L9 : LFun := { n := 37, pop := false, res := [.tmp 2], code :=
  (.seq (.steps [
    .act (some 2) (.op (.pure (.move (.const (.slice none 0 0))))) none])
  (.seq (.steps [
    .act (some 3) (.op (.pure (.move (.const (.slice none 0 0))))) none])
  (.seq (.seq (.steps [
    .act (some 4) (.op (.pure (.move (.const (.int .i64 0))))) none])
  (.block 0 (.loop [0, 3, 4] (.seq (.seq (.steps [
      .act (some 6) (.op (.pure (.move (.tmp 4)))) none,
      .act (some 7) (.op (.pure (.move (.tmp 0)))) none,
      .act (some 8) (.op (.pure (.len false (.tmp 7)))) none,
      .act (some 9) (.op (.pure (.bin .lss (.tmp 6) (.tmp 8)))) none])
    (.cond (.tmp 9)
     .skip
     (.exit 0)))
    (.seq (.block 1 (.seq (.steps [
       .act (some 12) (.op (.pure (.move (.tmp 0)))) none,
       .act (some 13) (.op (.pure (.move (.tmp 4)))) none,
       .act (some 14) (.op (.pure (.idxSl 8 (.tmp 12) (.tmp 13)))) none,
       .act (some 15) (.op (.read (.loadN 8 (.tmp 14)))) none,
       .act (some 5) (.op (.new (.alloc [(.int .i64 0), (.int .i64 0), (w64 0#64), (.int .i64 0), (.int .i64 0), (.bool false), (.int .i64 0), (w64 0#64)]))) none,
       .act none (.op (.eff (.store 8 (.tmp 5) (.tmp 15)))) none])
     (.steps [
       .act (some 16) (.op (.pure (.move (.tmp 3)))) none,
       .act (some 17) (.op (.pure (.fieldAddr 0 (.tmp 5)))) none,
       .act (some 18) (.op (.read (.load1 (.tmp 17)))) none,
       .act (some 19) (.op (.pure (.fieldAddr 1 (.tmp 5)))) none,
       .act (some 20) (.op (.read (.load1 (.tmp 19)))) none,
       .act (some 21) (.op (.pure (.fieldAddr 2 (.tmp 5)))) none,
       .act (some 22) (.op (.read (.load1 (.tmp 21)))) none,
       .act (some 23) (.op (.pure (.fieldAddr 3 (.tmp 5)))) none,
       .act (some 24) (.op (.read (.load1 (.tmp 23)))) none,
       .act (some 25) (.op (.pure (.fieldAddr 4 (.tmp 5)))) none,
       .act (some 26) (.op (.read (.load1 (.tmp 25)))) none,
       .act (some 27) (.op (.pure (.fieldAddr 5 (.tmp 5)))) none,
       .act (some 28) (.op (.read (.load1 (.tmp 27)))) none,
       .act (some 29) (.op (.pure (.fieldAddr 6 (.tmp 5)))) none,
       .act (some 30) (.op (.read (.load1 (.tmp 29)))) none,
       .act (some 31) (.op (.pure (.fieldAddr 7 (.tmp 5)))) none,
       .act (some 32) (.op (.read (.load1 (.tmp 31)))) none,
       .act (some 33) (.op (.pure (.build [(.int .i64 0), (.int .i64 0), (w64 0#64), (.int .i64 0), (.int .i64 0), (.bool false), (.int .i64 0), (w64 0#64)] [(0, 1, (.tmp 18)), (1, 1, (.tmp 20)), (2, 1, (.tmp 22)), (3, 1, (.tmp 24)), (4, 1, (.tmp 26)), (5, 1, (.tmp 28)), (6, 1, (.tmp 30)), (7, 1, (.tmp 32))]))) none,
       .act (some 34) (.op (.new (.mkSlice 8 1 [(.int .i64 0), (.int .i64 0), (w64 0#64), (.int .i64 0), (.int .i64 0), (.bool false), (.int .i64 0), (w64 0#64)] [(0, 8, (.tmp 33))]))) none,
       .act (some 35) (.op (.eff (.append 8 64 (.tmp 16) (.tmp 34)))) none,
       .act (some 3) (.op (.pure (.move (.tmp 35)))) none])))
    (.steps [
      .act (some 10) (.op (.pure (.move (.tmp 4)))) none,
      .act (some 11) (.op (.pure (.bin .add (.tmp 10) (.const (.int .i64 1))))) none,
      .act (some 4) (.op (.pure (.move (.tmp 11)))) none]))))))
  (.seq (.steps [
    .act (some 36) (.op (.pure (.move (.tmp 3)))) none,
    .act (some 2) (.op (.pure (.move (.tmp 36)))) none])
  .ret)))) }
theorem c9 : compFn Try.prog (mkPlan Try.prog) [(3, [0, 3, 4])] false 9 = some L9 := by kernel_rfl
/-- sluiceway/lin.Fifo -/
def L10 : LFun := { n := 17, pop := false, res := [.tmp 6, .tmp 7], code :=
  (.seq (.steps [
    .act (some 6) (.op (.pure (.move (.const (.slice none 0 0))))) none,
    .act (some 7) (.op (.pure (.move (.const (.bool false))))) none])
  (.seq (.steps [
    .act (some 8) (.op (.pure (.move (.tmp 0)))) none,
    .act (some 9) (.op (.pure (.move (.tmp 1)))) none,
    .act (some 10) (.op (.pure (.build [(.int .i64 0), (.slice none 0 0)] [(0, 1, (.tmp 9))]))) none,
    .act (some 11) (.op (.pure (.move (.tmp 0)))) none,
    .act (some 12) (.op (.pure (.move (.tmp 2)))) none,
    .act (some 13) (.call (.func 21) [(.tmp 11), (.tmp 12)]) none,
    .act (some 14) (.call (.func 18) [(.tmp 8), (.tmp 10), (.tmp 13), (.func 17)]) none,
    .act (some 15) (.op (.pure (.extract (.tmp 14) 0))) none,
    .act (some 16) (.op (.pure (.extract (.tmp 14) 1))) none,
    .act (some 6) (.op (.pure (.move (.tmp 15)))) none,
    .act (some 7) (.op (.pure (.move (.tmp 16)))) none])
  .ret)) }
theorem c10 : compFn Try.prog (mkPlan Try.prog) [] false 10 = some L10 := by kernel_rfl
/-- sluiceway/sluicewayref06.Order -/
def L11 : LFun := { n := 122, pop := false, res := [.tmp 8, .tmp 9], code :=
  (.seq (.steps [
    .act (some 6) (.op (.new (.box (.tmp 2)))) none,
    .act (some 8) (.op (.pure (.move (.const (.slice none 0 0))))) none,
    .act (some 9) (.op (.pure (.move (.const (.bool false))))) none])
  (.seq (.steps [
    .act (some 10) (.op (.pure (.move (.const (.bool false))))) none])
  (.seq (.seq (.steps [
    .act (some 11) (.op (.pure (.move (.const (.int .i64 0))))) none])
  (.block 0 (.loop [0, 1, 3, 6, 10, 11] (.seq (.seq (.steps [
      .act (some 19) (.op (.pure (.move (.tmp 11)))) none,
      .act (some 20) (.op (.pure (.move (.tmp 0)))) none,
      .act (some 21) (.op (.pure (.len false (.tmp 20)))) none,
      .act (some 22) (.op (.pure (.bin .lss (.tmp 19) (.tmp 21)))) none])
    (.cond (.tmp 22)
     .skip
     (.exit 0)))
    (.seq (.block 1 (.steps [
       .act (some 25) (.op (.pure (.move (.tmp 10)))) none,
       .act (some 26) (.op (.pure (.move (.tmp 25)))) none,
       .act (some 27) (.op (.pure (.move (.tmp 0)))) (some (26, false)),
       .act (some 28) (.op (.pure (.move (.tmp 11)))) (some (26, false)),
       .act (some 29) (.op (.pure (.idxSl 8 (.tmp 27) (.tmp 28)))) (some (26, false)),
       .act (some 30) (.op (.pure (.fieldAddr 5 (.tmp 29)))) (some (26, false)),
       .act (some 31) (.op (.read (.load1 (.tmp 30)))) (some (26, false)),
       .act (some 32) (.op (.pure (.move (.tmp 31)))) (some (26, false)),
       .act (some 33) (.op (.pure (.move (.tmp 1)))) (some (32, true)),
       .act (some 34) (.op (.pure (.move (.tmp 11)))) (some (32, true)),
       .act (some 35) (.op (.pure (.idxSl 1 (.tmp 33) (.tmp 34)))) (some (32, true)),
       .act (some 36) (.op (.read (.load1 (.tmp 35)))) (some (32, true)),
       .act (some 37) (.op (.pure (.not (.tmp 36)))) (some (32, true)),
       .act (some 38) (.op (.pure (.pick (.tmp 32) (.tmp 37) (.const (.bool false))))) (some (26, false)),
       .act (some 39) (.op (.pure (.pick (.tmp 26) (.const (.bool true)) (.tmp 38)))) none,
       .act (some 10) (.op (.pure (.move (.tmp 39)))) none]))
    (.steps [
      .act (some 23) (.op (.pure (.move (.tmp 11)))) none,
      .act (some 24) (.op (.pure (.bin .add (.tmp 23) (.const (.int .i64 1))))) none,
      .act (some 11) (.op (.pure (.move (.tmp 24)))) none]))))))
  (.seq (.seq (.steps [
    .act (some 40) (.op (.pure (.move (.tmp 10)))) none,
    .act (some 41) (.op (.pure (.not (.tmp 40)))) none])
  (.cond (.tmp 41)
   (.seq (.steps [
     .act (some 8) (.op (.pure (.move (.const (.slice none 0 0))))) none,
     .act (some 9) (.op (.pure (.move (.const (.bool true))))) none])
   .ret)
   .skip))
  (.seq (.seq (.steps [
    .act (some 12) (.op (.pure (.move (.const (.int .i64 0))))) none])
  (.block 2 (.loop [0, 1, 3, 6, 12] (.seq (.seq (.steps [
      .act (some 42) (.op (.pure (.move (.tmp 12)))) none,
      .act (some 43) (.op (.pure (.move (.tmp 0)))) none,
      .act (some 44) (.op (.pure (.len false (.tmp 43)))) none,
      .act (some 45) (.op (.pure (.bin .lss (.tmp 42) (.tmp 44)))) none])
    (.cond (.tmp 45)
     .skip
     (.exit 2)))
    (.seq (.block 3 (.seq (.steps [
       .act (some 48) (.op (.pure (.move (.tmp 1)))) none,
       .act (some 49) (.op (.pure (.move (.tmp 12)))) none,
       .act (some 50) (.op (.pure (.idxSl 1 (.tmp 48) (.tmp 49)))) none,
       .act (some 51) (.op (.read (.load1 (.tmp 50)))) none,
       .act (some 52) (.op (.pure (.not (.tmp 51)))) none,
       .act (some 13) (.op (.pure (.move (.tmp 52)))) none])
     (.seq (.seq (.steps [
       .act (some 14) (.op (.pure (.move (.const (.int .i64 0))))) none])
     (.block 4 (.loop [0, 1, 3, 6, 12, 13, 14] (.seq (.seq (.steps [
         .act (some 53) (.op (.pure (.move (.tmp 14)))) none,
         .act (some 54) (.op (.pure (.move (.tmp 0)))) none,
         .act (some 55) (.op (.pure (.len false (.tmp 54)))) none,
         .act (some 56) (.op (.pure (.bin .lss (.tmp 53) (.tmp 55)))) none])
       (.cond (.tmp 56)
        .skip
        (.exit 4)))
       (.seq (.block 5 (.steps [
          .act (some 59) (.op (.pure (.move (.tmp 13)))) none,
          .act (some 60) (.op (.pure (.move (.tmp 59)))) none,
          .act (some 61) (.op (.pure (.move (.tmp 1)))) (some (60, true)),
          .act (some 62) (.op (.pure (.move (.tmp 14)))) (some (60, true)),
          .act (some 63) (.op (.pure (.idxSl 1 (.tmp 61) (.tmp 62)))) (some (60, true)),
          .act (some 64) (.op (.read (.load1 (.tmp 63)))) (some (60, true)),
          .act (some 65) (.op (.pure (.move (.tmp 64)))) (some (60, true)),
          .act (some 66) (.op (.pure (.move (.tmp 14)))) (some (65, false)),
          .act (some 67) (.op (.pure (.move (.tmp 12)))) (some (65, false)),
          .act (some 68) (.op (.pure (.bin .eql (.tmp 66) (.tmp 67)))) (some (65, false)),
          .act (some 69) (.op (.pure (.pick (.tmp 65) (.const (.bool true)) (.tmp 68)))) (some (60, true)),
          .act (some 70) (.op (.pure (.move (.tmp 69)))) (some (60, true)),
          .act (some 71) (.op (.pure (.move (.tmp 0)))) (some (70, false)),
          .act (some 72) (.op (.pure (.move (.tmp 14)))) (some (70, false)),
          .act (some 73) (.op (.pure (.idxSl 8 (.tmp 71) (.tmp 72)))) (some (70, false)),
          .act (some 74) (.op (.read (.loadN 8 (.tmp 73)))) (some (70, false)),
          .act (some 75) (.op (.pure (.move (.tmp 0)))) (some (70, false)),
          .act (some 76) (.op (.pure (.move (.tmp 12)))) (some (70, false)),
          .act (some 77) (.op (.pure (.idxSl 8 (.tmp 75) (.tmp 76)))) (some (70, false)),
          .act (some 78) (.op (.read (.loadN 8 (.tmp 77)))) (some (70, false)),
          .act (some 79) (.call (.func 22) [(.tmp 74), (.tmp 78)]) (some (70, false)),
          .act (some 80) (.op (.pure (.not (.tmp 79)))) (some (70, false)),
          .act (some 81) (.op (.pure (.pick (.tmp 70) (.const (.bool true)) (.tmp 80)))) (some (60, true)),
          .act (some 82) (.op (.pure (.pick (.tmp 60) (.tmp 81) (.const (.bool false))))) none,
          .act (some 13) (.op (.pure (.move (.tmp 82)))) none]))
       (.steps [
         .act (some 57) (.op (.pure (.move (.tmp 14)))) none,
         .act (some 58) (.op (.pure (.bin .add (.tmp 57) (.const (.int .i64 1))))) none,
         .act (some 14) (.op (.pure (.move (.tmp 58)))) none]))))))
     (.seq (.seq (.steps [
       .act (some 83) (.op (.pure (.move (.tmp 13)))) none,
       .act (some 84) (.op (.pure (.not (.tmp 83)))) none])
     (.cond (.tmp 84)
      (.exit 3)
      .skip))
     (.seq (.steps [
       .act (some 86) (.op (.read (.loadN 2 (.tmp 6)))) none,
       .act (some 87) (.op (.pure (.move (.tmp 0)))) none,
       .act (some 88) (.op (.pure (.move (.tmp 12)))) none,
       .act (some 89) (.op (.pure (.idxSl 8 (.tmp 87) (.tmp 88)))) none,
       .act (some 90) (.op (.read (.loadN 8 (.tmp 89)))) none,
       .act (some 91) (.op (.pure (.move (.tmp 3)))) none,
       .act (some 92) (.op (.pure (.move (.tmp 0)))) none,
       .act (some 93) (.op (.pure (.move (.tmp 12)))) none,
       .act (some 95) (.op (.pure (.move (.tmp 0)))) none,
       .act (some 96) (.op (.pure (.move (.tmp 12)))) none,
       .act (some 15) (.op (.new (.alloc [(.int .i64 0), (.slice none 0 0)]))) none,
       .act (some 94) (.call (.func 24) [(.tmp 92), (.tmp 93), (.const (.int .i64 0))]) none,
       .again 90 (.loadN 8 (.tmp 89)) none,
       .again 86 (.loadN 2 (.tmp 6)) none,
       .act (some 97) (.call (.func 24) [(.tmp 95), (.tmp 96), (.const (.int .i64 1))]) none,
       .again 90 (.loadN 8 (.tmp 89)) none,
       .again 86 (.loadN 2 (.tmp 6)) none,
       .act (some 98) (.call (.func 23) [(.tmp 86), (.tmp 90), (.tmp 91), (.tmp 94), (.tmp 97)]) none,
       .act (some 85) (.op (.pure (.move (.tmp 98)))) none,
       .act (some 99) (.op (.pure (.extract (.tmp 85) 0))) none,
       .act (some 100) (.op (.pure (.extract (.tmp 85) 1))) none,
       .act none (.op (.eff (.store 2 (.tmp 15) (.tmp 99)))) none,
       .act (some 16) (.op (.pure (.move (.tmp 100)))) none])
     (.seq (.seq (.steps [
       .act (some 101) (.op (.pure (.move (.tmp 16)))) none,
       .act (some 102) (.op (.pure (.not (.tmp 101)))) none])
     (.cond (.tmp 102)
      (.exit 3)
      .skip))
     (.seq (.steps [
       .act (some 103) (.op (.new (.mkSlice 1 0 [] []))) none,
       .act (some 104) (.op (.pure (.move (.tmp 1)))) none,
       .act (some 105) (.op (.eff (.append 1 1 (.tmp 103) (.tmp 104)))) none,
       .act (some 17) (.op (.pure (.move (.tmp 105)))) none])
     (.seq (.steps [
       .act (some 106) (.op (.pure (.move (.tmp 17)))) none,
       .act (some 107) (.op (.pure (.move (.tmp 12)))) none,
       .act (some 108) (.op (.pure (.idxSl 1 (.tmp 106) (.tmp 107)))) none,
       .act none (.op (.eff (.store 1 (.tmp 108) (.const (.bool true))))) none])
     (.seq (.steps [
       .act (some 110) (.op (.pure (.move (.tmp 0)))) none,
       .act (some 111) (.op (.pure (.move (.tmp 17)))) none,
       .act (some 112) (.op (.read (.loadN 2 (.tmp 15)))) none,
       .act (some 113) (.op (.pure (.move (.tmp 3)))) none,
       .act (some 114) (.call (.func 11) [(.tmp 110), (.tmp 111), (.tmp 112), (.tmp 113)]) none,
       .act (some 109) (.op (.pure (.move (.tmp 114)))) none,
       .act (some 115) (.op (.pure (.extract (.tmp 109) 0))) none,
       .act (some 116) (.op (.pure (.extract (.tmp 109) 1))) none,
       .act (some 18) (.op (.pure (.move (.tmp 115)))) none,
       .act (some 16) (.op (.pure (.move (.tmp 116)))) none])
     (.seq (.steps [
       .act (some 117) (.op (.pure (.move (.tmp 16)))) none])
     (.cond (.tmp 117)
      (.seq (.steps [
        .act (some 118) (.op (.pure (.move (.tmp 12)))) none,
        .act (some 119) (.op (.new (.mkSlice 1 1 [(.int .i64 0)] [(0, 1, (.tmp 118))]))) none,
        .act (some 120) (.op (.pure (.move (.tmp 18)))) none,
        .act (some 121) (.op (.eff (.append 1 8 (.tmp 119) (.tmp 120)))) none,
        .act (some 8) (.op (.pure (.move (.tmp 121)))) none,
        .act (some 9) (.op (.pure (.move (.const (.bool true))))) none])
      .ret)
      .skip)))))))))))
    (.steps [
      .act (some 46) (.op (.pure (.move (.tmp 12)))) none,
      .act (some 47) (.op (.pure (.bin .add (.tmp 46) (.const (.int .i64 1))))) none,
      .act (some 12) (.op (.pure (.move (.tmp 47)))) none]))))))
  (.seq (.steps [
    .act (some 8) (.op (.pure (.move (.const (.slice none 0 0))))) none,
    .act (some 9) (.op (.pure (.move (.const (.bool false))))) none])
  .ret)))))) }
theorem c11 : compFn Try.prog (mkPlan Try.prog) [(3, [0, 1, 3, 6, 10, 11]), (9, [0, 1, 3, 6, 12]), (13, [0, 1, 3, 6, 12, 13, 14])] false 11 = some L11 := by kernel_rfl
/-- sluiceway/sluicewaylaw06.one -/
def L12 : LFun := { n := 47, pop := true, res := [.tmp 0], code :=
  (.seq (.steps [
    .act (some 0) (.op (.pure (.move (.const (.bool false))))) none])
  (.seq (.steps [
    .act (some 6) (.op (.pure (.build [(.int .i64 0), (.int .i64 0), (w64 0#64), (.int .i64 0), (.int .i64 0), (.bool false), (.int .i64 0), (w64 0#64)] [(0, 1, (.const (.int .i64 1))), (1, 1, (.const (.int .i64 1))), (3, 1, (.const (.int .i64 0))), (4, 1, (.const (.int .i64 3))), (5, 1, (.const (.bool true))), (7, 1, (.const (w64 5#64)))]))) none,
    .act (some 7) (.op (.pure (.build [(.int .i64 0), (.int .i64 0), (w64 0#64), (.int .i64 0), (.int .i64 0), (.bool false), (.int .i64 0), (w64 0#64)] [(0, 1, (.const (.int .i64 0))), (1, 1, (.const (.int .i64 0))), (2, 1, (.const (w64 5#64))), (3, 1, (.const (.int .i64 1))), (4, 1, (.const (.int .i64 2))), (5, 1, (.const (.bool true)))]))) none,
    .act (some 8) (.op (.new (.mkSlice 8 2 [(.int .i64 0), (.int .i64 0), (w64 0#64), (.int .i64 0), (.int .i64 0), (.bool false), (.int .i64 0), (w64 0#64), (.int .i64 0), (.int .i64 0), (w64 0#64), (.int .i64 0), (.int .i64 0), (.bool false), (.int .i64 0), (w64 0#64)] [(0, 8, (.tmp 6)), (8, 8, (.tmp 7))]))) none,
    .act (some 1) (.op (.pure (.move (.tmp 8)))) none])
  (.seq (.steps [
    .act (some 10) (.op (.pure (.move (.tmp 1)))) none,
    .act (some 11) (.call (.func 10) [(.tmp 10), (.const (.int .i64 0)), (.const (.int .i64 0))]) none,
    .act (some 9) (.op (.pure (.move (.tmp 11)))) none,
    .act (some 12) (.op (.pure (.extract (.tmp 9) 0))) none,
    .act (some 13) (.op (.pure (.extract (.tmp 9) 1))) none,
    .act (some 2) (.op (.pure (.move (.tmp 12)))) none,
    .act (some 3) (.op (.pure (.move (.tmp 13)))) none])
  (.seq (.steps [
    .act (some 15) (.op (.pure (.move (.tmp 1)))) none,
    .act (some 16) (.op (.read (.slSl 8 (.tmp 15) none (some (.const (.int .i64 1))) none))) none,
    .act (some 17) (.call (.func 10) [(.tmp 16), (.const (.int .i64 0)), (.const (.int .i64 0))]) none,
    .act (some 14) (.op (.pure (.move (.tmp 17)))) none,
    .act (some 18) (.op (.pure (.extract (.tmp 14) 0))) none,
    .act (some 19) (.op (.pure (.extract (.tmp 14) 1))) none,
    .act (some 4) (.op (.pure (.move (.tmp 18)))) none,
    .act (some 5) (.op (.pure (.move (.tmp 19)))) none])
  (.seq (.steps [
    .act (some 20) (.op (.pure (.move (.tmp 3)))) none,
    .act (some 21) (.op (.pure (.move (.tmp 20)))) none,
    .act (some 22) (.op (.pure (.move (.tmp 5)))) (some (21, true)),
    .act (some 23) (.op (.pure (.not (.tmp 22)))) (some (21, true)),
    .act (some 24) (.op (.pure (.pick (.tmp 21) (.tmp 23) (.const (.bool false))))) none,
    .act (some 25) (.op (.pure (.move (.tmp 24)))) none,
    .act (some 26) (.op (.pure (.move (.tmp 2)))) (some (25, true)),
    .act (some 27) (.op (.pure (.len false (.tmp 26)))) (some (25, true)),
    .act (some 28) (.op (.pure (.bin .eql (.tmp 27) (.const (.int .i64 2))))) (some (25, true)),
    .act (some 29) (.op (.pure (.pick (.tmp 25) (.tmp 28) (.const (.bool false))))) none,
    .act (some 30) (.op (.pure (.move (.tmp 29)))) none,
    .act (some 31) (.op (.pure (.move (.tmp 2)))) (some (30, true)),
    .act (some 32) (.op (.pure (.idxSl 1 (.tmp 31) (.const (.int .i64 0))))) (some (30, true)),
    .act (some 33) (.op (.read (.load1 (.tmp 32)))) (some (30, true)),
    .act (some 34) (.op (.pure (.bin .eql (.tmp 33) (.const (.int .i64 1))))) (some (30, true)),
    .act (some 35) (.op (.pure (.pick (.tmp 30) (.tmp 34) (.const (.bool false))))) none,
    .act (some 36) (.op (.pure (.move (.tmp 35)))) none,
    .act (some 37) (.op (.pure (.move (.tmp 2)))) (some (36, true)),
    .act (some 38) (.op (.pure (.idxSl 1 (.tmp 37) (.const (.int .i64 1))))) (some (36, true)),
    .act (some 39) (.op (.read (.load1 (.tmp 38)))) (some (36, true)),
    .act (some 40) (.op (.pure (.bin .eql (.tmp 39) (.const (.int .i64 0))))) (some (36, true)),
    .act (some 41) (.op (.pure (.pick (.tmp 36) (.tmp 40) (.const (.bool false))))) none,
    .act (some 42) (.op (.pure (.move (.tmp 41)))) none,
    .act (some 43) (.op (.pure (.move (.tmp 1)))) (some (42, true)),
    .act (some 44) (.op (.pure (.move (.tmp 2)))) (some (42, true)),
    .act (some 45) (.call (.func 13) [(.tmp 43), (.tmp 44), (.const (.int .i64 0)), (.const (.int .i64 0))]) (some (42, true)),
    .act (some 46) (.op (.pure (.pick (.tmp 42) (.tmp 45) (.const (.bool false))))) none,
    .act (some 0) (.op (.pure (.move (.tmp 46)))) none])
  .ret))))) }
theorem c12 : compFn Try.prog (mkPlan Try.prog) [] true 12 = some L12 := by kernel_rfl
/-- sluiceway/lin.Valid -/
def L13 : LFun := { n := 117, pop := true, res := [.tmp 8], code :=
  (.seq (.steps [
    .act (some 8) (.op (.pure (.move (.const (.bool false))))) none])
  (.seq (.seq (.steps [
    .act (some 21) (.op (.pure (.move (.tmp 0)))) none,
    .act (some 22) (.call (.func 25) [(.tmp 21)]) none,
    .act (some 23) (.op (.pure (.not (.tmp 22)))) none])
  (.cond (.tmp 23)
   (.seq (.steps [
     .act (some 8) (.op (.pure (.move (.const (.bool false))))) none])
   .ret)
   .skip))
  (.seq (.steps [
    .act (some 24) (.op (.pure (.move (.tmp 0)))) none,
    .act (some 25) (.op (.pure (.len false (.tmp 24)))) none,
    .act (some 26) (.op (.new (.makeSlice 1 1 [(.bool false)] (.tmp 25) (.tmp 25)))) none,
    .act (some 9) (.op (.pure (.move (.tmp 26)))) none])
  (.seq (.seq (.steps [
    .act (some 27) (.op (.pure (.move (.tmp 9)))) none,
    .act (some 28) (.op (.pure (.len false (.tmp 27)))) none,
    .act (some 29) (.op (.pure (.move (.const (.int .i64 0))))) none])
  (.block 0 (.loop [0, 1, 2, 3, 9, 28, 29] (.seq (.steps [
      .act (some 30) (.op (.pure (.bin .lss (.tmp 29) (.tmp 28)))) none])
    (.seq (.cond (.tmp 30)
     .skip
     (.exit 0))
    (.seq (.block 1 (.seq (.steps [
       .act (some 31) (.op (.pure (.move (.tmp 29)))) none,
       .act (some 10) (.op (.pure (.move (.tmp 31)))) none])
     (.steps [
       .act (some 32) (.op (.pure (.move (.tmp 9)))) none,
       .act (some 33) (.op (.pure (.move (.tmp 10)))) none,
       .act (some 34) (.op (.pure (.idxSl 1 (.tmp 32) (.tmp 33)))) none,
       .act none (.op (.eff (.store 1 (.tmp 34) (.const (.bool true))))) none])))
    (.steps [
      .act (some 35) (.op (.pure (.bin .add (.tmp 29) (.const (.int .i64 1))))) none,
      .act (some 29) (.op (.pure (.move (.tmp 35)))) none])))))))
  (.seq (.steps [
    .act (some 36) (.op (.pure (.move (.tmp 2)))) none,
    .act (some 37) (.op (.pure (.build [(.int .i64 0), (.slice none 0 0)] [(0, 1, (.tmp 36))]))) none,
    .act (some 11) (.op (.new (.alloc [(.int .i64 0), (.slice none 0 0)]))) none,
    .act none (.op (.eff (.store 2 (.tmp 11) (.tmp 37)))) none])
  (.seq (.steps [
    .act (some 38) (.op (.pure (.move (.tmp 0)))) none,
    .act (some 39) (.op (.pure (.move (.tmp 3)))) none,
    .act (some 40) (.call (.func 21) [(.tmp 38), (.tmp 39)]) none,
    .act (some 12) (.op (.pure (.move (.tmp 40)))) none])
  (.seq (.seq (.steps [
    .act (some 41) (.op (.pure (.move (.tmp 1)))) none,
    .act (some 42) (.op (.pure (.len false (.tmp 41)))) none,
    .act (some 43) (.op (.pure (.move (.const (.int .i64 0))))) none])
  (.block 2 (.loop [0, 9, 11, 12, 41, 42, 43] (.seq (.steps [
      .act (some 44) (.op (.pure (.bin .lss (.tmp 43) (.tmp 42)))) none])
    (.seq (.cond (.tmp 44)
     .skip
     (.exit 2))
    (.seq (.block 3 (.seq (.steps [
       .act (some 45) (.op (.pure (.idxSl 1 (.tmp 41) (.tmp 43)))) none,
       .act (some 46) (.op (.read (.load1 (.tmp 45)))) none,
       .act (some 14) (.op (.pure (.move (.tmp 46)))) none])
     (.seq (.seq (.steps [
       .act (some 47) (.op (.pure (.move (.tmp 14)))) none,
       .act (some 48) (.op (.pure (.bin .lss (.tmp 47) (.const (.int .i64 0))))) none,
       .act (some 49) (.op (.pure (.move (.tmp 48)))) none,
       .act (some 50) (.op (.pure (.move (.tmp 14)))) (some (49, false)),
       .act (some 51) (.op (.pure (.move (.tmp 0)))) (some (49, false)),
       .act (some 52) (.op (.pure (.len false (.tmp 51)))) (some (49, false)),
       .act (some 53) (.op (.pure (.bin .geq (.tmp 50) (.tmp 52)))) (some (49, false)),
       .act (some 54) (.op (.pure (.pick (.tmp 49) (.const (.bool true)) (.tmp 53)))) none,
       .act (some 55) (.op (.pure (.move (.tmp 54)))) none,
       .act (some 56) (.op (.pure (.move (.tmp 9)))) (some (55, false)),
       .act (some 57) (.op (.pure (.move (.tmp 14)))) (some (55, false)),
       .act (some 58) (.op (.pure (.idxSl 1 (.tmp 56) (.tmp 57)))) (some (55, false)),
       .act (some 59) (.op (.read (.load1 (.tmp 58)))) (some (55, false)),
       .act (some 60) (.op (.pure (.not (.tmp 59)))) (some (55, false)),
       .act (some 61) (.op (.pure (.pick (.tmp 55) (.const (.bool true)) (.tmp 60)))) none])
     (.cond (.tmp 61)
      (.seq (.steps [
        .act (some 8) (.op (.pure (.move (.const (.bool false))))) none])
      .ret)
      .skip))
     (.seq (.seq (.steps [
       .act (some 62) (.op (.pure (.move (.tmp 0)))) none,
       .act (some 63) (.op (.pure (.len false (.tmp 62)))) none,
       .act (some 64) (.op (.pure (.move (.const (.int .i64 0))))) none])
     (.block 4 (.loop [0, 9, 11, 12, 14, 41, 42, 43, 62, 63, 64] (.seq (.steps [
         .act (some 65) (.op (.pure (.bin .lss (.tmp 64) (.tmp 63)))) none])
       (.seq (.cond (.tmp 65)
        .skip
        (.exit 4))
       (.seq (.block 5 (.seq (.steps [
          .act (some 66) (.op (.pure (.move (.tmp 64)))) none,
          .act (some 67) (.op (.pure (.idxSl 8 (.tmp 62) (.tmp 64)))) none,
          .act (some 68) (.op (.read (.loadN 8 (.tmp 67)))) none,
          .act (some 16) (.op (.new (.alloc [(.int .i64 0), (.int .i64 0), (w64 0#64), (.int .i64 0), (.int .i64 0), (.bool false), (.int .i64 0), (w64 0#64)]))) none,
          .act (some 15) (.op (.pure (.move (.tmp 66)))) none,
          .act none (.op (.eff (.store 8 (.tmp 16) (.tmp 68)))) none])
        (.seq (.steps [
          .act (some 69) (.op (.pure (.move (.tmp 9)))) none,
          .act (some 70) (.op (.pure (.move (.tmp 15)))) none,
          .act (some 71) (.op (.pure (.idxSl 1 (.tmp 69) (.tmp 70)))) none,
          .act (some 72) (.op (.read (.load1 (.tmp 71)))) none,
          .act (some 73) (.op (.pure (.move (.tmp 72)))) none,
          .act (some 74) (.op (.pure (.move (.tmp 15)))) (some (73, true)),
          .act (some 75) (.op (.pure (.move (.tmp 14)))) (some (73, true)),
          .act (some 76) (.op (.pure (.bin .neq (.tmp 74) (.tmp 75)))) (some (73, true)),
          .act (some 77) (.op (.pure (.pick (.tmp 73) (.tmp 76) (.const (.bool false))))) none,
          .act (some 78) (.op (.pure (.move (.tmp 77)))) none,
          .act (some 79) (.op (.read (.loadN 8 (.tmp 16)))) (some (78, true)),
          .act (some 80) (.op (.pure (.move (.tmp 0)))) (some (78, true)),
          .act (some 81) (.op (.pure (.move (.tmp 14)))) (some (78, true)),
          .act (some 82) (.op (.pure (.idxSl 8 (.tmp 80) (.tmp 81)))) (some (78, true)),
          .act (some 83) (.op (.read (.loadN 8 (.tmp 82)))) (some (78, true)),
          .act (some 84) (.call (.func 26) [(.tmp 79), (.tmp 83)]) (some (78, true)),
          .act (some 85) (.op (.pure (.pick (.tmp 78) (.tmp 84) (.const (.bool false))))) none])
        (.cond (.tmp 85)
         (.seq (.steps [
           .act (some 8) (.op (.pure (.move (.const (.bool false))))) none])
         .ret)
         .skip))))
       (.steps [
         .act (some 86) (.op (.pure (.bin .add (.tmp 64) (.const (.int .i64 1))))) none,
         .act (some 64) (.op (.pure (.move (.tmp 86)))) none])))))))
     (.seq (.steps [
       .act (some 88) (.op (.pure (.move (.tmp 12)))) none,
       .act (some 89) (.op (.read (.loadN 2 (.tmp 11)))) none,
       .act (some 90) (.op (.pure (.move (.tmp 14)))) none,
       .act (some 91) (.call (.tmp 88) [(.tmp 89), (.tmp 90)]) none,
       .act (some 87) (.op (.pure (.move (.tmp 91)))) none,
       .act (some 92) (.op (.pure (.extract (.tmp 87) 0))) none,
       .act (some 93) (.op (.pure (.extract (.tmp 87) 1))) none,
       .act (some 17) (.op (.new (.alloc [(.int .i64 0), (.slice none 0 0)]))) none,
       .act none (.op (.eff (.store 2 (.tmp 17) (.tmp 92)))) none,
       .act (some 18) (.op (.pure (.move (.tmp 93)))) none])
     (.seq (.seq (.steps [
       .act (some 94) (.op (.pure (.move (.tmp 18)))) none,
       .act (some 95) (.op (.pure (.not (.tmp 94)))) none])
     (.cond (.tmp 95)
      (.seq (.steps [
        .act (some 8) (.op (.pure (.move (.const (.bool false))))) none])
      .ret)
      .skip))
     (.steps [
       .act (some 96) (.op (.pure (.move (.tmp 9)))) none,
       .act (some 97) (.op (.pure (.move (.tmp 14)))) none,
       .act (some 98) (.op (.read (.loadN 2 (.tmp 17)))) none,
       .act none (.op (.eff (.store 2 (.tmp 11) (.tmp 98)))) none,
       .act (some 99) (.op (.pure (.idxSl 1 (.tmp 96) (.tmp 97)))) none,
       .act none (.op (.eff (.store 1 (.tmp 99) (.const (.bool false))))) none])))))))
    (.steps [
      .act (some 100) (.op (.pure (.bin .add (.tmp 43) (.const (.int .i64 1))))) none,
      .act (some 43) (.op (.pure (.move (.tmp 100)))) none])))))))
  (.seq (.seq (.steps [
    .act (some 101) (.op (.pure (.move (.tmp 0)))) none,
    .act (some 102) (.op (.pure (.len false (.tmp 101)))) none,
    .act (some 103) (.op (.pure (.move (.const (.int .i64 0))))) none])
  (.block 6 (.loop [9, 101, 102, 103] (.seq (.steps [
      .act (some 104) (.op (.pure (.bin .lss (.tmp 103) (.tmp 102)))) none])
    (.seq (.cond (.tmp 104)
     .skip
     (.exit 6))
    (.seq (.block 7 (.seq (.steps [
       .act (some 105) (.op (.pure (.move (.tmp 103)))) none,
       .act (some 106) (.op (.pure (.idxSl 8 (.tmp 101) (.tmp 103)))) none,
       .act (some 107) (.op (.read (.loadN 8 (.tmp 106)))) none,
       .act (some 20) (.op (.new (.alloc [(.int .i64 0), (.int .i64 0), (w64 0#64), (.int .i64 0), (.int .i64 0), (.bool false), (.int .i64 0), (w64 0#64)]))) none,
       .act (some 19) (.op (.pure (.move (.tmp 105)))) none,
       .act none (.op (.eff (.store 8 (.tmp 20) (.tmp 107)))) none])
     (.seq (.steps [
       .act (some 108) (.op (.pure (.fieldAddr 5 (.tmp 20)))) none,
       .act (some 109) (.op (.read (.load1 (.tmp 108)))) none,
       .act (some 110) (.op (.pure (.move (.tmp 109)))) none,
       .act (some 111) (.op (.pure (.move (.tmp 9)))) (some (110, true)),
       .act (some 112) (.op (.pure (.move (.tmp 19)))) (some (110, true)),
       .act (some 113) (.op (.pure (.idxSl 1 (.tmp 111) (.tmp 112)))) (some (110, true)),
       .act (some 114) (.op (.read (.load1 (.tmp 113)))) (some (110, true)),
       .act (some 115) (.op (.pure (.pick (.tmp 110) (.tmp 114) (.const (.bool false))))) none])
     (.cond (.tmp 115)
      (.seq (.steps [
        .act (some 8) (.op (.pure (.move (.const (.bool false))))) none])
      .ret)
      .skip))))
    (.steps [
      .act (some 116) (.op (.pure (.bin .add (.tmp 103) (.const (.int .i64 1))))) none,
      .act (some 103) (.op (.pure (.move (.tmp 116)))) none])))))))
  (.seq (.steps [
    .act (some 8) (.op (.pure (.move (.const (.bool true))))) none])
  .ret))))))))) }
theorem c13 : compFn Try.prog (mkPlan Try.prog) [(5, [0, 1, 2, 3, 9, 28, 29]), (12, [0, 9, 11, 12, 41, 42, 43]), (17, [0, 9, 11, 12, 14, 41, 42, 43, 62, 63, 64]), (28, [9, 101, 102, 103])] true 13 = some L13 := by kernel_rfl
/-- sluiceway/sluicewaylaw06.LinSearch$1 -/
def L14 : LFun := { n := 15, pop := false, res := [.loadN 2 5, .tmp 6], code :=
  (.seq (.steps [
    .act (some 3) (.op (.new (.box (.tmp 0)))) none,
    .act (some 5) (.op (.new (.alloc [(.int .i64 0), (.slice none 0 0)]))) none,
    .act (some 6) (.op (.pure (.move (.const (.bool false))))) none])
  (.seq (.steps [
    .act (some 7) (.op (.read (.loadN 2 (.tmp 3)))) none,
    .act (some 8) (.op (.read (.load1 (.tmp 2)))) none,
    .act (some 9) (.op (.pure (.move (.tmp 1)))) none,
    .act (some 10) (.op (.pure (.idxSl 8 (.tmp 8) (.tmp 9)))) none,
    .act (some 11) (.op (.read (.loadN 8 (.tmp 10)))) none,
    .act (some 12) (.call (.func 15) [(.tmp 7), (.tmp 11), (.const (.int .i64 0)), (.const (.int .i64 0)), (.const (.int .i64 0))]) none,
    .act (some 13) (.op (.pure (.extract (.tmp 12) 0))) none,
    .act (some 14) (.op (.pure (.extract (.tmp 12) 1))) none,
    .act none (.op (.eff (.store 2 (.tmp 5) (.tmp 13)))) none,
    .act (some 6) (.op (.pure (.move (.tmp 14)))) none])
  .ret)) }
theorem c14 : compFn Try.prog (mkPlan Try.prog) [] false 14 = some L14 := by kernel_rfl
/-- (sluiceway/spec.Fifo).May -/
def L15 : LFun := { n := 61, pop := false, res := [.loadN 2 10, .tmp 11], code :=
  (.seq (.steps [
    .act (some 5) (.op (.new (.box (.tmp 0)))) none,
    .act (some 6) (.op (.new (.box (.tmp 1)))) none,
    .act (some 10) (.op (.new (.alloc [(.int .i64 0), (.slice none 0 0)]))) none,
    .act (some 11) (.op (.pure (.move (.const (.bool false))))) none])
  (.seq (.steps [
    .act (some 16) (.op (.read (.loadN 2 (.tmp 5)))) none,
    .act (some 17) (.op (.pure (.fieldAddr 1 (.tmp 6)))) none,
    .act (some 18) (.op (.read (.load1 (.tmp 17)))) none,
    .act (some 19) (.op (.pure (.fieldAddr 2 (.tmp 6)))) none,
    .act (some 20) (.op (.read (.load1 (.tmp 19)))) none,
    .act (some 21) (.call (.func 27) [(.tmp 16), (.tmp 18), (.tmp 20)]) none,
    .act (some 15) (.op (.pure (.move (.tmp 21)))) none,
    .act (some 22) (.op (.pure (.extract (.tmp 15) 0))) none,
    .act (some 23) (.op (.pure (.extract (.tmp 15) 1))) none,
    .act (some 24) (.op (.pure (.extract (.tmp 15) 2))) none,
    .act (some 12) (.op (.new (.alloc [(.int .i64 0), (.slice none 0 0)]))) none,
    .act none (.op (.eff (.store 2 (.tmp 12) (.tmp 22)))) none,
    .act (some 13) (.op (.pure (.move (.tmp 23)))) none,
    .act (some 14) (.op (.pure (.move (.tmp 24)))) none])
  (.seq (.block 0 (.seq (.seq (.steps [
     .act (some 26) (.op (.pure (.fieldAddr 5 (.tmp 6)))) none,
     .act (some 27) (.op (.read (.load1 (.tmp 26)))) none,
     .act (some 28) (.op (.pure (.not (.tmp 27)))) none,
     .act (some 29) (.op (.pure (.move (.tmp 28)))) none,
     .act (some 30) (.op (.pure (.move (.tmp 13)))) (some (29, true)),
     .act (some 31) (.op (.pure (.bin .eql (.tmp 30) (.const (.int .i64 0))))) (some (29, true)),
     .act (some 32) (.op (.pure (.pick (.tmp 29) (.tmp 31) (.const (.bool false))))) none,
     .act (some 25) (.op (.pure (.move (.tmp 32)))) none])
   (.cond (.tmp 25)
    .skip
    (.steps [
      .act (some 33) (.op (.pure (.fieldAddr 5 (.tmp 6)))) none,
      .act (some 34) (.op (.read (.load1 (.tmp 33)))) none,
      .act (some 35) (.op (.pure (.move (.tmp 34)))) none,
      .act (some 36) (.op (.pure (.move (.tmp 13)))) (some (35, true)),
      .act (some 37) (.op (.pure (.fieldAddr 6 (.tmp 6)))) (some (35, true)),
      .act (some 38) (.op (.read (.load1 (.tmp 37)))) (some (35, true)),
      .act (some 39) (.op (.pure (.bin .eql (.tmp 36) (.tmp 38)))) (some (35, true)),
      .act (some 40) (.op (.pure (.pick (.tmp 35) (.tmp 39) (.const (.bool false))))) none,
      .act (some 41) (.op (.pure (.move (.tmp 40)))) none,
      .act (some 42) (.op (.pure (.move (.tmp 14)))) (some (41, true)),
      .act (some 43) (.op (.pure (.fieldAddr 7 (.tmp 6)))) (some (41, true)),
      .act (some 44) (.op (.read (.load1 (.tmp 43)))) (some (41, true)),
      .act (some 45) (.op (.pure (.bin .eql (.tmp 42) (.tmp 44)))) (some (41, true)),
      .act (some 46) (.op (.pure (.pick (.tmp 41) (.tmp 45) (.const (.bool false))))) none,
      .act (some 25) (.op (.pure (.move (.tmp 46)))) none])))
   (.cond (.tmp 25)
    (.seq (.steps [
      .act (some 47) (.op (.read (.loadN 2 (.tmp 12)))) none,
      .act none (.op (.eff (.store 2 (.tmp 10) (.tmp 47)))) none,
      .act (some 11) (.op (.pure (.move (.const (.bool true))))) none])
    .ret)
    (.seq (.steps [
      .act (some 49) (.op (.pure (.fieldAddr 5 (.tmp 6)))) none,
      .act (some 50) (.op (.read (.load1 (.tmp 49)))) none,
      .act (some 51) (.op (.pure (.move (.tmp 50)))) none,
      .act (some 52) (.op (.read (.loadN 2 (.tmp 5)))) (some (51, true)),
      .act (some 53) (.op (.read (.loadN 8 (.tmp 6)))) (some (51, true)),
      .act (some 54) (.op (.pure (.move (.tmp 2)))) (some (51, true)),
      .act (some 55) (.op (.pure (.move (.tmp 3)))) (some (51, true)),
      .act (some 56) (.op (.pure (.move (.tmp 4)))) (some (51, true)),
      .act (some 57) (.call (.func 28) [(.tmp 52), (.tmp 53), (.tmp 54), (.tmp 55), (.tmp 56)]) (some (51, true)),
      .act (some 58) (.op (.pure (.pick (.tmp 51) (.tmp 57) (.const (.bool false))))) none,
      .act (some 48) (.op (.pure (.move (.tmp 58)))) none])
    (.cond (.tmp 48)
     (.seq (.steps [
       .act (some 59) (.op (.read (.loadN 2 (.tmp 5)))) none,
       .act none (.op (.eff (.store 2 (.tmp 10) (.tmp 59)))) none,
       .act (some 11) (.op (.pure (.move (.const (.bool true))))) none])
     .ret)
     .skip)))))
  (.seq (.steps [
    .act (some 60) (.op (.pure (.build [(.int .i64 0), (.slice none 0 0)] []))) none,
    .act none (.op (.eff (.store 2 (.tmp 10) (.tmp 60)))) none,
    .act (some 11) (.op (.pure (.move (.const (.bool false))))) none])
  .ret)))) }
theorem c15 : compFn Try.prog (mkPlan Try.prog) [] false 15 = some L15 := by kernel_rfl
/-- sluiceway/sluicewaylaw06.LinSearch$2 -/
def L16 : LFun := { n := 5, pop := true, res := [.tmp 2], code :=
  (.seq (.steps [
    .act (some 1) (.op (.new (.box (.tmp 0)))) none,
    .act (some 2) (.op (.pure (.move (.const (strV []))))) none])
  (.seq (.steps [
    .act (some 3) (.op (.read (.loadN 2 (.tmp 1)))) none,
    .act (some 4) (.call (.func 17) [(.tmp 3)]) none,
    .act (some 2) (.op (.pure (.move (.tmp 4)))) none])
  .ret)) }
theorem c16 : compFn Try.prog (mkPlan Try.prog) [] true 16 = some L16 := by kernel_rfl
/-- (sluiceway/spec.Fifo).Key -/
def L17 : LFun := { n := 23, pop := true, res := [.tmp 2], code :=
  (.seq (.steps [
    .act (some 1) (.op (.new (.box (.tmp 0)))) none,
    .act (some 2) (.op (.pure (.move (.const (strV []))))) none])
  (.seq (.steps [
    .act (some 6) (.op (.pure (.fieldAddr 0 (.tmp 1)))) none,
    .act (some 7) (.op (.read (.load1 (.tmp 6)))) none,
    .act (some 8) (.op (.pure (.conv .u64 (.tmp 7)))) none,
    .act (some 9) (.call (.func 29) [(.const (.slice none 0 0)), (.tmp 8)]) none,
    .act (some 3) (.op (.pure (.move (.tmp 9)))) none])
  (.seq (.seq (.steps [
    .act (some 10) (.op (.pure (.fieldAddr 1 (.tmp 1)))) none,
    .act (some 11) (.op (.read (.load1 (.tmp 10)))) none,
    .act (some 12) (.op (.pure (.len false (.tmp 11)))) none,
    .act (some 13) (.op (.pure (.move (.const (.int .i64 0))))) none])
  (.block 0 (.loop [3, 11, 12, 13] (.seq (.steps [
      .act (some 14) (.op (.pure (.bin .lss (.tmp 13) (.tmp 12)))) none])
    (.seq (.cond (.tmp 14)
     .skip
     (.exit 0))
    (.seq (.block 1 (.seq (.steps [
       .act (some 15) (.op (.pure (.idxSl 1 (.tmp 11) (.tmp 13)))) none,
       .act (some 16) (.op (.read (.load1 (.tmp 15)))) none,
       .act (some 5) (.op (.pure (.move (.tmp 16)))) none])
     (.steps [
       .act (some 17) (.op (.pure (.move (.tmp 3)))) none,
       .act (some 18) (.op (.pure (.move (.tmp 5)))) none,
       .act (some 19) (.call (.func 29) [(.tmp 17), (.tmp 18)]) none,
       .act (some 3) (.op (.pure (.move (.tmp 19)))) none])))
    (.steps [
      .act (some 20) (.op (.pure (.bin .add (.tmp 13) (.const (.int .i64 1))))) none,
      .act (some 13) (.op (.pure (.move (.tmp 20)))) none])))))))
  (.seq (.steps [
    .act (some 21) (.op (.pure (.move (.tmp 3)))) none,
    .act (some 22) (.op (.read (.b2s (.tmp 21)))) none,
    .act (some 2) (.op (.pure (.move (.tmp 22)))) none])
  .ret)))) }
theorem c17 : compFn Try.prog (mkPlan Try.prog) [(3, [3, 11, 12, 13])] true 17 = some L17 := by kernel_rfl
/-- sluiceway/lin.Search[sluiceway/spec.Fifo] -/
def L18 : LFun := { n := 86, pop := false, res := [.tmp 8, .tmp 9], code :=
  (.seq (.steps [
    .act (some 5) (.op (.new (.box (.tmp 1)))) none,
    .act (some 8) (.op (.pure (.move (.const (.slice none 0 0))))) none,
    .act (some 9) (.op (.pure (.move (.const (.bool false))))) none])
  (.seq (.seq (.steps [
    .act (some 16) (.op (.pure (.move (.tmp 0)))) none,
    .act (some 17) (.op (.pure (.len false (.tmp 16)))) none,
    .act (some 18) (.op (.pure (.bin .gtr (.tmp 17) (.const (.int .i64 62))))) none,
    .act (some 19) (.op (.pure (.move (.tmp 18)))) none,
    .act (some 20) (.op (.pure (.move (.tmp 0)))) (some (19, false)),
    .act (some 21) (.call (.func 25) [(.tmp 20)]) (some (19, false)),
    .act (some 22) (.op (.pure (.not (.tmp 21)))) (some (19, false)),
    .act (some 23) (.op (.pure (.pick (.tmp 19) (.const (.bool true)) (.tmp 22)))) none])
  (.cond (.tmp 23)
   (.seq (.steps [
     .act (some 8) (.op (.pure (.move (.const (.slice none 0 0))))) none,
     .act (some 9) (.op (.pure (.move (.const (.bool false))))) none])
   .ret)
   .skip))
  (.seq (.steps [
    .act (some 24) (.op (.pure (.move (.tmp 0)))) none,
    .act (some 25) (.op (.pure (.move (.tmp 2)))) none,
    .act (some 26) (.op (.pure (.move (.tmp 3)))) none,
    .act (some 27) (.op (.new (.makeMap))) none,
    .act (some 28) (.op (.pure (.build [(.slice none 0 0), (.slice none 0 0), (w64 0#64), .nilFunc, .nilFunc, (.map none), (.slice none 0 0)] [(0, 1, (.tmp 24)), (3, 1, (.tmp 25)), (4, 1, (.tmp 26)), (5, 1, (.tmp 27))]))) none,
    .act (some 29) (.op (.new (.box (.tmp 28)))) none,
    .act (some 10) (.op (.pure (.move (.tmp 29)))) none])
  (.seq (.seq (.steps [
    .act (some 30) (.op (.pure (.move (.tmp 0)))) none,
    .act (some 31) (.op (.pure (.len false (.tmp 30)))) none,
    .act (some 32) (.op (.pure (.move (.const (.int .i64 0))))) none])
  (.block 0 (.loop [0, 5, 10, 30, 31, 32] (.seq (.steps [
      .act (some 33) (.op (.pure (.bin .lss (.tmp 32) (.tmp 31)))) none])
    (.seq (.cond (.tmp 33)
     .skip
     (.exit 0))
    (.seq (.block 1 (.seq (.steps [
       .act (some 34) (.op (.pure (.move (.tmp 32)))) none,
       .act (some 35) (.op (.pure (.idxSl 8 (.tmp 30) (.tmp 32)))) none,
       .act (some 36) (.op (.read (.loadN 8 (.tmp 35)))) none,
       .act (some 12) (.op (.new (.alloc [(.int .i64 0), (.int .i64 0), (w64 0#64), (.int .i64 0), (.int .i64 0), (.bool false), (.int .i64 0), (w64 0#64)]))) none,
       .act (some 11) (.op (.pure (.move (.tmp 34)))) none,
       .act none (.op (.eff (.store 8 (.tmp 12) (.tmp 36)))) none])
     (.seq (.steps [
       .act (some 13) (.op (.pure (.move (.const (w64 0#64))))) none])
     (.seq (.seq (.steps [
       .act (some 37) (.op (.pure (.move (.tmp 0)))) none,
       .act (some 38) (.op (.pure (.len false (.tmp 37)))) none,
       .act (some 39) (.op (.pure (.move (.const (.int .i64 0))))) none])
     (.block 2 (.loop [0, 5, 10, 11, 12, 13, 30, 31, 32, 37, 38, 39] (.seq (.steps [
         .act (some 40) (.op (.pure (.bin .lss (.tmp 39) (.tmp 38)))) none])
       (.seq (.cond (.tmp 40)
        .skip
        (.exit 2))
       (.seq (.block 3 (.seq (.steps [
          .act (some 41) (.op (.pure (.move (.tmp 39)))) none,
          .act (some 42) (.op (.pure (.idxSl 8 (.tmp 37) (.tmp 39)))) none,
          .act (some 43) (.op (.read (.loadN 8 (.tmp 42)))) none,
          .act (some 15) (.op (.new (.alloc [(.int .i64 0), (.int .i64 0), (w64 0#64), (.int .i64 0), (.int .i64 0), (.bool false), (.int .i64 0), (w64 0#64)]))) none,
          .act (some 14) (.op (.pure (.move (.tmp 41)))) none,
          .act none (.op (.eff (.store 8 (.tmp 15) (.tmp 43)))) none])
        (.seq (.steps [
          .act (some 44) (.op (.pure (.move (.tmp 14)))) none,
          .act (some 45) (.op (.pure (.move (.tmp 11)))) none,
          .act (some 46) (.op (.pure (.bin .neq (.tmp 44) (.tmp 45)))) none,
          .act (some 47) (.op (.pure (.move (.tmp 46)))) none,
          .act (some 48) (.op (.read (.loadN 8 (.tmp 15)))) (some (47, true)),
          .act (some 49) (.op (.read (.loadN 8 (.tmp 12)))) (some (47, true)),
          .act (some 50) (.call (.func 26) [(.tmp 48), (.tmp 49)]) (some (47, true)),
          .act (some 51) (.op (.pure (.pick (.tmp 47) (.tmp 50) (.const (.bool false))))) none])
        (.cond (.tmp 51)
         (.steps [
           .act (some 52) (.op (.pure (.move (.tmp 13)))) none,
           .act (some 53) (.op (.pure (.move (.tmp 14)))) none,
           .act (some 54) (.call (.func 30) [(.tmp 52), (.tmp 53)]) none,
           .act (some 13) (.op (.pure (.move (.tmp 54)))) none])
         .skip))))
       (.steps [
         .act (some 55) (.op (.pure (.bin .add (.tmp 39) (.const (.int .i64 1))))) none,
         .act (some 39) (.op (.pure (.move (.tmp 55)))) none])))))))
     (.seq (.steps [
       .act (some 56) (.op (.pure (.move (.tmp 10)))) none,
       .act (some 57) (.op (.pure (.move (.tmp 10)))) none,
       .act (some 58) (.op (.pure (.nilCheck (.tmp 57)))) none,
       .act (some 59) (.op (.pure (.fieldAddr 1 (.tmp 58)))) none,
       .act (some 60) (.op (.read (.load1 (.tmp 59)))) none,
       .act (some 61) (.op (.pure (.move (.tmp 13)))) none,
       .act (some 62) (.op (.new (.mkSlice 1 1 [(w64 0#64)] [(0, 1, (.tmp 61))]))) none,
       .act (some 63) (.op (.eff (.append 1 8 (.tmp 60) (.tmp 62)))) none,
       .act (some 64) (.op (.pure (.nilCheck (.tmp 56)))) none,
       .act (some 65) (.op (.pure (.fieldAddr 1 (.tmp 64)))) none,
       .act none (.op (.eff (.store 1 (.tmp 65) (.tmp 63)))) none])
     (.seq (.steps [
       .act (some 66) (.op (.pure (.fieldAddr 5 (.tmp 12)))) none,
       .act (some 67) (.op (.read (.load1 (.tmp 66)))) none])
     (.cond (.tmp 67)
      (.steps [
        .act (some 68) (.op (.pure (.move (.tmp 10)))) none,
        .act (some 69) (.op (.pure (.move (.tmp 10)))) none,
        .act (some 70) (.op (.pure (.nilCheck (.tmp 69)))) none,
        .act (some 71) (.op (.pure (.fieldAddr 2 (.tmp 70)))) none,
        .act (some 72) (.op (.read (.load1 (.tmp 71)))) none,
        .act (some 73) (.op (.pure (.move (.tmp 11)))) none,
        .act (some 74) (.call (.func 30) [(.tmp 72), (.tmp 73)]) none,
        .act (some 75) (.op (.pure (.nilCheck (.tmp 68)))) none,
        .act (some 76) (.op (.pure (.fieldAddr 2 (.tmp 75)))) none,
        .act none (.op (.eff (.store 1 (.tmp 76) (.tmp 74)))) none])
      .skip)))))))
    (.steps [
      .act (some 77) (.op (.pure (.bin .add (.tmp 32) (.const (.int .i64 1))))) none,
      .act (some 32) (.op (.pure (.move (.tmp 77)))) none])))))))
  (.seq (.seq (.steps [
    .act (some 78) (.op (.pure (.move (.tmp 10)))) none,
    .act (some 79) (.op (.read (.loadN 2 (.tmp 5)))) none,
    .act (some 80) (.call (.func 31) [(.tmp 78), (.const (w64 0#64)), (.tmp 79)]) none,
    .act (some 81) (.op (.pure (.not (.tmp 80)))) none])
  (.cond (.tmp 81)
   (.seq (.steps [
     .act (some 8) (.op (.pure (.move (.const (.slice none 0 0))))) none,
     .act (some 9) (.op (.pure (.move (.const (.bool false))))) none])
   .ret)
   .skip))
  (.seq (.steps [
    .act (some 82) (.op (.pure (.move (.tmp 10)))) none,
    .act (some 83) (.op (.pure (.nilCheck (.tmp 82)))) none,
    .act (some 84) (.op (.pure (.fieldAddr 6 (.tmp 83)))) none,
    .act (some 85) (.op (.read (.load1 (.tmp 84)))) none,
    .act (some 8) (.op (.pure (.move (.tmp 85)))) none,
    .act (some 9) (.op (.pure (.move (.const (.bool true))))) none])
  .ret)))))) }
theorem c18 : compFn Try.prog (mkPlan Try.prog) [(5, [0, 5, 10, 30, 31, 32]), (9, [0, 5, 10, 11, 12, 13, 30, 31, 32, 37, 38, 39])] false 18 = some L18 := by kernel_rfl
/-- sluiceway/sluicewaylaw06.played -/
def L19 : LFun := { n := 74, pop := false, res := [.tmp 4], code :=
  (.seq (.steps [
    .act (some 4) (.op (.pure (.move (.const (.slice none 0 0))))) none])
  (.seq (.steps [
    .act (some 13) (.call (.func 32) []) none,
    .act (some 5) (.op (.pure (.move (.tmp 13)))) none])
  (.seq (.steps [
    .act (some 14) (.op (.pure (.move (.tmp 0)))) none,
    .act (some 15) (.op (.pure (.build [(.int .i64 0), (.slice none 0 0)] [(0, 1, (.tmp 14))]))) none,
    .act (some 6) (.op (.new (.alloc [(.int .i64 0), (.slice none 0 0)]))) none,
    .act none (.op (.eff (.store 2 (.tmp 6) (.tmp 15)))) none])
  (.seq (.seq (.steps [
    .act (some 7) (.op (.pure (.move (.const (.int .i64 0))))) none])
  (.block 0 (.loop [1, 5, 6, 7] (.seq (.seq (.steps [
      .act (some 16) (.op (.pure (.move (.tmp 7)))) none,
      .act (some 17) (.op (.pure (.move (.tmp 1)))) none,
      .act (some 18) (.op (.pure (.len false (.tmp 17)))) none,
      .act (some 19) (.op (.pure (.bin .lss (.tmp 16) (.tmp 18)))) none,
      .act (some 20) (.op (.pure (.move (.tmp 19)))) none,
      .act (some 21) (.op (.pure (.move (.tmp 7)))) (some (20, true)),
      .act (some 22) (.op (.pure (.bin .lss (.tmp 21) (.const (.int .i64 40))))) (some (20, true)),
      .act (some 23) (.op (.pure (.pick (.tmp 20) (.tmp 22) (.const (.bool false))))) none])
    (.cond (.tmp 23)
     .skip
     (.exit 0)))
    (.seq (.block 1 (.seq (.steps [
       .act (some 27) (.op (.pure (.move (.tmp 5)))) none,
       .act (some 28) (.op (.pure (.move (.tmp 1)))) none,
       .act (some 29) (.op (.pure (.move (.tmp 7)))) none,
       .act (some 30) (.op (.pure (.idxSl 1 (.tmp 28) (.tmp 29)))) none,
       .act (some 31) (.op (.read (.load1 (.tmp 30)))) none,
       .act (some 32) (.op (.pure (.bin .shr (.tmp 31) (.const (w64 8#64))))) none,
       .act (some 33) (.op (.pure (.bin .and (.tmp 32) (.const (w64 7#64))))) none,
       .act (some 34) (.op (.pure (.conv .i64 (.tmp 33)))) none,
       .act (some 35) (.op (.pure (.move (.tmp 1)))) none,
       .act (some 36) (.op (.pure (.move (.tmp 7)))) none,
       .act (some 37) (.op (.pure (.idxSl 1 (.tmp 35) (.tmp 36)))) none,
       .act (some 38) (.op (.read (.load1 (.tmp 37)))) none,
       .act (some 39) (.op (.pure (.bin .and (.tmp 38) (.const (w64 1#64))))) none,
       .act (some 40) (.op (.pure (.conv .i64 (.tmp 39)))) none,
       .act (some 41) (.op (.pure (.move (.tmp 1)))) none,
       .act (some 42) (.op (.pure (.move (.tmp 7)))) none,
       .act (some 43) (.op (.pure (.idxSl 1 (.tmp 41) (.tmp 42)))) none,
       .act (some 44) (.op (.read (.load1 (.tmp 43)))) none,
       .act (some 45) (.call (.func 33) [(.tmp 27), (.tmp 34), (.tmp 40), (.tmp 44)]) none,
       .act (some 26) (.op (.pure (.move (.tmp 45)))) none,
       .act (some 46) (.op (.pure (.extract (.tmp 26) 0))) none,
       .act (some 47) (.op (.pure (.extract (.tmp 26) 1))) none,
       .act (some 8) (.op (.pure (.move (.tmp 46)))) none,
       .act (some 9) (.op (.pure (.move (.tmp 47)))) none])
     (.seq (.steps [
       .act (some 49) (.op (.read (.loadN 2 (.tmp 6)))) none,
       .act (some 50) (.op (.pure (.move (.tmp 1)))) none,
       .act (some 51) (.op (.pure (.move (.tmp 7)))) none,
       .act (some 52) (.op (.pure (.idxSl 1 (.tmp 50) (.tmp 51)))) none,
       .act (some 53) (.op (.read (.load1 (.tmp 52)))) none,
       .act (some 54) (.op (.pure (.bin .and (.tmp 53) (.const (w64 1#64))))) none,
       .act (some 55) (.op (.pure (.conv .i64 (.tmp 54)))) none,
       .act (some 56) (.op (.pure (.move (.tmp 1)))) none,
       .act (some 57) (.op (.pure (.move (.tmp 7)))) none,
       .act (some 58) (.op (.pure (.idxSl 1 (.tmp 56) (.tmp 57)))) none,
       .act (some 59) (.op (.read (.load1 (.tmp 58)))) none,
       .act (some 10) (.op (.new (.alloc [(.int .i64 0), (.slice none 0 0)]))) none,
       .act (some 60) (.call (.func 27) [(.tmp 49), (.tmp 55), (.tmp 59)]) none,
       .act (some 48) (.op (.pure (.move (.tmp 60)))) none,
       .act (some 61) (.op (.pure (.extract (.tmp 48) 0))) none,
       .act (some 62) (.op (.pure (.extract (.tmp 48) 1))) none,
       .act (some 63) (.op (.pure (.extract (.tmp 48) 2))) none,
       .act none (.op (.eff (.store 2 (.tmp 10) (.tmp 61)))) none,
       .act (some 11) (.op (.pure (.move (.tmp 62)))) none,
       .act (some 12) (.op (.pure (.move (.tmp 63)))) none])
     (.seq (.steps [
       .act (some 64) (.op (.pure (.move (.tmp 5)))) none,
       .act (some 65) (.op (.pure (.move (.tmp 8)))) none,
       .act (some 66) (.op (.pure (.move (.tmp 11)))) none,
       .act (some 67) (.op (.pure (.move (.tmp 12)))) none,
       .act (some 68) (.call (.func 34) [(.tmp 64), (.tmp 65), (.tmp 66), (.tmp 67)]) none])
     (.seq (.steps [
       .act (some 69) (.op (.pure (.move (.tmp 11)))) none,
       .act (some 70) (.op (.pure (.bin .eql (.tmp 69) (.const (.int .i64 0))))) none])
     (.cond (.tmp 70)
      (.steps [
        .act (some 71) (.op (.read (.loadN 2 (.tmp 10)))) none,
        .act none (.op (.eff (.store 2 (.tmp 6) (.tmp 71)))) none])
      .skip))))))
    (.steps [
      .act (some 24) (.op (.pure (.move (.tmp 7)))) none,
      .act (some 25) (.op (.pure (.bin .add (.tmp 24) (.const (.int .i64 1))))) none,
      .act (some 7) (.op (.pure (.move (.tmp 25)))) none]))))))
  (.seq (.steps [
    .act (some 72) (.op (.pure (.move (.tmp 5)))) none,
    .act (some 73) (.call (.func 35) [(.tmp 72)]) none,
    .act (some 4) (.op (.pure (.move (.tmp 73)))) none])
  .ret))))) }
theorem c19 : compFn Try.prog (mkPlan Try.prog) [(4, [1, 5, 6, 7])] false 19 = some L19 := by kernel_rfl
/-- sluiceway/sluicewayref04.Right -/
def L20 : LFun := { n := 94, pop := true, res := [.tmp 2], code :=
  (.seq (.steps [
    .act (some 2) (.op (.pure (.move (.const (.bool false))))) none])
  (.seq (.seq (.steps [
    .act (some 6) (.op (.pure (.move (.tmp 0)))) none,
    .act (some 7) (.op (.pure (.len false (.tmp 6)))) none,
    .act (some 8) (.op (.pure (.bin .gtr (.tmp 7) (.const (.int .i64 1024))))) none])
  (.cond (.tmp 8)
   (.seq (.steps [
     .act (some 2) (.op (.pure (.move (.const (.bool false))))) none])
   .ret)
   .skip))
  (.seq (.seq (.steps [
    .act (some 3) (.op (.pure (.move (.const (.int .i64 0))))) none])
  (.block 0 (.loop [0, 3] (.seq (.seq (.steps [
      .act (some 9) (.op (.pure (.move (.tmp 3)))) none,
      .act (some 10) (.op (.pure (.move (.tmp 0)))) none,
      .act (some 11) (.op (.pure (.len false (.tmp 10)))) none,
      .act (some 12) (.op (.pure (.bin .lss (.tmp 9) (.tmp 11)))) none])
    (.cond (.tmp 12)
     .skip
     (.exit 0)))
    (.seq (.block 1 (.seq (.steps [
       .act (some 15) (.op (.pure (.move (.tmp 0)))) none,
       .act (some 16) (.op (.pure (.move (.tmp 3)))) none,
       .act (some 17) (.op (.pure (.idxSl 8 (.tmp 15) (.tmp 16)))) none,
       .act (some 18) (.op (.read (.loadN 8 (.tmp 17)))) none,
       .act (some 4) (.op (.new (.alloc [(.int .i64 0), (.int .i64 0), (w64 0#64), (.int .i64 0), (.int .i64 0), (.bool false), (.int .i64 0), (w64 0#64)]))) none,
       .act none (.op (.eff (.store 8 (.tmp 4) (.tmp 18)))) none])
     (.seq (.seq (.steps [
       .act (some 19) (.op (.pure (.fieldAddr 0 (.tmp 4)))) none,
       .act (some 20) (.op (.read (.load1 (.tmp 19)))) none,
       .act (some 21) (.op (.pure (.bin .lss (.tmp 20) (.const (.int .i64 0))))) none,
       .act (some 22) (.op (.pure (.move (.tmp 21)))) none,
       .act (some 23) (.op (.pure (.fieldAddr 0 (.tmp 4)))) (some (22, false)),
       .act (some 24) (.op (.read (.load1 (.tmp 23)))) (some (22, false)),
       .act (some 25) (.op (.pure (.bin .gtr (.tmp 24) (.const (.int .i64 63))))) (some (22, false)),
       .act (some 26) (.op (.pure (.pick (.tmp 22) (.const (.bool true)) (.tmp 25)))) none,
       .act (some 27) (.op (.pure (.move (.tmp 26)))) none,
       .act (some 28) (.op (.pure (.fieldAddr 3 (.tmp 4)))) (some (27, false)),
       .act (some 29) (.op (.read (.load1 (.tmp 28)))) (some (27, false)),
       .act (some 30) (.op (.pure (.bin .lss (.tmp 29) (.const (.int .i64 0))))) (some (27, false)),
       .act (some 31) (.op (.pure (.pick (.tmp 27) (.const (.bool true)) (.tmp 30)))) none,
       .act (some 32) (.op (.pure (.move (.tmp 31)))) none,
       .act (some 33) (.op (.pure (.fieldAddr 5 (.tmp 4)))) (some (32, false)),
       .act (some 34) (.op (.read (.load1 (.tmp 33)))) (some (32, false)),
       .act (some 35) (.op (.pure (.move (.tmp 34)))) (some (32, false)),
       .act (some 36) (.op (.pure (.fieldAddr 4 (.tmp 4)))) (some (35, true)),
       .act (some 37) (.op (.read (.load1 (.tmp 36)))) (some (35, true)),
       .act (some 38) (.op (.pure (.fieldAddr 3 (.tmp 4)))) (some (35, true)),
       .act (some 39) (.op (.read (.load1 (.tmp 38)))) (some (35, true)),
       .act (some 40) (.op (.pure (.bin .lss (.tmp 37) (.tmp 39)))) (some (35, true)),
       .act (some 41) (.op (.pure (.pick (.tmp 35) (.tmp 40) (.const (.bool false))))) (some (32, false)),
       .act (some 42) (.op (.pure (.pick (.tmp 32) (.const (.bool true)) (.tmp 41)))) none,
       .act (some 43) (.op (.pure (.move (.tmp 42)))) none,
       .act (some 44) (.op (.pure (.fieldAddr 5 (.tmp 4)))) (some (43, false)),
       .act (some 45) (.op (.read (.load1 (.tmp 44)))) (some (43, false)),
       .act (some 46) (.op (.pure (.not (.tmp 45)))) (some (43, false)),
       .act (some 47) (.op (.pure (.move (.tmp 46)))) (some (43, false)),
       .act (some 48) (.op (.pure (.fieldAddr 4 (.tmp 4)))) (some (47, true)),
       .act (some 49) (.op (.read (.load1 (.tmp 48)))) (some (47, true)),
       .act (some 50) (.op (.pure (.bin .neq (.tmp 49) (.const (.int .i64 0))))) (some (47, true)),
       .act (some 51) (.op (.pure (.move (.tmp 50)))) (some (47, true)),
       .act (some 52) (.op (.pure (.fieldAddr 6 (.tmp 4)))) (some (51, false)),
       .act (some 53) (.op (.read (.load1 (.tmp 52)))) (some (51, false)),
       .act (some 54) (.op (.pure (.bin .neq (.tmp 53) (.const (.int .i64 0))))) (some (51, false)),
       .act (some 55) (.op (.pure (.pick (.tmp 51) (.const (.bool true)) (.tmp 54)))) (some (47, true)),
       .act (some 56) (.op (.pure (.move (.tmp 55)))) (some (47, true)),
       .act (some 57) (.op (.pure (.fieldAddr 7 (.tmp 4)))) (some (56, false)),
       .act (some 58) (.op (.read (.load1 (.tmp 57)))) (some (56, false)),
       .act (some 59) (.op (.pure (.bin .neq (.tmp 58) (.const (w64 0#64))))) (some (56, false)),
       .act (some 60) (.op (.pure (.pick (.tmp 56) (.const (.bool true)) (.tmp 59)))) (some (47, true)),
       .act (some 61) (.op (.pure (.pick (.tmp 47) (.tmp 60) (.const (.bool false))))) (some (43, false)),
       .act (some 62) (.op (.pure (.pick (.tmp 43) (.const (.bool true)) (.tmp 61)))) none])
     (.cond (.tmp 62)
      (.seq (.steps [
        .act (some 2) (.op (.pure (.move (.const (.bool false))))) none])
      .ret)
      .skip))
     (.seq (.steps [
       .act (some 5) (.op (.pure (.move (.const (.int .i64 0))))) none])
     (.block 2 (.loop [0, 3, 4, 5] (.seq (.seq (.steps [
         .act (some 63) (.op (.pure (.move (.tmp 5)))) none,
         .act (some 64) (.op (.pure (.move (.tmp 3)))) none,
         .act (some 65) (.op (.pure (.bin .lss (.tmp 63) (.tmp 64)))) none])
       (.cond (.tmp 65)
        .skip
        (.exit 2)))
       (.seq (.block 3 (.seq (.steps [
          .act (some 68) (.op (.pure (.move (.tmp 0)))) none,
          .act (some 69) (.op (.pure (.move (.tmp 5)))) none,
          .act (some 70) (.op (.pure (.idxSl 8 (.tmp 68) (.tmp 69)))) none,
          .act (some 71) (.op (.pure (.fieldAddr 0 (.tmp 70)))) none,
          .act (some 72) (.op (.read (.load1 (.tmp 71)))) none,
          .act (some 73) (.op (.pure (.fieldAddr 0 (.tmp 4)))) none,
          .act (some 74) (.op (.read (.load1 (.tmp 73)))) none,
          .act (some 75) (.op (.pure (.bin .eql (.tmp 72) (.tmp 74)))) none,
          .act (some 76) (.op (.pure (.move (.tmp 75)))) none,
          .act (some 77) (.op (.pure (.move (.tmp 0)))) (some (76, true)),
          .act (some 78) (.op (.pure (.move (.tmp 5)))) (some (76, true)),
          .act (some 79) (.op (.pure (.idxSl 8 (.tmp 77) (.tmp 78)))) (some (76, true)),
          .act (some 80) (.op (.read (.loadN 8 (.tmp 79)))) (some (76, true)),
          .act (some 81) (.op (.pure (.fieldAddr 3 (.tmp 4)))) (some (76, true)),
          .act (some 82) (.op (.read (.load1 (.tmp 81)))) (some (76, true)),
          .act (some 83) (.call (.func 36) [(.tmp 80), (.tmp 82)]) (some (76, true)),
          .act (some 84) (.op (.pure (.move (.tmp 83)))) (some (76, true)),
          .act (some 85) (.op (.read (.loadN 8 (.tmp 4)))) (some (84, false)),
          .act (some 86) (.op (.pure (.move (.tmp 0)))) (some (84, false)),
          .act (some 87) (.op (.pure (.move (.tmp 5)))) (some (84, false)),
          .act (some 88) (.op (.pure (.idxSl 8 (.tmp 86) (.tmp 87)))) (some (84, false)),
          .act (some 89) (.op (.pure (.fieldAddr 3 (.tmp 88)))) (some (84, false)),
          .act (some 90) (.op (.read (.load1 (.tmp 89)))) (some (84, false)),
          .act (some 91) (.call (.func 36) [(.tmp 85), (.tmp 90)]) (some (84, false)),
          .act (some 92) (.op (.pure (.pick (.tmp 84) (.const (.bool true)) (.tmp 91)))) (some (76, true)),
          .act (some 93) (.op (.pure (.pick (.tmp 76) (.tmp 92) (.const (.bool false))))) none])
        (.cond (.tmp 93)
         (.seq (.steps [
           .act (some 2) (.op (.pure (.move (.const (.bool false))))) none])
         .ret)
         .skip)))
       (.steps [
         .act (some 66) (.op (.pure (.move (.tmp 5)))) none,
         .act (some 67) (.op (.pure (.bin .add (.tmp 66) (.const (.int .i64 1))))) none,
         .act (some 5) (.op (.pure (.move (.tmp 67)))) none])))))))))
    (.steps [
      .act (some 13) (.op (.pure (.move (.tmp 3)))) none,
      .act (some 14) (.op (.pure (.bin .add (.tmp 13) (.const (.int .i64 1))))) none,
      .act (some 3) (.op (.pure (.move (.tmp 14)))) none]))))))
  (.seq (.steps [
    .act (some 2) (.op (.pure (.move (.const (.bool true))))) none])
  .ret)))) }
theorem c20 : compFn Try.prog (mkPlan Try.prog) [(4, [0, 3]), (10, [0, 3, 4, 5])] true 20 = some L20 := by kernel_rfl
/-- sluiceway/lin.may -/
def L21 : LFun := { n := 6, pop := false, res := [.tmp 4], code :=
  (.seq (.steps [
    .act (some 2) (.op (.new (.box (.tmp 0)))) none,
    .act (some 3) (.op (.new (.box (.tmp 1)))) none,
    .act (some 4) (.op (.pure (.move (.const .nilFunc)))) none])
  (.seq (.steps [
    .act (some 5) (.op (.pure (.mkFunc 37 [] [(.tmp 2), (.tmp 3)]))) none,
    .act (some 4) (.op (.pure (.move (.tmp 5)))) none])
  .ret)) }
theorem c21 : compFn Try.prog (mkPlan Try.prog) [] false 21 = some L21 := by kernel_rfl
/-- sluiceway/sluicewayref04.Ahead -/
def L22 : LFun := { n := 14, pop := true, res := [.tmp 4], code :=
  (.seq (.steps [
    .act (some 2) (.op (.new (.box (.tmp 0)))) none,
    .act (some 3) (.op (.new (.box (.tmp 1)))) none,
    .act (some 4) (.op (.pure (.move (.const (.bool false))))) none])
  (.seq (.steps [
    .act (some 5) (.op (.pure (.fieldAddr 5 (.tmp 2)))) none,
    .act (some 6) (.op (.read (.load1 (.tmp 5)))) none,
    .act (some 7) (.op (.pure (.move (.tmp 6)))) none,
    .act (some 8) (.op (.pure (.fieldAddr 4 (.tmp 2)))) (some (7, true)),
    .act (some 9) (.op (.read (.load1 (.tmp 8)))) (some (7, true)),
    .act (some 10) (.op (.pure (.fieldAddr 3 (.tmp 3)))) (some (7, true)),
    .act (some 11) (.op (.read (.load1 (.tmp 10)))) (some (7, true)),
    .act (some 12) (.op (.pure (.bin .lss (.tmp 9) (.tmp 11)))) (some (7, true)),
    .act (some 13) (.op (.pure (.pick (.tmp 7) (.tmp 12) (.const (.bool false))))) none,
    .act (some 4) (.op (.pure (.move (.tmp 13)))) none])
  .ret)) }
theorem c22 : compFn Try.prog (mkPlan Try.prog) [] true 22 = some L22 := by kernel_rfl
/-- (sluiceway/sluicewayref05.Fifo).May -/
def L23 : LFun := { n := 122, pop := false, res := [.loadN 2 10, .tmp 11], code :=
  (.seq (.steps [
    .act (some 5) (.op (.new (.box (.tmp 0)))) none,
    .act (some 6) (.op (.new (.box (.tmp 1)))) none,
    .act (some 10) (.op (.new (.alloc [(.int .i64 0), (.slice none 0 0)]))) none,
    .act (some 11) (.op (.pure (.move (.const (.bool false))))) none])
  (.seq (.steps [
    .act (some 16) (.op (.read (.loadN 2 (.tmp 5)))) none,
    .act (some 17) (.op (.pure (.fieldAddr 1 (.tmp 6)))) none,
    .act (some 18) (.op (.read (.load1 (.tmp 17)))) none,
    .act (some 19) (.op (.pure (.fieldAddr 2 (.tmp 6)))) none,
    .act (some 20) (.op (.read (.load1 (.tmp 19)))) none,
    .act (some 21) (.call (.func 39) [(.tmp 16), (.tmp 18), (.tmp 20)]) none,
    .act (some 15) (.op (.pure (.move (.tmp 21)))) none,
    .act (some 22) (.op (.pure (.extract (.tmp 15) 0))) none,
    .act (some 23) (.op (.pure (.extract (.tmp 15) 1))) none,
    .act (some 24) (.op (.pure (.extract (.tmp 15) 2))) none,
    .act (some 12) (.op (.new (.alloc [(.int .i64 0), (.slice none 0 0)]))) none,
    .act none (.op (.eff (.store 2 (.tmp 12) (.tmp 22)))) none,
    .act (some 13) (.op (.pure (.move (.tmp 23)))) none,
    .act (some 14) (.op (.pure (.move (.tmp 24)))) none])
  (.seq (.seq (.steps [
    .act (some 25) (.op (.pure (.fieldAddr 5 (.tmp 6)))) none,
    .act (some 26) (.op (.read (.load1 (.tmp 25)))) none,
    .act (some 27) (.op (.pure (.not (.tmp 26)))) none])
  (.cond (.tmp 27)
   (.seq (.seq (.steps [
     .act (some 28) (.op (.pure (.move (.tmp 13)))) none,
     .act (some 29) (.op (.pure (.bin .neq (.tmp 28) (.const (.int .i64 0))))) none])
   (.cond (.tmp 29)
    (.seq (.steps [
      .act (some 30) (.op (.pure (.build [(.int .i64 0), (.slice none 0 0)] []))) none,
      .act none (.op (.eff (.store 2 (.tmp 10) (.tmp 30)))) none,
      .act (some 11) (.op (.pure (.move (.const (.bool false))))) none])
    .ret)
    .skip))
   (.seq (.steps [
     .act (some 31) (.op (.read (.loadN 2 (.tmp 12)))) none,
     .act none (.op (.eff (.store 2 (.tmp 10) (.tmp 31)))) none,
     .act (some 11) (.op (.pure (.move (.const (.bool true))))) none])
   .ret))
   .skip))
  (.seq (.seq (.steps [
    .act (some 32) (.op (.pure (.move (.tmp 13)))) none,
    .act (some 33) (.op (.pure (.fieldAddr 6 (.tmp 6)))) none,
    .act (some 34) (.op (.read (.load1 (.tmp 33)))) none,
    .act (some 35) (.op (.pure (.bin .eql (.tmp 32) (.tmp 34)))) none,
    .act (some 36) (.op (.pure (.move (.tmp 35)))) none,
    .act (some 37) (.op (.pure (.move (.tmp 14)))) (some (36, true)),
    .act (some 38) (.op (.pure (.fieldAddr 7 (.tmp 6)))) (some (36, true)),
    .act (some 39) (.op (.read (.load1 (.tmp 38)))) (some (36, true)),
    .act (some 40) (.op (.pure (.bin .eql (.tmp 37) (.tmp 39)))) (some (36, true)),
    .act (some 41) (.op (.pure (.pick (.tmp 36) (.tmp 40) (.const (.bool false))))) none])
  (.cond (.tmp 41)
   (.seq (.steps [
     .act (some 42) (.op (.read (.loadN 2 (.tmp 12)))) none,
     .act none (.op (.eff (.store 2 (.tmp 10) (.tmp 42)))) none,
     .act (some 11) (.op (.pure (.move (.const (.bool true))))) none])
   .ret)
   .skip))
  (.seq (.seq (.steps [
    .act (some 43) (.op (.pure (.fieldAddr 7 (.tmp 6)))) none,
    .act (some 44) (.op (.read (.load1 (.tmp 43)))) none,
    .act (some 45) (.op (.pure (.bin .neq (.tmp 44) (.const (w64 0#64))))) none])
  (.cond (.tmp 45)
   (.seq (.steps [
     .act (some 46) (.op (.pure (.build [(.int .i64 0), (.slice none 0 0)] []))) none,
     .act none (.op (.eff (.store 2 (.tmp 10) (.tmp 46)))) none,
     .act (some 11) (.op (.pure (.move (.const (.bool false))))) none])
   .ret)
   .skip))
  (.seq (.steps [
    .act (some 47) (.op (.pure (.move (.tmp 3)))) none,
    .act (some 48) (.op (.pure (.minmax true [(.tmp 47), (.const (.int .i64 0))]))) none,
    .act (some 3) (.op (.pure (.move (.tmp 48)))) none])
  (.seq (.steps [
    .act (some 49) (.op (.pure (.move (.tmp 4)))) none,
    .act (some 50) (.op (.pure (.minmax true [(.tmp 49), (.const (.int .i64 0))]))) none,
    .act (some 4) (.op (.pure (.move (.tmp 50)))) none])
  (.seq (.seq (.steps [
    .act (some 51) (.op (.pure (.fieldAddr 1 (.tmp 6)))) none,
    .act (some 52) (.op (.read (.load1 (.tmp 51)))) none,
    .act (some 53) (.op (.pure (.bin .eql (.tmp 52) (.const (.int .i64 0))))) none,
    .act (some 54) (.op (.pure (.move (.tmp 53)))) none,
    .act (some 55) (.op (.pure (.fieldAddr 6 (.tmp 6)))) (some (54, true)),
    .act (some 56) (.op (.read (.load1 (.tmp 55)))) (some (54, true)),
    .act (some 57) (.op (.pure (.bin .eql (.tmp 56) (.const (.int .i64 15))))) (some (54, true)),
    .act (some 58) (.op (.pure (.pick (.tmp 54) (.tmp 57) (.const (.bool false))))) none,
    .act (some 59) (.op (.pure (.move (.tmp 58)))) none,
    .act (some 60) (.op (.pure (.fieldAddr 0 (.tmp 5)))) (some (59, true)),
    .act (some 61) (.op (.read (.load1 (.tmp 60)))) (some (59, true)),
    .act (some 62) (.op (.pure (.bin .gtr (.tmp 61) (.const (.int .i64 0))))) (some (59, true)),
    .act (some 63) (.op (.pure (.pick (.tmp 59) (.tmp 62) (.const (.bool false))))) none])
  (.cond (.tmp 63)
   (.seq (.seq (.steps [
     .act (some 64) (.op (.pure (.move (.tmp 2)))) none,
     .act (some 65) (.op (.pure (.bin .eql (.tmp 64) (.const (.int .i64 1))))) none,
     .act (some 66) (.op (.pure (.move (.tmp 65)))) none,
     .act (some 67) (.op (.pure (.fieldAddr 1 (.tmp 5)))) (some (66, true)),
     .act (some 68) (.op (.read (.load1 (.tmp 67)))) (some (66, true)),
     .act (some 69) (.op (.pure (.len false (.tmp 68)))) (some (66, true)),
     .act (some 70) (.op (.pure (.fieldAddr 0 (.tmp 5)))) (some (66, true)),
     .act (some 71) (.op (.read (.load1 (.tmp 70)))) (some (66, true)),
     .act (some 72) (.op (.pure (.bin .geq (.tmp 69) (.tmp 71)))) (some (66, true)),
     .act (some 73) (.op (.pure (.move (.tmp 72)))) (some (66, true)),
     .act (some 74) (.op (.pure (.move (.tmp 3)))) (some (73, false)),
     .act (some 75) (.op (.pure (.fieldAddr 0 (.tmp 5)))) (some (73, false)),
     .act (some 76) (.op (.read (.load1 (.tmp 75)))) (some (73, false)),
     .act (some 77) (.op (.pure (.fieldAddr 1 (.tmp 5)))) (some (73, false)),
     .act (some 78) (.op (.read (.load1 (.tmp 77)))) (some (73, false)),
     .act (some 79) (.op (.pure (.len false (.tmp 78)))) (some (73, false)),
     .act (some 80) (.op (.pure (.bin .sub (.tmp 76) (.tmp 79)))) (some (73, false)),
     .act (some 81) (.op (.pure (.bin .geq (.tmp 74) (.tmp 80)))) (some (73, false)),
     .act (some 82) (.op (.pure (.pick (.tmp 73) (.const (.bool true)) (.tmp 81)))) (some (66, true)),
     .act (some 83) (.op (.pure (.move (.tmp 82)))) (some (66, true)),
     .act (some 84) (.op (.pure (.move (.tmp 4)))) (some (83, false)),
     .act (some 85) (.op (.pure (.fieldAddr 0 (.tmp 5)))) (some (83, false)),
     .act (some 86) (.op (.read (.load1 (.tmp 85)))) (some (83, false)),
     .act (some 87) (.op (.pure (.fieldAddr 1 (.tmp 5)))) (some (83, false)),
     .act (some 88) (.op (.read (.load1 (.tmp 87)))) (some (83, false)),
     .act (some 89) (.op (.pure (.len false (.tmp 88)))) (some (83, false)),
     .act (some 90) (.op (.pure (.bin .sub (.tmp 86) (.tmp 89)))) (some (83, false)),
     .act (some 91) (.op (.pure (.move (.tmp 3)))) (some (83, false)),
     .act (some 92) (.op (.pure (.bin .sub (.tmp 90) (.tmp 91)))) (some (83, false)),
     .act (some 93) (.op (.pure (.bin .geq (.tmp 84) (.tmp 92)))) (some (83, false)),
     .act (some 94) (.op (.pure (.pick (.tmp 83) (.const (.bool true)) (.tmp 93)))) (some (66, true)),
     .act (some 95) (.op (.pure (.pick (.tmp 66) (.tmp 94) (.const (.bool false))))) none])
   (.cond (.tmp 95)
    (.seq (.steps [
      .act (some 96) (.op (.read (.loadN 2 (.tmp 5)))) none,
      .act none (.op (.eff (.store 2 (.tmp 10) (.tmp 96)))) none,
      .act (some 11) (.op (.pure (.move (.const (.bool true))))) none])
    .ret)
    .skip))
   (.seq (.steps [
     .act (some 97) (.op (.pure (.move (.tmp 2)))) none,
     .act (some 98) (.op (.pure (.bin .eql (.tmp 97) (.const (.int .i64 2))))) none,
     .act (some 99) (.op (.pure (.move (.tmp 98)))) none,
     .act (some 100) (.op (.pure (.move (.tmp 4)))) (some (99, true)),
     .act (some 101) (.op (.pure (.bin .gtr (.tmp 100) (.const (.int .i64 0))))) (some (99, true)),
     .act (some 102) (.op (.pure (.pick (.tmp 99) (.tmp 101) (.const (.bool false))))) none])
   (.cond (.tmp 102)
    (.seq (.steps [
      .act (some 103) (.op (.read (.loadN 2 (.tmp 5)))) none,
      .act none (.op (.eff (.store 2 (.tmp 10) (.tmp 103)))) none,
      .act (some 11) (.op (.pure (.move (.const (.bool true))))) none])
    .ret)
    .skip)))
   .skip))
  (.seq (.seq (.steps [
    .act (some 104) (.op (.pure (.fieldAddr 1 (.tmp 6)))) none,
    .act (some 105) (.op (.read (.load1 (.tmp 104)))) none,
    .act (some 106) (.op (.pure (.bin .eql (.tmp 105) (.const (.int .i64 1))))) none,
    .act (some 107) (.op (.pure (.move (.tmp 106)))) none,
    .act (some 108) (.op (.pure (.fieldAddr 6 (.tmp 6)))) (some (107, true)),
    .act (some 109) (.op (.read (.load1 (.tmp 108)))) (some (107, true)),
    .act (some 110) (.op (.pure (.bin .eql (.tmp 109) (.const (.int .i64 13))))) (some (107, true)),
    .act (some 111) (.op (.pure (.pick (.tmp 107) (.tmp 110) (.const (.bool false))))) none,
    .act (some 112) (.op (.pure (.move (.tmp 111)))) none,
    .act (some 113) (.op (.pure (.move (.tmp 2)))) (some (112, true)),
    .act (some 114) (.op (.pure (.bin .eql (.tmp 113) (.const (.int .i64 2))))) (some (112, true)),
    .act (some 115) (.op (.pure (.pick (.tmp 112) (.tmp 114) (.const (.bool false))))) none,
    .act (some 116) (.op (.pure (.move (.tmp 115)))) none,
    .act (some 117) (.op (.pure (.move (.tmp 3)))) (some (116, true)),
    .act (some 118) (.op (.pure (.bin .gtr (.tmp 117) (.const (.int .i64 0))))) (some (116, true)),
    .act (some 119) (.op (.pure (.pick (.tmp 116) (.tmp 118) (.const (.bool false))))) none])
  (.cond (.tmp 119)
   (.seq (.steps [
     .act (some 120) (.op (.read (.loadN 2 (.tmp 5)))) none,
     .act none (.op (.eff (.store 2 (.tmp 10) (.tmp 120)))) none,
     .act (some 11) (.op (.pure (.move (.const (.bool true))))) none])
   .ret)
   .skip))
  (.seq (.steps [
    .act (some 121) (.op (.pure (.build [(.int .i64 0), (.slice none 0 0)] []))) none,
    .act none (.op (.eff (.store 2 (.tmp 10) (.tmp 121)))) none,
    .act (some 11) (.op (.pure (.move (.const (.bool false))))) none])
  .ret)))))))))) }
theorem c23 : compFn Try.prog (mkPlan Try.prog) [] false 23 = some L23 := by kernel_rfl
/-- sluiceway/sluicewayref06.counts -/
def L24 : LFun := { n := 54, pop := true, res := [.tmp 6], code :=
  (.seq (.steps [
    .act (some 6) (.op (.pure (.move (.const (.int .i64 0))))) none])
  (.seq (.steps [
    .act (some 7) (.op (.pure (.move (.const (.int .i64 0))))) none])
  (.seq (.seq (.steps [
    .act (some 8) (.op (.pure (.move (.const (.int .i64 0))))) none])
  (.block 0 (.loop [0, 1, 2, 7, 8] (.seq (.seq (.steps [
      .act (some 9) (.op (.pure (.move (.tmp 8)))) none,
      .act (some 10) (.op (.pure (.move (.tmp 0)))) none,
      .act (some 11) (.op (.pure (.len false (.tmp 10)))) none,
      .act (some 12) (.op (.pure (.bin .lss (.tmp 9) (.tmp 11)))) none])
    (.cond (.tmp 12)
     .skip
     (.exit 0)))
    (.seq (.block 1 (.seq (.steps [
       .act (some 15) (.op (.pure (.move (.tmp 8)))) none,
       .act (some 16) (.op (.pure (.move (.tmp 1)))) none,
       .act (some 17) (.op (.pure (.bin .neq (.tmp 15) (.tmp 16)))) none,
       .act (some 18) (.op (.pure (.move (.tmp 17)))) none,
       .act (some 19) (.op (.pure (.move (.tmp 0)))) (some (18, true)),
       .act (some 20) (.op (.pure (.move (.tmp 8)))) (some (18, true)),
       .act (some 21) (.op (.pure (.idxSl 8 (.tmp 19) (.tmp 20)))) (some (18, true)),
       .act (some 22) (.op (.pure (.fieldAddr 1 (.tmp 21)))) (some (18, true)),
       .act (some 23) (.op (.read (.load1 (.tmp 22)))) (some (18, true)),
       .act (some 24) (.op (.pure (.move (.tmp 2)))) (some (18, true)),
       .act (some 25) (.op (.pure (.bin .eql (.tmp 23) (.tmp 24)))) (some (18, true)),
       .act (some 26) (.op (.pure (.pick (.tmp 18) (.tmp 25) (.const (.bool false))))) none,
       .act (some 27) (.op (.pure (.move (.tmp 26)))) none,
       .act (some 28) (.op (.pure (.move (.tmp 0)))) (some (27, true)),
       .act (some 29) (.op (.pure (.move (.tmp 8)))) (some (27, true)),
       .act (some 30) (.op (.pure (.idxSl 8 (.tmp 28) (.tmp 29)))) (some (27, true)),
       .act (some 31) (.op (.read (.loadN 8 (.tmp 30)))) (some (27, true)),
       .act (some 32) (.op (.pure (.move (.tmp 0)))) (some (27, true)),
       .act (some 33) (.op (.pure (.move (.tmp 1)))) (some (27, true)),
       .act (some 34) (.op (.pure (.idxSl 8 (.tmp 32) (.tmp 33)))) (some (27, true)),
       .act (some 35) (.op (.read (.loadN 8 (.tmp 34)))) (some (27, true)),
       .act (some 36) (.call (.func 22) [(.tmp 31), (.tmp 35)]) (some (27, true)),
       .act (some 37) (.op (.pure (.not (.tmp 36)))) (some (27, true)),
       .act (some 38) (.op (.pure (.pick (.tmp 27) (.tmp 37) (.const (.bool false))))) none,
       .act (some 39) (.op (.pure (.move (.tmp 38)))) none,
       .act (some 40) (.op (.pure (.move (.tmp 0)))) (some (39, true)),
       .act (some 41) (.op (.pure (.move (.tmp 1)))) (some (39, true)),
       .act (some 42) (.op (.pure (.idxSl 8 (.tmp 40) (.tmp 41)))) (some (39, true)),
       .act (some 43) (.op (.read (.loadN 8 (.tmp 42)))) (some (39, true)),
       .act (some 44) (.op (.pure (.move (.tmp 0)))) (some (39, true)),
       .act (some 45) (.op (.pure (.move (.tmp 8)))) (some (39, true)),
       .act (some 46) (.op (.pure (.idxSl 8 (.tmp 44) (.tmp 45)))) (some (39, true)),
       .act (some 47) (.op (.read (.loadN 8 (.tmp 46)))) (some (39, true)),
       .act (some 48) (.call (.func 22) [(.tmp 43), (.tmp 47)]) (some (39, true)),
       .act (some 49) (.op (.pure (.not (.tmp 48)))) (some (39, true)),
       .act (some 50) (.op (.pure (.pick (.tmp 39) (.tmp 49) (.const (.bool false))))) none])
     (.cond (.tmp 50)
      (.steps [
        .act (some 51) (.op (.pure (.move (.tmp 7)))) none,
        .act (some 52) (.op (.pure (.bin .add (.tmp 51) (.const (.int .i64 1))))) none,
        .act (some 7) (.op (.pure (.move (.tmp 52)))) none])
      .skip)))
    (.steps [
      .act (some 13) (.op (.pure (.move (.tmp 8)))) none,
      .act (some 14) (.op (.pure (.bin .add (.tmp 13) (.const (.int .i64 1))))) none,
      .act (some 8) (.op (.pure (.move (.tmp 14)))) none]))))))
  (.seq (.steps [
    .act (some 53) (.op (.pure (.move (.tmp 7)))) none,
    .act (some 6) (.op (.pure (.move (.tmp 53)))) none])
  .ret)))) }
theorem c24 : compFn Try.prog (mkPlan Try.prog) [(3, [0, 1, 2, 7, 8])] true 24 = some L24 := by kernel_rfl
/-- sluiceway/hist.Right -/
def L25 : LFun := { n := 28, pop := true, res := [.tmp 2], code :=
  (.seq (.steps [
    .act (some 2) (.op (.pure (.move (.const (.bool false))))) none])
  (.seq (.seq (.steps [
    .act (some 6) (.op (.pure (.move (.tmp 0)))) none,
    .act (some 7) (.op (.pure (.len false (.tmp 6)))) none,
    .act (some 8) (.op (.pure (.bin .gtr (.tmp 7) (.const (.int .i64 1024))))) none])
  (.cond (.tmp 8)
   (.seq (.steps [
     .act (some 2) (.op (.pure (.move (.const (.bool false))))) none])
   .ret)
   .skip))
  (.seq (.seq (.steps [
    .act (some 9) (.op (.pure (.move (.tmp 0)))) none,
    .act (some 10) (.op (.pure (.len false (.tmp 9)))) none,
    .act (some 11) (.op (.pure (.move (.const (.int .i64 0))))) none])
  (.block 0 (.loop [0, 9, 10, 11] (.seq (.steps [
      .act (some 12) (.op (.pure (.bin .lss (.tmp 11) (.tmp 10)))) none])
    (.seq (.cond (.tmp 12)
     .skip
     (.exit 0))
    (.seq (.block 1 (.seq (.steps [
       .act (some 13) (.op (.pure (.move (.tmp 11)))) none,
       .act (some 14) (.op (.pure (.idxSl 8 (.tmp 9) (.tmp 11)))) none,
       .act (some 15) (.op (.read (.loadN 8 (.tmp 14)))) none,
       .act (some 4) (.op (.new (.alloc [(.int .i64 0), (.int .i64 0), (w64 0#64), (.int .i64 0), (.int .i64 0), (.bool false), (.int .i64 0), (w64 0#64)]))) none,
       .act (some 3) (.op (.pure (.move (.tmp 13)))) none,
       .act none (.op (.eff (.store 8 (.tmp 4) (.tmp 15)))) none])
     (.seq (.steps [
       .act (some 16) (.op (.pure (.mkFunc 40 [] [(.tmp 4)]))) none,
       .act (some 5) (.op (.pure (.move (.tmp 16)))) none])
     (.seq (.steps [
       .act (some 17) (.op (.read (.loadN 8 (.tmp 4)))) none,
       .act (some 18) (.call (.func 42) [(.tmp 17)]) none,
       .act (some 19) (.op (.pure (.not (.tmp 18)))) none,
       .act (some 20) (.op (.pure (.move (.tmp 19)))) none,
       .act (some 21) (.op (.pure (.move (.tmp 0)))) (some (20, false)),
       .act (some 22) (.op (.pure (.move (.tmp 3)))) (some (20, false)),
       .act (some 23) (.op (.read (.slSl 8 (.tmp 21) none (some (.tmp 22)) none))) (some (20, false)),
       .act (some 24) (.op (.pure (.move (.tmp 5)))) (some (20, false)),
       .act (some 25) (.call (.func 43) [(.tmp 23), (.tmp 24)]) (some (20, false)),
       .act (some 26) (.op (.pure (.pick (.tmp 20) (.const (.bool true)) (.tmp 25)))) none])
     (.cond (.tmp 26)
      (.seq (.steps [
        .act (some 2) (.op (.pure (.move (.const (.bool false))))) none])
      .ret)
      .skip)))))
    (.steps [
      .act (some 27) (.op (.pure (.bin .add (.tmp 11) (.const (.int .i64 1))))) none,
      .act (some 11) (.op (.pure (.move (.tmp 27)))) none])))))))
  (.seq (.steps [
    .act (some 2) (.op (.pure (.move (.const (.bool true))))) none])
  .ret)))) }
theorem c25 : compFn Try.prog (mkPlan Try.prog) [(4, [0, 9, 10, 11])] true 25 = some L25 := by kernel_rfl
/-- sluiceway/hist.Ahead -/
def L26 : LFun := { n := 14, pop := true, res := [.tmp 4], code :=
  (.seq (.steps [
    .act (some 2) (.op (.new (.box (.tmp 0)))) none,
    .act (some 3) (.op (.new (.box (.tmp 1)))) none,
    .act (some 4) (.op (.pure (.move (.const (.bool false))))) none])
  (.seq (.steps [
    .act (some 5) (.op (.pure (.fieldAddr 5 (.tmp 2)))) none,
    .act (some 6) (.op (.read (.load1 (.tmp 5)))) none,
    .act (some 7) (.op (.pure (.move (.tmp 6)))) none,
    .act (some 8) (.op (.pure (.fieldAddr 4 (.tmp 2)))) (some (7, true)),
    .act (some 9) (.op (.read (.load1 (.tmp 8)))) (some (7, true)),
    .act (some 10) (.op (.pure (.fieldAddr 3 (.tmp 3)))) (some (7, true)),
    .act (some 11) (.op (.read (.load1 (.tmp 10)))) (some (7, true)),
    .act (some 12) (.op (.pure (.bin .lss (.tmp 9) (.tmp 11)))) (some (7, true)),
    .act (some 13) (.op (.pure (.pick (.tmp 7) (.tmp 12) (.const (.bool false))))) none,
    .act (some 4) (.op (.pure (.move (.tmp 13)))) none])
  .ret)) }
theorem c26 : compFn Try.prog (mkPlan Try.prog) [] true 26 = some L26 := by kernel_rfl
/-- (sluiceway/spec.Fifo).Do -/
def L27 : LFun := { n := 43, pop := false, res := [.loadN 2 6, .tmp 7, .tmp 8], code :=
  (.seq (.steps [
    .act (some 3) (.op (.new (.box (.tmp 0)))) none,
    .act (some 6) (.op (.new (.alloc [(.int .i64 0), (.slice none 0 0)]))) none,
    .act (some 7) (.op (.pure (.move (.const (.int .i64 0))))) none,
    .act (some 8) (.op (.pure (.move (.const (w64 0#64))))) none])
  (.seq (.block 0 (.seq (.steps [
     .act (some 10) (.op (.pure (.move (.tmp 1)))) none,
     .act (some 11) (.op (.pure (.bin .eql (.tmp 10) (.const (.int .i64 0))))) none,
     .act (some 12) (.op (.pure (.move (.tmp 11)))) none,
     .act (some 13) (.op (.read (.loadN 2 (.tmp 3)))) (some (12, true)),
     .act (some 14) (.call (.func 44) [(.tmp 13)]) (some (12, true)),
     .act (some 15) (.op (.pure (.pick (.tmp 12) (.tmp 14) (.const (.bool false))))) none,
     .act (some 9) (.op (.pure (.move (.tmp 15)))) none])
   (.cond (.tmp 9)
    (.seq (.steps [
      .act (some 16) (.op (.read (.loadN 2 (.tmp 3)))) none,
      .act none (.op (.eff (.store 2 (.tmp 6) (.tmp 16)))) none,
      .act (some 7) (.op (.pure (.move (.const (.int .i64 15))))) none,
      .act (some 8) (.op (.pure (.move (.const (w64 0#64))))) none])
    .ret)
    (.seq (.steps [
      .act (some 18) (.op (.pure (.move (.tmp 1)))) none,
      .act (some 19) (.op (.pure (.bin .eql (.tmp 18) (.const (.int .i64 0))))) none,
      .act (some 17) (.op (.pure (.move (.tmp 19)))) none])
    (.cond (.tmp 17)
     (.seq (.steps [
       .act (some 20) (.op (.read (.loadN 2 (.tmp 3)))) none,
       .act (some 21) (.op (.pure (.move (.tmp 2)))) none,
       .act (some 22) (.call (.func 45) [(.tmp 20), (.tmp 21)]) none,
       .act none (.op (.eff (.store 2 (.tmp 6) (.tmp 22)))) none,
       .act (some 7) (.op (.pure (.move (.const (.int .i64 0))))) none,
       .act (some 8) (.op (.pure (.move (.const (w64 0#64))))) none])
     .ret)
     (.seq (.steps [
       .act (some 24) (.op (.pure (.move (.tmp 1)))) none,
       .act (some 25) (.op (.pure (.bin .eql (.tmp 24) (.const (.int .i64 1))))) none,
       .act (some 26) (.op (.pure (.move (.tmp 25)))) none,
       .act (some 27) (.op (.pure (.fieldAddr 1 (.tmp 3)))) (some (26, true)),
       .act (some 28) (.op (.read (.load1 (.tmp 27)))) (some (26, true)),
       .act (some 29) (.op (.pure (.len false (.tmp 28)))) (some (26, true)),
       .act (some 30) (.op (.pure (.bin .eql (.tmp 29) (.const (.int .i64 0))))) (some (26, true)),
       .act (some 31) (.op (.pure (.pick (.tmp 26) (.tmp 30) (.const (.bool false))))) none,
       .act (some 23) (.op (.pure (.move (.tmp 31)))) none])
     (.cond (.tmp 23)
      (.seq (.steps [
        .act (some 32) (.op (.read (.loadN 2 (.tmp 3)))) none,
        .act none (.op (.eff (.store 2 (.tmp 6) (.tmp 32)))) none,
        .act (some 7) (.op (.pure (.move (.const (.int .i64 13))))) none,
        .act (some 8) (.op (.pure (.move (.const (w64 0#64))))) none])
      .ret)
      (.seq (.steps [
        .act (some 34) (.op (.pure (.move (.tmp 1)))) none,
        .act (some 35) (.op (.pure (.bin .eql (.tmp 34) (.const (.int .i64 1))))) none,
        .act (some 33) (.op (.pure (.move (.tmp 35)))) none])
      (.cond (.tmp 33)
       (.seq (.steps [
         .act (some 36) (.op (.read (.loadN 2 (.tmp 3)))) none,
         .act (some 38) (.op (.pure (.fieldAddr 1 (.tmp 3)))) none,
         .act (some 39) (.op (.read (.load1 (.tmp 38)))) none,
         .act (some 40) (.op (.pure (.idxSl 1 (.tmp 39) (.const (.int .i64 0))))) none,
         .act (some 41) (.op (.read (.load1 (.tmp 40)))) none,
         .act (some 37) (.call (.func 46) [(.tmp 36)]) none,
         .again 41 (.load1 (.tmp 40)) none,
         .again 39 (.load1 (.tmp 38)) none,
         .act none (.op (.eff (.store 2 (.tmp 6) (.tmp 37)))) none,
         .act (some 7) (.op (.pure (.move (.const (.int .i64 0))))) none,
         .act (some 8) (.op (.pure (.move (.tmp 41)))) none,
         .again 41 (.load1 (.tmp 40)) none,
         .again 39 (.load1 (.tmp 38)) none])
       .ret)
       .skip)))))))))
  (.seq (.steps [
    .act (some 42) (.op (.read (.loadN 2 (.tmp 3)))) none,
    .act none (.op (.eff (.store 2 (.tmp 6) (.tmp 42)))) none,
    .act (some 7) (.op (.pure (.move (.const (.int .i64 2))))) none,
    .act (some 8) (.op (.pure (.move (.const (w64 0#64))))) none])
  .ret))) }
theorem c27 : compFn Try.prog (mkPlan Try.prog) [] false 27 = some L27 := by kernel_rfl
/-- (sluiceway/spec.Fifo).let -/
def L28 : LFun := { n := 84, pop := true, res := [.tmp 10], code :=
  (.seq (.steps [
    .act (some 5) (.op (.new (.box (.tmp 0)))) none,
    .act (some 6) (.op (.new (.box (.tmp 1)))) none,
    .act (some 10) (.op (.pure (.move (.const (.bool false))))) none])
  (.seq (.steps [
    .act (some 11) (.op (.pure (.move (.tmp 3)))) none,
    .act (some 12) (.op (.pure (.minmax true [(.tmp 11), (.const (.int .i64 0))]))) none,
    .act (some 13) (.op (.pure (.move (.tmp 4)))) none,
    .act (some 14) (.op (.pure (.minmax true [(.tmp 13), (.const (.int .i64 0))]))) none,
    .act (some 3) (.op (.pure (.move (.tmp 12)))) none,
    .act (some 4) (.op (.pure (.move (.tmp 14)))) none])
  (.seq (.block 0 (.seq (.steps [
     .act (some 16) (.op (.pure (.fieldAddr 7 (.tmp 6)))) none,
     .act (some 17) (.op (.read (.load1 (.tmp 16)))) none,
     .act (some 18) (.op (.pure (.bin .neq (.tmp 17) (.const (w64 0#64))))) none,
     .act (some 15) (.op (.pure (.move (.tmp 18)))) none])
   (.cond (.tmp 15)
    (.seq (.steps [
      .act (some 10) (.op (.pure (.move (.const (.bool false))))) none])
    .ret)
    (.seq (.steps [
      .act (some 20) (.op (.pure (.fieldAddr 1 (.tmp 6)))) none,
      .act (some 21) (.op (.read (.load1 (.tmp 20)))) none,
      .act (some 22) (.op (.pure (.bin .eql (.tmp 21) (.const (.int .i64 0))))) none,
      .act (some 23) (.op (.pure (.move (.tmp 22)))) none,
      .act (some 24) (.op (.pure (.fieldAddr 6 (.tmp 6)))) (some (23, true)),
      .act (some 25) (.op (.read (.load1 (.tmp 24)))) (some (23, true)),
      .act (some 26) (.op (.pure (.bin .eql (.tmp 25) (.const (.int .i64 15))))) (some (23, true)),
      .act (some 27) (.op (.pure (.pick (.tmp 23) (.tmp 26) (.const (.bool false))))) none,
      .act (some 28) (.op (.pure (.move (.tmp 27)))) none,
      .act (some 29) (.op (.pure (.fieldAddr 0 (.tmp 5)))) (some (28, true)),
      .act (some 30) (.op (.read (.load1 (.tmp 29)))) (some (28, true)),
      .act (some 31) (.op (.pure (.bin .gtr (.tmp 30) (.const (.int .i64 0))))) (some (28, true)),
      .act (some 32) (.op (.pure (.pick (.tmp 28) (.tmp 31) (.const (.bool false))))) none,
      .act (some 33) (.op (.pure (.move (.tmp 32)))) none,
      .act (some 34) (.op (.pure (.move (.tmp 2)))) (some (33, true)),
      .act (some 35) (.op (.pure (.bin .eql (.tmp 34) (.const (.int .i64 1))))) (some (33, true)),
      .act (some 36) (.op (.pure (.pick (.tmp 33) (.tmp 35) (.const (.bool false))))) none,
      .act (some 19) (.op (.pure (.move (.tmp 36)))) none])
    (.cond (.tmp 19)
     (.seq (.steps [
       .act (some 37) (.op (.pure (.move (.tmp 3)))) none,
       .act (some 38) (.op (.read (.loadN 2 (.tmp 5)))) none,
       .act (some 39) (.call (.func 47) [(.tmp 38)]) none,
       .act (some 40) (.op (.pure (.bin .geq (.tmp 37) (.tmp 39)))) none,
       .act (some 41) (.op (.pure (.move (.tmp 40)))) none,
       .act (some 42) (.op (.pure (.move (.tmp 4)))) (some (41, false)),
       .act (some 43) (.op (.read (.loadN 2 (.tmp 5)))) (some (41, false)),
       .act (some 44) (.call (.func 47) [(.tmp 43)]) (some (41, false)),
       .act (some 45) (.op (.pure (.move (.tmp 3)))) (some (41, false)),
       .act (some 46) (.op (.pure (.bin .sub (.tmp 44) (.tmp 45)))) (some (41, false)),
       .act (some 47) (.op (.pure (.bin .geq (.tmp 42) (.tmp 46)))) (some (41, false)),
       .act (some 48) (.op (.pure (.pick (.tmp 41) (.const (.bool true)) (.tmp 47)))) none,
       .act (some 10) (.op (.pure (.move (.tmp 48)))) none])
     .ret)
     (.seq (.steps [
       .act (some 50) (.op (.pure (.fieldAddr 1 (.tmp 6)))) none,
       .act (some 51) (.op (.read (.load1 (.tmp 50)))) none,
       .act (some 52) (.op (.pure (.bin .eql (.tmp 51) (.const (.int .i64 0))))) none,
       .act (some 53) (.op (.pure (.move (.tmp 52)))) none,
       .act (some 54) (.op (.pure (.fieldAddr 6 (.tmp 6)))) (some (53, true)),
       .act (some 55) (.op (.read (.load1 (.tmp 54)))) (some (53, true)),
       .act (some 56) (.op (.pure (.bin .eql (.tmp 55) (.const (.int .i64 15))))) (some (53, true)),
       .act (some 57) (.op (.pure (.pick (.tmp 53) (.tmp 56) (.const (.bool false))))) none,
       .act (some 58) (.op (.pure (.move (.tmp 57)))) none,
       .act (some 59) (.op (.pure (.fieldAddr 0 (.tmp 5)))) (some (58, true)),
       .act (some 60) (.op (.read (.load1 (.tmp 59)))) (some (58, true)),
       .act (some 61) (.op (.pure (.bin .gtr (.tmp 60) (.const (.int .i64 0))))) (some (58, true)),
       .act (some 62) (.op (.pure (.pick (.tmp 58) (.tmp 61) (.const (.bool false))))) none,
       .act (some 63) (.op (.pure (.move (.tmp 62)))) none,
       .act (some 64) (.op (.pure (.move (.tmp 2)))) (some (63, true)),
       .act (some 65) (.op (.pure (.bin .eql (.tmp 64) (.const (.int .i64 2))))) (some (63, true)),
       .act (some 66) (.op (.pure (.pick (.tmp 63) (.tmp 65) (.const (.bool false))))) none,
       .act (some 49) (.op (.pure (.move (.tmp 66)))) none])
     (.cond (.tmp 49)
      (.seq (.steps [
        .act (some 67) (.op (.pure (.move (.tmp 4)))) none,
        .act (some 68) (.op (.pure (.bin .gtr (.tmp 67) (.const (.int .i64 0))))) none,
        .act (some 10) (.op (.pure (.move (.tmp 68)))) none])
      .ret)
      (.seq (.steps [
        .act (some 70) (.op (.pure (.fieldAddr 1 (.tmp 6)))) none,
        .act (some 71) (.op (.read (.load1 (.tmp 70)))) none,
        .act (some 72) (.op (.pure (.bin .eql (.tmp 71) (.const (.int .i64 1))))) none,
        .act (some 73) (.op (.pure (.move (.tmp 72)))) none,
        .act (some 74) (.op (.pure (.fieldAddr 6 (.tmp 6)))) (some (73, true)),
        .act (some 75) (.op (.read (.load1 (.tmp 74)))) (some (73, true)),
        .act (some 76) (.op (.pure (.bin .eql (.tmp 75) (.const (.int .i64 13))))) (some (73, true)),
        .act (some 77) (.op (.pure (.pick (.tmp 73) (.tmp 76) (.const (.bool false))))) none,
        .act (some 78) (.op (.pure (.move (.tmp 77)))) none,
        .act (some 79) (.op (.pure (.move (.tmp 2)))) (some (78, true)),
        .act (some 80) (.op (.pure (.bin .eql (.tmp 79) (.const (.int .i64 2))))) (some (78, true)),
        .act (some 81) (.op (.pure (.pick (.tmp 78) (.tmp 80) (.const (.bool false))))) none,
        .act (some 69) (.op (.pure (.move (.tmp 81)))) none])
      (.cond (.tmp 69)
       (.seq (.steps [
         .act (some 82) (.op (.pure (.move (.tmp 3)))) none,
         .act (some 83) (.op (.pure (.bin .gtr (.tmp 82) (.const (.int .i64 0))))) none,
         .act (some 10) (.op (.pure (.move (.tmp 83)))) none])
       .ret)
       .skip)))))))))
  (.seq (.steps [
    .act (some 10) (.op (.pure (.move (.const (.bool false))))) none])
  .ret)))) }
theorem c28 : compFn Try.prog (mkPlan Try.prog) [] true 28 = some L28 := by kernel_rfl
/-- sluiceway/spec.lay -/
def L29 : LFun := { n := 16, pop := false, res := [.tmp 4], code :=
  (.seq (.steps [
    .act (some 4) (.op (.pure (.move (.const (.slice none 0 0))))) none])
  (.seq (.seq (.steps [
    .act (some 5) (.op (.pure (.move (.const (.int .i64 0))))) none])
  (.block 0 (.loop [0, 1, 5] (.seq (.steps [
      .act (some 6) (.op (.pure (.bin .lss (.tmp 5) (.const (.int .i64 8))))) none])
    (.seq (.cond (.tmp 6)
     .skip
     (.exit 0))
    (.seq (.block 1 (.seq (.steps [
       .act (some 7) (.op (.pure (.move (.tmp 0)))) none,
       .act (some 8) (.op (.pure (.move (.tmp 1)))) none,
       .act (some 9) (.op (.pure (.conv .u8 (.tmp 8)))) none,
       .act (some 10) (.op (.new (.mkSlice 1 1 [(b8 0)] [(0, 1, (.tmp 9))]))) none,
       .act (some 11) (.op (.eff (.append 1 1 (.tmp 7) (.tmp 10)))) none,
       .act (some 0) (.op (.pure (.move (.tmp 11)))) none])
     (.steps [
       .act (some 12) (.op (.pure (.move (.tmp 1)))) none,
       .act (some 13) (.op (.pure (.bin .shr (.tmp 12) (.const (w64 8#64))))) none,
       .act (some 1) (.op (.pure (.move (.tmp 13)))) none])))
    (.steps [
      .act (some 14) (.op (.pure (.bin .add (.tmp 5) (.const (.int .i64 1))))) none,
      .act (some 5) (.op (.pure (.move (.tmp 14)))) none])))))))
  (.seq (.steps [
    .act (some 15) (.op (.pure (.move (.tmp 0)))) none,
    .act (some 4) (.op (.pure (.move (.tmp 15)))) none])
  .ret))) }
theorem c29 : compFn Try.prog (mkPlan Try.prog) [(2, [0, 1, 5])] false 29 = some L29 := by kernel_rfl
/-- (sluiceway/lin.set).with -/
def L30 : LFun := { n := 9, pop := true, res := [.tmp 4], code :=
  (.seq (.steps [
    .act (some 4) (.op (.pure (.move (.const (w64 0#64))))) none])
  (.seq (.steps [
    .act (some 5) (.op (.pure (.move (.tmp 0)))) none,
    .act (some 6) (.op (.pure (.move (.tmp 1)))) none,
    .act (some 7) (.op (.pure (.bin .shl (.const (w64 1#64)) (.tmp 6)))) none,
    .act (some 8) (.op (.pure (.bin .or (.tmp 5) (.tmp 7)))) none,
    .act (some 4) (.op (.pure (.move (.tmp 8)))) none])
  .ret)) }
theorem c30 : compFn Try.prog (mkPlan Try.prog) [] true 30 = some L30 := by kernel_rfl
/-- (*sluiceway/lin.finder[sluiceway/spec.Fifo]).find -/
def L31 : LFun := { n := 99, pop := false, res := [.tmp 6], code :=
  (.seq (.steps [
    .act (some 5) (.op (.new (.box (.tmp 2)))) none,
    .act (some 6) (.op (.pure (.move (.const (.bool false))))) none])
  (.seq (.seq (.steps [
    .act (some 11) (.op (.pure (.move (.tmp 0)))) none,
    .act (some 12) (.op (.pure (.nilCheck (.tmp 11)))) none,
    .act (some 13) (.op (.pure (.fieldAddr 2 (.tmp 12)))) none,
    .act (some 14) (.op (.read (.load1 (.tmp 13)))) none,
    .act (some 15) (.op (.pure (.move (.tmp 1)))) none,
    .act (some 16) (.op (.pure (.bin .andNot (.tmp 14) (.tmp 15)))) none,
    .act (some 17) (.op (.pure (.bin .eql (.tmp 16) (.const (w64 0#64))))) none])
  (.cond (.tmp 17)
   (.seq (.steps [
     .act (some 6) (.op (.pure (.move (.const (.bool true))))) none])
   .ret)
   .skip))
  (.seq (.steps [
    .act (some 18) (.op (.pure (.move (.tmp 0)))) none,
    .act (some 19) (.op (.pure (.move (.tmp 1)))) none,
    .act (some 20) (.op (.read (.loadN 2 (.tmp 5)))) none,
    .act (some 21) (.call (.func 48) [(.tmp 18), (.tmp 19), (.tmp 20)]) none,
    .act (some 7) (.op (.pure (.move (.tmp 21)))) none])
  (.seq (.seq (.steps [
    .act (some 22) (.op (.pure (.move (.tmp 0)))) none,
    .act (some 23) (.op (.pure (.nilCheck (.tmp 22)))) none,
    .act (some 24) (.op (.pure (.fieldAddr 5 (.tmp 23)))) none,
    .act (some 25) (.op (.read (.load1 (.tmp 24)))) none,
    .act (some 26) (.op (.pure (.move (.tmp 7)))) none,
    .act (some 27) (.op (.read (.lookup true (.bool false) false (.tmp 25) (.tmp 26)))) none])
  (.cond (.tmp 27)
   (.seq (.steps [
     .act (some 6) (.op (.pure (.move (.const (.bool false))))) none])
   .ret)
   .skip))
  (.seq .skip
  (.seq (.seq (.steps [
    .act (some 28) (.op (.pure (.move (.tmp 0)))) none,
    .act (some 29) (.op (.pure (.nilCheck (.tmp 28)))) none,
    .act (some 30) (.op (.pure (.fieldAddr 0 (.tmp 29)))) none,
    .act (some 31) (.op (.read (.load1 (.tmp 30)))) none,
    .act (some 32) (.op (.pure (.len false (.tmp 31)))) none,
    .act (some 33) (.op (.pure (.move (.const (.int .i64 0))))) none])
  (.block 0 (.loop [0, 1, 5, 7, 32, 33] (.seq (.steps [
      .act (some 34) (.op (.pure (.bin .lss (.tmp 33) (.tmp 32)))) none])
    (.seq (.cond (.tmp 34)
     .skip
     (.exit 0))
    (.seq (.block 1 (.seq (.steps [
       .act (some 35) (.op (.pure (.move (.tmp 33)))) none,
       .act (some 8) (.op (.pure (.move (.tmp 35)))) none])
     (.seq (.seq (.steps [
       .act (some 36) (.op (.pure (.move (.tmp 1)))) none,
       .act (some 37) (.op (.pure (.move (.tmp 8)))) none,
       .act (some 38) (.call (.func 49) [(.tmp 36), (.tmp 37)]) none,
       .act (some 39) (.op (.pure (.move (.tmp 38)))) none,
       .act (some 40) (.op (.pure (.move (.tmp 0)))) (some (39, false)),
       .act (some 41) (.op (.pure (.nilCheck (.tmp 40)))) (some (39, false)),
       .act (some 42) (.op (.pure (.fieldAddr 1 (.tmp 41)))) (some (39, false)),
       .act (some 43) (.op (.read (.load1 (.tmp 42)))) (some (39, false)),
       .act (some 44) (.op (.pure (.move (.tmp 8)))) (some (39, false)),
       .act (some 45) (.op (.pure (.idxSl 1 (.tmp 43) (.tmp 44)))) (some (39, false)),
       .act (some 46) (.op (.read (.load1 (.tmp 45)))) (some (39, false)),
       .act (some 47) (.op (.pure (.move (.tmp 1)))) (some (39, false)),
       .act (some 48) (.op (.pure (.bin .andNot (.tmp 46) (.tmp 47)))) (some (39, false)),
       .act (some 49) (.op (.pure (.bin .neq (.tmp 48) (.const (w64 0#64))))) (some (39, false)),
       .act (some 50) (.op (.pure (.pick (.tmp 39) (.const (.bool true)) (.tmp 49)))) none])
     (.cond (.tmp 50)
      (.exit 1)
      .skip))
     (.seq (.steps [
       .act (some 52) (.op (.pure (.move (.tmp 0)))) none,
       .act (some 53) (.op (.pure (.nilCheck (.tmp 52)))) none,
       .act (some 54) (.op (.pure (.fieldAddr 3 (.tmp 53)))) none,
       .act (some 55) (.op (.read (.load1 (.tmp 54)))) none,
       .act (some 56) (.op (.read (.loadN 2 (.tmp 5)))) none,
       .act (some 57) (.op (.pure (.move (.tmp 8)))) none,
       .act (some 9) (.op (.new (.alloc [(.int .i64 0), (.slice none 0 0)]))) none,
       .act (some 58) (.call (.tmp 55) [(.tmp 56), (.tmp 57)]) none,
       .act (some 51) (.op (.pure (.move (.tmp 58)))) none,
       .act (some 59) (.op (.pure (.extract (.tmp 51) 0))) none,
       .act (some 60) (.op (.pure (.extract (.tmp 51) 1))) none,
       .act none (.op (.eff (.store 2 (.tmp 9) (.tmp 59)))) none,
       .act (some 10) (.op (.pure (.move (.tmp 60)))) none])
     (.seq (.seq (.steps [
       .act (some 61) (.op (.pure (.move (.tmp 10)))) none,
       .act (some 62) (.op (.pure (.not (.tmp 61)))) none])
     (.cond (.tmp 62)
      (.exit 1)
      .skip))
     (.seq (.steps [
       .act (some 63) (.op (.pure (.move (.tmp 0)))) none,
       .act (some 64) (.op (.pure (.move (.tmp 0)))) none,
       .act (some 65) (.op (.pure (.nilCheck (.tmp 64)))) none,
       .act (some 66) (.op (.pure (.fieldAddr 6 (.tmp 65)))) none,
       .act (some 67) (.op (.read (.load1 (.tmp 66)))) none,
       .act (some 68) (.op (.pure (.move (.tmp 8)))) none,
       .act (some 69) (.op (.new (.mkSlice 1 1 [(.int .i64 0)] [(0, 1, (.tmp 68))]))) none,
       .act (some 70) (.op (.eff (.append 1 8 (.tmp 67) (.tmp 69)))) none,
       .act (some 71) (.op (.pure (.nilCheck (.tmp 63)))) none,
       .act (some 72) (.op (.pure (.fieldAddr 6 (.tmp 71)))) none,
       .act none (.op (.eff (.store 1 (.tmp 72) (.tmp 70)))) none])
     (.seq (.seq (.steps [
       .act (some 73) (.op (.pure (.move (.tmp 0)))) none,
       .act (some 74) (.op (.pure (.move (.tmp 1)))) none,
       .act (some 75) (.op (.pure (.move (.tmp 8)))) none,
       .act (some 77) (.op (.read (.loadN 2 (.tmp 9)))) none,
       .act (some 76) (.call (.func 30) [(.tmp 74), (.tmp 75)]) none,
       .again 77 (.loadN 2 (.tmp 9)) none,
       .act (some 78) (.call (.func 31) [(.tmp 73), (.tmp 76), (.tmp 77)]) none])
     (.cond (.tmp 78)
      (.seq (.steps [
        .act (some 6) (.op (.pure (.move (.const (.bool true))))) none])
      .ret)
      .skip))
     (.steps [
       .act (some 79) (.op (.pure (.move (.tmp 0)))) none,
       .act (some 80) (.op (.pure (.move (.tmp 0)))) none,
       .act (some 81) (.op (.pure (.nilCheck (.tmp 80)))) none,
       .act (some 82) (.op (.pure (.fieldAddr 6 (.tmp 81)))) none,
       .act (some 83) (.op (.read (.load1 (.tmp 82)))) none,
       .act (some 84) (.op (.pure (.move (.tmp 0)))) none,
       .act (some 85) (.op (.pure (.nilCheck (.tmp 84)))) none,
       .act (some 86) (.op (.pure (.fieldAddr 6 (.tmp 85)))) none,
       .act (some 87) (.op (.read (.load1 (.tmp 86)))) none,
       .act (some 88) (.op (.pure (.len false (.tmp 87)))) none,
       .act (some 89) (.op (.pure (.bin .sub (.tmp 88) (.const (.int .i64 1))))) none,
       .act (some 90) (.op (.read (.slSl 1 (.tmp 83) none (some (.tmp 89)) none))) none,
       .act (some 91) (.op (.pure (.nilCheck (.tmp 79)))) none,
       .act (some 92) (.op (.pure (.fieldAddr 6 (.tmp 91)))) none,
       .act none (.op (.eff (.store 1 (.tmp 92) (.tmp 90)))) none]))))))))
    (.steps [
      .act (some 93) (.op (.pure (.bin .add (.tmp 33) (.const (.int .i64 1))))) none,
      .act (some 33) (.op (.pure (.move (.tmp 93)))) none])))))))
  (.seq (.steps [
    .act (some 94) (.op (.pure (.move (.tmp 0)))) none,
    .act (some 95) (.op (.pure (.nilCheck (.tmp 94)))) none,
    .act (some 96) (.op (.pure (.fieldAddr 5 (.tmp 95)))) none,
    .act (some 97) (.op (.read (.load1 (.tmp 96)))) none,
    .act (some 98) (.op (.pure (.move (.tmp 7)))) none,
    .act none (.op (.eff (.mapUpdate true (.tmp 97) (.tmp 98) (.const (.bool true))))) none])
  (.seq (.steps [
    .act (some 6) (.op (.pure (.move (.const (.bool false))))) none])
  .ret)))))))) }
theorem c31 : compFn Try.prog (mkPlan Try.prog) [(7, [0, 1, 5, 7, 32, 33])] false 31 = some L31 := by kernel_rfl
/-- sluiceway/hist.New -/
def L32 : LFun := { n := 4, pop := false, res := [.tmp 0], code :=
  (.seq (.steps [
    .act (some 0) (.op (.pure (.move (.const (.pointer none))))) none])
  (.seq (.steps [
    .act (some 1) (.op (.new (.makeMap))) none,
    .act (some 2) (.op (.pure (.build [(.slice none 0 0), (.map none), (.int .i64 0)] [(1, 1, (.tmp 1))]))) none,
    .act (some 3) (.op (.new (.box (.tmp 2)))) none,
    .act (some 0) (.op (.pure (.move (.tmp 3)))) none])
  .ret)) }
theorem c32 : compFn Try.prog (mkPlan Try.prog) [] false 32 = some L32 := by kernel_rfl
/-- (*sluiceway/hist.Log).Begin -/
def L33 : LFun := { n := 69, pop := false, res := [.tmp 8, .tmp 9], code :=
  (.seq (.steps [
    .act (some 8) (.op (.pure (.move (.const (.int .i64 0))))) none,
    .act (some 9) (.op (.pure (.move (.const (.int .i64 0))))) none])
  (.seq (.steps [
    .act (some 14) (.op (.pure (.move (.tmp 0)))) none,
    .act (some 15) (.op (.pure (.move (.tmp 1)))) none,
    .act (some 16) (.call (.func 50) [(.tmp 14), (.tmp 15)]) none,
    .act (some 13) (.op (.pure (.move (.tmp 16)))) none,
    .act (some 17) (.op (.pure (.extract (.tmp 13) 0))) none,
    .act (some 18) (.op (.pure (.extract (.tmp 13) 1))) none,
    .act (some 10) (.op (.pure (.move (.tmp 17)))) none,
    .act (some 11) (.op (.pure (.move (.tmp 18)))) none])
  (.seq (.block 0 (.seq (.steps [
     .act (some 20) (.op (.pure (.move (.tmp 0)))) none,
     .act (some 21) (.call (.func 51) [(.tmp 20)]) none,
     .act (some 19) (.op (.pure (.move (.tmp 21)))) none])
   (.cond (.tmp 19)
    (.seq (.steps [
      .act (some 8) (.op (.pure (.move (.const (.int .i64 0))))) none,
      .act (some 9) (.op (.pure (.move (.const (.int .i64 1))))) none])
    .ret)
    (.seq (.steps [
      .act (some 23) (.op (.pure (.move (.tmp 1)))) none,
      .act (some 24) (.op (.pure (.bin .lss (.tmp 23) (.const (.int .i64 0))))) none,
      .act (some 25) (.op (.pure (.move (.tmp 24)))) none,
      .act (some 26) (.op (.pure (.move (.tmp 1)))) (some (25, false)),
      .act (some 27) (.op (.pure (.bin .geq (.tmp 26) (.const (.int .i64 64))))) (some (25, false)),
      .act (some 28) (.op (.pure (.pick (.tmp 25) (.const (.bool true)) (.tmp 27)))) none,
      .act (some 22) (.op (.pure (.move (.tmp 28)))) none])
    (.cond (.tmp 22)
     (.seq (.steps [
       .act (some 8) (.op (.pure (.move (.const (.int .i64 0))))) none,
       .act (some 9) (.op (.pure (.move (.const (.int .i64 2))))) none])
     .ret)
     (.seq (.steps [
       .act (some 30) (.op (.pure (.move (.tmp 11)))) none,
       .act (some 29) (.op (.pure (.move (.tmp 30)))) none])
     (.cond (.tmp 29)
      (.seq (.steps [
        .act (some 8) (.op (.pure (.move (.const (.int .i64 0))))) none,
        .act (some 9) (.op (.pure (.move (.const (.int .i64 16))))) none])
      .ret)
      (.seq (.steps [
        .act (some 32) (.op (.pure (.move (.tmp 0)))) none,
        .act (some 33) (.op (.pure (.nilCheck (.tmp 32)))) none,
        .act (some 34) (.op (.pure (.fieldAddr 0 (.tmp 33)))) none,
        .act (some 35) (.op (.read (.load1 (.tmp 34)))) none,
        .act (some 36) (.op (.pure (.len false (.tmp 35)))) none,
        .act (some 37) (.op (.pure (.bin .geq (.tmp 36) (.const (.int .i64 1024))))) none,
        .act (some 31) (.op (.pure (.move (.tmp 37)))) none])
      (.cond (.tmp 31)
       (.seq (.steps [
         .act (some 8) (.op (.pure (.move (.const (.int .i64 0))))) none,
         .act (some 9) (.op (.pure (.move (.const (.int .i64 15))))) none])
       .ret)
       .skip)))))))))
  (.seq (.steps [
    .act (some 38) (.op (.pure (.move (.tmp 0)))) none,
    .act (some 39) (.op (.pure (.nilCheck (.tmp 38)))) none,
    .act (some 40) (.op (.pure (.fieldAddr 0 (.tmp 39)))) none,
    .act (some 41) (.op (.read (.load1 (.tmp 40)))) none,
    .act (some 42) (.op (.pure (.len false (.tmp 41)))) none,
    .act (some 12) (.op (.pure (.move (.tmp 42)))) none])
  (.seq (.steps [
    .act (some 43) (.op (.pure (.move (.tmp 0)))) none,
    .act (some 44) (.op (.pure (.move (.tmp 0)))) none,
    .act (some 45) (.op (.pure (.nilCheck (.tmp 44)))) none,
    .act (some 46) (.op (.pure (.fieldAddr 0 (.tmp 45)))) none,
    .act (some 47) (.op (.read (.load1 (.tmp 46)))) none,
    .act (some 48) (.op (.pure (.move (.tmp 1)))) none,
    .act (some 49) (.op (.pure (.move (.tmp 2)))) none,
    .act (some 50) (.op (.pure (.move (.tmp 3)))) none,
    .act (some 51) (.op (.pure (.move (.tmp 0)))) none,
    .act (some 52) (.op (.pure (.nilCheck (.tmp 51)))) none,
    .act (some 53) (.op (.pure (.fieldAddr 2 (.tmp 52)))) none,
    .act (some 54) (.op (.read (.load1 (.tmp 53)))) none,
    .act (some 55) (.op (.pure (.build [(.int .i64 0), (.int .i64 0), (w64 0#64), (.int .i64 0), (.int .i64 0), (.bool false), (.int .i64 0), (w64 0#64)] [(0, 1, (.tmp 48)), (1, 1, (.tmp 49)), (2, 1, (.tmp 50)), (3, 1, (.tmp 54))]))) none,
    .act (some 56) (.op (.new (.mkSlice 8 1 [(.int .i64 0), (.int .i64 0), (w64 0#64), (.int .i64 0), (.int .i64 0), (.bool false), (.int .i64 0), (w64 0#64)] [(0, 8, (.tmp 55))]))) none,
    .act (some 57) (.op (.eff (.append 8 64 (.tmp 47) (.tmp 56)))) none,
    .act (some 58) (.op (.pure (.nilCheck (.tmp 43)))) none,
    .act (some 59) (.op (.pure (.fieldAddr 0 (.tmp 58)))) none,
    .act none (.op (.eff (.store 1 (.tmp 59) (.tmp 57)))) none])
  (.seq (.steps [
    .act (some 60) (.op (.pure (.move (.tmp 0)))) none,
    .act (some 61) (.op (.pure (.nilCheck (.tmp 60)))) none,
    .act (some 62) (.op (.pure (.fieldAddr 1 (.tmp 61)))) none,
    .act (some 63) (.op (.read (.load1 (.tmp 62)))) none,
    .act (some 64) (.op (.pure (.move (.tmp 1)))) none,
    .act (some 65) (.op (.pure (.move (.tmp 12)))) none,
    .act none (.op (.eff (.mapUpdate false (.tmp 63) (.tmp 64) (.tmp 65)))) none])
  (.seq (.steps [
    .act (some 66) (.op (.pure (.move (.tmp 0)))) none,
    .act (some 67) (.call (.func 52) [(.tmp 66)]) none])
  (.seq (.steps [
    .act (some 68) (.op (.pure (.move (.tmp 12)))) none,
    .act (some 8) (.op (.pure (.move (.tmp 68)))) none,
    .act (some 9) (.op (.pure (.move (.const (.int .i64 0))))) none])
  .ret)))))))) }
theorem c33 : compFn Try.prog (mkPlan Try.prog) [] false 33 = some L33 := by kernel_rfl
/-- (*sluiceway/hist.Log).End -/
def L34 : LFun := { n := 68, pop := false, res := [.tmp 8], code :=
  (.seq (.steps [
    .act (some 8) (.op (.pure (.move (.const (.int .i64 0))))) none])
  (.seq (.block 0 (.seq (.steps [
     .act (some 11) (.op (.pure (.move (.tmp 0)))) none,
     .act (some 12) (.call (.func 51) [(.tmp 11)]) none,
     .act (some 10) (.op (.pure (.move (.tmp 12)))) none])
   (.cond (.tmp 10)
    (.seq (.steps [
      .act (some 8) (.op (.pure (.move (.const (.int .i64 1))))) none])
    .ret)
    (.seq (.steps [
      .act (some 14) (.op (.pure (.move (.tmp 1)))) none,
      .act (some 15) (.op (.pure (.bin .lss (.tmp 14) (.const (.int .i64 0))))) none,
      .act (some 16) (.op (.pure (.move (.tmp 15)))) none,
      .act (some 17) (.op (.pure (.move (.tmp 1)))) (some (16, false)),
      .act (some 18) (.op (.pure (.move (.tmp 0)))) (some (16, false)),
      .act (some 19) (.op (.pure (.nilCheck (.tmp 18)))) (some (16, false)),
      .act (some 20) (.op (.pure (.fieldAddr 0 (.tmp 19)))) (some (16, false)),
      .act (some 21) (.op (.read (.load1 (.tmp 20)))) (some (16, false)),
      .act (some 22) (.op (.pure (.len false (.tmp 21)))) (some (16, false)),
      .act (some 23) (.op (.pure (.bin .geq (.tmp 17) (.tmp 22)))) (some (16, false)),
      .act (some 24) (.op (.pure (.pick (.tmp 16) (.const (.bool true)) (.tmp 23)))) none,
      .act (some 13) (.op (.pure (.move (.tmp 24)))) none])
    (.cond (.tmp 13)
     (.seq (.steps [
       .act (some 8) (.op (.pure (.move (.const (.int .i64 13))))) none])
     .ret)
     (.seq (.steps [
       .act (some 26) (.op (.pure (.move (.tmp 0)))) none,
       .act (some 27) (.op (.pure (.nilCheck (.tmp 26)))) none,
       .act (some 28) (.op (.pure (.fieldAddr 0 (.tmp 27)))) none,
       .act (some 29) (.op (.read (.load1 (.tmp 28)))) none,
       .act (some 30) (.op (.pure (.move (.tmp 1)))) none,
       .act (some 31) (.op (.pure (.idxSl 8 (.tmp 29) (.tmp 30)))) none,
       .act (some 32) (.op (.pure (.fieldAddr 5 (.tmp 31)))) none,
       .act (some 33) (.op (.read (.load1 (.tmp 32)))) none,
       .act (some 25) (.op (.pure (.move (.tmp 33)))) none])
     (.cond (.tmp 25)
      (.seq (.steps [
        .act (some 8) (.op (.pure (.move (.const (.int .i64 16))))) none])
      .ret)
      .skip)))))))
  (.seq (.steps [
    .act (some 34) (.op (.pure (.move (.tmp 0)))) none,
    .act (some 35) (.op (.pure (.nilCheck (.tmp 34)))) none,
    .act (some 36) (.op (.pure (.fieldAddr 0 (.tmp 35)))) none,
    .act (some 37) (.op (.read (.load1 (.tmp 36)))) none,
    .act (some 38) (.op (.pure (.move (.tmp 1)))) none,
    .act (some 39) (.op (.pure (.idxSl 8 (.tmp 37) (.tmp 38)))) none,
    .act (some 9) (.op (.pure (.move (.tmp 39)))) none])
  (.seq (.steps [
    .act (some 40) (.op (.pure (.move (.tmp 9)))) none,
    .act (some 41) (.op (.pure (.move (.tmp 9)))) none,
    .act (some 42) (.op (.pure (.move (.tmp 9)))) none,
    .act (some 43) (.op (.pure (.move (.tmp 9)))) none,
    .act (some 44) (.op (.pure (.move (.tmp 0)))) none,
    .act (some 45) (.op (.pure (.nilCheck (.tmp 44)))) none,
    .act (some 46) (.op (.pure (.fieldAddr 2 (.tmp 45)))) none,
    .act (some 47) (.op (.read (.load1 (.tmp 46)))) none,
    .act (some 48) (.op (.pure (.move (.tmp 2)))) none,
    .act (some 49) (.op (.pure (.move (.tmp 3)))) none,
    .act (some 50) (.op (.pure (.nilCheck (.tmp 40)))) none,
    .act (some 51) (.op (.pure (.fieldAddr 5 (.tmp 50)))) none,
    .act none (.op (.eff (.store 1 (.tmp 51) (.const (.bool true))))) none,
    .act (some 52) (.op (.pure (.nilCheck (.tmp 41)))) none,
    .act (some 53) (.op (.pure (.fieldAddr 4 (.tmp 52)))) none,
    .act none (.op (.eff (.store 1 (.tmp 53) (.tmp 47)))) none,
    .act (some 54) (.op (.pure (.nilCheck (.tmp 42)))) none,
    .act (some 55) (.op (.pure (.fieldAddr 6 (.tmp 54)))) none,
    .act none (.op (.eff (.store 1 (.tmp 55) (.tmp 48)))) none,
    .act (some 56) (.op (.pure (.nilCheck (.tmp 43)))) none,
    .act (some 57) (.op (.pure (.fieldAddr 7 (.tmp 56)))) none,
    .act none (.op (.eff (.store 1 (.tmp 57) (.tmp 49)))) none])
  (.seq (.steps [
    .act (some 58) (.op (.pure (.move (.tmp 0)))) none,
    .act (some 59) (.op (.pure (.nilCheck (.tmp 58)))) none,
    .act (some 60) (.op (.pure (.fieldAddr 1 (.tmp 59)))) none,
    .act (some 61) (.op (.read (.load1 (.tmp 60)))) none,
    .act (some 62) (.op (.pure (.move (.tmp 9)))) none,
    .act (some 63) (.op (.pure (.nilCheck (.tmp 62)))) none,
    .act (some 64) (.op (.pure (.fieldAddr 0 (.tmp 63)))) none,
    .act (some 65) (.op (.read (.load1 (.tmp 64)))) none,
    .act none (.op (.eff (.delete false (.tmp 61) (.tmp 65)))) none])
  (.seq (.steps [
    .act (some 66) (.op (.pure (.move (.tmp 0)))) none,
    .act (some 67) (.call (.func 52) [(.tmp 66)]) none])
  (.seq (.steps [
    .act (some 8) (.op (.pure (.move (.const (.int .i64 0))))) none])
  .ret))))))) }
theorem c34 : compFn Try.prog (mkPlan Try.prog) [] false 34 = some L34 := by kernel_rfl
/-- (*sluiceway/hist.Log).Calls -/
def L35 : LFun := { n := 10, pop := false, res := [.tmp 2], code :=
  (.seq (.steps [
    .act (some 2) (.op (.pure (.move (.const (.slice none 0 0))))) none])
  (.seq (.seq (.steps [
    .act (some 3) (.op (.pure (.move (.tmp 0)))) none,
    .act (some 4) (.call (.func 51) [(.tmp 3)]) none])
  (.cond (.tmp 4)
   (.seq (.steps [
     .act (some 2) (.op (.pure (.move (.const (.slice none 0 0))))) none])
   .ret)
   .skip))
  (.seq (.steps [
    .act (some 5) (.op (.pure (.move (.tmp 0)))) none,
    .act (some 6) (.op (.pure (.nilCheck (.tmp 5)))) none,
    .act (some 7) (.op (.pure (.fieldAddr 0 (.tmp 6)))) none,
    .act (some 8) (.op (.read (.load1 (.tmp 7)))) none,
    .act (some 9) (.call (.func 53) [(.tmp 8)]) none,
    .act (some 2) (.op (.pure (.move (.tmp 9)))) none])
  .ret))) }
theorem c35 : compFn Try.prog (mkPlan Try.prog) [] false 35 = some L35 := by kernel_rfl
/-- (sluiceway/sluicewayref04.Call).On -/
def L36 : LFun := { n := 20, pop := true, res := [.tmp 4], code :=
  (.seq (.steps [
    .act (some 2) (.op (.new (.box (.tmp 0)))) none,
    .act (some 4) (.op (.pure (.move (.const (.bool false))))) none])
  (.seq (.steps [
    .act (some 5) (.op (.pure (.fieldAddr 3 (.tmp 2)))) none,
    .act (some 6) (.op (.read (.load1 (.tmp 5)))) none,
    .act (some 7) (.op (.pure (.move (.tmp 1)))) none,
    .act (some 8) (.op (.pure (.bin .leq (.tmp 6) (.tmp 7)))) none,
    .act (some 9) (.op (.pure (.move (.tmp 8)))) none,
    .act (some 10) (.op (.pure (.fieldAddr 5 (.tmp 2)))) (some (9, true)),
    .act (some 11) (.op (.read (.load1 (.tmp 10)))) (some (9, true)),
    .act (some 12) (.op (.pure (.not (.tmp 11)))) (some (9, true)),
    .act (some 13) (.op (.pure (.move (.tmp 12)))) (some (9, true)),
    .act (some 14) (.op (.pure (.move (.tmp 1)))) (some (13, false)),
    .act (some 15) (.op (.pure (.fieldAddr 4 (.tmp 2)))) (some (13, false)),
    .act (some 16) (.op (.read (.load1 (.tmp 15)))) (some (13, false)),
    .act (some 17) (.op (.pure (.bin .leq (.tmp 14) (.tmp 16)))) (some (13, false)),
    .act (some 18) (.op (.pure (.pick (.tmp 13) (.const (.bool true)) (.tmp 17)))) (some (9, true)),
    .act (some 19) (.op (.pure (.pick (.tmp 9) (.tmp 18) (.const (.bool false))))) none,
    .act (some 4) (.op (.pure (.move (.tmp 19)))) none])
  .ret)) }
theorem c36 : compFn Try.prog (mkPlan Try.prog) [] true 36 = some L36 := by kernel_rfl
/-- sluiceway/lin.may$1 -/
def L37 : LFun := { n := 23, pop := false, res := [.loadN 2 6, .tmp 7], code :=
  (.seq (.steps [
    .act (some 4) (.op (.new (.box (.tmp 0)))) none,
    .act (some 6) (.op (.new (.alloc [(.int .i64 0), (.slice none 0 0)]))) none,
    .act (some 7) (.op (.pure (.move (.const (.bool false))))) none])
  (.seq (.steps [
    .act (some 8) (.op (.read (.loadN 2 (.tmp 4)))) none,
    .act (some 9) (.op (.read (.load1 (.tmp 2)))) none,
    .act (some 10) (.op (.pure (.move (.tmp 1)))) none,
    .act (some 11) (.op (.pure (.idxSl 8 (.tmp 9) (.tmp 10)))) none,
    .act (some 12) (.op (.read (.loadN 8 (.tmp 11)))) none,
    .act (some 13) (.op (.read (.load1 (.tmp 3)))) none,
    .act (some 14) (.op (.read (.load1 (.tmp 2)))) none,
    .act (some 15) (.op (.pure (.move (.tmp 1)))) none,
    .act (some 17) (.op (.read (.load1 (.tmp 2)))) none,
    .act (some 18) (.op (.pure (.move (.tmp 1)))) none,
    .act (some 16) (.call (.func 38) [(.tmp 14), (.tmp 15), (.const (.int .i64 0))]) none,
    .again 17 (.load1 (.tmp 2)) none,
    .again 13 (.load1 (.tmp 3)) none,
    .again 12 (.loadN 8 (.tmp 11)) none,
    .again 9 (.load1 (.tmp 2)) none,
    .again 8 (.loadN 2 (.tmp 4)) none,
    .act (some 19) (.call (.func 38) [(.tmp 17), (.tmp 18), (.const (.int .i64 1))]) none,
    .again 13 (.load1 (.tmp 3)) none,
    .again 12 (.loadN 8 (.tmp 11)) none,
    .again 9 (.load1 (.tmp 2)) none,
    .again 8 (.loadN 2 (.tmp 4)) none,
    .act (some 20) (.call (.func 15) [(.tmp 8), (.tmp 12), (.tmp 13), (.tmp 16), (.tmp 19)]) none,
    .act (some 21) (.op (.pure (.extract (.tmp 20) 0))) none,
    .act (some 22) (.op (.pure (.extract (.tmp 20) 1))) none,
    .act none (.op (.eff (.store 2 (.tmp 6) (.tmp 21)))) none,
    .act (some 7) (.op (.pure (.move (.tmp 22)))) none])
  .ret)) }
theorem c37 : compFn Try.prog (mkPlan Try.prog) [] false 37 = some L37 := by kernel_rfl
/-- sluiceway/hist.Among -/
def L38 : LFun := { n := 50, pop := true, res := [.tmp 6], code :=
  (.seq (.steps [
    .act (some 6) (.op (.pure (.move (.const (.int .i64 0))))) none])
  (.seq (.seq (.steps [
    .act (some 10) (.op (.pure (.move (.tmp 1)))) none,
    .act (some 11) (.op (.pure (.bin .lss (.tmp 10) (.const (.int .i64 0))))) none,
    .act (some 12) (.op (.pure (.move (.tmp 11)))) none,
    .act (some 13) (.op (.pure (.move (.tmp 1)))) (some (12, false)),
    .act (some 14) (.op (.pure (.move (.tmp 0)))) (some (12, false)),
    .act (some 15) (.op (.pure (.len false (.tmp 14)))) (some (12, false)),
    .act (some 16) (.op (.pure (.bin .geq (.tmp 13) (.tmp 15)))) (some (12, false)),
    .act (some 17) (.op (.pure (.pick (.tmp 12) (.const (.bool true)) (.tmp 16)))) none])
  (.cond (.tmp 17)
   (.seq (.steps [
     .act (some 6) (.op (.pure (.move (.const (.int .i64 0))))) none])
   .ret)
   .skip))
  (.seq (.steps [
    .act (some 7) (.op (.pure (.move (.const (.int .i64 0))))) none])
  (.seq (.seq (.steps [
    .act (some 18) (.op (.pure (.move (.tmp 0)))) none,
    .act (some 19) (.op (.pure (.len false (.tmp 18)))) none,
    .act (some 20) (.op (.pure (.move (.const (.int .i64 0))))) none])
  (.block 0 (.loop [0, 1, 2, 7, 18, 19, 20] (.seq (.steps [
      .act (some 21) (.op (.pure (.bin .lss (.tmp 20) (.tmp 19)))) none])
    (.seq (.cond (.tmp 21)
     .skip
     (.exit 0))
    (.seq (.block 1 (.seq (.steps [
       .act (some 22) (.op (.pure (.move (.tmp 20)))) none,
       .act (some 23) (.op (.pure (.idxSl 8 (.tmp 18) (.tmp 20)))) none,
       .act (some 24) (.op (.read (.loadN 8 (.tmp 23)))) none,
       .act (some 9) (.op (.new (.alloc [(.int .i64 0), (.int .i64 0), (w64 0#64), (.int .i64 0), (.int .i64 0), (.bool false), (.int .i64 0), (w64 0#64)]))) none,
       .act (some 8) (.op (.pure (.move (.tmp 22)))) none,
       .act none (.op (.eff (.store 8 (.tmp 9) (.tmp 24)))) none])
     (.seq (.steps [
       .act (some 25) (.op (.pure (.move (.tmp 8)))) none,
       .act (some 26) (.op (.pure (.move (.tmp 1)))) none,
       .act (some 27) (.op (.pure (.bin .neq (.tmp 25) (.tmp 26)))) none,
       .act (some 28) (.op (.pure (.move (.tmp 27)))) none,
       .act (some 29) (.op (.pure (.move (.tmp 2)))) (some (28, true)),
       .act (some 30) (.op (.pure (.bin .lss (.tmp 29) (.const (.int .i64 0))))) (some (28, true)),
       .act (some 31) (.op (.pure (.move (.tmp 30)))) (some (28, true)),
       .act (some 32) (.op (.pure (.fieldAddr 1 (.tmp 9)))) (some (31, false)),
       .act (some 33) (.op (.read (.load1 (.tmp 32)))) (some (31, false)),
       .act (some 34) (.op (.pure (.move (.tmp 2)))) (some (31, false)),
       .act (some 35) (.op (.pure (.bin .eql (.tmp 33) (.tmp 34)))) (some (31, false)),
       .act (some 36) (.op (.pure (.pick (.tmp 31) (.const (.bool true)) (.tmp 35)))) (some (28, true)),
       .act (some 37) (.op (.pure (.pick (.tmp 28) (.tmp 36) (.const (.bool false))))) none,
       .act (some 38) (.op (.pure (.move (.tmp 37)))) none,
       .act (some 39) (.op (.read (.loadN 8 (.tmp 9)))) (some (38, true)),
       .act (some 40) (.op (.pure (.move (.tmp 0)))) (some (38, true)),
       .act (some 41) (.op (.pure (.move (.tmp 1)))) (some (38, true)),
       .act (some 42) (.op (.pure (.idxSl 8 (.tmp 40) (.tmp 41)))) (some (38, true)),
       .act (some 43) (.op (.read (.loadN 8 (.tmp 42)))) (some (38, true)),
       .act (some 44) (.call (.func 41) [(.tmp 39), (.tmp 43)]) (some (38, true)),
       .act (some 45) (.op (.pure (.pick (.tmp 38) (.tmp 44) (.const (.bool false))))) none])
     (.cond (.tmp 45)
      (.steps [
        .act (some 46) (.op (.pure (.move (.tmp 7)))) none,
        .act (some 47) (.op (.pure (.bin .add (.tmp 46) (.const (.int .i64 1))))) none,
        .act (some 7) (.op (.pure (.move (.tmp 47)))) none])
      .skip))))
    (.steps [
      .act (some 48) (.op (.pure (.bin .add (.tmp 20) (.const (.int .i64 1))))) none,
      .act (some 20) (.op (.pure (.move (.tmp 48)))) none])))))))
  (.seq (.steps [
    .act (some 49) (.op (.pure (.move (.tmp 7)))) none,
    .act (some 6) (.op (.pure (.move (.tmp 49)))) none])
  .ret))))) }
theorem c38 : compFn Try.prog (mkPlan Try.prog) [(5, [0, 1, 2, 7, 18, 19, 20])] true 38 = some L38 := by kernel_rfl
/-- (sluiceway/sluicewayref05.Fifo).Do -/
def L39 : LFun := { n := 54, pop := false, res := [.loadN 2 6, .tmp 7, .tmp 8], code :=
  (.seq (.steps [
    .act (some 3) (.op (.new (.box (.tmp 0)))) none,
    .act (some 6) (.op (.new (.alloc [(.int .i64 0), (.slice none 0 0)]))) none,
    .act (some 7) (.op (.pure (.move (.const (.int .i64 0))))) none,
    .act (some 8) (.op (.pure (.move (.const (w64 0#64))))) none])
  (.seq (.seq (.steps [
    .act (some 9) (.op (.pure (.move (.tmp 1)))) none])
  (.block 0 (.seq (.steps [
     .act (some 11) (.op (.pure (.bin .eql (.tmp 9) (.const (.int .i64 0))))) none,
     .act (some 10) (.op (.pure (.move (.tmp 11)))) none])
   (.cond (.tmp 10)
    (.seq (.seq (.steps [
      .act (some 12) (.op (.pure (.fieldAddr 0 (.tmp 3)))) none,
      .act (some 13) (.op (.read (.load1 (.tmp 12)))) none,
      .act (some 14) (.op (.pure (.bin .gtr (.tmp 13) (.const (.int .i64 0))))) none,
      .act (some 15) (.op (.pure (.move (.tmp 14)))) none,
      .act (some 16) (.op (.pure (.fieldAddr 1 (.tmp 3)))) (some (15, true)),
      .act (some 17) (.op (.read (.load1 (.tmp 16)))) (some (15, true)),
      .act (some 18) (.op (.pure (.len false (.tmp 17)))) (some (15, true)),
      .act (some 19) (.op (.pure (.fieldAddr 0 (.tmp 3)))) (some (15, true)),
      .act (some 20) (.op (.read (.load1 (.tmp 19)))) (some (15, true)),
      .act (some 21) (.op (.pure (.bin .geq (.tmp 18) (.tmp 20)))) (some (15, true)),
      .act (some 22) (.op (.pure (.pick (.tmp 15) (.tmp 21) (.const (.bool false))))) none])
    (.cond (.tmp 22)
     (.seq (.steps [
       .act (some 23) (.op (.read (.loadN 2 (.tmp 3)))) none,
       .act none (.op (.eff (.store 2 (.tmp 6) (.tmp 23)))) none,
       .act (some 7) (.op (.pure (.move (.const (.int .i64 15))))) none,
       .act (some 8) (.op (.pure (.move (.const (w64 0#64))))) none])
     .ret)
     .skip))
    (.seq (.steps [
      .act (some 24) (.op (.pure (.fieldAddr 0 (.tmp 3)))) none,
      .act (some 25) (.op (.read (.load1 (.tmp 24)))) none,
      .act (some 26) (.op (.new (.mkSlice 1 0 [] []))) none,
      .act (some 27) (.op (.pure (.fieldAddr 1 (.tmp 3)))) none,
      .act (some 28) (.op (.read (.load1 (.tmp 27)))) none,
      .act (some 30) (.op (.pure (.move (.tmp 2)))) none,
      .act (some 31) (.op (.new (.mkSlice 1 1 [(w64 0#64)] [(0, 1, (.tmp 30))]))) none,
      .act (some 29) (.op (.eff (.append 1 8 (.tmp 26) (.tmp 28)))) none,
      .again 25 (.load1 (.tmp 24)) none,
      .act (some 32) (.op (.eff (.append 1 8 (.tmp 29) (.tmp 31)))) none,
      .act (some 33) (.op (.pure (.build [(.int .i64 0), (.slice none 0 0)] [(0, 1, (.tmp 25)), (1, 1, (.tmp 32))]))) none,
      .again 25 (.load1 (.tmp 24)) none,
      .act none (.op (.eff (.store 2 (.tmp 6) (.tmp 33)))) none,
      .act (some 7) (.op (.pure (.move (.const (.int .i64 0))))) none,
      .act (some 8) (.op (.pure (.move (.const (w64 0#64))))) none])
    .ret))
    (.seq (.steps [
      .act (some 35) (.op (.pure (.bin .eql (.tmp 9) (.const (.int .i64 1))))) none,
      .act (some 34) (.op (.pure (.move (.tmp 35)))) none])
    (.cond (.tmp 34)
     (.seq (.seq (.steps [
       .act (some 36) (.op (.pure (.fieldAddr 1 (.tmp 3)))) none,
       .act (some 37) (.op (.read (.load1 (.tmp 36)))) none,
       .act (some 38) (.op (.pure (.len false (.tmp 37)))) none,
       .act (some 39) (.op (.pure (.bin .eql (.tmp 38) (.const (.int .i64 0))))) none])
     (.cond (.tmp 39)
      (.seq (.steps [
        .act (some 40) (.op (.read (.loadN 2 (.tmp 3)))) none,
        .act none (.op (.eff (.store 2 (.tmp 6) (.tmp 40)))) none,
        .act (some 7) (.op (.pure (.move (.const (.int .i64 13))))) none,
        .act (some 8) (.op (.pure (.move (.const (w64 0#64))))) none])
      .ret)
      .skip))
     (.seq (.steps [
       .act (some 41) (.op (.pure (.fieldAddr 0 (.tmp 3)))) none,
       .act (some 42) (.op (.read (.load1 (.tmp 41)))) none,
       .act (some 43) (.op (.new (.mkSlice 1 0 [] []))) none,
       .act (some 44) (.op (.pure (.fieldAddr 1 (.tmp 3)))) none,
       .act (some 45) (.op (.read (.load1 (.tmp 44)))) none,
       .act (some 46) (.op (.read (.slSl 1 (.tmp 45) (some (.const (.int .i64 1))) none none))) none,
       .act (some 49) (.op (.pure (.fieldAddr 1 (.tmp 3)))) none,
       .act (some 50) (.op (.read (.load1 (.tmp 49)))) none,
       .act (some 51) (.op (.pure (.idxSl 1 (.tmp 50) (.const (.int .i64 0))))) none,
       .act (some 52) (.op (.read (.load1 (.tmp 51)))) none,
       .act (some 47) (.op (.eff (.append 1 8 (.tmp 43) (.tmp 46)))) none,
       .act (some 48) (.op (.pure (.build [(.int .i64 0), (.slice none 0 0)] [(0, 1, (.tmp 42)), (1, 1, (.tmp 47))]))) none,
       .again 52 (.load1 (.tmp 51)) none,
       .again 50 (.load1 (.tmp 49)) none,
       .again 42 (.load1 (.tmp 41)) none,
       .act none (.op (.eff (.store 2 (.tmp 6) (.tmp 48)))) none,
       .act (some 7) (.op (.pure (.move (.const (.int .i64 0))))) none,
       .act (some 8) (.op (.pure (.move (.tmp 52)))) none,
       .again 52 (.load1 (.tmp 51)) none,
       .again 50 (.load1 (.tmp 49)) none])
     .ret))
     .skip))))))
  (.seq (.steps [
    .act (some 53) (.op (.read (.loadN 2 (.tmp 3)))) none,
    .act none (.op (.eff (.store 2 (.tmp 6) (.tmp 53)))) none,
    .act (some 7) (.op (.pure (.move (.const (.int .i64 2))))) none,
    .act (some 8) (.op (.pure (.move (.const (w64 0#64))))) none])
  .ret))) }
theorem c39 : compFn Try.prog (mkPlan Try.prog) [] false 39 = some L39 := by kernel_rfl
/-- sluiceway/hist.Right$1 -/
def L40 : LFun := { n := 14, pop := true, res := [.tmp 3], code :=
  (.seq (.steps [
    .act (some 2) (.op (.new (.box (.tmp 0)))) none,
    .act (some 3) (.op (.pure (.move (.const (.bool false))))) none])
  (.seq (.steps [
    .act (some 4) (.op (.pure (.fieldAddr 0 (.tmp 2)))) none,
    .act (some 5) (.op (.read (.load1 (.tmp 4)))) none,
    .act (some 6) (.op (.pure (.fieldAddr 0 (.tmp 1)))) none,
    .act (some 7) (.op (.read (.load1 (.tmp 6)))) none,
    .act (some 8) (.op (.pure (.bin .eql (.tmp 5) (.tmp 7)))) none,
    .act (some 9) (.op (.pure (.move (.tmp 8)))) none,
    .act (some 10) (.op (.read (.loadN 8 (.tmp 2)))) (some (9, true)),
    .act (some 11) (.op (.read (.loadN 8 (.tmp 1)))) (some (9, true)),
    .act (some 12) (.call (.func 41) [(.tmp 10), (.tmp 11)]) (some (9, true)),
    .act (some 13) (.op (.pure (.pick (.tmp 9) (.tmp 12) (.const (.bool false))))) none,
    .act (some 3) (.op (.pure (.move (.tmp 13)))) none])
  .ret)) }
theorem c40 : compFn Try.prog (mkPlan Try.prog) [] true 40 = some L40 := by kernel_rfl
/-- sluiceway/hist.Meets -/
def L41 : LFun := { n := 15, pop := true, res := [.tmp 4], code :=
  (.seq (.steps [
    .act (some 2) (.op (.new (.box (.tmp 0)))) none,
    .act (some 3) (.op (.new (.box (.tmp 1)))) none,
    .act (some 4) (.op (.pure (.move (.const (.bool false))))) none])
  (.seq (.steps [
    .act (some 5) (.op (.read (.loadN 8 (.tmp 2)))) none,
    .act (some 6) (.op (.read (.loadN 8 (.tmp 3)))) none,
    .act (some 7) (.call (.func 26) [(.tmp 5), (.tmp 6)]) none,
    .act (some 8) (.op (.pure (.not (.tmp 7)))) none,
    .act (some 9) (.op (.pure (.move (.tmp 8)))) none,
    .act (some 10) (.op (.read (.loadN 8 (.tmp 3)))) (some (9, true)),
    .act (some 11) (.op (.read (.loadN 8 (.tmp 2)))) (some (9, true)),
    .act (some 12) (.call (.func 26) [(.tmp 10), (.tmp 11)]) (some (9, true)),
    .act (some 13) (.op (.pure (.not (.tmp 12)))) (some (9, true)),
    .act (some 14) (.op (.pure (.pick (.tmp 9) (.tmp 13) (.const (.bool false))))) none,
    .act (some 4) (.op (.pure (.move (.tmp 14)))) none])
  .ret)) }
theorem c41 : compFn Try.prog (mkPlan Try.prog) [] true 41 = some L41 := by kernel_rfl
/-- (sluiceway/hist.Call).right -/
def L42 : LFun := { n := 34, pop := true, res := [.tmp 2], code :=
  (.seq (.steps [
    .act (some 1) (.op (.new (.box (.tmp 0)))) none,
    .act (some 2) (.op (.pure (.move (.const (.bool false))))) none])
  (.seq (.seq (.steps [
    .act (some 3) (.op (.pure (.fieldAddr 0 (.tmp 1)))) none,
    .act (some 4) (.op (.read (.load1 (.tmp 3)))) none,
    .act (some 5) (.op (.pure (.bin .lss (.tmp 4) (.const (.int .i64 0))))) none,
    .act (some 6) (.op (.pure (.move (.tmp 5)))) none,
    .act (some 7) (.op (.pure (.fieldAddr 0 (.tmp 1)))) (some (6, false)),
    .act (some 8) (.op (.read (.load1 (.tmp 7)))) (some (6, false)),
    .act (some 9) (.op (.pure (.bin .geq (.tmp 8) (.const (.int .i64 64))))) (some (6, false)),
    .act (some 10) (.op (.pure (.pick (.tmp 6) (.const (.bool true)) (.tmp 9)))) none,
    .act (some 11) (.op (.pure (.move (.tmp 10)))) none,
    .act (some 12) (.op (.pure (.fieldAddr 3 (.tmp 1)))) (some (11, false)),
    .act (some 13) (.op (.read (.load1 (.tmp 12)))) (some (11, false)),
    .act (some 14) (.op (.pure (.bin .lss (.tmp 13) (.const (.int .i64 0))))) (some (11, false)),
    .act (some 15) (.op (.pure (.pick (.tmp 11) (.const (.bool true)) (.tmp 14)))) none])
  (.cond (.tmp 15)
   (.seq (.steps [
     .act (some 2) (.op (.pure (.move (.const (.bool false))))) none])
   .ret)
   .skip))
  (.seq (.seq (.steps [
    .act (some 16) (.op (.pure (.fieldAddr 5 (.tmp 1)))) none,
    .act (some 17) (.op (.read (.load1 (.tmp 16)))) none])
  (.cond (.tmp 17)
   (.seq (.steps [
     .act (some 18) (.op (.pure (.fieldAddr 4 (.tmp 1)))) none,
     .act (some 19) (.op (.read (.load1 (.tmp 18)))) none,
     .act (some 20) (.op (.pure (.fieldAddr 3 (.tmp 1)))) none,
     .act (some 21) (.op (.read (.load1 (.tmp 20)))) none,
     .act (some 22) (.op (.pure (.bin .geq (.tmp 19) (.tmp 21)))) none,
     .act (some 2) (.op (.pure (.move (.tmp 22)))) none])
   .ret)
   .skip))
  (.seq (.steps [
    .act (some 23) (.op (.read (.loadN 8 (.tmp 1)))) none,
    .act (some 24) (.op (.pure (.fieldAddr 0 (.tmp 1)))) none,
    .act (some 25) (.op (.read (.load1 (.tmp 24)))) none,
    .act (some 26) (.op (.pure (.fieldAddr 1 (.tmp 1)))) none,
    .act (some 27) (.op (.read (.load1 (.tmp 26)))) none,
    .act (some 28) (.op (.pure (.fieldAddr 2 (.tmp 1)))) none,
    .act (some 29) (.op (.read (.load1 (.tmp 28)))) none,
    .act (some 30) (.op (.pure (.fieldAddr 3 (.tmp 1)))) none,
    .act (some 31) (.op (.read (.load1 (.tmp 30)))) none,
    .act (some 32) (.op (.pure (.build [(.int .i64 0), (.int .i64 0), (w64 0#64), (.int .i64 0), (.int .i64 0), (.bool false), (.int .i64 0), (w64 0#64)] [(0, 1, (.tmp 25)), (1, 1, (.tmp 27)), (2, 1, (.tmp 29)), (3, 1, (.tmp 31))]))) none,
    .act (some 33) (.op (.pure (.eqAgg [false, false, false, false, false, true, false, false] false (.tmp 23) (.tmp 32)))) none,
    .act (some 2) (.op (.pure (.move (.tmp 33)))) none])
  .ret)))) }
theorem c42 : compFn Try.prog (mkPlan Try.prog) [] true 42 = some L42 := by kernel_rfl
/-- slices.ContainsFunc[[]sluiceway/hist.Call,sluiceway/hist.Call] -/
def L43 : LFun := { n := 9, pop := true, res := [.tmp 4], code :=
  (.seq (.steps [
    .act (some 4) (.op (.pure (.move (.const (.bool false))))) none])
  (.seq (.steps [
    .act (some 5) (.op (.pure (.move (.tmp 0)))) none,
    .act (some 6) (.op (.pure (.move (.tmp 1)))) none,
    .act (some 7) (.call (.func 54) [(.tmp 5), (.tmp 6)]) none,
    .act (some 8) (.op (.pure (.bin .geq (.tmp 7) (.const (.int .i64 0))))) none,
    .act (some 4) (.op (.pure (.move (.tmp 8)))) none])
  .ret)) }
theorem c43 : compFn Try.prog (mkPlan Try.prog) [] true 43 = some L43 := by kernel_rfl
/-- (sluiceway/spec.Fifo).full -/
def L44 : LFun := { n := 14, pop := true, res := [.tmp 2], code :=
  (.seq (.steps [
    .act (some 1) (.op (.new (.box (.tmp 0)))) none,
    .act (some 2) (.op (.pure (.move (.const (.bool false))))) none])
  (.seq (.steps [
    .act (some 3) (.op (.pure (.fieldAddr 0 (.tmp 1)))) none,
    .act (some 4) (.op (.read (.load1 (.tmp 3)))) none,
    .act (some 5) (.op (.pure (.bin .gtr (.tmp 4) (.const (.int .i64 0))))) none,
    .act (some 6) (.op (.pure (.move (.tmp 5)))) none,
    .act (some 7) (.op (.pure (.fieldAddr 1 (.tmp 1)))) (some (6, true)),
    .act (some 8) (.op (.read (.load1 (.tmp 7)))) (some (6, true)),
    .act (some 9) (.op (.pure (.len false (.tmp 8)))) (some (6, true)),
    .act (some 10) (.op (.pure (.fieldAddr 0 (.tmp 1)))) (some (6, true)),
    .act (some 11) (.op (.read (.load1 (.tmp 10)))) (some (6, true)),
    .act (some 12) (.op (.pure (.bin .geq (.tmp 9) (.tmp 11)))) (some (6, true)),
    .act (some 13) (.op (.pure (.pick (.tmp 6) (.tmp 12) (.const (.bool false))))) none,
    .act (some 2) (.op (.pure (.move (.tmp 13)))) none])
  .ret)) }
theorem c44 : compFn Try.prog (mkPlan Try.prog) [] true 44 = some L44 := by kernel_rfl
/-- (sluiceway/spec.Fifo).with -/
def L45 : LFun := { n := 25, pop := false, res := [.loadN 2 4], code :=
  (.seq (.steps [
    .act (some 2) (.op (.new (.box (.tmp 0)))) none,
    .act (some 4) (.op (.new (.alloc [(.int .i64 0), (.slice none 0 0)]))) none])
  (.seq (.steps [
    .act (some 6) (.op (.pure (.fieldAddr 1 (.tmp 2)))) none,
    .act (some 7) (.op (.read (.load1 (.tmp 6)))) none,
    .act (some 8) (.op (.pure (.len false (.tmp 7)))) none,
    .act (some 9) (.op (.pure (.fieldAddr 1 (.tmp 2)))) none,
    .act (some 10) (.op (.read (.load1 (.tmp 9)))) none,
    .act (some 11) (.op (.pure (.len false (.tmp 10)))) none,
    .act (some 12) (.op (.pure (.bin .add (.tmp 11) (.const (.int .i64 1))))) none,
    .act (some 13) (.op (.new (.makeSlice 1 8 [(w64 0#64)] (.tmp 8) (.tmp 12)))) none,
    .act (some 5) (.op (.pure (.move (.tmp 13)))) none])
  (.seq (.steps [
    .act (some 14) (.op (.pure (.move (.tmp 5)))) none,
    .act (some 15) (.op (.pure (.fieldAddr 1 (.tmp 2)))) none,
    .act (some 16) (.op (.read (.load1 (.tmp 15)))) none,
    .act (some 17) (.op (.eff (.copy 1 (.tmp 14) (.tmp 16)))) none])
  (.seq (.steps [
    .act (some 18) (.op (.pure (.fieldAddr 0 (.tmp 2)))) none,
    .act (some 19) (.op (.read (.load1 (.tmp 18)))) none,
    .act (some 20) (.op (.pure (.move (.tmp 5)))) none,
    .act (some 21) (.op (.pure (.move (.tmp 1)))) none,
    .act (some 22) (.op (.new (.mkSlice 1 1 [(w64 0#64)] [(0, 1, (.tmp 21))]))) none,
    .act (some 23) (.op (.eff (.append 1 8 (.tmp 20) (.tmp 22)))) none,
    .act (some 24) (.op (.pure (.build [(.int .i64 0), (.slice none 0 0)] [(0, 1, (.tmp 19)), (1, 1, (.tmp 23))]))) none,
    .again 19 (.load1 (.tmp 18)) none,
    .act none (.op (.eff (.store 2 (.tmp 4) (.tmp 24)))) none])
  .ret)))) }
theorem c45 : compFn Try.prog (mkPlan Try.prog) [] false 45 = some L45 := by kernel_rfl
/-- (sluiceway/spec.Fifo).rest -/
def L46 : LFun := { n := 16, pop := false, res := [.loadN 2 2], code :=
  (.seq (.steps [
    .act (some 1) (.op (.new (.box (.tmp 0)))) none,
    .act (some 2) (.op (.new (.alloc [(.int .i64 0), (.slice none 0 0)]))) none])
  (.seq (.steps [
    .act (some 3) (.op (.pure (.fieldAddr 0 (.tmp 1)))) none,
    .act (some 4) (.op (.read (.load1 (.tmp 3)))) none,
    .act (some 5) (.op (.pure (.fieldAddr 1 (.tmp 1)))) none,
    .act (some 6) (.op (.read (.load1 (.tmp 5)))) none,
    .act (some 7) (.op (.pure (.fieldAddr 1 (.tmp 1)))) none,
    .act (some 8) (.op (.read (.load1 (.tmp 7)))) none,
    .act (some 9) (.op (.pure (.len false (.tmp 8)))) none,
    .act (some 10) (.op (.pure (.fieldAddr 1 (.tmp 1)))) none,
    .act (some 11) (.op (.read (.load1 (.tmp 10)))) none,
    .act (some 12) (.op (.pure (.len false (.tmp 11)))) none,
    .act (some 13) (.op (.read (.slSl 1 (.tmp 6) (some (.const (.int .i64 1))) (some (.tmp 9)) (some (.tmp 12))))) none,
    .act (some 14) (.call (.func 55) [(.tmp 13)]) none,
    .act (some 15) (.op (.pure (.build [(.int .i64 0), (.slice none 0 0)] [(0, 1, (.tmp 4)), (1, 1, (.tmp 14))]))) none,
    .again 4 (.load1 (.tmp 3)) none,
    .act none (.op (.eff (.store 2 (.tmp 2) (.tmp 15)))) none])
  .ret)) }
theorem c46 : compFn Try.prog (mkPlan Try.prog) [] false 46 = some L46 := by kernel_rfl
/-- (sluiceway/spec.Fifo).room -/
def L47 : LFun := { n := 10, pop := true, res := [.tmp 2], code :=
  (.seq (.steps [
    .act (some 1) (.op (.new (.box (.tmp 0)))) none,
    .act (some 2) (.op (.pure (.move (.const (.int .i64 0))))) none])
  (.seq (.steps [
    .act (some 3) (.op (.pure (.fieldAddr 0 (.tmp 1)))) none,
    .act (some 4) (.op (.read (.load1 (.tmp 3)))) none,
    .act (some 5) (.op (.pure (.fieldAddr 1 (.tmp 1)))) none,
    .act (some 6) (.op (.read (.load1 (.tmp 5)))) none,
    .act (some 7) (.op (.pure (.len false (.tmp 6)))) none,
    .act (some 8) (.op (.pure (.bin .sub (.tmp 4) (.tmp 7)))) none,
    .act (some 9) (.op (.pure (.minmax true [(.const (.int .i64 0)), (.tmp 8)]))) none,
    .act (some 2) (.op (.pure (.move (.tmp 9)))) none])
  .ret)) }
theorem c47 : compFn Try.prog (mkPlan Try.prog) [] true 47 = some L47 := by kernel_rfl
/-- (*sluiceway/lin.finder[sluiceway/spec.Fifo]).name -/
def L48 : LFun := { n := 34, pop := true, res := [.tmp 6], code :=
  (.seq (.steps [
    .act (some 5) (.op (.new (.box (.tmp 2)))) none,
    .act (some 6) (.op (.pure (.move (.const (strV []))))) none])
  (.seq (.steps [
    .act (some 7) (.op (.pure (.move (.const (.slice none 0 0))))) none])
  (.seq (.seq (.steps [
    .act (some 9) (.op (.pure (.move (.tmp 1)))) none,
    .act (some 8) (.op (.pure (.move (.tmp 9)))) none])
  (.block 0 (.loop [0, 5, 7, 8] (.seq (.seq (.steps [
      .act (some 10) (.op (.pure (.move (.tmp 8)))) none,
      .act (some 11) (.op (.pure (.bin .gtr (.tmp 10) (.const (w64 0#64))))) none])
    (.cond (.tmp 11)
     .skip
     (.exit 0)))
    (.seq (.block 1 (.steps [
       .act (some 14) (.op (.pure (.move (.tmp 7)))) none,
       .act (some 15) (.op (.pure (.move (.tmp 8)))) none,
       .act (some 16) (.op (.pure (.conv .u8 (.tmp 15)))) none,
       .act (some 17) (.op (.new (.mkSlice 1 1 [(b8 0)] [(0, 1, (.tmp 16))]))) none,
       .act (some 18) (.op (.eff (.append 1 1 (.tmp 14) (.tmp 17)))) none,
       .act (some 7) (.op (.pure (.move (.tmp 18)))) none]))
    (.steps [
      .act (some 12) (.op (.pure (.move (.tmp 8)))) none,
      .act (some 13) (.op (.pure (.bin .shr (.tmp 12) (.const (w64 8#64))))) none,
      .act (some 8) (.op (.pure (.move (.tmp 13)))) none]))))))
  (.seq (.steps [
    .act (some 19) (.op (.pure (.move (.tmp 7)))) none,
    .act (some 20) (.op (.pure (.len false (.tmp 19)))) none,
    .act (some 21) (.op (.pure (.conv .u8 (.tmp 20)))) none,
    .act (some 22) (.op (.new (.mkSlice 1 1 [(b8 0)] [(0, 1, (.tmp 21))]))) none,
    .act (some 23) (.op (.read (.b2s (.tmp 22)))) none,
    .act (some 24) (.op (.pure (.move (.tmp 7)))) none,
    .act (some 25) (.op (.read (.b2s (.tmp 24)))) none,
    .act (some 26) (.op (.pure (.strOp .add (.tmp 23) (.tmp 25)))) none,
    .act (some 27) (.op (.pure (.move (.tmp 0)))) none,
    .act (some 28) (.op (.pure (.nilCheck (.tmp 27)))) none,
    .act (some 29) (.op (.pure (.fieldAddr 4 (.tmp 28)))) none,
    .act (some 30) (.op (.read (.load1 (.tmp 29)))) none,
    .act (some 31) (.op (.read (.loadN 2 (.tmp 5)))) none,
    .act (some 32) (.call (.tmp 30) [(.tmp 31)]) none,
    .act (some 33) (.op (.pure (.strOp .add (.tmp 26) (.tmp 32)))) none,
    .act (some 6) (.op (.pure (.move (.tmp 33)))) none,
    .again 25 (.b2s (.tmp 24)) none,
    .again 23 (.b2s (.tmp 22)) none])
  .ret)))) }
theorem c48 : compFn Try.prog (mkPlan Try.prog) [(3, [0, 5, 7, 8])] true 48 = some L48 := by kernel_rfl
/-- (sluiceway/lin.set).has -/
def L49 : LFun := { n := 10, pop := true, res := [.tmp 4], code :=
  (.seq (.steps [
    .act (some 4) (.op (.pure (.move (.const (.bool false))))) none])
  (.seq (.steps [
    .act (some 5) (.op (.pure (.move (.tmp 0)))) none,
    .act (some 6) (.op (.pure (.move (.tmp 1)))) none,
    .act (some 7) (.op (.pure (.bin .shr (.tmp 5) (.tmp 6)))) none,
    .act (some 8) (.op (.pure (.bin .and (.tmp 7) (.const (w64 1#64))))) none,
    .act (some 9) (.op (.pure (.bin .eql (.tmp 8) (.const (w64 1#64))))) none,
    .act (some 4) (.op (.pure (.move (.tmp 9)))) none])
  .ret)) }
theorem c49 : compFn Try.prog (mkPlan Try.prog) [] true 49 = some L49 := by kernel_rfl
/-- (*sluiceway/hist.Log).Open -/
def L50 : LFun := { n := 21, pop := true, res := [.tmp 4, .tmp 5], code :=
  (.seq (.steps [
    .act (some 4) (.op (.pure (.move (.const (.int .i64 0))))) none,
    .act (some 5) (.op (.pure (.move (.const (.bool false))))) none])
  (.seq (.seq (.steps [
    .act (some 8) (.op (.pure (.move (.tmp 0)))) none,
    .act (some 9) (.call (.func 51) [(.tmp 8)]) none])
  (.cond (.tmp 9)
   (.seq (.steps [
     .act (some 4) (.op (.pure (.move (.const (.int .i64 0))))) none,
     .act (some 5) (.op (.pure (.move (.const (.bool false))))) none])
   .ret)
   .skip))
  (.seq (.steps [
    .act (some 11) (.op (.pure (.move (.tmp 0)))) none,
    .act (some 12) (.op (.pure (.nilCheck (.tmp 11)))) none,
    .act (some 13) (.op (.pure (.fieldAddr 1 (.tmp 12)))) none,
    .act (some 14) (.op (.read (.load1 (.tmp 13)))) none,
    .act (some 15) (.op (.pure (.move (.tmp 1)))) none,
    .act (some 16) (.op (.read (.lookup false (.int .i64 0) true (.tmp 14) (.tmp 15)))) none,
    .act (some 10) (.op (.pure (.move (.tmp 16)))) none,
    .act (some 17) (.op (.pure (.extract (.tmp 10) 0))) none,
    .act (some 18) (.op (.pure (.extract (.tmp 10) 1))) none,
    .act (some 6) (.op (.pure (.move (.tmp 17)))) none,
    .act (some 7) (.op (.pure (.move (.tmp 18)))) none])
  (.seq (.steps [
    .act (some 19) (.op (.pure (.move (.tmp 6)))) none,
    .act (some 20) (.op (.pure (.move (.tmp 7)))) none,
    .act (some 4) (.op (.pure (.move (.tmp 19)))) none,
    .act (some 5) (.op (.pure (.move (.tmp 20)))) none])
  .ret)))) }
theorem c50 : compFn Try.prog (mkPlan Try.prog) [] true 50 = some L50 := by kernel_rfl
/-- (*sluiceway/hist.Log).none -/
def L51 : LFun := { n := 12, pop := true, res := [.tmp 2], code :=
  (.seq (.steps [
    .act (some 2) (.op (.pure (.move (.const (.bool false))))) none])
  (.seq (.steps [
    .act (some 3) (.op (.pure (.move (.tmp 0)))) none,
    .act (some 4) (.op (.pure (.eqNil .p false (.tmp 3) (.const (.pointer none))))) none,
    .act (some 5) (.op (.pure (.move (.tmp 4)))) none,
    .act (some 6) (.op (.pure (.move (.tmp 0)))) (some (5, false)),
    .act (some 7) (.op (.pure (.nilCheck (.tmp 6)))) (some (5, false)),
    .act (some 8) (.op (.pure (.fieldAddr 1 (.tmp 7)))) (some (5, false)),
    .act (some 9) (.op (.read (.load1 (.tmp 8)))) (some (5, false)),
    .act (some 10) (.op (.pure (.eqNil .m false (.tmp 9) (.const (.map none))))) (some (5, false)),
    .act (some 11) (.op (.pure (.pick (.tmp 5) (.const (.bool true)) (.tmp 10)))) none,
    .act (some 2) (.op (.pure (.move (.tmp 11)))) none])
  .ret)) }
theorem c51 : compFn Try.prog (mkPlan Try.prog) [] true 51 = some L51 := by kernel_rfl
/-- (*sluiceway/hist.Log).Step -/
def L52 : LFun := { n := 12, pop := true, res := [], code :=
  (.seq (.steps [
    .act (some 2) (.op (.pure (.move (.tmp 0)))) none,
    .act (some 3) (.call (.func 51) [(.tmp 2)]) none,
    .act (some 4) (.op (.pure (.not (.tmp 3)))) none])
  (.cond (.tmp 4)
   (.steps [
     .act (some 5) (.op (.pure (.move (.tmp 0)))) none,
     .act (some 6) (.op (.pure (.nilCheck (.tmp 5)))) none,
     .act (some 7) (.op (.pure (.fieldAddr 2 (.tmp 6)))) none,
     .act (some 8) (.op (.read (.load1 (.tmp 7)))) none,
     .act (some 9) (.op (.pure (.bin .add (.tmp 8) (.const (.int .i64 1))))) none,
     .act (some 10) (.op (.pure (.nilCheck (.tmp 5)))) none,
     .act (some 11) (.op (.pure (.fieldAddr 2 (.tmp 10)))) none,
     .act none (.op (.eff (.store 1 (.tmp 11) (.tmp 9)))) none])
   .skip)) }
theorem c52 : compFn Try.prog (mkPlan Try.prog) [] true 52 = some L52 := by kernel_rfl
/-- slices.Clone[[]sluiceway/hist.Call,sluiceway/hist.Call] -/
def L53 : LFun := { n := 8, pop := false, res := [.tmp 2], code :=
  (.seq (.steps [
    .act (some 2) (.op (.pure (.move (.const (.slice none 0 0))))) none])
  (.seq (.seq (.steps [
    .act (some 3) (.op (.pure (.move (.tmp 0)))) none,
    .act (some 4) (.op (.pure (.eqNil .s false (.tmp 3) (.const (.slice none 0 0))))) none])
  (.cond (.tmp 4)
   (.seq (.steps [
     .act (some 2) (.op (.pure (.move (.const (.slice none 0 0))))) none])
   .ret)
   .skip))
  (.seq (.steps [
    .act (some 5) (.op (.new (.mkSlice 8 0 [] []))) none,
    .act (some 6) (.op (.pure (.move (.tmp 0)))) none,
    .act (some 7) (.op (.eff (.append 8 64 (.tmp 5) (.tmp 6)))) none,
    .act (some 2) (.op (.pure (.move (.tmp 7)))) none])
  .ret))) }
theorem c53 : compFn Try.prog (mkPlan Try.prog) [] false 53 = some L53 := by kernel_rfl
/-- slices.IndexFunc[[]sluiceway/hist.Call,sluiceway/hist.Call] -/
def L54 : LFun := { n := 19, pop := true, res := [.tmp 4], code :=
  (.seq (.steps [
    .act (some 4) (.op (.pure (.move (.const (.int .i64 0))))) none])
  (.seq (.seq (.steps [
    .act (some 6) (.op (.pure (.move (.tmp 0)))) none,
    .act (some 7) (.op (.pure (.len false (.tmp 6)))) none,
    .act (some 8) (.op (.pure (.move (.const (.int .i64 0))))) none])
  (.block 0 (.loop [0, 1, 7, 8] (.seq (.steps [
      .act (some 9) (.op (.pure (.bin .lss (.tmp 8) (.tmp 7)))) none])
    (.seq (.cond (.tmp 9)
     .skip
     (.exit 0))
    (.seq (.block 1 (.seq (.steps [
       .act (some 10) (.op (.pure (.move (.tmp 8)))) none,
       .act (some 5) (.op (.pure (.move (.tmp 10)))) none])
     (.seq (.steps [
       .act (some 11) (.op (.pure (.move (.tmp 1)))) none,
       .act (some 12) (.op (.pure (.move (.tmp 0)))) none,
       .act (some 13) (.op (.pure (.move (.tmp 5)))) none,
       .act (some 14) (.op (.pure (.idxSl 8 (.tmp 12) (.tmp 13)))) none,
       .act (some 15) (.op (.read (.loadN 8 (.tmp 14)))) none,
       .act (some 16) (.call (.tmp 11) [(.tmp 15)]) none])
     (.cond (.tmp 16)
      (.seq (.steps [
        .act (some 17) (.op (.pure (.move (.tmp 5)))) none,
        .act (some 4) (.op (.pure (.move (.tmp 17)))) none])
      .ret)
      .skip))))
    (.steps [
      .act (some 18) (.op (.pure (.bin .add (.tmp 8) (.const (.int .i64 1))))) none,
      .act (some 8) (.op (.pure (.move (.tmp 18)))) none])))))))
  (.seq (.steps [
    .act (some 4) (.op (.pure (.move (.const (.int .i64 (-1)))))) none])
  .ret))) }
theorem c54 : compFn Try.prog (mkPlan Try.prog) [(2, [0, 1, 7, 8])] true 54 = some L54 := by kernel_rfl
/-- slices.Clone[[]uint64,uint64] -/
def L55 : LFun := { n := 8, pop := false, res := [.tmp 2], code :=
  (.seq (.steps [
    .act (some 2) (.op (.pure (.move (.const (.slice none 0 0))))) none])
  (.seq (.seq (.steps [
    .act (some 3) (.op (.pure (.move (.tmp 0)))) none,
    .act (some 4) (.op (.pure (.eqNil .s false (.tmp 3) (.const (.slice none 0 0))))) none])
  (.cond (.tmp 4)
   (.seq (.steps [
     .act (some 2) (.op (.pure (.move (.const (.slice none 0 0))))) none])
   .ret)
   .skip))
  (.seq (.steps [
    .act (some 5) (.op (.new (.mkSlice 1 0 [] []))) none,
    .act (some 6) (.op (.pure (.move (.tmp 0)))) none,
    .act (some 7) (.op (.eff (.append 1 8 (.tmp 5) (.tmp 6)))) none,
    .act (some 2) (.op (.pure (.move (.tmp 7)))) none])
  .ret))) }
theorem c55 : compFn Try.prog (mkPlan Try.prog) [] false 55 = some L55 := by kernel_rfl
end Go.Proofs.Ytfobpjjpaehhpaa
