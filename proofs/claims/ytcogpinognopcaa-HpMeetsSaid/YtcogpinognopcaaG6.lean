/- The statement HpMeets: the walk. -/
import Derived.Test.YtcogpinognopcaaG5
import Derived.Test.YtcogpinognopcaaC2
import Derived.Test.YtcogpinognopcaaC3
namespace Go.Proofs.Ytcogpinognopcaa
open Go Go.LK
set_option linter.unusedSimpArgs false
set_option linter.unusedVariables false
structure Ask where
  kind : Int
  th : Int
  slot : Int
  word : Int
  v : BitVec 64
def Ask.cells (c : Ask) : List Value := [.int .i64 c.kind, .int .i64 c.th, .int .i64 c.slot, .int .i64 c.word, w64 c.v]
theorem Ask.len (c : Ask) : c.cells.length = 5 := rfl
def Ask.Ok (c : Ask) : Prop := (-9223372036854775808 ≤ c.kind ∧ c.kind ≤ 9223372036854775807) ∧ (-9223372036854775808 ≤ c.th ∧ c.th ≤ 9223372036854775807) ∧ (-9223372036854775808 ≤ c.slot ∧ c.slot ≤ 9223372036854775807) ∧ (-9223372036854775808 ≤ c.word ∧ c.word ≤ 9223372036854775807)
theorem Ask.row (r : List Value) (h_0 : Row2 CellIs [.int .i64, .int .i64, .int .i64, .int .i64, .int .u64] r) : ∃ x, r = Ask.cells x ∧ Ask.Ok x := by
  obtain ⟨_, _, rfl, k0, h_1⟩ := row_cons h_0
  obtain ⟨x0, rfl, y0⟩ := is_i64 k0
  obtain ⟨_, _, rfl, k1, h_2⟩ := row_cons h_1
  obtain ⟨x1, rfl, y1⟩ := is_i64 k1
  obtain ⟨_, _, rfl, k2, h_3⟩ := row_cons h_2
  obtain ⟨x2, rfl, y2⟩ := is_i64 k2
  obtain ⟨_, _, rfl, k3, h_4⟩ := row_cons h_3
  obtain ⟨x3, rfl, y3⟩ := is_i64 k3
  obtain ⟨_, _, rfl, k4, h_5⟩ := row_cons h_4
  obtain ⟨x4, rfl⟩ := is_u64 k4
  obtain rfl := row_nil h_5
  exact ⟨⟨x0, x1, x2, x3, x4⟩, rfl, ⟨y0, y1, y2, y3⟩⟩

theorem hrw_ne (a : Option Addr) (x : HOp) (c : List Value) : hrw a x ≠ .row false 1 c := by intro h; cases h
set_option maxRecDepth 100000 in
def phE : LCode :=
  (.seq (.seq (.steps [
    .act (some 18) (.op (.pure (.move (.const (.int .i64 0))))) none])
  (.block 5 (.loop [7, 8, 10, 15, 18] (.seq (.seq (.steps [
      .act (some 144) (.op (.pure (.move (.tmp 18)))) none,
      .act (some 145) (.op (.pure (.bin .lss (.tmp 144) (.const (.int .i64 40))))) none,
      .act (some 146) (.op (.pure (.move (.tmp 145)))) none,
      .act (some 147) (.op (.pure (.move (.tmp 10)))) (some (146, true)),
      .act (some 148) (.call (.func 21) [(.tmp 147)]) (some (146, true)),
      .act (some 149) (.op (.pure (.not (.tmp 148)))) (some (146, true)),
      .act (some 150) (.op (.pure (.pick (.tmp 146) (.tmp 149) (.const (.bool false))))) none])
    (.cond (.tmp 150)
     .skip
     (.exit 5)))
    (.seq (.block 6 (.steps [
       .act (some 153) (.op (.pure (.move (.tmp 10)))) none,
       .act (some 154) (.op (.pure (.move (.tmp 8)))) none,
       .act (some 155) (.call (.func 16) [(.tmp 153), (.tmp 154)]) none]))
    (.steps [
      .act (some 151) (.op (.pure (.move (.tmp 18)))) none,
      .act (some 152) (.op (.pure (.bin .add (.tmp 151) (.const (.int .i64 1))))) none,
      .act (some 18) (.op (.pure (.move (.tmp 152)))) none]))))))
  (.seq (.seq (.steps [
    .act (some 19) (.op (.pure (.move (.const (.int .i64 0))))) none])
  (.block 7 (.loop [7, 8, 10, 15, 19] (.seq (.seq (.steps [
      .act (some 156) (.op (.pure (.move (.tmp 19)))) none,
      .act (some 157) (.op (.pure (.bin .lss (.tmp 156) (.const (.int .i64 20))))) none,
      .act (some 158) (.op (.pure (.move (.tmp 157)))) none,
      .act (some 159) (.op (.pure (.move (.tmp 15)))) (some (158, true)),
      .act (some 160) (.call (.func 21) [(.tmp 159)]) (some (158, true)),
      .act (some 161) (.op (.pure (.not (.tmp 160)))) (some (158, true)),
      .act (some 162) (.op (.pure (.pick (.tmp 158) (.tmp 161) (.const (.bool false))))) none])
    (.cond (.tmp 162)
     .skip
     (.exit 7)))
    (.seq (.block 8 (.steps [
       .act (some 165) (.op (.pure (.move (.tmp 15)))) none,
       .act (some 166) (.op (.pure (.move (.tmp 8)))) none,
       .act (some 167) (.call (.func 16) [(.tmp 165), (.tmp 166)]) none]))
    (.steps [
      .act (some 163) (.op (.pure (.move (.tmp 19)))) none,
      .act (some 164) (.op (.pure (.bin .add (.tmp 163) (.const (.int .i64 1))))) none,
      .act (some 19) (.op (.pure (.move (.tmp 164)))) none]))))))
  (.seq (.steps [
    .act (some 169) (.op (.pure (.move (.tmp 10)))) none,
    .act (some 170) (.call (.func 18) [(.tmp 169)]) none,
    .act (some 168) (.op (.pure (.move (.tmp 170)))) none,
    .act (some 171) (.op (.pure (.extract (.tmp 168) 0))) none,
    .act (some 172) (.op (.pure (.extract (.tmp 168) 1))) none,
    .act (some 20) (.op (.pure (.move (.tmp 171)))) none,
    .act (some 21) (.op (.pure (.move (.tmp 172)))) none])
  (.seq (.steps [
    .act (some 174) (.op (.pure (.move (.tmp 15)))) none,
    .act (some 175) (.call (.func 18) [(.tmp 174)]) none,
    .act (some 173) (.op (.pure (.move (.tmp 175)))) none,
    .act (some 176) (.op (.pure (.extract (.tmp 173) 0))) none,
    .act (some 177) (.op (.pure (.extract (.tmp 173) 1))) none,
    .act (some 22) (.op (.pure (.move (.tmp 176)))) none,
    .act (some 23) (.op (.pure (.move (.tmp 177)))) none])
  (.seq (.steps [
    .act (some 178) (.op (.pure (.move (.tmp 15)))) none,
    .act (some 179) (.call (.func 19) [(.tmp 178)]) none,
    .act (some 24) (.op (.pure (.move (.tmp 179)))) none])
  (.seq (.seq (.steps [
    .act (some 180) (.op (.pure (.move (.tmp 20)))) none,
    .act (some 181) (.op (.pure (.bin .neq (.tmp 180) (.const (.int .i64 0))))) none,
    .act (some 182) (.op (.pure (.move (.tmp 181)))) none,
    .act (some 183) (.op (.pure (.move (.tmp 22)))) (some (182, false)),
    .act (some 184) (.op (.pure (.bin .neq (.tmp 183) (.const (.int .i64 0))))) (some (182, false)),
    .act (some 185) (.op (.pure (.pick (.tmp 182) (.const (.bool true)) (.tmp 184)))) none,
    .act (some 186) (.op (.pure (.move (.tmp 185)))) none,
    .act (some 187) (.op (.pure (.move (.tmp 10)))) (some (186, false)),
    .act (some 188) (.call (.func 21) [(.tmp 187)]) (some (186, false)),
    .act (some 189) (.op (.pure (.not (.tmp 188)))) (some (186, false)),
    .act (some 190) (.op (.pure (.pick (.tmp 186) (.const (.bool true)) (.tmp 189)))) none,
    .act (some 191) (.op (.pure (.move (.tmp 190)))) none,
    .act (some 192) (.op (.pure (.move (.tmp 15)))) (some (191, false)),
    .act (some 193) (.call (.func 21) [(.tmp 192)]) (some (191, false)),
    .act (some 194) (.op (.pure (.not (.tmp 193)))) (some (191, false)),
    .act (some 195) (.op (.pure (.pick (.tmp 191) (.const (.bool true)) (.tmp 194)))) none,
    .act (some 196) (.op (.pure (.move (.tmp 195)))) none,
    .act (some 197) (.op (.pure (.move (.tmp 24)))) (some (196, false)),
    .act (some 198) (.op (.pure (.len false (.tmp 197)))) (some (196, false)),
    .act (some 199) (.op (.pure (.conv .u64 (.tmp 198)))) (some (196, false)),
    .act (some 200) (.op (.pure (.move (.tmp 23)))) (some (196, false)),
    .act (some 201) (.op (.pure (.bin .neq (.tmp 199) (.tmp 200)))) (some (196, false)),
    .act (some 202) (.op (.pure (.pick (.tmp 196) (.const (.bool true)) (.tmp 201)))) none,
    .act (some 203) (.op (.pure (.move (.tmp 202)))) none,
    .act (some 204) (.op (.pure (.move (.tmp 8)))) (some (203, false)),
    .act (some 205) (.op (.read (.loadN 3 (.tmp 7)))) (some (203, false)),
    .act (some 206) (.call (.func 23) [(.tmp 205), (.const (.int .i64 0)), (.const (.int .i64 1))]) (some (203, false)),
    .act (some 207) (.call (.func 22) [(.tmp 204), (.tmp 206)]) (some (203, false)),
    .act (some 208) (.op (.pure (.move (.tmp 21)))) (some (203, false)),
    .act (some 209) (.op (.pure (.bin .neq (.tmp 207) (.tmp 208)))) (some (203, false)),
    .act (some 210) (.op (.pure (.pick (.tmp 203) (.const (.bool true)) (.tmp 209)))) none])
  (.cond (.tmp 210)
   (.seq (.steps [
     .act (some 6) (.op (.pure (.move (.const (.bool false))))) none])
   .ret)
   .skip))
  (.seq (.steps [
    .act (some 211) (.op (.pure (.move (.tmp 21)))) none,
    .act (some 212) (.op (.pure (.bin .eql (.tmp 211) (.const (w64 0#64))))) none,
    .act (some 25) (.op (.pure (.move (.tmp 212)))) none])
  (.seq (.seq (.steps [
    .act (some 26) (.op (.pure (.move (.const (.int .i64 0))))) none])
  (.block 9 (.loop [8, 21, 24, 25, 26] (.seq (.seq (.steps [
      .act (some 213) (.op (.pure (.move (.tmp 26)))) none,
      .act (some 214) (.op (.pure (.move (.tmp 24)))) none,
      .act (some 215) (.op (.pure (.len false (.tmp 214)))) none,
      .act (some 216) (.op (.pure (.bin .lss (.tmp 213) (.tmp 215)))) none])
    (.cond (.tmp 216)
     .skip
     (.exit 9)))
    (.seq (.block 10 (.steps [
       .act (some 219) (.op (.pure (.move (.tmp 25)))) none,
       .act (some 220) (.op (.pure (.move (.tmp 219)))) none,
       .act (some 221) (.op (.pure (.move (.tmp 24)))) (some (220, false)),
       .act (some 222) (.op (.pure (.move (.tmp 26)))) (some (220, false)),
       .act (some 223) (.op (.pure (.idxSl 1 (.tmp 221) (.tmp 222)))) (some (220, false)),
       .act (some 224) (.op (.read (.load1 (.tmp 223)))) (some (220, false)),
       .act (some 225) (.op (.pure (.move (.tmp 21)))) (some (220, false)),
       .act (some 226) (.op (.pure (.bin .eql (.tmp 224) (.tmp 225)))) (some (220, false)),
       .act (some 227) (.op (.pure (.pick (.tmp 220) (.const (.bool true)) (.tmp 226)))) none,
       .act (some 25) (.op (.pure (.move (.tmp 227)))) none]))
    (.steps [
      .act (some 217) (.op (.pure (.move (.tmp 26)))) none,
      .act (some 218) (.op (.pure (.bin .add (.tmp 217) (.const (.int .i64 1))))) none,
      .act (some 26) (.op (.pure (.move (.tmp 218)))) none]))))))
  (.seq (.steps [
    .act (some 228) (.op (.pure (.move (.tmp 25)))) none,
    .act (some 229) (.op (.pure (.move (.tmp 228)))) none,
    .act (some 230) (.op (.pure (.move (.tmp 8)))) (some (229, true)),
    .act (some 231) (.call (.func 24) [(.tmp 230)]) (some (229, true)),
    .act (some 232) (.op (.pure (.bin .eql (.tmp 231) (.const (.int .i64 (-1)))))) (some (229, true)),
    .act (some 233) (.op (.pure (.pick (.tmp 229) (.tmp 232) (.const (.bool false))))) none,
    .act (some 234) (.op (.pure (.move (.tmp 233)))) none,
    .act (some 235) (.call (.func 20) []) (some (234, true)),
    .act (some 236) (.op (.pure (.pick (.tmp 234) (.tmp 235) (.const (.bool false))))) none,
    .act (some 6) (.op (.pure (.move (.tmp 236)))) none])
  .ret)))))))))
def phM : LCode :=
  (.seq (.seq (.steps [
    .act (some 16) (.op (.pure (.move (.const (.int .i64 0))))) none])
  (.block 2 (.loop [1, 7, 8, 10, 11, 15, 16] (.seq (.seq (.steps [
      .act (some 91) (.op (.pure (.move (.tmp 16)))) none,
      .act (some 92) (.op (.pure (.move (.tmp 1)))) none,
      .act (some 93) (.op (.pure (.len false (.tmp 92)))) none,
      .act (some 94) (.op (.pure (.bin .lss (.tmp 91) (.tmp 93)))) none,
      .act (some 95) (.op (.pure (.move (.tmp 94)))) none,
      .act (some 96) (.op (.pure (.move (.tmp 16)))) (some (95, true)),
      .act (some 97) (.op (.pure (.bin .lss (.tmp 96) (.const (.int .i64 200))))) (some (95, true)),
      .act (some 98) (.op (.pure (.pick (.tmp 95) (.tmp 97) (.const (.bool false))))) none])
    (.cond (.tmp 98)
     .skip
     (.exit 2)))
    (.seq (.block 3 (.seq (.steps [
       .act (some 101) (.op (.pure (.move (.tmp 1)))) none,
       .act (some 102) (.op (.pure (.move (.tmp 16)))) none,
       .act (some 103) (.op (.pure (.idxSl 1 (.tmp 101) (.tmp 102)))) none,
       .act (some 104) (.op (.read (.load1 (.tmp 103)))) none,
       .act (some 17) (.op (.pure (.move (.tmp 104)))) none])
     (.seq (.steps [
       .act (some 105) (.op (.pure (.move (.tmp 17)))) none,
       .act (some 106) (.op (.pure (.bin .and (.tmp 105) (.const (.int .i64 3))))) none])
     (.block 4 (.seq (.steps [
        .act (some 122) (.op (.pure (.bin .eql (.tmp 106) (.const (.int .i64 0))))) none,
        .act (some 121) (.op (.pure (.move (.tmp 122)))) none])
      (.cond (.tmp 121)
       (.seq (.steps [
         .act (some 123) (.op (.pure (.move (.tmp 10)))) none,
         .act (some 124) (.call (.func 21) [(.tmp 123)]) none,
         .act (some 125) (.op (.pure (.not (.tmp 124)))) none])
       (.cond (.tmp 125)
        (.steps [
          .act (some 126) (.op (.pure (.move (.tmp 10)))) none,
          .act (some 127) (.op (.pure (.move (.tmp 8)))) none,
          .act (some 128) (.call (.func 16) [(.tmp 126), (.tmp 127)]) none])
        (.steps [
          .act (some 129) (.op (.pure (.move (.tmp 15)))) none,
          .act (some 130) (.op (.pure (.move (.tmp 8)))) none,
          .act (some 131) (.call (.func 16) [(.tmp 129), (.tmp 130)]) none])))
       (.seq (.steps [
         .act (some 133) (.op (.pure (.bin .eql (.tmp 106) (.const (.int .i64 1))))) none,
         .act (some 132) (.op (.pure (.move (.tmp 133)))) none])
       (.cond (.tmp 132)
        (.seq (.steps [
          .act (some 134) (.op (.pure (.move (.tmp 17)))) none,
          .act (some 135) (.op (.pure (.bin .shr (.tmp 134) (.const (w64 2#64))))) none,
          .act (some 136) (.op (.pure (.bin .and (.tmp 135) (.const (.int .i64 3))))) none,
          .act (some 137) (.op (.pure (.bin .eql (.tmp 136) (.const (.int .i64 0))))) none])
        (.cond (.tmp 137)
         (.steps [
           .act (some 138) (.op (.pure (.move (.tmp 8)))) none,
           .act (some 139) (.op (.pure (.move (.tmp 17)))) none,
           .act (some 140) (.op (.pure (.bin .shr (.tmp 139) (.const (w64 4#64))))) none,
           .act (some 141) (.op (.pure (.bin .and (.tmp 140) (.const (.int .i64 7))))) none,
           .act (some 142) (.op (.pure (.conv .u64 (.tmp 141)))) none,
           .act (some 143) (.call (.func 14) [(.tmp 138), (.const (.int .i64 0)), (.tmp 142)]) none])
         .skip))
        (.seq (.steps [
          .act (some 107) (.op (.pure (.move (.tmp 11)))) none,
          .act (some 108) (.op (.pure (.len false (.tmp 107)))) none,
          .act (some 109) (.op (.pure (.bin .gtr (.tmp 108) (.const (.int .i64 0))))) none])
        (.cond (.tmp 109)
         (.steps [
           .act (some 110) (.op (.pure (.move (.tmp 11)))) none,
           .act (some 111) (.op (.pure (.move (.tmp 17)))) none,
           .act (some 112) (.op (.pure (.bin .shr (.tmp 111) (.const (w64 2#64))))) none,
           .act (some 113) (.op (.pure (.bin .and (.tmp 112) (.const (.int .i64 63))))) none,
           .act (some 114) (.op (.pure (.move (.tmp 11)))) none,
           .act (some 115) (.op (.pure (.len false (.tmp 114)))) none,
           .act (some 116) (.op (.pure (.bin .rem (.tmp 113) (.tmp 115)))) none,
           .act (some 117) (.op (.pure (.idxSl 1 (.tmp 110) (.tmp 116)))) none,
           .act (some 118) (.op (.read (.load1 (.tmp 117)))) none,
           .act (some 119) (.op (.pure (.move (.tmp 8)))) none,
           .act (some 120) (.call (.func 16) [(.tmp 118), (.tmp 119)]) none])
         .skip))))))))))
    (.steps [
      .act (some 99) (.op (.pure (.move (.tmp 16)))) none,
      .act (some 100) (.op (.pure (.bin .add (.tmp 99) (.const (.int .i64 1))))) none,
      .act (some 16) (.op (.pure (.move (.tmp 100)))) none]))))))
  phE)
def Lm : LCode :=
  (.seq (.steps [
    .act (some 6) (.op (.pure (.move (.const (.bool false))))) none])
  (.seq (.steps [
    .act (some 27) (.op (.pure (.build [(.int .i64 0), (.int .i64 0), (.int .i64 0)] [(0, 1, (.const (.int .i64 4))), (1, 1, (.const (.int .i64 4))), (2, 1, (.const (.int .i64 2)))]))) none,
    .act (some 7) (.op (.new (.alloc [(.int .i64 0), (.int .i64 0), (.int .i64 0)]))) none,
    .act none (.op (.eff (.store 3 (.tmp 7) (.tmp 27)))) none])
  (.seq (.steps [
    .act (some 29) (.call (.func 7) [(.const (.int .i64 12))]) none,
    .act (some 28) (.op (.pure (.move (.tmp 29)))) none,
    .act (some 30) (.op (.pure (.extract (.tmp 28) 0))) none,
    .act (some 31) (.op (.pure (.extract (.tmp 28) 1))) none,
    .act (some 8) (.op (.pure (.move (.tmp 30)))) none,
    .act (some 9) (.op (.pure (.move (.tmp 31)))) none])
  (.seq (.seq (.steps [
    .act (some 32) (.op (.pure (.move (.tmp 9)))) none,
    .act (some 33) (.op (.pure (.bin .neq (.tmp 32) (.const (.int .i64 0))))) none,
    .act (some 34) (.op (.pure (.move (.tmp 33)))) none,
    .act (some 35) (.op (.read (.loadN 3 (.tmp 7)))) (some (34, false)),
    .act (some 36) (.op (.pure (.move (.tmp 8)))) (some (34, false)),
    .act (some 37) (.call (.func 9) [(.tmp 35), (.tmp 36)]) (some (34, false)),
    .act (some 38) (.op (.pure (.bin .neq (.tmp 37) (.const (.int .i64 0))))) (some (34, false)),
    .act (some 39) (.op (.pure (.pick (.tmp 34) (.const (.bool true)) (.tmp 38)))) none])
  (.cond (.tmp 39)
   (.seq (.steps [
     .act (some 6) (.op (.pure (.move (.const (.bool false))))) none])
   .ret)
   .skip))
  (.seq (.steps [
    .act (some 40) (.op (.pure (.move (.tmp 2)))) none,
    .act (some 41) (.op (.pure (.bin .or (.tmp 40) (.const (w64 1#64))))) none,
    .act (some 2) (.op (.pure (.move (.tmp 41)))) none])
  (.seq (.steps [
    .act (some 42) (.op (.pure (.move (.tmp 8)))) none,
    .act (some 43) (.op (.pure (.move (.tmp 2)))) none,
    .act (some 44) (.call (.func 14) [(.tmp 42), (.const (.int .i64 0)), (.tmp 43)]) none])
  (.seq (.steps [
    .act (some 45) (.op (.read (.loadN 3 (.tmp 7)))) none,
    .act (some 46) (.call (.func 11) [(.tmp 45), (.const (.int .i64 0)), (.const (.int .i64 1)), (.const (.int .i64 0))]) none,
    .act (some 10) (.op (.pure (.move (.tmp 46)))) none])
  (.seq (.steps [
    .act (some 11) (.op (.pure (.move (.const (.slice none 0 0))))) none])
  (.seq (.seq (.steps [
    .act (some 12) (.op (.pure (.move (.const (.int .i64 0))))) none])
  (.block 0 (.loop [0, 1, 7, 8, 10, 11, 12] (.seq (.seq (.steps [
      .act (some 47) (.op (.pure (.move (.tmp 12)))) none,
      .act (some 48) (.op (.pure (.move (.tmp 0)))) none,
      .act (some 49) (.op (.pure (.len false (.tmp 48)))) none,
      .act (some 50) (.op (.pure (.bin .lss (.tmp 47) (.tmp 49)))) none,
      .act (some 51) (.op (.pure (.move (.tmp 50)))) none,
      .act (some 52) (.op (.pure (.move (.tmp 12)))) (some (51, true)),
      .act (some 53) (.op (.pure (.bin .lss (.tmp 52) (.const (.int .i64 10))))) (some (51, true)),
      .act (some 54) (.op (.pure (.pick (.tmp 51) (.tmp 53) (.const (.bool false))))) none])
    (.cond (.tmp 54)
     .skip
     (.exit 0)))
    (.seq (.block 1 (.seq (.steps [
       .act (some 57) (.op (.pure (.move (.tmp 0)))) none,
       .act (some 58) (.op (.pure (.move (.tmp 12)))) none,
       .act (some 59) (.op (.pure (.idxSl 5 (.tmp 57) (.tmp 58)))) none,
       .act (some 60) (.op (.read (.loadN 5 (.tmp 59)))) none,
       .act (some 13) (.op (.new (.alloc [(.int .i64 0), (.int .i64 0), (.int .i64 0), (.int .i64 0), (w64 0#64)]))) none,
       .act none (.op (.eff (.store 5 (.tmp 13) (.tmp 60)))) none])
     (.seq (.steps [
       .act (some 61) (.op (.pure (.fieldAddr 1 (.tmp 13)))) none,
       .act (some 62) (.op (.read (.load1 (.tmp 61)))) none,
       .act (some 63) (.op (.pure (.bin .and (.tmp 62) (.const (.int .i64 1))))) none,
       .act (some 64) (.op (.pure (.bin .add (.const (.int .i64 1)) (.tmp 63)))) none,
       .act (some 14) (.op (.pure (.move (.tmp 64)))) none])
     (.seq (.steps [
       .act (some 65) (.op (.pure (.fieldAddr 0 (.tmp 13)))) none,
       .act (some 66) (.op (.read (.load1 (.tmp 65)))) none,
       .act (some 67) (.op (.pure (.bin .eql (.tmp 66) (.const (.int .i64 0))))) none])
     (.cond (.tmp 67)
      (.steps [
        .act (some 68) (.op (.pure (.move (.tmp 11)))) none,
        .act (some 69) (.op (.read (.loadN 3 (.tmp 7)))) none,
        .act (some 70) (.op (.pure (.move (.tmp 14)))) none,
        .act (some 71) (.op (.pure (.fieldAddr 2 (.tmp 13)))) none,
        .act (some 72) (.op (.read (.load1 (.tmp 71)))) none,
        .act (some 73) (.op (.pure (.bin .and (.tmp 72) (.const (.int .i64 1))))) none,
        .act (some 74) (.op (.pure (.fieldAddr 3 (.tmp 13)))) none,
        .act (some 75) (.op (.read (.load1 (.tmp 74)))) none,
        .act (some 76) (.op (.pure (.bin .and (.tmp 75) (.const (.int .i64 3))))) none,
        .act (some 77) (.call (.func 11) [(.tmp 69), (.tmp 70), (.tmp 73), (.tmp 76)]) none,
        .act (some 78) (.op (.new (.mkSlice 1 1 [(.pointer none)] [(0, 1, (.tmp 77))]))) none,
        .act (some 79) (.op (.eff (.append 1 8 (.tmp 68) (.tmp 78)))) none,
        .act (some 11) (.op (.pure (.move (.tmp 79)))) none])
      (.steps [
        .act (some 80) (.op (.pure (.move (.tmp 11)))) none,
        .act (some 81) (.op (.read (.loadN 3 (.tmp 7)))) none,
        .act (some 82) (.op (.pure (.move (.tmp 14)))) none,
        .act (some 83) (.op (.pure (.fieldAddr 2 (.tmp 13)))) none,
        .act (some 84) (.op (.read (.load1 (.tmp 83)))) none,
        .act (some 85) (.op (.pure (.bin .and (.tmp 84) (.const (.int .i64 1))))) none,
        .act (some 86) (.call (.func 12) [(.tmp 81), (.tmp 82), (.tmp 85)]) none,
        .act (some 87) (.op (.new (.mkSlice 1 1 [(.pointer none)] [(0, 1, (.tmp 86))]))) none,
        .act (some 88) (.op (.eff (.append 1 8 (.tmp 80) (.tmp 87)))) none,
        .act (some 11) (.op (.pure (.move (.tmp 88)))) none]))))))
    (.steps [
      .act (some 55) (.op (.pure (.move (.tmp 12)))) none,
      .act (some 56) (.op (.pure (.bin .add (.tmp 55) (.const (.int .i64 1))))) none,
      .act (some 12) (.op (.pure (.move (.tmp 56)))) none]))))))
  (.seq (.steps [
    .act (some 89) (.op (.read (.loadN 3 (.tmp 7)))) none,
    .act (some 90) (.call (.func 13) [(.tmp 89)]) none,
    .act (some 15) (.op (.pure (.move (.tmp 90)))) none])
  phM))))))))))

/-- What is held while steps are taken. -/
structure HM (H : LHeap) (lo qs : Nat) (aop : Option Addr) (P : List Nat) (K : LHeap) (xo xs : HOp) (as_ : Option Addr) (m : MV) (w : List (BitVec 64)) (k : Nat) : Prop where
  gr : K[H.length]? = some (gro g4)
  mem : MemAt K (H.length + 3) (H.length + 1) (H.length + 2) m
  cl : Clean m w
  wl : w.length = 12
  o : K[H.length + 5]? = some (hrw none xo)
  sc : K[qs]? = some (hrw as_ xs)
  so : Own 1 K lo as_ (xs.met.map w64)
  ops : ∀ (j q : Nat), P[j]? = some q → H.length + 6 ≤ q ∧ q < qs ∧ ∃ x, K[q]? = some (hrw none x) ∧ OpOk x
  sl : Own 1 K (H.length + 6) aop (P.map ptr)
  sl2 : ∀ z, aop = some z → z.block < qs
  base : ∀ j, j < H.length → K[j]? = H[j]?
  qs0 : H.length + 6 ≤ qs
  qs1 : qs < lo
  len : lo ≤ K.length
  po : PO xo w
  ss : SC xs w k
  kd : 0 < k → xo.done = true
theorem HM.ahdO {H : LHeap} {lo qs : Nat} {aop as_ : Option Addr} {P : List Nat} {K : LHeap} {xo xs : HOp} {m : MV} {w : List (BitVec 64)} {k : Nat} (h : HM H lo qs aop P K xo xs as_ m w k) :
    Ahd H.length lo K (H.length + 5) (H.length + 3) (H.length + 1) (H.length + 2) none xo m := by
  have := h.qs0; have := h.qs1
  exact ⟨h.o, .inl ⟨rfl, by rw [h.po.met]; rfl⟩, h.mem, by omega, by omega, by omega, by omega, by omega, by omega, by omega, by omega, by omega, h.len⟩
theorem HM.ahdS {H : LHeap} {lo qs : Nat} {aop as_ : Option Addr} {P : List Nat} {K : LHeap} {xo xs : HOp} {m : MV} {w : List (BitVec 64)} {k : Nat} (h : HM H lo qs aop P K xo xs as_ m w k) :
    Ahd H.length lo K qs (H.length + 3) (H.length + 1) (H.length + 2) as_ xs m := by
  have := h.qs0; have := h.qs1
  exact ⟨h.sc, h.so, h.mem, by omega, by omega, by omega, by omega, by omega, by omega, by omega, by omega, by omega, h.len⟩
theorem HM.ahdP {H : LHeap} {lo qs : Nat} {aop as_ : Option Addr} {P : List Nat} {K : LHeap} {xo xs x : HOp} {m : MV} {w : List (BitVec 64)} {k q : Nat} (h : HM H lo qs aop P K xo xs as_ m w k) (hq0 : H.length + 6 ≤ q) (hq1 : q < qs) (hx : K[q]? = some (hrw none x)) (ok : OpOk x) :
    Ahd H.length lo K q (H.length + 3) (H.length + 1) (H.length + 2) none x m := by
  have := h.qs0; have := h.qs1
  exact ⟨hx, .inl ⟨rfl, by rw [ok.met]; rfl⟩, h.mem, by omega, by omega, by omega, by omega, by omega, by omega, by omega, by omega, by omega, h.len⟩
/-- What stands still. -/
theorem HM.rest {H : LHeap} {lo qs o : Nat} {aop as_ a a' : Option Addr} {P : List Nat} {K K' : LHeap} {xo xs x x' : HOp} {m m' : MV} {w : List (BitVec 64)} {k : Nat} (h : HM H lo qs aop P K xo xs as_ m w k)
    (A : Ahd H.length lo K o (H.length + 3) (H.length + 1) (H.length + 2) a x m) (s : Stp lo K K' o (H.length + 3) (H.length + 1) (H.length + 2) a a' x x' m') (ho : H.length + 5 ≤ o) (hoa : Off o aop) :
    K'[H.length]? = some (gro g4) ∧ (∀ j, j < H.length → K'[j]? = H[j]?) ∧ Own 1 K' (H.length + 6) aop (P.map ptr) ∧ lo ≤ K'.length := by
  have q0 := h.qs0; have q1 := h.qs1
  refine ⟨by rw [A.keep s (by omega) (by omega) (by omega) (by omega) (by omega)]; exact h.gr, fun j hj => by rw [A.keep s (by omega) (by omega) (by omega) (by omega) (by omega)]; exact h.base j hj, ?_, Nat.le_trans h.len s.len⟩
  rcases h.sl with ⟨e1, e2⟩ | ⟨b, e1, e2, e3⟩
  · exact .inl ⟨e1, e2⟩
  · have h2 := h.sl2 _ e1
    have h3 := hoa _ e1
    simp only at h2 h3
    refine .inr ⟨b, e1, e2, ?_⟩
    rw [A.keep s (by omega) h3 (by omega) (by omega) (by omega)]
    exact e3
theorem HM.offP {H : LHeap} {lo qs q : Nat} {aop as_ : Option Addr} {P : List Nat} {K : LHeap} {xo xs x : HOp} {a : Option Addr} {m : MV} {w : List (BitVec 64)} {k : Nat} (h : HM H lo qs aop P K xo xs as_ m w k) (hx : K[q]? = some (hrw a x)) : Off q aop := by
  intro z hz e
  rcases h.sl with ⟨e1, _⟩ | ⟨b, e1, _, e3⟩
  · rw [e1] at hz; cases hz
  · rw [e1] at hz; cases hz
    simp only at e
    rw [e, hx] at e3
    cases e3
theorem Stp.same {lo : Nat} {H H' : LHeap} {o b pw pb : Nat} {a a' : Option Addr} {x x' : HOp} {m' : MV} (s : Stp lo H H' o b pw pb a a' x x' m') (h : x'.met = x.met) : a' = a := by
  rcases s.new with e | ⟨_, e⟩
  · exact e
  · rw [h] at e; omega
/-- A step of the Protect. -/
theorem HM.stepO {H : LHeap} {lo qs : Nat} {aop as_ a' : Option Addr} {P : List Nat} {K K' : LHeap} {xo xs : HOp} {m : MV} {w : List (BitVec 64)} {k : Nat} (h : HM H lo qs aop P K xo xs as_ m w k) (hd : xo.done = false)
    (s : Stp lo K K' (H.length + 5) (H.length + 3) (H.length + 1) (H.length + 2) none a' xo (xo.step m).1 (xo.step m).2) : ∃ w', HM H lo qs aop P K' (xo.step m).1 xs as_ (xo.step m).2 w' k ∧ rank (xo.step m).1 w' < rank xo w := by
  obtain ⟨w', p1, p2, p3, p4⟩ := po_step h.po h.cl h.wl hd
  have q0 := h.qs0; have q1 := h.qs1
  have A := h.ahdO
  have k0 : k = 0 := by
    rcases Nat.eq_zero_or_pos k with e | e
    · exact e
    · have := h.kd e; rw [hd] at this; cases this
  subst k0
  obtain ⟨r1, r2, r3, r4⟩ := h.rest A s (Nat.le_refl _) (h.offP h.o)
  obtain rfl := s.same (by rw [p3.met, h.po.met])
  have hs := h.ss
  refine ⟨w', ⟨r1, s.mem, p1, p2, s.row, ?_, ?_, ?_, r3, h.sl2, r2, h.qs0, h.qs1, r4, p3, ⟨hs.g, hs.kind, hs.code, hs.at_, hs.le, hs.done, hs.p, hs.len, fun q => by omega⟩, fun q => by omega⟩, p4⟩
  · rw [A.keep s (by omega) (by omega) (by omega) (by omega) (by omega)]; exact h.sc
  · have : xs.met = [] := by have := hs.len; exact List.length_eq_zero_iff.1 (by omega)
    rcases h.so with ⟨e1, e2⟩ | ⟨b, e1, e2, e3⟩
    · exact .inl ⟨e1, e2⟩
    · refine .inr ⟨b, e1, e2, ?_⟩
      rw [s.pre b (List.getElem?_eq_some_iff.1 e3).1 (by omega) (by omega) (by omega) (by omega) (fun _ q => by cases q)]
      exact e3
  · intro j q g
    obtain ⟨u1, u2, x, u3, u4⟩ := h.ops j q g
    exact ⟨u1, u2, x, by rw [A.keep s (by omega) (by omega) (by omega) (by omega) (by omega)]; exact u3, u4⟩
/-- A step of the scan. -/
theorem HM.stepS {H : LHeap} {lo qs : Nat} {aop as_ a' : Option Addr} {P : List Nat} {K K' : LHeap} {xo xs : HOp} {m : MV} {w : List (BitVec 64)} {k : Nat} (h : HM H lo qs aop P K xo xs as_ m w k) (hd : xo.done = true) (hk : k < 8)
    (s : Stp lo K K' qs (H.length + 3) (H.length + 1) (H.length + 2) as_ a' xs (xs.step m).1 (xs.step m).2) : HM H lo qs aop P K' xo (xs.step m).1 a' (xs.step m).2 w (k + 1) := by
  obtain ⟨p1, p2⟩ := sc_step h.ss h.cl h.wl hk
  have q0 := h.qs0; have q1 := h.qs1
  have A := h.ahdS
  obtain ⟨r1, r2, r3, r4⟩ := h.rest A s (by omega) (h.offP h.sc)
  refine ⟨r1, s.mem, p1, h.wl, ?_, s.row, s.own, ?_, r3, h.sl2, r2, h.qs0, h.qs1, r4, h.po, p2, fun _ => hd⟩
  · rw [A.keep s (by omega) (by omega) (by omega) (by omega) (by omega)]; exact h.o
  · intro j q g
    obtain ⟨u1, u2, x, u3, u4⟩ := h.ops j q g
    exact ⟨u1, u2, x, by rw [A.keep s (by omega) (by omega) (by omega) (by omega) (by omega)]; exact u3, u4⟩
/-- A step of another one. -/
theorem HM.stepP {H : LHeap} {lo qs q : Nat} {aop as_ a' : Option Addr} {P : List Nat} {K K' : LHeap} {xo xs x : HOp} {m : MV} {w : List (BitVec 64)} {k : Nat} (h : HM H lo qs aop P K xo xs as_ m w k) (hq0 : H.length + 6 ≤ q) (hq1 : q < qs) (hx : K[q]? = some (hrw none x)) (ok : OpOk x)
    (s : Stp lo K K' q (H.length + 3) (H.length + 1) (H.length + 2) none a' x (x.step m).1 (x.step m).2) : ∃ w', HM H lo qs aop P K' xo xs as_ (x.step m).2 w' k := by
  obtain ⟨w', p1, p2, p3, p4⟩ := opOk_step ok h.cl h.wl
  have q0 := h.qs0; have q1 := h.qs1
  have A := h.ahdP hq0 hq1 hx ok
  obtain ⟨r1, r2, r3, r4⟩ := h.rest A s (by omega) (h.offP hx)
  obtain rfl := s.same (by rw [p4.met, ok.met])
  refine ⟨w', r1, s.mem, p1, p2, ?_, ?_, ?_, ?_, r3, h.sl2, r2, h.qs0, h.qs1, r4, h.po.wrd p3, h.ss.wrd p3, h.kd⟩
  · rw [A.keep s (by omega) (by omega) (by omega) (by omega) (by omega)]; exact h.o
  · rw [A.keep s (by omega) (by omega) (by omega) (by omega) (by omega)]; exact h.sc
  · rcases h.so with ⟨e1, e2⟩ | ⟨b, e1, e2, e3⟩
    · exact .inl ⟨e1, e2⟩
    · refine .inr ⟨b, e1, e2, ?_⟩
      rw [s.pre b (List.getElem?_eq_some_iff.1 e3).1 (by omega) (by omega) (by omega) (by omega) (fun _ q => by cases q)]
      exact e3
  · intro j q' g
    obtain ⟨u1, u2, y, u3, u4⟩ := h.ops j q' g
    by_cases e : q' = q
    · subst e; exact ⟨u1, u2, _, s.row, p4⟩
    · exact ⟨u1, u2, y, by rw [A.keep s (by omega) e (by omega) (by omega) (by omega)]; exact u3, u4⟩
end Go.Proofs.Ytcogpinognopcaa
