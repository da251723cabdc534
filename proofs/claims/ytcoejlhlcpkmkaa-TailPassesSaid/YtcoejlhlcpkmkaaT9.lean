/- The statement TailPasses. -/
import Derived.Test.YtcoejlhlcpkmkaaT8
namespace Go.Proofs.Ytcoejlhlcpkmkaa
open Go Go.LK
set_option linter.unusedSimpArgs false
set_option linter.unusedVariables false
theorem peek_one {lim b pw pb : Nat} {m : MV} {W : BitVec 64} {H : LHeap} (hl : lim ≤ H.length) (h : MemAt H b pw pb m) (c : Clean m [W]) :
    callE T 28 lim [ptr b, i64 0, i64 1] H fun v H' => ∃ q t, v = .slice (some ⟨H.length + q, 0, none⟩) 1 1 ∧ H' = H ++ t ∧ t[q]? = some (.row false 1 [w64 W]) := by
  refine (peek_ev hl h (by decide)).mono ?_
  rintro _ _ ⟨a', t, rfl, rfl, o⟩
  have e : m.peek 0 1 = [W] := by
    unfold MV.peek
    rw [c.ws]; simp
  rw [e] at o ⊢
  obtain ⟨q, rfl, h1, h2, h3⟩ := o.has (by simp)
  obtain ⟨r, rfl⟩ : ∃ r, q = H.length + r := ⟨q - H.length, by omega⟩
  refine ⟨r, t, rfl, rfl, ?_⟩
  rw [get_app] at h3
  simpa using h3
theorem word_hd {lim : Nat} {H : LHeap} {h : HD} : callE T 9 lim [h.v] H fun v H' => v = w64 h.w ∧ H' = H := word_ev
def opv (o : Option (Nat × TOp)) : Value := match o with | none => .pointer none | some (q, _) => ptr q
theorem start_small (n t i : BitVec 64) : (hdOf (packW (n &&& 16777215#64) t i)).n.toNat ≤ 16777215 := by
  have e1 : (hdOf (packW (n &&& 16777215#64) t i)).n = getW 0 40 (packW (n &&& 16777215#64) t i) := by rw [hdOf_eq]
  have e2 : (16777215#64).toNat = 16777215 := by decide
  have h : (n.toNat &&& 16777215) ≤ 16777215 := Nat.and_le_right
  rw [e1, pack_next, BitVec.toNat_umod, BitVec.toNat_and, e2]
  exact Nat.le_trans (Nat.mod_le _ _) h
structure PS where
  i : Nat
  nx : Nat
  W : BitVec 64
  m : MV
  L : List (Option (Nat × TOp))
  P : List (BitVec 64)
  B : List (BitVec 64)
  D : List Bool
  es : List (BitVec 64 × Bool)
  t : LHeap
abbrev hrow (h : HD) : LObj := .row false 0 [w64 h.n, w64 h.t, w64 h.i]
abbrev PG (H : LHeap) (h : HD) (m : MV) (L : List (Option (Nat × TOp))) (P B : List (BitVec 64)) (D : List Bool) (es : List (BitVec 64 × Bool)) (t : LHeap) : LHeap :=
  H ++ (hrow h :: wrow m :: brow m :: mrow (H.length + 1) (H.length + 2) m :: .row false 0 (L.map opv) :: .row false 0 (P.map w64) :: .row false 0 (B.map w64) :: .row false 0 (D.map Value.bool) :: .map (went Value.bool es) :: t)
theorem PG_mem {H : LHeap} {h : HD} {m : MV} {n : Nat} (ok : m.Ok n) (L : List (Option (Nat × TOp))) (P B : List (BitVec 64)) (D : List Bool) (es : List (BitVec 64 × Bool)) (t : LHeap) : MemAt (PG H h m L P B D es t) (H.length + 3) (H.length + 1) (H.length + 2) m :=
  mem_at (pre := [_]) ok
structure PI (H : LHeap) (h : HD) (n0 : Nat) (s : PS) : Prop where
  ll : s.L.length = 4
  lp : s.P.length = 4
  lb : s.B.length = 4
  ld : s.D.length = 4
  cl : Clean s.m [s.W]
  lo : n0 ≤ (hdOf s.W).n.toNat
  hi : (hdOf s.W).n.toNat ≤ n0 + s.i
  ps : ∀ q : BitVec 64, wget q s.es = decide (n0 ≤ q.toNat ∧ q.toNat < (hdOf s.W).n.toNat)
  ops : OpsAt trow (H.length + 9) (PG H h s.m s.L s.P s.B s.D s.es s.t) s.L
  each : ∀ (j q : Nat) (x : TOp), s.L[j]? = some (some (q, x)) → ∃ p by_ d, s.P[j]? = some p ∧ s.B[j]? = some by_ ∧ s.D[j]? = some d ∧ Live (hdOf s.W).n.toNat x p by_ d
theorem peek_PG {H : LHeap} {h : HD} {m : MV} {W : BitVec 64} (cl : Clean m [W]) (L : List (Option (Nat × TOp))) (P B : List (BitVec 64)) (D : List Bool) (es : List (BitVec 64 × Bool)) (t : LHeap) :
    callE T 28 H.length [ptr (H.length + 3), i64 0, i64 1] (PG H h m L P B D es t) fun v H' => ∃ r t', v = .slice (some ⟨H.length + (r + 9), 0, none⟩) 1 1 ∧ H' = PG H h m L P B D es (t ++ t') ∧ (t ++ t')[r]? = some (.row false 1 [w64 W]) := by
  refine (peek_one (by simp) (PG_mem cl.ok _ _ _ _ _ _) cl).mono ?_
  rintro _ _ ⟨q, t', rfl, rfl, hq⟩
  refine ⟨t.length + q, t', ?_, ?_, ?_⟩
  · simp
  · simp [PG]
  · rw [get_app]; exact hq
theorem restrict_look {ks : List Tmp} {e e' : Env} (h : restrict ks e' = restrict ks e) {k : Nat} (hk : k ∈ ks) : LK.look e' k = LK.look e k := by
  have h1 := look_restrict e' k ks
  have h2 := look_restrict e k ks
  rw [if_pos hk] at h1 h2
  rw [← h1, ← h2, h]
set_option maxRecDepth 100000 in
def phC : LCode :=
  (.seq (.steps [
    .act (some 230) (.op (.pure (.move (.tmp 7)))) none,
    .act (some 231) (.call (.func 28) [(.tmp 230), (.const (.int .i64 0)), (.const (.int .i64 1))]) none,
    .act (some 24) (.op (.pure (.move (.tmp 231)))) none])
  (.seq (.seq (.steps [
    .act (some 232) (.op (.pure (.move (.tmp 24)))) none,
    .act (some 233) (.op (.pure (.len false (.tmp 232)))) none,
    .act (some 234) (.op (.pure (.bin .neq (.tmp 233) (.const (.int .i64 1))))) none])
  (.cond (.tmp 234)
   (.seq (.steps [
     .act (some 6) (.op (.pure (.move (.const (.bool false))))) none])
   .ret)
   .skip))
  (.seq (.seq (.steps [
    .act (some 235) (.op (.pure (.fieldAddr 0 (.tmp 3)))) none,
    .act (some 236) (.op (.read (.load1 (.tmp 235)))) none,
    .act (some 25) (.op (.pure (.move (.tmp 236)))) none])
  (.block 2 (.loop [7, 13, 24, 25] (.seq (.seq (.steps [
      .act (some 237) (.op (.pure (.move (.tmp 25)))) none,
      .act (some 238) (.op (.pure (.move (.tmp 24)))) none,
      .act (some 239) (.op (.pure (.idxSl 1 (.tmp 238) (.const (.int .i64 0))))) none,
      .act (some 240) (.op (.read (.load1 (.tmp 239)))) none,
      .act (some 241) (.call (.func 11) [(.tmp 240)]) none,
      .act (some 242) (.op (.pure (.field false 0 1 (.tmp 241)))) none,
      .act (some 243) (.op (.pure (.bin .lss (.tmp 237) (.tmp 242)))) none])
    (.cond (.tmp 243)
     .skip
     (.exit 2)))
    (.seq (.block 3 (.seq (.steps [
       .act (some 246) (.op (.pure (.move (.tmp 13)))) none,
       .act (some 247) (.op (.pure (.move (.tmp 25)))) none,
       .act (some 248) (.op (.read (.lookup false (.bool false) false (.tmp 246) (.tmp 247)))) none,
       .act (some 249) (.op (.pure (.not (.tmp 248)))) none])
     (.cond (.tmp 249)
      (.seq (.steps [
        .act (some 6) (.op (.pure (.move (.const (.bool false))))) none])
      .ret)
      .skip)))
    (.steps [
      .act (some 244) (.op (.pure (.move (.tmp 25)))) none,
      .act (some 245) (.op (.pure (.bin .add (.tmp 244) (.const (w64 1#64))))) none,
      .act (some 25) (.op (.pure (.move (.tmp 245)))) none]))))))
  (.seq (.steps [
    .act (some 250) (.op (.pure (.move (.tmp 7)))) none,
    .act (some 251) (.call (.func 29) [(.tmp 250)]) none,
    .act (some 252) (.op (.pure (.bin .eql (.tmp 251) (.const (.int .i64 (-1)))))) none,
    .act (some 253) (.op (.pure (.move (.tmp 252)))) none,
    .act (some 254) (.call (.func 12) []) (some (253, true)),
    .act (some 255) (.op (.pure (.pick (.tmp 253) (.tmp 254) (.const (.bool false))))) none,
    .act (some 6) (.op (.pure (.move (.tmp 255)))) none])
  .ret))))
def phB : LCode :=
  (.seq (.seq (.steps [
       .act (some 119) (.op (.pure (.move (.tmp 16)))) none,
       .act (some 120) (.op (.pure (.idxArr 4 1 (.tmp 9) (.tmp 119)))) none,
       .act (some 121) (.op (.read (.load1 (.tmp 120)))) none,
       .act (some 122) (.op (.pure (.move (.tmp 7)))) none,
       .act (some 123) (.call (.func 24) [(.tmp 121), (.tmp 122)]) none,
       .act (some 124) (.op (.pure (.not (.tmp 123)))) none])
     (.cond (.tmp 124)
      (.exit 1)
      .skip))
     (.seq (.steps [
       .act (some 126) (.op (.pure (.move (.tmp 16)))) none,
       .act (some 127) (.op (.pure (.idxArr 4 1 (.tmp 9) (.tmp 126)))) none,
       .act (some 128) (.op (.read (.load1 (.tmp 127)))) none,
       .act (some 129) (.call (.func 21) [(.tmp 128)]) none,
       .act (some 125) (.op (.pure (.move (.tmp 129)))) none,
       .act (some 130) (.op (.pure (.extract (.tmp 125) 0))) none,
       .act (some 131) (.op (.pure (.extract (.tmp 125) 1))) none,
       .act (some 20) (.op (.pure (.move (.tmp 130)))) none,
       .act (some 21) (.op (.pure (.move (.tmp 131)))) none])
     (.seq (.steps [
       .act (some 132) (.op (.pure (.move (.tmp 16)))) none,
       .act (some 133) (.op (.pure (.idxArr 4 1 (.tmp 9) (.tmp 132)))) none,
       .act none (.op (.eff (.store 1 (.tmp 133) (.const (.pointer none))))) none])
     (.seq (.steps [
       .act (some 134) (.op (.pure (.move (.tmp 7)))) none,
       .act (some 135) (.call (.func 28) [(.tmp 134), (.const (.int .i64 0)), (.const (.int .i64 1))]) none,
       .act (some 22) (.op (.pure (.move (.tmp 135)))) none])
     (.seq (.seq (.steps [
       .act (some 136) (.op (.pure (.move (.tmp 22)))) none,
       .act (some 137) (.op (.pure (.len false (.tmp 136)))) none,
       .act (some 138) (.op (.pure (.bin .neq (.tmp 137) (.const (.int .i64 1))))) none])
     (.cond (.tmp 138)
      (.seq (.steps [
        .act (some 6) (.op (.pure (.move (.const (.bool false))))) none])
      .ret)
      .skip))
     (.seq (.steps [
       .act (some 139) (.op (.pure (.move (.tmp 22)))) none,
       .act (some 140) (.op (.pure (.idxSl 1 (.tmp 139) (.const (.int .i64 0))))) none,
       .act (some 141) (.op (.read (.load1 (.tmp 140)))) none,
       .act (some 142) (.call (.func 11) [(.tmp 141)]) none,
       .act (some 23) (.op (.new (.alloc [(w64 0#64), (w64 0#64), (w64 0#64)]))) none,
       .act none (.op (.eff (.store 3 (.tmp 23) (.tmp 142)))) none])
     (.seq (.seq (.steps [
       .act (some 143) (.op (.pure (.move (.tmp 20)))) none,
       .act (some 144) (.op (.pure (.bin .neq (.tmp 143) (.const (.int .i64 0))))) none,
       .act (some 145) (.op (.pure (.move (.tmp 144)))) none,
       .act (some 146) (.op (.pure (.fieldAddr 0 (.tmp 23)))) (some (145, false)),
       .act (some 147) (.op (.read (.load1 (.tmp 146)))) (some (145, false)),
       .act (some 148) (.op (.pure (.fieldAddr 0 (.tmp 18)))) (some (145, false)),
       .act (some 149) (.op (.read (.load1 (.tmp 148)))) (some (145, false)),
       .act (some 150) (.op (.pure (.bin .lss (.tmp 147) (.tmp 149)))) (some (145, false)),
       .act (some 151) (.op (.pure (.pick (.tmp 145) (.const (.bool true)) (.tmp 150)))) none,
       .act (some 152) (.op (.pure (.move (.tmp 151)))) none,
       .act (some 153) (.op (.pure (.fieldAddr 0 (.tmp 23)))) (some (152, false)),
       .act (some 154) (.op (.read (.load1 (.tmp 153)))) (some (152, false)),
       .act (some 155) (.op (.pure (.fieldAddr 0 (.tmp 18)))) (some (152, false)),
       .act (some 156) (.op (.read (.load1 (.tmp 155)))) (some (152, false)),
       .act (some 157) (.op (.pure (.bin .add (.tmp 156) (.const (w64 1#64))))) (some (152, false)),
       .act (some 158) (.op (.pure (.bin .gtr (.tmp 154) (.tmp 157)))) (some (152, false)),
       .act (some 159) (.op (.pure (.pick (.tmp 152) (.const (.bool true)) (.tmp 158)))) none,
       .act (some 160) (.op (.pure (.move (.tmp 159)))) none,
       .act (some 161) (.op (.pure (.move (.tmp 16)))) (some (160, false)),
       .act (some 162) (.op (.pure (.idxArr 4 1 (.tmp 12) (.tmp 161)))) (some (160, false)),
       .act (some 163) (.op (.read (.load1 (.tmp 162)))) (some (160, false)),
       .act (some 164) (.op (.pure (.move (.tmp 163)))) (some (160, false)),
       .act (some 165) (.op (.pure (.move (.tmp 21)))) (some (164, true)),
       .act (some 166) (.op (.pure (.move (.tmp 17)))) (some (164, true)),
       .act (some 167) (.op (.pure (.idxSl 1 (.tmp 166) (.const (.int .i64 0))))) (some (164, true)),
       .act (some 168) (.op (.read (.load1 (.tmp 167)))) (some (164, true)),
       .act (some 169) (.op (.pure (.move (.tmp 16)))) (some (164, true)),
       .act (some 170) (.op (.pure (.idxArr 4 1 (.tmp 11) (.tmp 169)))) (some (164, true)),
       .act (some 171) (.op (.read (.load1 (.tmp 170)))) (some (164, true)),
       .act (some 172) (.op (.pure (.bin .eql (.tmp 168) (.tmp 171)))) (some (164, true)),
       .act (some 173) (.op (.pure (.eqB true (.tmp 165) (.tmp 172)))) (some (164, true)),
       .act (some 174) (.op (.pure (.pick (.tmp 164) (.tmp 173) (.const (.bool false))))) (some (160, false)),
       .act (some 175) (.op (.pure (.pick (.tmp 160) (.const (.bool true)) (.tmp 174)))) none,
       .act (some 176) (.op (.pure (.move (.tmp 175)))) none,
       .act (some 177) (.op (.pure (.move (.tmp 16)))) (some (176, false)),
       .act (some 178) (.op (.pure (.idxArr 4 1 (.tmp 12) (.tmp 177)))) (some (176, false)),
       .act (some 179) (.op (.read (.load1 (.tmp 178)))) (some (176, false)),
       .act (some 180) (.op (.pure (.move (.tmp 179)))) (some (176, false)),
       .act (some 181) (.op (.pure (.move (.tmp 21)))) (some (180, true)),
       .act (some 182) (.op (.pure (.pick (.tmp 180) (.tmp 181) (.const (.bool false))))) (some (176, false)),
       .act (some 183) (.op (.pure (.move (.tmp 182)))) (some (176, false)),
       .act (some 184) (.op (.pure (.fieldAddr 2 (.tmp 23)))) (some (183, true)),
       .act (some 185) (.op (.read (.load1 (.tmp 184)))) (some (183, true)),
       .act (some 186) (.op (.pure (.fieldAddr 2 (.tmp 18)))) (some (183, true)),
       .act (some 187) (.op (.read (.load1 (.tmp 186)))) (some (183, true)),
       .act (some 188) (.op (.pure (.bin .geq (.tmp 185) (.tmp 187)))) (some (183, true)),
       .act (some 189) (.op (.pure (.move (.tmp 188)))) (some (183, true)),
       .act (some 190) (.op (.pure (.fieldAddr 0 (.tmp 23)))) (some (189, false)),
       .act (some 191) (.op (.read (.load1 (.tmp 190)))) (some (189, false)),
       .act (some 192) (.op (.pure (.fieldAddr 0 (.tmp 18)))) (some (189, false)),
       .act (some 193) (.op (.read (.load1 (.tmp 192)))) (some (189, false)),
       .act (some 194) (.op (.pure (.bin .neq (.tmp 191) (.tmp 193)))) (some (189, false)),
       .act (some 195) (.op (.pure (.pick (.tmp 189) (.const (.bool true)) (.tmp 194)))) (some (183, true)),
       .act (some 196) (.op (.pure (.pick (.tmp 183) (.tmp 195) (.const (.bool false))))) (some (176, false)),
       .act (some 197) (.op (.pure (.pick (.tmp 176) (.const (.bool true)) (.tmp 196)))) none])
     (.cond (.tmp 197)
      (.seq (.steps [
        .act (some 6) (.op (.pure (.move (.const (.bool false))))) none])
      .ret)
      .skip))
     (.seq (.steps [
       .act (some 198) (.op (.pure (.move (.tmp 16)))) none,
       .act (some 199) (.op (.pure (.idxArr 4 1 (.tmp 12) (.tmp 198)))) none,
       .act (some 200) (.op (.read (.load1 (.tmp 199)))) none,
       .act (some 201) (.op (.pure (.not (.tmp 200)))) none])
     (.cond (.tmp 201)
      (.seq (.seq (.steps [
        .act (some 202) (.op (.pure (.fieldAddr 0 (.tmp 23)))) none,
        .act (some 203) (.op (.read (.load1 (.tmp 202)))) none,
        .act (some 204) (.op (.pure (.move (.tmp 16)))) none,
        .act (some 205) (.op (.pure (.idxArr 4 1 (.tmp 10) (.tmp 204)))) none,
        .act (some 206) (.op (.read (.load1 (.tmp 205)))) none,
        .act (some 207) (.op (.pure (.bin .leq (.tmp 203) (.tmp 206)))) none,
        .act (some 208) (.op (.pure (.move (.tmp 207)))) none,
        .act (some 209) (.op (.pure (.move (.tmp 21)))) (some (208, false)),
        .act (some 210) (.op (.pure (.move (.tmp 209)))) (some (208, false)),
        .act (some 211) (.op (.pure (.move (.tmp 13)))) (some (210, true)),
        .act (some 212) (.op (.pure (.move (.tmp 16)))) (some (210, true)),
        .act (some 213) (.op (.pure (.idxArr 4 1 (.tmp 10) (.tmp 212)))) (some (210, true)),
        .act (some 214) (.op (.read (.load1 (.tmp 213)))) (some (210, true)),
        .act (some 215) (.op (.read (.lookup false (.bool false) false (.tmp 211) (.tmp 214)))) (some (210, true)),
        .act (some 216) (.op (.pure (.pick (.tmp 210) (.tmp 215) (.const (.bool false))))) (some (208, false)),
        .act (some 217) (.op (.pure (.pick (.tmp 208) (.const (.bool true)) (.tmp 216)))) none])
      (.cond (.tmp 217)
       (.seq (.steps [
         .act (some 6) (.op (.pure (.move (.const (.bool false))))) none])
       .ret)
       .skip))
      (.steps [
        .act (some 218) (.op (.pure (.move (.tmp 13)))) none,
        .act (some 219) (.op (.pure (.move (.tmp 16)))) none,
        .act (some 220) (.op (.pure (.idxArr 4 1 (.tmp 10) (.tmp 219)))) none,
        .act (some 221) (.op (.read (.load1 (.tmp 220)))) none,
        .act (some 222) (.op (.pure (.move (.tmp 13)))) none,
        .act (some 223) (.op (.pure (.move (.tmp 16)))) none,
        .act (some 224) (.op (.pure (.idxArr 4 1 (.tmp 10) (.tmp 223)))) none,
        .act (some 225) (.op (.read (.load1 (.tmp 224)))) none,
        .act (some 226) (.op (.read (.lookup false (.bool false) false (.tmp 222) (.tmp 225)))) none,
        .act (some 227) (.op (.pure (.move (.tmp 226)))) none,
        .act (some 228) (.op (.pure (.move (.tmp 21)))) (some (227, false)),
        .act (some 229) (.op (.pure (.pick (.tmp 227) (.const (.bool true)) (.tmp 228)))) none,
        .act none (.op (.eff (.mapUpdate false (.tmp 218) (.tmp 221) (.tmp 229)))) none]))
      .skip)))))))))
def phA : LCode :=
  (.seq (.seq (.steps [
       .act (some 68) (.op (.pure (.move (.tmp 16)))) none,
       .act (some 69) (.op (.pure (.idxArr 4 1 (.tmp 9) (.tmp 68)))) none,
       .act (some 70) (.op (.read (.load1 (.tmp 69)))) none,
       .act (some 71) (.op (.pure (.eqNil .p false (.tmp 70) (.const (.pointer none))))) none])
     (.cond (.tmp 71)
      (.seq (.seq (.steps [
        .act (some 72) (.op (.pure (.move (.tmp 14)))) none,
        .act (some 73) (.op (.pure (.move (.tmp 1)))) none,
        .act (some 74) (.op (.pure (.len false (.tmp 73)))) none,
        .act (some 75) (.op (.pure (.bin .geq (.tmp 72) (.tmp 74)))) none])
      (.cond (.tmp 75)
       (.exit 1)
       .skip))
      (.seq (.steps [
        .act (some 76) (.op (.pure (.move (.tmp 1)))) none,
        .act (some 77) (.op (.pure (.move (.tmp 14)))) none,
        .act (some 78) (.op (.pure (.idxSl 1 (.tmp 76) (.tmp 77)))) none,
        .act (some 79) (.op (.read (.load1 (.tmp 78)))) none,
        .act (some 80) (.op (.pure (.bin .and (.tmp 79) (.const (.int .i64 7))))) none,
        .act (some 19) (.op (.pure (.move (.tmp 80)))) none])
      (.seq (.steps [
        .act (some 81) (.op (.pure (.move (.tmp 16)))) none,
        .act (some 82) (.op (.pure (.move (.tmp 1)))) none,
        .act (some 83) (.op (.pure (.move (.tmp 14)))) none,
        .act (some 84) (.op (.pure (.idxSl 1 (.tmp 82) (.tmp 83)))) none,
        .act (some 85) (.op (.read (.load1 (.tmp 84)))) none,
        .act (some 86) (.op (.pure (.bin .shr (.tmp 85) (.const (w64 3#64))))) none,
        .act (some 87) (.op (.pure (.bin .and (.tmp 86) (.const (.int .i64 1))))) none,
        .act (some 88) (.op (.pure (.bin .eql (.tmp 87) (.const (.int .i64 1))))) none,
        .act (some 89) (.op (.pure (.move (.tmp 88)))) none,
        .act (some 90) (.op (.read (.loadN 3 (.tmp 18)))) (some (89, true)),
        .act (some 91) (.op (.pure (.move (.tmp 19)))) (some (89, true)),
        .act (some 92) (.call (.func 14) [(.tmp 90), (.tmp 91)]) (some (89, true)),
        .act (some 93) (.op (.pure (.pick (.tmp 89) (.tmp 92) (.const (.bool false))))) none,
        .act (some 94) (.op (.pure (.idxArr 4 1 (.tmp 12) (.tmp 81)))) none,
        .act none (.op (.eff (.store 1 (.tmp 94) (.tmp 93)))) none])
      (.seq (.steps [
        .act (some 95) (.op (.pure (.move (.tmp 16)))) none,
        .act (some 96) (.op (.pure (.fieldAddr 0 (.tmp 18)))) none,
        .act (some 97) (.op (.read (.load1 (.tmp 96)))) none,
        .act (some 98) (.call (.func 25) [(.const (.int .i64 0)), (.tmp 97)]) none,
        .act (some 99) (.op (.pure (.idxArr 4 1 (.tmp 9) (.tmp 95)))) none,
        .act none (.op (.eff (.store 1 (.tmp 99) (.tmp 98)))) none])
      (.seq (.steps [
        .act (some 100) (.op (.pure (.move (.tmp 16)))) none,
        .act (some 101) (.op (.pure (.move (.tmp 16)))) none,
        .act (some 102) (.op (.pure (.fieldAddr 0 (.tmp 18)))) none,
        .act (some 103) (.op (.read (.load1 (.tmp 102)))) none,
        .act (some 104) (.op (.pure (.move (.tmp 17)))) none,
        .act (some 105) (.op (.pure (.idxSl 1 (.tmp 104) (.const (.int .i64 0))))) none,
        .act (some 106) (.op (.read (.load1 (.tmp 105)))) none,
        .act (some 107) (.op (.pure (.idxArr 4 1 (.tmp 10) (.tmp 100)))) none,
        .act none (.op (.eff (.store 1 (.tmp 107) (.tmp 103)))) none,
        .act (some 108) (.op (.pure (.idxArr 4 1 (.tmp 11) (.tmp 101)))) none,
        .again 106 (.load1 (.tmp 105)) none,
        .act none (.op (.eff (.store 1 (.tmp 108) (.tmp 106)))) none])
      (.seq (.seq (.steps [
        .act (some 109) (.op (.pure (.move (.tmp 16)))) none,
        .act (some 110) (.op (.pure (.idxArr 4 1 (.tmp 12) (.tmp 109)))) none,
        .act (some 111) (.op (.read (.load1 (.tmp 110)))) none])
      (.cond (.tmp 111)
       (.steps [
         .act (some 112) (.op (.pure (.move (.tmp 16)))) none,
         .act (some 113) (.op (.pure (.move (.tmp 19)))) none,
         .act (some 114) (.op (.read (.loadN 3 (.tmp 18)))) none,
         .act (some 115) (.call (.func 22) [(.const (.int .i64 0)), (.tmp 113), (.tmp 114)]) none,
         .act (some 116) (.op (.pure (.idxArr 4 1 (.tmp 9) (.tmp 112)))) none,
         .act none (.op (.eff (.store 1 (.tmp 116) (.tmp 115)))) none])
       .skip))
      (.steps [
        .act (some 117) (.op (.pure (.move (.tmp 14)))) none,
        .act (some 118) (.op (.pure (.bin .add (.tmp 117) (.const (.int .i64 1))))) none,
        .act (some 14) (.op (.pure (.move (.tmp 118)))) none])))))))
      .skip))
     phB)
def Lp : LCode :=
  (.seq (.steps [
    .act (some 3) (.op (.new (.box (.tmp 0)))) none,
    .act (some 6) (.op (.pure (.move (.const (.bool false))))) none])
  (.seq (.steps [
    .act (some 27) (.call (.func 20) [(.const (.int .i64 1))]) none,
    .act (some 26) (.op (.pure (.move (.tmp 27)))) none,
    .act (some 28) (.op (.pure (.extract (.tmp 26) 0))) none,
    .act (some 29) (.op (.pure (.extract (.tmp 26) 1))) none,
    .act (some 7) (.op (.pure (.move (.tmp 28)))) none,
    .act (some 8) (.op (.pure (.move (.tmp 29)))) none])
  (.seq (.seq (.steps [
    .act (some 30) (.op (.pure (.move (.tmp 8)))) none,
    .act (some 31) (.op (.pure (.bin .neq (.tmp 30) (.const (.int .i64 0))))) none])
  (.cond (.tmp 31)
   (.seq (.steps [
     .act (some 6) (.op (.pure (.move (.const (.bool false))))) none])
   .ret)
   .skip))
  (.seq (.steps [
    .act (some 32) (.op (.pure (.fieldAddr 0 (.tmp 3)))) none,
    .act (some 33) (.op (.read (.load1 (.tmp 32)))) none,
    .act (some 34) (.op (.pure (.bin .and (.tmp 33) (.const (w64 16777215#64))))) none,
    .act (some 35) (.op (.pure (.fieldAddr 0 (.tmp 3)))) none,
    .act none (.op (.eff (.store 1 (.tmp 35) (.tmp 34)))) none])
  (.seq (.steps [
    .act (some 36) (.op (.pure (.move (.tmp 7)))) none,
    .act (some 37) (.op (.read (.loadN 3 (.tmp 3)))) none,
    .act (some 38) (.call (.func 9) [(.tmp 37)]) none,
    .act (some 39) (.call (.func 27) [(.tmp 36), (.const (.int .i64 0)), (.tmp 38)]) none])
  (.seq (.steps [
    .act (some 40) (.op (.read (.loadN 3 (.tmp 3)))) none,
    .act (some 41) (.call (.func 9) [(.tmp 40)]) none,
    .act (some 42) (.call (.func 11) [(.tmp 41)]) none,
    .act none (.op (.eff (.store 3 (.tmp 3) (.tmp 42)))) none])
  (.seq (.steps [
    .act (some 9) (.op (.new (.alloc [(.pointer none), (.pointer none), (.pointer none), (.pointer none)]))) none])
  (.seq (.steps [
    .act (some 10) (.op (.new (.alloc [(w64 0#64), (w64 0#64), (w64 0#64), (w64 0#64)]))) none,
    .act (some 11) (.op (.new (.alloc [(w64 0#64), (w64 0#64), (w64 0#64), (w64 0#64)]))) none])
  (.seq (.steps [
    .act (some 12) (.op (.new (.alloc [(.bool false), (.bool false), (.bool false), (.bool false)]))) none])
  (.seq (.steps [
    .act (some 43) (.op (.new (.makeMap))) none,
    .act (some 13) (.op (.pure (.move (.tmp 43)))) none])
  (.seq (.steps [
    .act (some 14) (.op (.pure (.move (.const (.int .i64 0))))) none])
  (.seq (.seq (.steps [
    .act (some 15) (.op (.pure (.move (.const (.int .i64 0))))) none])
  (.block 0 (.loop [1, 2, 3, 7, 9, 10, 11, 12, 13, 14, 15] (.seq (.seq (.steps [
      .act (some 44) (.op (.pure (.move (.tmp 15)))) none,
      .act (some 45) (.op (.pure (.move (.tmp 2)))) none,
      .act (some 46) (.op (.pure (.len false (.tmp 45)))) none,
      .act (some 47) (.op (.pure (.bin .lss (.tmp 44) (.tmp 46)))) none,
      .act (some 48) (.op (.pure (.move (.tmp 47)))) none,
      .act (some 49) (.op (.pure (.move (.tmp 15)))) (some (48, true)),
      .act (some 50) (.op (.pure (.bin .lss (.tmp 49) (.const (.int .i64 200))))) (some (48, true)),
      .act (some 51) (.op (.pure (.pick (.tmp 48) (.tmp 50) (.const (.bool false))))) none])
    (.cond (.tmp 51)
     .skip
     (.exit 0)))
    (.seq (.block 1 (.seq (.steps [
       .act (some 54) (.op (.pure (.move (.tmp 2)))) none,
       .act (some 55) (.op (.pure (.move (.tmp 15)))) none,
       .act (some 56) (.op (.pure (.idxSl 1 (.tmp 54) (.tmp 55)))) none,
       .act (some 57) (.op (.read (.load1 (.tmp 56)))) none,
       .act (some 58) (.op (.pure (.bin .and (.tmp 57) (.const (.int .i64 3))))) none,
       .act (some 16) (.op (.pure (.move (.tmp 58)))) none])
     (.seq (.steps [
       .act (some 59) (.op (.pure (.move (.tmp 7)))) none,
       .act (some 60) (.call (.func 28) [(.tmp 59), (.const (.int .i64 0)), (.const (.int .i64 1))]) none,
       .act (some 17) (.op (.pure (.move (.tmp 60)))) none])
     (.seq (.seq (.steps [
       .act (some 61) (.op (.pure (.move (.tmp 17)))) none,
       .act (some 62) (.op (.pure (.len false (.tmp 61)))) none,
       .act (some 63) (.op (.pure (.bin .neq (.tmp 62) (.const (.int .i64 1))))) none])
     (.cond (.tmp 63)
      (.seq (.steps [
        .act (some 6) (.op (.pure (.move (.const (.bool false))))) none])
      .ret)
      .skip))
     (.seq (.steps [
       .act (some 64) (.op (.pure (.move (.tmp 17)))) none,
       .act (some 65) (.op (.pure (.idxSl 1 (.tmp 64) (.const (.int .i64 0))))) none,
       .act (some 66) (.op (.read (.load1 (.tmp 65)))) none,
       .act (some 67) (.call (.func 11) [(.tmp 66)]) none,
       .act (some 18) (.op (.new (.alloc [(w64 0#64), (w64 0#64), (w64 0#64)]))) none,
       .act none (.op (.eff (.store 3 (.tmp 18) (.tmp 67)))) none])
     phA)))))
    (.steps [
      .act (some 52) (.op (.pure (.move (.tmp 15)))) none,
      .act (some 53) (.op (.pure (.bin .add (.tmp 52) (.const (.int .i64 1))))) none,
      .act (some 15) (.op (.pure (.move (.tmp 53)))) none]))))))
  phC))))))))))))

abbrev keep7 : List Tmp := [1, 2, 3, 7, 9, 10, 11, 12, 13, 14, 15]
set_option maxHeartbeats 1000000 in
theorem phB_ev {H : LHeap} {h : HD} {n0 i nx : Nat} {W : BitVec 64} {m : MV} {L : List (Option (Nat × TOp))} {P B : List (BitVec 64)} {D : List Bool} {es : List (BitVec 64 × Bool)} {t : LHeap} {e : Env} {Q : LExit → Env → LHeap → Prop}
    (inv : PI H h n0 ⟨i, nx, W, m, L, P, B, D, es, t⟩) (hn : n0 + i < 1099511627775) {j q r1 r2 : Nat} {x : TOp} (hj : L[j]? = some (some (q, x))) (hr1 : t[r1]? = some (.row false 1 [w64 W])) (hr2 : t[r2]? = some (hrow (hdOf W)))
    (e7 : LK.look e 7 = ptr (H.length + 3)) (e9 : LK.look e 9 = ptr (H.length + 4)) (e10 : LK.look e 10 = ptr (H.length + 5)) (e11 : LK.look e 11 = ptr (H.length + 6)) (e12 : LK.look e 12 = ptr (H.length + 7)) (e13 : LK.look e 13 = .map (some (H.length + 8)))
    (e16 : LK.look e 16 = i64 j) (e17 : LK.look e 17 = .slice (some ⟨H.length + (r1 + 9), 0, none⟩) 1 1) (e18 : LK.look e 18 = ptr (H.length + (r2 + 9)))
    (hQ : ∀ (y : LExit) e' W' m' L' es' t', (y = .normal ∨ y = .exit 1) → restrict keep7 e' = restrict keep7 e → PI H h n0 ⟨i + 1, nx, W', m', L', P, B, D, es', t'⟩ → Q y e' (PG H h m' L' P B D es' t')) :
    XW (callE T) H.length phB e (PG H h m L P B D es t) Q := by
  obtain ⟨ll, lp, lb, ld, cl, lo, hi2, ps, ops, each⟩ := inv
  simp only at ll lp lb ld cl lo hi2 ps ops each
  have okm := cl.ok
  obtain ⟨hq0, hq1⟩ := ops.at_ j q x hj
  obtain ⟨r, rfl⟩ : ∃ r, q = H.length + (r + 9) := ⟨q - H.length - 9, by omega⟩
  have j4 : j < 4 := by rw [← ll]; exact (List.getElem?_eq_some_iff.1 hj).1
  have j0 : 0 ≤ (j : Int) := by omega
  have j4' : (j : Int) < 4 := by omega
  have hLj : (L.map opv)[j]? = some (ptr (H.length + (r + 9))) := by rw [List.getElem?_map, hj]; rfl
  unfold phB
  simp -dsimp only [go_sem, Nat.reduceEqDiff, Nat.reduceAdd, Nat.reduceSub, Nat.reduceMul, Nat.reduceLeDiff, Nat.reduceLT, Nat.reduceBEq, Int.reduceLT, Int.reduceLE, Int.reduceGT, Int.reduceGE, Int.reduceEq, Int.reduceNe, Int.reduceBEq, Int.reduceBNe, Int.reduceAdd, Int.reduceSub, Int.reduceMul, Int.reduceToNat, Int.reduceNeg, ↓reduceIte, ↓reduceDIte, e7, e9, e16, j0, j4', hLj]
  obtain ⟨p, by_, d, hp, hb, hd, lv⟩ := each j _ x hj
  refine CT_val (tstep_ev hq1 (PG_mem okm _ _ _ _ _ _) (by omega) (by omega) (by omega)) ?_
  have ops1 := (ops.put hj (x.step m).1).mem (b := H.length + 3) (pw := H.length + 1) (pb := H.length + 2) (by omega) (by omega) (by omega) (x.step m).2
  have eH : memPut ((PG H h m L P B D es t).set (H.length + (r + 9)) (trow (x.step m).1)) (H.length + 3) (H.length + 1) (H.length + 2) (x.step m).2 = PG H h (x.step m).2 L P B D es (t.set r (trow (x.step m).1)) := by
    simp [memPut, PG, set_app]
  have hLs : ∀ y : TOp, (L.set j (some (H.length + (r + 9), y))).map opv = L.map opv := fun y => by
    rw [List.map_set]
    apply List.ext_getElem?
    intro k
    by_cases e : j = k
    · subst e; rw [List.getElem?_set_self (by simp; omega), hLj]; rfl
    · rw [List.getElem?_set_ne e]
  have hr : r < t.length := by
    have := ops.lt hj
    simp at this; omega
  have hne1 : r ≠ r1 := fun q => by
    subst q
    have := hq1
    simp [get_app] at this
    rw [hr1] at this; cases this
  have hne2 : r ≠ r2 := fun q => by
    subst q
    have := hq1
    simp [get_app] at this
    rw [hr2] at this; cases this
  rw [eH] at ops1 ⊢
  rcases live_step cl (by omega) lv with ⟨hpc, cl', lv'⟩ | ⟨hpc, hcode, W', cl', en⟩
  · have hpc' : ((x.step m).1.pc == 3) = false := by simpa using hpc
    generalize (x.step m).1 = x' at *
    generalize (x.step m).2 = m' at *
    simp -dsimp only [go_sem, Nat.reduceEqDiff, Nat.reduceAdd, Nat.reduceSub, Nat.reduceMul, Nat.reduceLeDiff, Nat.reduceLT, Nat.reduceBEq, Int.reduceLT, Int.reduceLE, Int.reduceGT, Int.reduceGE, Int.reduceEq, Int.reduceNe, Int.reduceBEq, Int.reduceBNe, Int.reduceAdd, Int.reduceSub, Int.reduceMul, Int.reduceToNat, Int.reduceNeg, ↓reduceIte, ↓reduceDIte, hpc']
    have eP : PG H h m' L P B D es (t.set r (trow x')) = PG H h m' (L.set j (some (H.length + (r + 9), x'))) P B D es (t.set r (trow x')) := by simp only [PG, hLs]
    rw [eP] at ops1 ⊢
    refine hQ _ _ W _ _ _ _ (.inr rfl) rfl ⟨by simp [ll], lp, lb, ld, cl', lo, Nat.le_trans hi2 (by simp), ps, ops1, ?_⟩
    intro j' q' y g
    by_cases ej : j = j'
    · subst ej
      simp only at g
      rw [List.getElem?_set_self (by omega)] at g
      cases g
      exact ⟨p, by_, d, hp, hb, hd, lv'⟩
    · simp only at g
      rw [List.getElem?_set_ne ej] at g
      exact each j' q' y g
  · have hpc' : ((x.step m).1.pc == 3) = true := by simpa using hpc
    have hres := (ops1.at_ j _ _ (List.getElem?_set_self (by omega))).2
    generalize (x.step m).1 = x' at *
    generalize (x.step m).2 = m' at *
    simp -dsimp only [go_sem, Nat.reduceEqDiff, Nat.reduceAdd, Nat.reduceSub, Nat.reduceMul, Nat.reduceLeDiff, Nat.reduceLT, Nat.reduceBEq, Int.reduceLT, Int.reduceLE, Int.reduceGT, Int.reduceGE, Int.reduceEq, Int.reduceNe, Int.reduceBEq, Int.reduceBNe, Int.reduceAdd, Int.reduceSub, Int.reduceMul, Int.reduceToNat, Int.reduceNeg, ↓reduceIte, ↓reduceDIte, hpc', e9, e16, j0, j4', hLj, e7]
    refine CT_val (tres_ev hres) ?_
    rw [if_pos hpc, hcode]
    have hj1 : j + 1 ≤ 4 := by omega
    have hLl : (L.map opv).length = 4 := by simp [ll]
    simp -dsimp only [go_sem, Nat.reduceEqDiff, Nat.reduceAdd, Nat.reduceSub, Nat.reduceMul, Nat.reduceLeDiff, Nat.reduceLT, Nat.reduceBEq, Int.reduceLT, Int.reduceLE, Int.reduceGT, Int.reduceGE, Int.reduceEq, Int.reduceNe, Int.reduceBEq, Int.reduceBNe, Int.reduceAdd, Int.reduceSub, Int.reduceMul, Int.reduceToNat, Int.reduceNeg, ↓reduceIte, ↓reduceDIte, e9, e16, j0, j4', hLj, e7, hj1, List.length_map, ll]
    have eN : (L.map opv).set j (Value.pointer none) = (L.set j none).map opv := by rw [List.map_set]; rfl
    have ops2 := (ops1.clear j).off (c := H.length + 4) (by omega) (.row false 0 ((L.set j none).map opv))
    have eH2 : (PG H h m' L P B D es (t.set r (trow x'))).set (H.length + 4) (.row false 0 ((L.set j none).map opv)) = PG H h m' (L.set j none) P B D es (t.set r (trow x')) := by simp [PG, set_app]
    rw [eH2, List.set_set] at ops2
    rw [eN]
    have k1 : (t.set r (trow x'))[r1]? = some (.row false 1 [w64 W]) := by rw [get_set_ne hne1]; exact hr1
    have k2 : (t.set r (trow x'))[r2]? = some (hrow (hdOf W)) := by rw [get_set_ne hne2]; exact hr2
    generalize t.set r (trow x') = T1 at k1 k2 ops2 ⊢
    refine CT_of (peek_PG cl' _ _ _ _ _ _) ?_
    rintro _ _ ⟨r3, t3, rfl, rfl, k3⟩
    have ops3 : OpsAt trow (H.length + 9) (PG H h m' (L.set j none) P B D es (T1 ++ t3)) (L.set j none) := by
      have := ops2.app t3
      simpa [PG] using this
    have k1 : (T1 ++ t3)[r1]? = some (.row false 1 [w64 W]) := get_old k1 _
    have k2 : (T1 ++ t3)[r2]? = some (hrow (hdOf W)) := get_old k2 _
    generalize T1 ++ t3 = T2 at k1 k2 k3 ops3 ⊢
    have l1 := (List.getElem?_eq_some_iff.1 k1).1
    have l2 := (List.getElem?_eq_some_iff.1 k2).1
    have ops4 : OpsAt trow (H.length + 9) (PG H h m' (L.set j none) P B D es (T2 ++ [hrow (hdOf W')])) (L.set j none) := by
      have := ops3.app [hrow (hdOf W')]
      simpa [PG] using this
    simp -dsimp only [go_sem, Nat.reduceEqDiff, Nat.reduceAdd, Nat.reduceSub, Nat.reduceMul, Nat.reduceLeDiff, Nat.reduceLT, Nat.reduceBEq, Int.reduceLT, Int.reduceLE, Int.reduceGT, Int.reduceGE, Int.reduceEq, Int.reduceNe, Int.reduceBEq, Int.reduceBNe, Int.reduceAdd, Int.reduceSub, Int.reduceMul, Int.reduceToNat, Int.reduceNeg, ↓reduceIte, ↓reduceDIte, lget_at k3]
    refine CT_val of_hd ?_
    have g1 := en.lt
    have g2 := en.gt
    have hPj : (P.map w64)[j]? = some (w64 p) := by rw [List.getElem?_map, hp]; rfl
    have hBj : (B.map w64)[j]? = some (w64 by_) := by rw [List.getElem?_map, hb]; rfl
    have hDj : (D.map Value.bool)[j]? = some (.bool d) := by rw [List.getElem?_map, hd]; rfl
    simp -dsimp only [go_sem, Nat.reduceEqDiff, Nat.reduceAdd, Nat.reduceSub, Nat.reduceMul, Nat.reduceLeDiff, Nat.reduceLT, Nat.reduceBEq, Int.reduceLT, Int.reduceLE, Int.reduceGT, Int.reduceGE, Int.reduceEq, Int.reduceNe, Int.reduceBEq, Int.reduceBNe, Int.reduceAdd, Int.reduceSub, Int.reduceMul, Int.reduceToNat, Int.reduceNeg, ↓reduceIte, ↓reduceDIte, lget_left l1, lget_left l2, lget_at k1, lget_at k2, e18, e17, g1, g2, e12, e16, j0, j4', hDj, hBj, hPj]
    have newI : ∀ es', (∀ q : BitVec 64, wget q es' = decide (n0 ≤ q.toNat ∧ q.toNat < (hdOf W').n.toNat)) → PI H h n0 ⟨i + 1, nx, W', m', L.set j none, P, B, D, es', T2 ++ [hrow (hdOf W')]⟩ := by
      intro es' hes
      have nn := en.nn
      have le : (hdOf W).n.toNat ≤ (hdOf W').n.toNat := by rw [nn]; omega
      refine ⟨by simp [ll], lp, lb, ld, cl', ?_, ?_, hes, ?_, ?_⟩
      · show n0 ≤ (hdOf W').n.toNat
        omega
      · show (hdOf W').n.toNat ≤ n0 + (i + 1)
        rw [nn]; split <;> omega
      · have := ops4.off (c := H.length + 8) (by omega) (.map (went Value.bool es'))
        have eq : (PG H h m' (L.set j none) P B D es (T2 ++ [hrow (hdOf W')])).set (H.length + 8) (.map (went Value.bool es')) = PG H h m' (L.set j none) P B D es' (T2 ++ [hrow (hdOf W')]) := by simp [PG, set_app]
        rw [eq] at this; exact this
      · intro j' q' y g
        simp only at g
        by_cases ej : j = j'
        · subst ej
          rw [List.getElem?_set_self (by omega)] at g
          cases g
        · rw [List.getElem?_set_ne ej] at g
          obtain ⟨p', b', d', u1, u2, u3, u4⟩ := each j' q' y g
          exact ⟨p', b', d', u1, u2, u3, u4.mono le⟩
    have b1 : (true == true) = true := rfl
    have b2 : (false == false) = true := rfl
    have b3 : (true == false) = false := rfl
    have b4 : (false == true) = false := rfl
    cases d with
    | true =>
      have dd := en.dd rfl
      have di := en.di rfl
      have nn := en.nn
      simp only [Bool.true_eq_false, false_and, if_false, Nat.add_zero] at nn
      have hes := newI es (by rw [nn]; exact ps)
      cases hdid : x'.did
      · rw [hdid] at dd
        simp -dsimp only [go_sem, Nat.reduceEqDiff, Nat.reduceAdd, Nat.reduceSub, Nat.reduceMul, Nat.reduceLeDiff, Nat.reduceLT, Nat.reduceBEq, Int.reduceLT, Int.reduceLE, Int.reduceGT, Int.reduceGE, Int.reduceEq, Int.reduceNe, Int.reduceBEq, Int.reduceBNe, Int.reduceAdd, Int.reduceSub, Int.reduceMul, Int.reduceToNat, Int.reduceNeg, ↓reduceIte, ↓reduceDIte, lget_left l1, lget_left l2, lget_at k1, lget_at k2, e18, e17, e11, e12, e16, j0, j4', hDj, hBj, hPj, hdid, ← dd, b1, b2, b3, b4]
        exact hQ _ _ W' m' (L.set j none) es _ (.inl rfl) rfl hes
      · rw [hdid] at dd
        obtain ⟨di1, di2⟩ := di hdid
        simp -dsimp only [go_sem, Nat.reduceEqDiff, Nat.reduceAdd, Nat.reduceSub, Nat.reduceMul, Nat.reduceLeDiff, Nat.reduceLT, Nat.reduceBEq, Int.reduceLT, Int.reduceLE, Int.reduceGT, Int.reduceGE, Int.reduceEq, Int.reduceNe, Int.reduceBEq, Int.reduceBNe, Int.reduceAdd, Int.reduceSub, Int.reduceMul, Int.reduceToNat, Int.reduceNeg, ↓reduceIte, ↓reduceDIte, lget_left l1, lget_left l2, lget_at k1, lget_at k2, e18, e17, e11, e12, e16, j0, j4', hDj, hBj, hPj, hdid, ← dd, b1, b2, b3, b4, di1, di2]
        exact hQ _ _ W' m' (L.set j none) es _ (.inl rfl) rfl hes
    | false =>
      have pn := en.pn rfl
      have pp := en.pp rfl
      have nn := en.nn
      simp only [true_and] at nn
      have hwf := lfind_went Value.bool p es
      have hput := wput_ents p (wget p es || x'.did) es
      have hes : ∀ q : BitVec 64, wget q (wput p (wget p es || x'.did) es) = decide (n0 ≤ q.toNat ∧ q.toNat < (hdOf W').n.toNat) := by
        intro q
        rw [wget_put, nn]
        by_cases eq : q = p
        · subst eq
          rw [if_pos rfl, ps]
          cases hdid : x'.did
          · simp
          · have := pp hdid
            rw [← this]; simp
            rw [this]; omega
        · rw [if_neg eq, ps]
          cases hdid : x'.did
          · simp
          · have := pp hdid
            have : q.toNat ≠ (hdOf W).n.toNat := fun e => eq (by rw [this]; exact BitVec.eq_of_toNat_eq e)
            simp only [if_true]
            rw [decide_eq_decide]; omega
      have hI := newI _ hes
      have fin : ∀ v, (wget p es || x'.did) = v → ∀ e', restrict keep7 e' = restrict keep7 e → match wfind p es with
          | some (ix, _) => Q .normal e' (H ++ (hrow h :: wrow m' :: brow m' :: mrow (H.length + 1) (H.length + 2) m' :: .row false 0 ((L.set j none).map opv) :: .row false 0 (P.map w64) :: .row false 0 (B.map w64) :: .row false 0 (D.map Value.bool) :: .map ((went Value.bool es).set ix (w64 p, .bool v)) :: (T2 ++ [hrow (hdOf W')])))
          | none => Q .normal e' (H ++ (hrow h :: wrow m' :: brow m' :: mrow (H.length + 1) (H.length + 2) m' :: .row false 0 ((L.set j none).map opv) :: .row false 0 (P.map w64) :: .row false 0 (B.map w64) :: .row false 0 (D.map Value.bool) :: .map (went Value.bool es ++ [(w64 p, .bool v)]) :: (T2 ++ [hrow (hdOf W')]))) := by
        intro v hv e' he
        have := hQ .normal e' W' m' (L.set j none) (wput p (wget p es || x'.did) es) _ (.inl rfl) he hI
        rw [hv] at hput this
        cases hw : wfind p es with
        | none => rw [hw] at hput; simp only at hput ⊢; rw [PG, hput] at this; exact this
        | some z => rw [hw] at hput; simp only at hput ⊢; rw [PG, hput] at this; exact this
      clear hput hI hes
      cases hdid : x'.did
      · cases hg : wget p es
        · have fin := fin false (by rw [hg, hdid]; rfl)
          simp -dsimp only [go_sem, Nat.reduceEqDiff, Nat.reduceAdd, Nat.reduceSub, Nat.reduceMul, Nat.reduceLeDiff, Nat.reduceLT, Nat.reduceBEq, Int.reduceLT, Int.reduceLE, Int.reduceGT, Int.reduceGE, Int.reduceEq, Int.reduceNe, Int.reduceBEq, Int.reduceBNe, Int.reduceAdd, Int.reduceSub, Int.reduceMul, Int.reduceToNat, Int.reduceNeg, ↓reduceIte, ↓reduceDIte, lget_left l1, lget_left l2, lget_at k1, lget_at k2, e18, e17, e10, e11, e12, e13, e16, j0, j4', hDj, hBj, hPj, hdid, b1, b2, b3, b4, pn, hwf, wlook, hg]
          cases hw : wfind p es with
          | none => rw [hw] at fin; simp -dsimp only [go_sem, Nat.reduceEqDiff, Nat.reduceAdd, Nat.reduceSub, Nat.reduceMul, Nat.reduceLeDiff, Nat.reduceLT, Nat.reduceBEq, Int.reduceLT, Int.reduceLE, Int.reduceGT, Int.reduceGE, Int.reduceEq, Int.reduceNe, Int.reduceBEq, Int.reduceBNe, Int.reduceAdd, Int.reduceSub, Int.reduceMul, Int.reduceToNat, Int.reduceNeg, ↓reduceIte, ↓reduceDIte]; exact fin _ rfl
          | some z => rw [hw] at fin; simp -dsimp only [go_sem, Nat.reduceEqDiff, Nat.reduceAdd, Nat.reduceSub, Nat.reduceMul, Nat.reduceLeDiff, Nat.reduceLT, Nat.reduceBEq, Int.reduceLT, Int.reduceLE, Int.reduceGT, Int.reduceGE, Int.reduceEq, Int.reduceNe, Int.reduceBEq, Int.reduceBNe, Int.reduceAdd, Int.reduceSub, Int.reduceMul, Int.reduceToNat, Int.reduceNeg, ↓reduceIte, ↓reduceDIte]; exact fin _ rfl
        · have fin := fin true (by rw [hg, hdid]; rfl)
          simp -dsimp only [go_sem, Nat.reduceEqDiff, Nat.reduceAdd, Nat.reduceSub, Nat.reduceMul, Nat.reduceLeDiff, Nat.reduceLT, Nat.reduceBEq, Int.reduceLT, Int.reduceLE, Int.reduceGT, Int.reduceGE, Int.reduceEq, Int.reduceNe, Int.reduceBEq, Int.reduceBNe, Int.reduceAdd, Int.reduceSub, Int.reduceMul, Int.reduceToNat, Int.reduceNeg, ↓reduceIte, ↓reduceDIte, lget_left l1, lget_left l2, lget_at k1, lget_at k2, e18, e17, e10, e11, e12, e13, e16, j0, j4', hDj, hBj, hPj, hdid, b1, b2, b3, b4, pn, hwf, wlook, hg]
          cases hw : wfind p es with
          | none => rw [hw] at fin; simp -dsimp only [go_sem, Nat.reduceEqDiff, Nat.reduceAdd, Nat.reduceSub, Nat.reduceMul, Nat.reduceLeDiff, Nat.reduceLT, Nat.reduceBEq, Int.reduceLT, Int.reduceLE, Int.reduceGT, Int.reduceGE, Int.reduceEq, Int.reduceNe, Int.reduceBEq, Int.reduceBNe, Int.reduceAdd, Int.reduceSub, Int.reduceMul, Int.reduceToNat, Int.reduceNeg, ↓reduceIte, ↓reduceDIte]; exact fin _ rfl
          | some z => rw [hw] at fin; simp -dsimp only [go_sem, Nat.reduceEqDiff, Nat.reduceAdd, Nat.reduceSub, Nat.reduceMul, Nat.reduceLeDiff, Nat.reduceLT, Nat.reduceBEq, Int.reduceLT, Int.reduceLE, Int.reduceGT, Int.reduceGE, Int.reduceEq, Int.reduceNe, Int.reduceBEq, Int.reduceBNe, Int.reduceAdd, Int.reduceSub, Int.reduceMul, Int.reduceToNat, Int.reduceNeg, ↓reduceIte, ↓reduceDIte]; exact fin _ rfl
      · have hno : wget p es = false := by
          rw [ps, pp hdid]; simp
        have fin := fin true (by rw [hno, hdid]; rfl)
        simp -dsimp only [go_sem, Nat.reduceEqDiff, Nat.reduceAdd, Nat.reduceSub, Nat.reduceMul, Nat.reduceLeDiff, Nat.reduceLT, Nat.reduceBEq, Int.reduceLT, Int.reduceLE, Int.reduceGT, Int.reduceGE, Int.reduceEq, Int.reduceNe, Int.reduceBEq, Int.reduceBNe, Int.reduceAdd, Int.reduceSub, Int.reduceMul, Int.reduceToNat, Int.reduceNeg, ↓reduceIte, ↓reduceDIte, lget_left l1, lget_left l2, lget_at k1, lget_at k2, e18, e17, e10, e11, e12, e13, e16, j0, j4', hDj, hBj, hPj, hdid, b1, b2, b3, b4, pn, hwf, wlook, hno]
        cases hw : wfind p es with
        | none => rw [hw] at fin; simp -dsimp only [go_sem, Nat.reduceEqDiff, Nat.reduceAdd, Nat.reduceSub, Nat.reduceMul, Nat.reduceLeDiff, Nat.reduceLT, Nat.reduceBEq, Int.reduceLT, Int.reduceLE, Int.reduceGT, Int.reduceGE, Int.reduceEq, Int.reduceNe, Int.reduceBEq, Int.reduceBNe, Int.reduceAdd, Int.reduceSub, Int.reduceMul, Int.reduceToNat, Int.reduceNeg, ↓reduceIte, ↓reduceDIte]; exact fin _ rfl
        | some z => rw [hw] at fin; simp -dsimp only [go_sem, Nat.reduceEqDiff, Nat.reduceAdd, Nat.reduceSub, Nat.reduceMul, Nat.reduceLeDiff, Nat.reduceLT, Nat.reduceBEq, Int.reduceLT, Int.reduceLE, Int.reduceGT, Int.reduceGE, Int.reduceEq, Int.reduceNe, Int.reduceBEq, Int.reduceBNe, Int.reduceAdd, Int.reduceSub, Int.reduceMul, Int.reduceToNat, Int.reduceNeg, ↓reduceIte, ↓reduceDIte]; exact fin _ rfl
end Go.Proofs.Ytcoejlhlcpkmkaa
