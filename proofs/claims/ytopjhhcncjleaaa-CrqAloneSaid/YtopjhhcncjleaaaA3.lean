/- The statement CrqAlone: the walk. -/
import Derived.Test.YtopjhhcncjleaaaA2
import Derived.Test.YtopjhhcncjleaaaD1
namespace Go.Proofs.Ytopjhhcncjleaaa
open Go Go.LK
set_option linter.unusedSimpArgs false
set_option linter.unusedVariables false
set_option maxRecDepth 100000 in
def caB : LCode :=
  (.seq (.steps [
       .act (some 73) (.op (.pure (.move (.tmp 1)))) none,
       .act (some 74) (.op (.pure (.move (.tmp 12)))) none,
       .act (some 75) (.op (.pure (.idxSl 3 (.tmp 73) (.tmp 74)))) none,
       .act (some 76) (.op (.pure (.fieldAddr 1 (.tmp 75)))) none,
       .act (some 77) (.op (.read (.load1 (.tmp 76)))) none,
       .act (some 78) (.op (.pure (.bin .and (.tmp 77) (.const (.int .i64 1))))) none,
       .act (some 79) (.op (.pure (.move (.tmp 1)))) none,
       .act (some 80) (.op (.pure (.move (.tmp 12)))) none,
       .act (some 81) (.op (.pure (.idxSl 3 (.tmp 79) (.tmp 80)))) none,
       .act (some 82) (.op (.pure (.fieldAddr 2 (.tmp 81)))) none,
       .act (some 83) (.op (.read (.load1 (.tmp 82)))) none,
       .act (some 84) (.op (.pure (.bin .and (.tmp 83) (.const (w64 65535#64))))) none,
       .act (some 16) (.op (.pure (.move (.tmp 78)))) none,
       .act (some 17) (.op (.pure (.move (.tmp 84)))) none])
     (.seq (.steps [
       .act (some 86) (.op (.pure (.move (.tmp 8)))) none,
       .act (some 87) (.op (.read (.loadN 2 (.tmp 7)))) none,
       .act (some 88) (.op (.pure (.move (.tmp 16)))) none,
       .act (some 89) (.op (.pure (.move (.tmp 17)))) none,
       .act (some 90) (.op (.pure (.move (.tmp 16)))) none,
       .act (some 91) (.op (.pure (.bin .sub (.const (.int .i64 1)) (.tmp 90)))) none,
       .act (some 92) (.op (.pure (.conv .u64 (.tmp 91)))) none,
       .act (some 93) (.op (.pure (.bin .mul (.tmp 89) (.tmp 92)))) none,
       .act (some 94) (.call (.func 13) [(.tmp 87), (.tmp 88), (.tmp 93)]) none,
       .act (some 95) (.call (.func 22) [(.tmp 86), (.tmp 94), (.const (.int .i64 900))]) none,
       .act (some 85) (.op (.pure (.move (.tmp 95)))) none,
       .act (some 96) (.op (.pure (.extract (.tmp 85) 0))) none,
       .act (some 97) (.op (.pure (.extract (.tmp 85) 1))) none,
       .act (some 98) (.op (.pure (.extract (.tmp 85) 2))) none,
       .act (some 18) (.op (.pure (.move (.tmp 96)))) none,
       .act (some 19) (.op (.pure (.move (.tmp 97)))) none,
       .act (some 20) (.op (.pure (.move (.tmp 98)))) none])
     (.seq (.seq (.steps [
       .act (some 99) (.op (.pure (.move (.tmp 20)))) none,
       .act (some 100) (.op (.pure (.not (.tmp 99)))) none,
       .act (some 101) (.op (.pure (.move (.tmp 100)))) none,
       .act (some 102) (.op (.read (.loadN 2 (.tmp 7)))) (some (101, false)),
       .act (some 103) (.op (.pure (.move (.tmp 8)))) (some (101, false)),
       .act (some 105) (.op (.pure (.fieldAddr 1 (.tmp 7)))) (some (101, false)),
       .act (some 106) (.op (.read (.load1 (.tmp 105)))) (some (101, false)),
       .act (some 104) (.call (.func 19) [(.tmp 102), (.tmp 103)]) (some (101, false)),
       .act (some 107) (.op (.pure (.bin .gtr (.tmp 104) (.tmp 106)))) (some (101, false)),
       .act (some 108) (.op (.pure (.pick (.tmp 101) (.const (.bool true)) (.tmp 107)))) none,
       .again 106 (.load1 (.tmp 105)) (some (101, false))])
     (.cond (.tmp 108)
      (.seq (.steps [
        .act (some 6) (.op (.pure (.move (.const (.bool false))))) none])
      .ret)
      .skip))
     (.seq (.seq (.steps [
       .act (some 109) (.op (.pure (.move (.tmp 16)))) none,
       .act (some 110) (.op (.pure (.bin .eql (.tmp 109) (.const (.int .i64 0))))) none,
       .act (some 111) (.op (.pure (.move (.tmp 110)))) none,
       .act (some 112) (.op (.pure (.move (.tmp 18)))) (some (111, true)),
       .act (some 113) (.op (.pure (.bin .eql (.tmp 112) (.const (.int .i64 16))))) (some (111, true)),
       .act (some 114) (.op (.pure (.pick (.tmp 111) (.tmp 113) (.const (.bool false))))) none])
     (.cond (.tmp 114)
      (.seq (.seq (.steps [
        .act (some 115) (.op (.pure (.move (.tmp 11)))) none,
        .act (some 116) (.op (.pure (.not (.tmp 115)))) none,
        .act (some 117) (.op (.pure (.move (.tmp 116)))) none,
        .act (some 118) (.op (.pure (.fieldAddr 1 (.tmp 10)))) (some (117, true)),
        .act (some 119) (.op (.read (.load1 (.tmp 118)))) (some (117, true)),
        .act (some 120) (.op (.pure (.len false (.tmp 119)))) (some (117, true)),
        .act (some 121) (.op (.pure (.fieldAddr 1 (.tmp 7)))) (some (117, true)),
        .act (some 122) (.op (.read (.load1 (.tmp 121)))) (some (117, true)),
        .act (some 123) (.op (.pure (.bin .lss (.tmp 120) (.tmp 122)))) (some (117, true)),
        .act (some 124) (.op (.pure (.pick (.tmp 117) (.tmp 123) (.const (.bool false))))) none,
        .act (some 125) (.op (.pure (.move (.tmp 124)))) none,
        .act (some 126) (.op (.pure (.move (.tmp 19)))) (some (125, false)),
        .act (some 127) (.op (.pure (.bin .neq (.tmp 126) (.const (w64 0#64))))) (some (125, false)),
        .act (some 128) (.op (.pure (.pick (.tmp 125) (.const (.bool true)) (.tmp 127)))) none])
      (.cond (.tmp 128)
       (.seq (.steps [
         .act (some 6) (.op (.pure (.move (.const (.bool false))))) none])
       .ret)
       .skip))
      (.seq (.steps [
        .act (some 11) (.op (.pure (.move (.const (.bool true))))) none])
      (.exit 1)))
      .skip))
     (.seq (.steps [
       .act (some 130) (.op (.read (.loadN 2 (.tmp 10)))) none,
       .act (some 131) (.op (.pure (.move (.tmp 16)))) none,
       .act (some 132) (.op (.pure (.move (.tmp 17)))) none,
       .act (some 133) (.call (.func 31) [(.tmp 130), (.tmp 131), (.tmp 132)]) none,
       .act (some 129) (.op (.pure (.move (.tmp 133)))) none,
       .act (some 134) (.op (.pure (.extract (.tmp 129) 0))) none,
       .act (some 135) (.op (.pure (.extract (.tmp 129) 1))) none,
       .act (some 136) (.op (.pure (.extract (.tmp 129) 2))) none,
       .act (some 21) (.op (.new (.alloc [(.int .i64 0), (.slice none 0 0)]))) none,
       .act none (.op (.eff (.store 2 (.tmp 21) (.tmp 134)))) none,
       .act (some 22) (.op (.pure (.move (.tmp 135)))) none,
       .act (some 23) (.op (.pure (.move (.tmp 136)))) none])
     (.seq (.seq (.steps [
       .act (some 137) (.op (.pure (.move (.tmp 18)))) none,
       .act (some 138) (.op (.pure (.move (.tmp 22)))) none,
       .act (some 139) (.op (.pure (.bin .neq (.tmp 137) (.tmp 138)))) none,
       .act (some 140) (.op (.pure (.move (.tmp 139)))) none,
       .act (some 141) (.op (.pure (.move (.tmp 19)))) (some (140, false)),
       .act (some 142) (.op (.pure (.move (.tmp 23)))) (some (140, false)),
       .act (some 143) (.op (.pure (.bin .neq (.tmp 141) (.tmp 142)))) (some (140, false)),
       .act (some 144) (.op (.pure (.pick (.tmp 140) (.const (.bool true)) (.tmp 143)))) none,
       .act (some 145) (.op (.pure (.move (.tmp 144)))) none,
       .act (some 146) (.op (.pure (.move (.tmp 16)))) (some (145, false)),
       .act (some 147) (.op (.pure (.bin .eql (.tmp 146) (.const (.int .i64 0))))) (some (145, false)),
       .act (some 148) (.op (.pure (.move (.tmp 147)))) (some (145, false)),
       .act (some 149) (.op (.pure (.move (.tmp 11)))) (some (148, true)),
       .act (some 150) (.op (.pure (.pick (.tmp 148) (.tmp 149) (.const (.bool false))))) (some (145, false)),
       .act (some 151) (.op (.pure (.pick (.tmp 145) (.const (.bool true)) (.tmp 150)))) none])
     (.cond (.tmp 151)
      (.seq (.steps [
        .act (some 6) (.op (.pure (.move (.const (.bool false))))) none])
      .ret)
      .skip))
     (.seq (.steps [
       .act (some 152) (.op (.read (.loadN 2 (.tmp 21)))) none,
       .act none (.op (.eff (.store 2 (.tmp 10) (.tmp 152)))) none])
     (.seq (.steps [
       .act (some 153) (.op (.read (.loadN 2 (.tmp 7)))) none,
       .act (some 154) (.op (.pure (.move (.tmp 8)))) none,
       .act (some 156) (.op (.pure (.fieldAddr 1 (.tmp 10)))) none,
       .act (some 157) (.op (.read (.load1 (.tmp 156)))) none,
       .act (some 158) (.op (.pure (.len false (.tmp 157)))) none,
       .act (some 155) (.call (.func 19) [(.tmp 153), (.tmp 154)]) none,
       .act (some 159) (.op (.pure (.bin .neq (.tmp 155) (.tmp 158)))) none,
       .act (some 160) (.op (.pure (.move (.tmp 159)))) none,
       .act (some 161) (.op (.read (.loadN 2 (.tmp 7)))) (some (160, false)),
       .act (some 162) (.op (.pure (.move (.tmp 8)))) (some (160, false)),
       .act (some 164) (.op (.pure (.move (.tmp 11)))) (some (160, false)),
       .again 157 (.load1 (.tmp 156)) none,
       .act (some 163) (.call (.func 20) [(.tmp 161), (.tmp 162)]) (some (160, false)),
       .act (some 165) (.op (.pure (.eqB true (.tmp 163) (.tmp 164)))) (some (160, false)),
       .act (some 166) (.op (.pure (.pick (.tmp 160) (.const (.bool true)) (.tmp 165)))) none])
     (.cond (.tmp 166)
      (.seq (.steps [
        .act (some 6) (.op (.pure (.move (.const (.bool false))))) none])
      .ret)
      .skip)))))))))
def CA : LCode :=
  (.seq (.steps [
    .act (some 6) (.op (.pure (.move (.const (.bool false))))) none])
  (.seq (.steps [
    .act (some 24) (.op (.pure (.move (.tmp 0)))) none,
    .act (some 25) (.call (.func 8) [(.tmp 24)]) none,
    .act (some 26) (.op (.pure (.build [(.int .i64 0), (.int .i64 0)] [(0, 1, (.const (.int .i64 0))), (1, 1, (.tmp 25))]))) none,
    .act (some 7) (.op (.new (.alloc [(.int .i64 0), (.int .i64 0)]))) none,
    .act none (.op (.eff (.store 2 (.tmp 7) (.tmp 26)))) none])
  (.seq (.steps [
    .act (some 28) (.op (.pure (.fieldAddr 1 (.tmp 7)))) none,
    .act (some 29) (.op (.read (.load1 (.tmp 28)))) none,
    .act (some 30) (.op (.pure (.bin .mul (.const (.int .i64 2)) (.tmp 29)))) none,
    .act (some 31) (.op (.pure (.bin .add (.const (.int .i64 4)) (.tmp 30)))) none,
    .act (some 32) (.call (.func 9) [(.tmp 31)]) none,
    .act (some 27) (.op (.pure (.move (.tmp 32)))) none,
    .act (some 33) (.op (.pure (.extract (.tmp 27) 0))) none,
    .act (some 34) (.op (.pure (.extract (.tmp 27) 1))) none,
    .act (some 8) (.op (.pure (.move (.tmp 33)))) none,
    .act (some 9) (.op (.pure (.move (.tmp 34)))) none])
  (.seq (.seq (.steps [
    .act (some 35) (.op (.pure (.move (.tmp 9)))) none,
    .act (some 36) (.op (.pure (.bin .neq (.tmp 35) (.const (.int .i64 0))))) none,
    .act (some 37) (.op (.pure (.move (.tmp 36)))) none,
    .act (some 38) (.op (.read (.loadN 2 (.tmp 7)))) (some (37, false)),
    .act (some 39) (.op (.pure (.move (.tmp 8)))) (some (37, false)),
    .act (some 40) (.call (.func 11) [(.tmp 38), (.tmp 39)]) (some (37, false)),
    .act (some 41) (.op (.pure (.bin .neq (.tmp 40) (.const (.int .i64 0))))) (some (37, false)),
    .act (some 42) (.op (.pure (.pick (.tmp 37) (.const (.bool true)) (.tmp 41)))) none])
  (.cond (.tmp 42)
   (.seq (.steps [
     .act (some 6) (.op (.pure (.move (.const (.bool false))))) none])
   .ret)
   .skip))
  (.seq (.steps [
    .act (some 43) (.op (.pure (.build [(.int .i64 0), (.slice none 0 0)] []))) none,
    .act (some 10) (.op (.new (.alloc [(.int .i64 0), (.slice none 0 0)]))) none,
    .act none (.op (.eff (.store 2 (.tmp 10) (.tmp 43)))) none])
  (.seq (.steps [
    .act (some 44) (.op (.pure (.move (.tmp 2)))) none,
    .act (some 45) (.op (.pure (.bin .and (.tmp 44) (.const (.int .i64 63))))) none,
    .act (some 2) (.op (.pure (.move (.tmp 45)))) none])
  (.seq (.steps [
    .act (some 11) (.op (.pure (.move (.const (.bool false))))) none])
  (.seq (.seq (.steps [
    .act (some 12) (.op (.pure (.move (.const (.int .i64 0))))) none])
  (.block 0 (.loop [1, 2, 7, 8, 10, 11, 12] (.seq (.seq (.steps [
      .act (some 46) (.op (.pure (.move (.tmp 12)))) none,
      .act (some 47) (.op (.pure (.move (.tmp 1)))) none,
      .act (some 48) (.op (.pure (.len false (.tmp 47)))) none,
      .act (some 49) (.op (.pure (.bin .lss (.tmp 46) (.tmp 48)))) none,
      .act (some 50) (.op (.pure (.move (.tmp 49)))) none,
      .act (some 51) (.op (.pure (.move (.tmp 12)))) (some (50, true)),
      .act (some 52) (.op (.pure (.bin .lss (.tmp 51) (.const (.int .i64 60))))) (some (50, true)),
      .act (some 53) (.op (.pure (.pick (.tmp 50) (.tmp 52) (.const (.bool false))))) none])
    (.cond (.tmp 53)
     .skip
     (.exit 0)))
    (.seq (.block 1 (.seq (.seq (.steps [
       .act (some 56) (.op (.pure (.move (.tmp 12)))) none,
       .act (some 57) (.op (.pure (.move (.tmp 2)))) none,
       .act (some 58) (.op (.pure (.bin .eql (.tmp 56) (.tmp 57)))) none])
     (.cond (.tmp 58)
      (.seq (.steps [
        .act (some 60) (.op (.pure (.move (.tmp 8)))) none,
        .act (some 61) (.op (.read (.loadN 2 (.tmp 7)))) none,
        .act (some 62) (.call (.func 24) [(.tmp 61)]) none,
        .act (some 63) (.call (.func 22) [(.tmp 60), (.tmp 62), (.const (.int .i64 3))]) none,
        .act (some 59) (.op (.pure (.move (.tmp 63)))) none,
        .act (some 64) (.op (.pure (.extract (.tmp 59) 0))) none,
        .act (some 65) (.op (.pure (.extract (.tmp 59) 1))) none,
        .act (some 66) (.op (.pure (.extract (.tmp 59) 2))) none,
        .act (some 13) (.op (.pure (.move (.tmp 64)))) none,
        .act (some 14) (.op (.pure (.move (.tmp 65)))) none,
        .act (some 15) (.op (.pure (.move (.tmp 66)))) none])
      (.seq (.seq (.steps [
        .act (some 67) (.op (.pure (.move (.tmp 13)))) none,
        .act (some 68) (.op (.pure (.bin .neq (.tmp 67) (.const (.int .i64 0))))) none,
        .act (some 69) (.op (.pure (.move (.tmp 68)))) none,
        .act (some 70) (.op (.pure (.move (.tmp 15)))) (some (69, false)),
        .act (some 71) (.op (.pure (.not (.tmp 70)))) (some (69, false)),
        .act (some 72) (.op (.pure (.pick (.tmp 69) (.const (.bool true)) (.tmp 71)))) none])
      (.cond (.tmp 72)
       (.seq (.steps [
         .act (some 6) (.op (.pure (.move (.const (.bool false))))) none])
       .ret)
       .skip))
      (.steps [
        .act (some 11) (.op (.pure (.move (.const (.bool true))))) none])))
      .skip))
     caB))
    (.steps [
      .act (some 54) (.op (.pure (.move (.tmp 12)))) none,
      .act (some 55) (.op (.pure (.bin .add (.tmp 54) (.const (.int .i64 1))))) none,
      .act (some 12) (.op (.pure (.move (.tmp 55)))) none]))))))
  (.seq (.steps [
    .act (some 167) (.op (.pure (.move (.tmp 8)))) none,
    .act (some 168) (.call (.func 26) [(.tmp 167)]) none,
    .act (some 169) (.op (.pure (.bin .eql (.tmp 168) (.const (.int .i64 (-1)))))) none,
    .act (some 170) (.op (.pure (.move (.tmp 169)))) none,
    .act (some 171) (.call (.func 21) []) (some (170, true)),
    .act (some 172) (.op (.pure (.pick (.tmp 170) (.tmp 171) (.const (.bool false))))) none,
    .act (some 6) (.op (.pure (.move (.tmp 172)))) none])
  .ret)))))))))

abbrev frw (a : Option Addr) (l : List (BitVec 64)) : LObj := .row false 0 [i64 0, .slice a l.length l.length]
/-- What an operation alone comes to. -/
theorem alone_op {s h T : Nat} {l w : List (BitVec 64)} {cl : Bool} (g : CSeq s h T l cl w) (hT : T ≤ 100) {d : Int} (hd : d = 0 ∨ d = 1) {v : BitVec 64} (hv : v + 1#64 ≠ 0#64) :
    ∃ k0 y w' h' T' l' cl', k0 ≤ 900 ∧ wruns k0 (c0 ⟨0, s⟩ d (if d = 0 then v else 0#64), w) = (y, w') ∧ y.at_ = 9 ∧ CSeq s h' T' l' cl' w' ∧ T' ≤ T + 1 ∧
      ((d = 0 ∧ y.code = 16 ∧ y.ret = 0#64 ∧ l' = l ∧ cl' = true ∧ (cl = false → ¬ l.length < s)) ∨ (y.code = (doF 0 l d v).2.1 ∧ y.ret = (doF 0 l d v).2.2 ∧ l' = (doF 0 l d v).1 ∧ cl' = cl ∧ (d = 0 → cl = false ∧ y.code ≠ 16))) := by
  have gT := g.hT
  rcases hd with rfl | rfl
  · cases cl
    · by_cases hl : l.length < s
      · obtain ⟨y, w', e1, e2, e3, e4, g'⟩ := put_ok g hl (by omega) hv
        exact ⟨4, y, w', _, _, _, _, by omega, e1, e2, g', by omega, .inr ⟨by rw [e3]; rfl, by rw [e4]; rfl, rfl, rfl, fun _ => ⟨rfl, by rw [e3]; decide⟩⟩⟩
      · obtain ⟨y, w', e1, e2, e3, e4, g'⟩ := put_full (v := v) g (by have := g.le; omega) (by omega)
        exact ⟨5, y, w', _, _, _, _, by omega, e1, e2, g', by omega, .inl ⟨rfl, e3, e4, rfl, rfl, fun _ => hl⟩⟩
    · obtain ⟨y, w', e1, e2, e3, e4, g'⟩ := put_shut (v := v) g (by omega)
      exact ⟨1, y, w', _, _, _, _, by omega, e1, e2, g', by omega, .inl ⟨rfl, e3, e4, rfl, rfl, fun q => by cases q⟩⟩
  · cases l with
    | nil =>
      simp only [List.length_nil, Nat.add_zero] at gT
      obtain ⟨k, y, w', h', k1, k2, k3, k4, k5, k6, k7, g'⟩ := take_none (s := s) (T - h) (v := 0#64) (p := 0#64) (d := 0#64) (st := 0#64) (tl := 0#64) (hd := 0#64) (rt := 0#64) (tr := 0) (c := 0) g (Nat.le_refl _) (by omega) (by omega)
      exact ⟨k, y, w', _, _, _, _, by omega, k2, k3, g', by omega, .inr ⟨k4, k5, rfl, rfl, fun q => by cases q⟩⟩
    | cons a l =>
      obtain ⟨y, w', e1, e2, e3, e4, g'⟩ := take_ok (v := 0#64) g
      exact ⟨4, y, w', _, _, _, _, by omega, e1, e2, g', by omega, .inr ⟨e3, e4, rfl, rfl, fun q => by cases q⟩⟩
structure AS where
  h : Nat
  T : Nat
  l : List (BitVec 64)
  cl : Bool
  m : MV
  w : List (BitVec 64)
  af : Option Addr
  t : LHeap
structure AI (H : LHeap) (s i : Nat) (q : AS) : Prop where
  seq : CSeq s q.h q.T q.l q.cl q.w
  cl : Clean q.m q.w
  hT : q.T ≤ i
  sl : Sl 1 (AG H s q.m (frw q.af q.l :: q.t)) q.af (q.l.map w64)
  fr : Fresh (H.length + 5) q.af
section
variable {H : LHeap} {s i : Nat} {e : Env} {Q : LExit → Env → LHeap → Prop} {a : Option Addr} {l : List Ask} {shut : Int} {q : AS}
theorem AG_sl {m m' : MV} {t u : LHeap} {x y : LObj} {b : Option Addr} {c : List Value} (h : Sl 1 (AG H s m (x :: t)) b c) (f : Fresh (H.length + 5) b) : Sl 1 (AG H s m' (y :: (t ++ u))) b c := by
  rcases h with ⟨rfl, rfl⟩ | ⟨k, o, ro, es, cc, rfl, h2, h3, h4⟩
  · exact Sl.nil _ _
  · have g := f _ rfl
    simp only at g
    obtain ⟨j, rfl⟩ : ∃ j, k = H.length + 4 + (j + 1) := ⟨k - (H.length + 5), by omega⟩
    rw [AG_at, List.getElem?_cons_succ] at h2
    exact .inr ⟨_, o, ro, es, cc, rfl, by rw [AG_at, List.getElem?_cons_succ]; exact get_old h2 u, h3, h4⟩
set_option maxHeartbeats 2000000 in
theorem caB_ev (hs : s = 1 ∨ s = 2 ∨ s = 4 ∨ s = 8) (g : AI H s i q) (hi : i < 60) (hil : i < l.length) (hl : Sl 3 H a (l.flatMap Ask.cells))
    (e1 : LK.look e 1 = .slice a l.length l.length) (e7 : LK.look e 7 = ptr H.length) (e8 : LK.look e 8 = ptr (H.length + 3)) (e10 : LK.look e 10 = ptr (H.length + 4)) (e11 : LK.look e 11 = .bool q.cl) (e12 : LK.look e 12 = i64 i)
    (hQ : ∀ x e' (q' : AS), (x = .normal ∨ x = .exit 1) → (∀ k, k = 1 ∨ k = 2 ∨ k = 7 ∨ k = 8 ∨ k = 10 ∨ k = 12 → LK.look e' k = LK.look e k) → LK.look e' 11 = .bool q'.cl → AI H s (i + 1) q' → Q x e' (AG H s q'.m (frw q'.af q'.l :: q'.t))) :
    XW (callE T) H.length caB e (AG H s q.m (frw q.af q.l :: q.t)) Q := by
  unfold caB
  obtain ⟨h, T', lf, cl, m, w, af, t⟩ := q
  obtain ⟨seq, c, hT, sl, fr⟩ := g
  simp only at seq c hT sl fr e11
  dsimp only
  have hr := rightz hs
  have hrr2 : ∀ m t, lcells (AG H s m t) H.length 0 2 = some [i64 0, i64 s] := fun m t => AG_rr2
  have hrr1 : ∀ m t, lget (AG H s m t) H.length 1 = some (i64 s) := fun m t => AG_rr1
  have c1' : (i : Int) < l.length := by omega
  have i0 : 0 ≤ (i : Int) := by omega
  obtain ⟨ba, oa, rfl, _, _, hgl⟩ := hl.rowsAt (f := Ask.cells) Ask.len (by omega) (by omega)
  have gl1 := fun m t => hgl (rro ⟨0, s⟩ :: wrow m :: brow m :: mrow (H.length + 1) (H.length + 2) m :: t) i _ 1 (List.getElem?_eq_getElem hil) (by omega)
  have gl2 := fun m t => hgl (rro ⟨0, s⟩ :: wrow m :: brow m :: mrow (H.length + 1) (H.length + 2) m :: t) i _ 2 (List.getElem?_eq_getElem hil) (by omega)
  generalize l[i] = ask at gl1 gl2
  simp only [Ask.cells, List.getElem?_cons_zero, List.getElem?_cons_succ] at gl1 gl2
  obtain ⟨d, hd, d0, d1⟩ := andK ask.kind 1 (by decide)
  have d1 : d ≤ 1 := d1
  have hd01 : d = 0 ∨ d = 1 := by omega
  have hm16 := mask_lt ask.arg 65535#64
  have hm16' : (65535#64).toNat = 65535 := rfl
  obtain ⟨v1, v2⟩ := small_of (x := ask.arg &&& 65535#64) (by omega)
  generalize hv : ask.arg &&& 65535#64 = v at v1 v2
  obtain ⟨k0, y, w', h', T2, l', cl', k1, k2, k3, g', k4, k5⟩ := alone_op seq (by omega) hd01 v2
  have wd : IntKind.i64.wrap (1 - d) = 1 - d := by rw [wrap_i64] <;> omega
  have hvm : v * BitVec.ofInt 64 (1 - d) = if d = 0 then v else 0#64 := by
    rcases hd01 with rfl | rfl
    · simp
    · simp
  have g8 := seq.s8
  simp -dsimp only [go_sem, Nat.reduceEqDiff, Nat.reduceAdd, Nat.reduceSub, Nat.reduceMul, Nat.reduceLeDiff, Nat.reduceLT, Nat.reduceBEq, Int.reduceLT, Int.reduceLE, Int.reduceGT, Int.reduceGE, Int.reduceEq, Int.reduceNe, Int.reduceBEq, Int.reduceBNe, Int.reduceAdd, Int.reduceSub, Int.reduceMul, Int.reduceToNat, Int.reduceNeg, ↓reduceIte, ↓reduceDIte, e1, e7, e8, e10, e11, e12, gl1, gl2, c1', i0, hd, hv, hrr2, wd, hvm]
  refine CT_of (beg_ev (r := ⟨0, s⟩) (by rw [AG_len]; omega) hr (by omega) (fun q => by rw [if_pos q]; exact v1) (fun q => by rw [if_neg q])) ?_
  rintro _ _ ⟨u, u2, u3, rfl, rfl⟩
  rw [AG_app, show (AG H s m (frw af lf :: t)).length + 3 = H.length + 4 + (frw af lf :: (t ++ [u])).length + 2 by rw [AG_len]; simp; omega, show frw af lf :: t ++ [u, u2, u3, crw (c0 ⟨0, s⟩ d (if d = 0 then v else 0#64))] = (frw af lf :: (t ++ [u])) ++ [u2, u3, crw (c0 ⟨0, s⟩ d (if d = 0 then v else 0#64))] by simp]
  obtain ⟨t', ht'⟩ : ∃ t', t' = frw af lf :: (t ++ [u]) := ⟨_, rfl⟩
  rw [← ht']
  simp -dsimp only [go_sem, Nat.reduceEqDiff, Nat.reduceAdd, Nat.reduceSub, Nat.reduceMul, Nat.reduceLeDiff, Nat.reduceLT, Nat.reduceBEq, Int.reduceLT, Int.reduceLE, Int.reduceGT, Int.reduceGE, Int.reduceEq, Int.reduceNe, Int.reduceBEq, Int.reduceBNe, Int.reduceAdd, Int.reduceSub, Int.reduceMul, Int.reduceToNat, Int.reduceNeg, ↓reduceIte, ↓reduceDIte, e8]
  refine CT_of (orun_ev (most := 900) c rfl hr seq.len rfl k2 k3 k1 (by omega)) ?_
  rintro _ _ ⟨m', rfl, c', rfl⟩
  obtain ⟨t1, ht1⟩ : ∃ t1, t1 = t ++ [u, u2, u3, crw y] := ⟨_, rfl⟩
  rw [show t' ++ [u2, u3, crw y] = frw af lf :: t1 by rw [ht', ht1]; simp]
  have ok' := c'.ok
  have mem := fun t => AG_mem (H := H) (s := s) ok' t
  have hlen := g'.len
  have hkp := g'.kp
  have hle' := g'.le
  have ngt : ¬ (l'.length : Int) > s := by omega
  have sl1 : Sl 1 (AG H s m' (frw af lf :: t1)) af (lf.map w64) := by rw [ht1]; exact AG_sl sl fr
  have f1 : ∀ m t af l, lget (AG H s m (frw af l :: t)) (H.length + 4) 1 = some (.slice af l.length l.length) := fun m t af l => by
    have := AG_at (H := H) (s := s) (m := m) (frw af l :: t) 0
    rw [Nat.add_zero] at this
    rw [lget_at this]; rfl
  have f2 : ∀ m t af l, lcells (AG H s m (frw af l :: t)) (H.length + 4) 0 2 = some [i64 0, .slice af l.length l.length] := fun m t af l => by
    have := AG_at (H := H) (s := s) (m := m) (frw af l :: t) 0
    rw [Nat.add_zero] at this
    exact lcells_of this rfl
  simp -dsimp only [go_sem, Nat.reduceEqDiff, Nat.reduceAdd, Nat.reduceSub, Nat.reduceMul, Nat.reduceLeDiff, Nat.reduceLT, Nat.reduceBEq, Int.reduceLT, Int.reduceLE, Int.reduceGT, Int.reduceGE, Int.reduceEq, Int.reduceNe, Int.reduceBEq, Int.reduceBNe, Int.reduceAdd, Int.reduceSub, Int.reduceMul, Int.reduceToNat, Int.reduceNeg, ↓reduceIte, ↓reduceDIte, e1, e7, e8, e10, e11, e12, hrr2]
  refine CT_val (kept_ev (r := ⟨0, s⟩) (a := 0) (s := s) (mem _) c' hr rfl rfl (by omega)) ?_
  rw [hkp]
  rcases k5 with ⟨rfl, q1, q2, rfl, rfl, q3⟩ | ⟨q1, q2, rfl, rfl, q3⟩
  · cases cl
    · have nlt : ¬ (l'.length : Int) < s := by have := q3 rfl; omega
      simp -dsimp only [go_sem, Nat.reduceEqDiff, Nat.reduceAdd, Nat.reduceSub, Nat.reduceMul, Nat.reduceLeDiff, Nat.reduceLT, Nat.reduceBEq, Int.reduceLT, Int.reduceLE, Int.reduceGT, Int.reduceGE, Int.reduceEq, Int.reduceNe, Int.reduceBEq, Int.reduceBNe, Int.reduceAdd, Int.reduceSub, Int.reduceMul, Int.reduceToNat, Int.reduceNeg, ↓reduceIte, ↓reduceDIte, e1, e7, e8, e10, e11, e12, hrr1, ngt, q1, q2, f1, nlt]
      refine hQ (.exit 1) _ ⟨h', T2, l', true, m', w', af, t1⟩ (.inr rfl) ?_ ?_ ⟨g', c', by simp only; omega, sl1, fr⟩
      · rintro k (rfl | rfl | rfl | rfl | rfl | rfl) <;> simp -dsimp only [go_sem, Nat.reduceEqDiff, Nat.reduceAdd, Nat.reduceSub, Nat.reduceMul, Nat.reduceLeDiff, Nat.reduceLT, Nat.reduceBEq, Int.reduceLT, Int.reduceLE, Int.reduceGT, Int.reduceGE, Int.reduceEq, Int.reduceNe, Int.reduceBEq, Int.reduceBNe, Int.reduceAdd, Int.reduceSub, Int.reduceMul, Int.reduceToNat, Int.reduceNeg, ↓reduceIte, ↓reduceDIte]
      · simp -dsimp only [go_sem, Nat.reduceEqDiff, Nat.reduceAdd, Nat.reduceSub, Nat.reduceMul, Nat.reduceLeDiff, Nat.reduceLT, Nat.reduceBEq, Int.reduceLT, Int.reduceLE, Int.reduceGT, Int.reduceGE, Int.reduceEq, Int.reduceNe, Int.reduceBEq, Int.reduceBNe, Int.reduceAdd, Int.reduceSub, Int.reduceMul, Int.reduceToNat, Int.reduceNeg, ↓reduceIte, ↓reduceDIte]
    · simp -dsimp only [go_sem, Nat.reduceEqDiff, Nat.reduceAdd, Nat.reduceSub, Nat.reduceMul, Nat.reduceLeDiff, Nat.reduceLT, Nat.reduceBEq, Int.reduceLT, Int.reduceLE, Int.reduceGT, Int.reduceGE, Int.reduceEq, Int.reduceNe, Int.reduceBEq, Int.reduceBNe, Int.reduceAdd, Int.reduceSub, Int.reduceMul, Int.reduceToNat, Int.reduceNeg, ↓reduceIte, ↓reduceDIte, e1, e7, e8, e10, e11, e12, hrr1, ngt, q1, q2, f1]
      refine hQ (.exit 1) _ ⟨h', T2, l', true, m', w', af, t1⟩ (.inr rfl) ?_ ?_ ⟨g', c', by simp only; omega, sl1, fr⟩
      · rintro k (rfl | rfl | rfl | rfl | rfl | rfl) <;> simp -dsimp only [go_sem, Nat.reduceEqDiff, Nat.reduceAdd, Nat.reduceSub, Nat.reduceMul, Nat.reduceLeDiff, Nat.reduceLT, Nat.reduceBEq, Int.reduceLT, Int.reduceLE, Int.reduceGT, Int.reduceGE, Int.reduceEq, Int.reduceNe, Int.reduceBEq, Int.reduceBNe, Int.reduceAdd, Int.reduceSub, Int.reduceMul, Int.reduceToNat, Int.reduceNeg, ↓reduceIte, ↓reduceDIte]
      · simp -dsimp only [go_sem, Nat.reduceEqDiff, Nat.reduceAdd, Nat.reduceSub, Nat.reduceMul, Nat.reduceLeDiff, Nat.reduceLT, Nat.reduceBEq, Int.reduceLT, Int.reduceLE, Int.reduceGT, Int.reduceGE, Int.reduceEq, Int.reduceNe, Int.reduceBEq, Int.reduceBNe, Int.reduceAdd, Int.reduceSub, Int.reduceMul, Int.reduceToNat, Int.reduceNeg, ↓reduceIte, ↓reduceDIte]
  · have lfl := seq.le
    have gT := seq.hT
    have gfew := g'.few
    have mk : ∀ x : BitVec 64, (x != x) = false := fun x => by simp
    have mi : ∀ x : Int, (x != x) = false := fun x => by simp
    have bb : ∀ a : Bool, (a == a) = true := fun a => by cases a <;> rfl
    rcases hd01 with rfl | rfl
    · obtain ⟨rfl, q4⟩ := q3 rfl
      have q4 : (y.code == 16) = false := by simp [q4]
      simp -dsimp only [go_sem, Nat.reduceEqDiff, Nat.reduceAdd, Nat.reduceSub, Nat.reduceMul, Nat.reduceLeDiff, Nat.reduceLT, Nat.reduceBEq, Int.reduceLT, Int.reduceLE, Int.reduceGT, Int.reduceGE, Int.reduceEq, Int.reduceNe, Int.reduceBEq, Int.reduceBNe, Int.reduceAdd, Int.reduceSub, Int.reduceMul, Int.reduceToNat, Int.reduceNeg, ↓reduceIte, ↓reduceDIte, e1, e7, e8, e10, e11, e12, hrr1, ngt, f1, f2, q4]
      refine CT_of (doF_ev (a := af) (l := lf) (cap := 0) (by rw [AG_len]; omega) sl1 (by omega)) ?_
      rintro _ _ ⟨af', t2, rfl, rfl, sl2, hf2⟩
      rw [AG_app] at sl2 ⊢
      have fr2 : Fresh (H.length + 5) af' := by
        rcases hf2 with ⟨rfl, _⟩ | hf2
        · exact fr
        · exact hf2.mono (by rw [AG_len]; simp; omega)
      rw [← q1, ← q2]
      generalize (doF 0 lf 0 v).1 = l' at *
      have ef : ∀ m t x y, (AG H s m (x :: t)).set (H.length + 4) y = AG H s m (y :: t) := fun m t x y => by simp [AG]
      have ef0 : ∀ m t x, (AG H s m (x :: t))[H.length + 4]? = some x := fun m t x => by
        have := AG_at (H := H) (s := s) (m := m) (x :: t) 0
        rwa [Nat.add_zero] at this
      obtain ⟨t3, ht3⟩ : ∃ t3, t3 = t1 ++ t2 := ⟨_, rfl⟩
      rw [show frw af lf :: t1 ++ t2 = frw af lf :: t3 by rw [ht3]; rfl] at sl2 ⊢
      simp -dsimp only [go_sem, Nat.reduceEqDiff, Nat.reduceAdd, Nat.reduceSub, Nat.reduceMul, Nat.reduceLeDiff, Nat.reduceLT, Nat.reduceBEq, Int.reduceLT, Int.reduceLE, Int.reduceGT, Int.reduceGE, Int.reduceEq, Int.reduceNe, Int.reduceBEq, Int.reduceBNe, Int.reduceAdd, Int.reduceSub, Int.reduceMul, Int.reduceToNat, Int.reduceNeg, ↓reduceIte, ↓reduceDIte, mk, mi, q4, e1, e7, e8, e10, e11, e12, hrr1]
      refine CT_val (kept_ev (r := ⟨0, s⟩) (a := 0) (s := s) (mem (frw af' l' :: (t3 ++ [frw af' l']))) c' hr rfl rfl (by omega)) ?_
      rw [hkp]
      have hrr2x := hrr2 m' (frw af' l' :: (t3 ++ [frw af' l']))
      simp -dsimp only [go_sem, Nat.reduceEqDiff, Nat.reduceAdd, Nat.reduceSub, Nat.reduceMul, Nat.reduceLeDiff, Nat.reduceLT, Nat.reduceBEq, Int.reduceLT, Int.reduceLE, Int.reduceGT, Int.reduceGE, Int.reduceEq, Int.reduceNe, Int.reduceBEq, Int.reduceBNe, Int.reduceAdd, Int.reduceSub, Int.reduceMul, Int.reduceToNat, Int.reduceNeg, ↓reduceIte, ↓reduceDIte, mi, hrr2x, e7, e8, e10, e11]
      refine CT_val (closed_ev (r := ⟨0, s⟩) (a := 0) (mem (frw af' l' :: (t3 ++ [frw af' l']))) c' hr rfl (by omega)) ?_
      rw [show 0 + 1 = 1 from rfl, g'.w1, tw_clo (by omega)]
      simp -dsimp only [go_sem, Nat.reduceEqDiff, Nat.reduceAdd, Nat.reduceSub, Nat.reduceMul, Nat.reduceLeDiff, Nat.reduceLT, Nat.reduceBEq, Int.reduceLT, Int.reduceLE, Int.reduceGT, Int.reduceGE, Int.reduceEq, Int.reduceNe, Int.reduceBEq, Int.reduceBNe, Int.reduceAdd, Int.reduceSub, Int.reduceMul, Int.reduceToNat, Int.reduceNeg, ↓reduceIte, ↓reduceDIte, bb, e7, e8, e10, e11, f1]
      refine hQ .normal _ ⟨h', T2, l', _, m', w', af', t3 ++ [frw af' l']⟩ (.inl rfl) ?_ ?_ ⟨g', c', by simp only; omega, AG_sl sl2 fr2, fr2⟩
      · rintro k (rfl | rfl | rfl | rfl | rfl | rfl) <;> simp -dsimp only [go_sem, Nat.reduceEqDiff, Nat.reduceAdd, Nat.reduceSub, Nat.reduceMul, Nat.reduceLeDiff, Nat.reduceLT, Nat.reduceBEq, Int.reduceLT, Int.reduceLE, Int.reduceGT, Int.reduceGE, Int.reduceEq, Int.reduceNe, Int.reduceBEq, Int.reduceBNe, Int.reduceAdd, Int.reduceSub, Int.reduceMul, Int.reduceToNat, Int.reduceNeg, ↓reduceIte, ↓reduceDIte]
      · simp -dsimp only [go_sem, Nat.reduceEqDiff, Nat.reduceAdd, Nat.reduceSub, Nat.reduceMul, Nat.reduceLeDiff, Nat.reduceLT, Nat.reduceBEq, Int.reduceLT, Int.reduceLE, Int.reduceGT, Int.reduceGE, Int.reduceEq, Int.reduceNe, Int.reduceBEq, Int.reduceBNe, Int.reduceAdd, Int.reduceSub, Int.reduceMul, Int.reduceToNat, Int.reduceNeg, ↓reduceIte, ↓reduceDIte, e11]
    · have q4 : True := trivial
      simp -dsimp only [go_sem, Nat.reduceEqDiff, Nat.reduceAdd, Nat.reduceSub, Nat.reduceMul, Nat.reduceLeDiff, Nat.reduceLT, Nat.reduceBEq, Int.reduceLT, Int.reduceLE, Int.reduceGT, Int.reduceGE, Int.reduceEq, Int.reduceNe, Int.reduceBEq, Int.reduceBNe, Int.reduceAdd, Int.reduceSub, Int.reduceMul, Int.reduceToNat, Int.reduceNeg, ↓reduceIte, ↓reduceDIte, e1, e7, e8, e10, e11, e12, hrr1, ngt, f1, f2]
      refine CT_of (doF_ev (a := af) (l := lf) (cap := 0) (by rw [AG_len]; omega) sl1 (by omega)) ?_
      rintro _ _ ⟨af', t2, rfl, rfl, sl2, hf2⟩
      rw [AG_app] at sl2 ⊢
      have fr2 : Fresh (H.length + 5) af' := by
        rcases hf2 with ⟨rfl, _⟩ | hf2
        · exact fr
        · exact hf2.mono (by rw [AG_len]; simp; omega)
      rw [← q1, ← q2]
      generalize (doF 0 lf 1 v).1 = l' at *
      have ef : ∀ m t x y, (AG H s m (x :: t)).set (H.length + 4) y = AG H s m (y :: t) := fun m t x y => by simp [AG]
      have ef0 : ∀ m t x, (AG H s m (x :: t))[H.length + 4]? = some x := fun m t x => by
        have := AG_at (H := H) (s := s) (m := m) (x :: t) 0
        rwa [Nat.add_zero] at this
      obtain ⟨t3, ht3⟩ : ∃ t3, t3 = t1 ++ t2 := ⟨_, rfl⟩
      rw [show frw af lf :: t1 ++ t2 = frw af lf :: t3 by rw [ht3]; rfl] at sl2 ⊢
      simp -dsimp only [go_sem, Nat.reduceEqDiff, Nat.reduceAdd, Nat.reduceSub, Nat.reduceMul, Nat.reduceLeDiff, Nat.reduceLT, Nat.reduceBEq, Int.reduceLT, Int.reduceLE, Int.reduceGT, Int.reduceGE, Int.reduceEq, Int.reduceNe, Int.reduceBEq, Int.reduceBNe, Int.reduceAdd, Int.reduceSub, Int.reduceMul, Int.reduceToNat, Int.reduceNeg, ↓reduceIte, ↓reduceDIte, mk, mi, q4, e1, e7, e8, e10, e11, e12, hrr1]
      refine CT_val (kept_ev (r := ⟨0, s⟩) (a := 0) (s := s) (mem (frw af' l' :: (t3 ++ [frw af' l']))) c' hr rfl rfl (by omega)) ?_
      rw [hkp]
      have hrr2x := hrr2 m' (frw af' l' :: (t3 ++ [frw af' l']))
      simp -dsimp only [go_sem, Nat.reduceEqDiff, Nat.reduceAdd, Nat.reduceSub, Nat.reduceMul, Nat.reduceLeDiff, Nat.reduceLT, Nat.reduceBEq, Int.reduceLT, Int.reduceLE, Int.reduceGT, Int.reduceGE, Int.reduceEq, Int.reduceNe, Int.reduceBEq, Int.reduceBNe, Int.reduceAdd, Int.reduceSub, Int.reduceMul, Int.reduceToNat, Int.reduceNeg, ↓reduceIte, ↓reduceDIte, mi, hrr2x, e7, e8, e10, e11]
      refine CT_val (closed_ev (r := ⟨0, s⟩) (a := 0) (mem (frw af' l' :: (t3 ++ [frw af' l']))) c' hr rfl (by omega)) ?_
      rw [show 0 + 1 = 1 from rfl, g'.w1, tw_clo (by omega)]
      simp -dsimp only [go_sem, Nat.reduceEqDiff, Nat.reduceAdd, Nat.reduceSub, Nat.reduceMul, Nat.reduceLeDiff, Nat.reduceLT, Nat.reduceBEq, Int.reduceLT, Int.reduceLE, Int.reduceGT, Int.reduceGE, Int.reduceEq, Int.reduceNe, Int.reduceBEq, Int.reduceBNe, Int.reduceAdd, Int.reduceSub, Int.reduceMul, Int.reduceToNat, Int.reduceNeg, ↓reduceIte, ↓reduceDIte, bb, e7, e8, e10, e11, f1]
      refine hQ .normal _ ⟨h', T2, l', _, m', w', af', t3 ++ [frw af' l']⟩ (.inl rfl) ?_ ?_ ⟨g', c', by simp only; omega, AG_sl sl2 fr2, fr2⟩
      · rintro k (rfl | rfl | rfl | rfl | rfl | rfl) <;> simp -dsimp only [go_sem, Nat.reduceEqDiff, Nat.reduceAdd, Nat.reduceSub, Nat.reduceMul, Nat.reduceLeDiff, Nat.reduceLT, Nat.reduceBEq, Int.reduceLT, Int.reduceLE, Int.reduceGT, Int.reduceGE, Int.reduceEq, Int.reduceNe, Int.reduceBEq, Int.reduceBNe, Int.reduceAdd, Int.reduceSub, Int.reduceMul, Int.reduceToNat, Int.reduceNeg, ↓reduceIte, ↓reduceDIte]
      · simp -dsimp only [go_sem, Nat.reduceEqDiff, Nat.reduceAdd, Nat.reduceSub, Nat.reduceMul, Nat.reduceLeDiff, Nat.reduceLT, Nat.reduceBEq, Int.reduceLT, Int.reduceLE, Int.reduceGT, Int.reduceGE, Int.reduceEq, Int.reduceNe, Int.reduceBEq, Int.reduceBNe, Int.reduceAdd, Int.reduceSub, Int.reduceMul, Int.reduceToNat, Int.reduceNeg, ↓reduceIte, ↓reduceDIte, e11]
end
end Go.Proofs.Ytopjhhcncjleaaa
