/- The statement VyWhole: the walk. -/
import Derived.Test.YtgipbamdefjenaaP2
namespace Go.Proofs.Ytgipbamdefjenaa
open Go Go.LK
set_option linter.unusedSimpArgs false
set_option linter.unusedVariables false
set_option maxRecDepth 100000 in
def vwT : LCode :=
  (.seq (.seq (.steps [
    .act (some 117) (.op (.pure (.move (.tmp 11)))) none,
    .act (some 118) (.op (.read (.lenMap (.tmp 117)))) none,
    .act (some 119) (.op (.pure (.fieldAddr 1 (.tmp 5)))) none,
    .act (some 120) (.op (.read (.load1 (.tmp 119)))) none,
    .act (some 121) (.op (.pure (.bin .neq (.tmp 118) (.tmp 120)))) none])
  (.cond (.tmp 121)
   (.seq (.steps [
     .act (some 4) (.op (.pure (.move (.const (.bool false))))) none])
   .ret)
   .skip))
  (.seq (.seq (.steps [
    .act (some 16) (.op (.pure (.move (.const (.int .i64 0))))) none])
  (.block 8 (.loop [5, 6, 11, 16] (.seq (.seq (.steps [
      .act (some 122) (.op (.pure (.move (.tmp 16)))) none,
      .act (some 123) (.op (.pure (.fieldAddr 1 (.tmp 5)))) none,
      .act (some 124) (.op (.read (.load1 (.tmp 123)))) none,
      .act (some 125) (.op (.pure (.bin .lss (.tmp 122) (.tmp 124)))) none])
    (.cond (.tmp 125)
     .skip
     (.exit 8)))
    (.seq (.block 9 (.seq (.steps [
       .act (some 128) (.op (.read (.loadN 2 (.tmp 5)))) none,
       .act (some 129) (.call (.func 16) [(.tmp 128)]) none,
       .act (some 17) (.op (.pure (.move (.tmp 129)))) none])
     (.seq (.seq (.steps [
       .act (some 18) (.op (.pure (.move (.const (.int .i64 0))))) none])
     (.block 10 (.loop [5, 6, 11, 16, 17, 18] (.seq (.seq (.steps [
         .act (some 130) (.op (.pure (.move (.tmp 18)))) none,
         .act (some 131) (.op (.pure (.bin .lss (.tmp 130) (.const (.int .i64 5))))) none])
       (.cond (.tmp 131)
        .skip
        (.exit 10)))
       (.seq (.block 11 (.steps [
          .act (some 134) (.op (.pure (.move (.tmp 17)))) none,
          .act (some 135) (.op (.pure (.move (.tmp 6)))) none,
          .act (some 136) (.call (.func 13) [(.tmp 134), (.tmp 135)]) none]))
       (.steps [
         .act (some 132) (.op (.pure (.move (.tmp 18)))) none,
         .act (some 133) (.op (.pure (.bin .add (.tmp 132) (.const (.int .i64 1))))) none,
         .act (some 18) (.op (.pure (.move (.tmp 133)))) none]))))))
     (.seq (.steps [
       .act (some 138) (.op (.pure (.move (.tmp 17)))) none,
       .act (some 139) (.call (.func 15) [(.tmp 138)]) none,
       .act (some 137) (.op (.pure (.move (.tmp 139)))) none,
       .act (some 140) (.op (.pure (.extract (.tmp 137) 0))) none,
       .act (some 141) (.op (.pure (.extract (.tmp 137) 1))) none,
       .act (some 19) (.op (.pure (.move (.tmp 140)))) none,
       .act (some 20) (.op (.pure (.move (.tmp 141)))) none])
     (.seq (.seq (.steps [
       .act (some 142) (.op (.pure (.move (.tmp 19)))) none,
       .act (some 143) (.op (.pure (.bin .neq (.tmp 142) (.const (.int .i64 0))))) none,
       .act (some 144) (.op (.pure (.move (.tmp 143)))) none,
       .act (some 145) (.op (.pure (.move (.tmp 11)))) (some (144, false)),
       .act (some 146) (.op (.pure (.move (.tmp 20)))) (some (144, false)),
       .act (some 147) (.op (.read (.lookup false (.bool false) false (.tmp 145) (.tmp 146)))) (some (144, false)),
       .act (some 148) (.op (.pure (.not (.tmp 147)))) (some (144, false)),
       .act (some 149) (.op (.pure (.pick (.tmp 144) (.const (.bool true)) (.tmp 148)))) none])
     (.cond (.tmp 149)
      (.seq (.steps [
        .act (some 4) (.op (.pure (.move (.const (.bool false))))) none])
      .ret)
      .skip))
     (.steps [
       .act (some 150) (.op (.pure (.move (.tmp 11)))) none,
       .act (some 151) (.op (.pure (.move (.tmp 20)))) none,
       .act none (.op (.eff (.delete false (.tmp 150) (.tmp 151)))) none]))))))
    (.steps [
      .act (some 126) (.op (.pure (.move (.tmp 16)))) none,
      .act (some 127) (.op (.pure (.bin .add (.tmp 126) (.const (.int .i64 1))))) none,
      .act (some 16) (.op (.pure (.move (.tmp 127)))) none]))))))
  (.seq (.steps [
    .act (some 152) (.op (.pure (.move (.tmp 6)))) none,
    .act (some 153) (.call (.func 17) [(.tmp 152)]) none,
    .act (some 154) (.op (.pure (.bin .eql (.tmp 153) (.const (.int .i64 (-1)))))) none,
    .act (some 155) (.op (.pure (.move (.tmp 154)))) none,
    .act (some 156) (.call (.func 18) []) (some (155, true)),
    .act (some 157) (.op (.pure (.pick (.tmp 155) (.tmp 156) (.const (.bool false))))) none,
    .act (some 4) (.op (.pure (.move (.tmp 157)))) none])
  .ret)))
def vwM : LCode :=
  (.seq (.steps [
    .act (some 70) (.op (.new (.makeMap))) none,
    .act (some 11) (.op (.pure (.move (.tmp 70)))) none])
  (.seq (.seq (.steps [
    .act (some 12) (.op (.pure (.move (.const (.int .i64 0))))) none])
  (.block 4 (.loop [5, 6, 8, 11, 12] (.seq (.seq (.steps [
      .act (some 71) (.op (.pure (.move (.tmp 12)))) none,
      .act (some 72) (.op (.pure (.bin .lss (.tmp 71) (.const (.int .i64 4))))) none])
    (.cond (.tmp 72)
     .skip
     (.exit 4)))
    (.seq (.block 5 (.seq (.seq (.steps [
       .act (some 13) (.op (.pure (.move (.const (.int .i64 0))))) none])
     (.block 6 (.loop [5, 6, 8, 11, 12, 13] (.seq (.seq (.steps [
         .act (some 75) (.op (.pure (.move (.tmp 13)))) none,
         .act (some 76) (.op (.pure (.bin .lss (.tmp 75) (.const (.int .i64 40))))) none,
         .act (some 77) (.op (.pure (.move (.tmp 76)))) none,
         .act (some 78) (.op (.pure (.move (.tmp 12)))) (some (77, true)),
         .act (some 79) (.op (.pure (.idxArr 4 1 (.tmp 8) (.tmp 78)))) (some (77, true)),
         .act (some 80) (.op (.read (.load1 (.tmp 79)))) (some (77, true)),
         .act (some 81) (.call (.func 14) [(.tmp 80)]) (some (77, true)),
         .act (some 82) (.op (.pure (.not (.tmp 81)))) (some (77, true)),
         .act (some 83) (.op (.pure (.pick (.tmp 77) (.tmp 82) (.const (.bool false))))) none])
       (.cond (.tmp 83)
        .skip
        (.exit 6)))
       (.seq (.block 7 (.steps [
          .act (some 86) (.op (.pure (.move (.tmp 12)))) none,
          .act (some 87) (.op (.pure (.idxArr 4 1 (.tmp 8) (.tmp 86)))) none,
          .act (some 88) (.op (.read (.load1 (.tmp 87)))) none,
          .act (some 89) (.op (.pure (.move (.tmp 6)))) none,
          .act (some 90) (.call (.func 13) [(.tmp 88), (.tmp 89)]) none]))
       (.steps [
         .act (some 84) (.op (.pure (.move (.tmp 13)))) none,
         .act (some 85) (.op (.pure (.bin .add (.tmp 84) (.const (.int .i64 1))))) none,
         .act (some 13) (.op (.pure (.move (.tmp 85)))) none]))))))
     (.seq (.steps [
       .act (some 92) (.op (.pure (.move (.tmp 12)))) none,
       .act (some 93) (.op (.pure (.idxArr 4 1 (.tmp 8) (.tmp 92)))) none,
       .act (some 94) (.op (.read (.load1 (.tmp 93)))) none,
       .act (some 95) (.call (.func 15) [(.tmp 94)]) none,
       .act (some 91) (.op (.pure (.move (.tmp 95)))) none,
       .act (some 96) (.op (.pure (.extract (.tmp 91) 0))) none,
       .act (some 97) (.op (.pure (.extract (.tmp 91) 1))) none,
       .act (some 14) (.op (.pure (.move (.tmp 96)))) none,
       .act (some 15) (.op (.pure (.move (.tmp 97)))) none])
     (.seq (.seq (.steps [
       .act (some 98) (.op (.pure (.move (.tmp 12)))) none,
       .act (some 99) (.op (.pure (.idxArr 4 1 (.tmp 8) (.tmp 98)))) none,
       .act (some 100) (.op (.read (.load1 (.tmp 99)))) none,
       .act (some 101) (.call (.func 14) [(.tmp 100)]) none,
       .act (some 102) (.op (.pure (.not (.tmp 101)))) none,
       .act (some 103) (.op (.pure (.move (.tmp 102)))) none,
       .act (some 104) (.op (.pure (.move (.tmp 14)))) (some (103, false)),
       .act (some 105) (.op (.pure (.bin .neq (.tmp 104) (.const (.int .i64 0))))) (some (103, false)),
       .act (some 106) (.op (.pure (.move (.tmp 105)))) (some (103, false)),
       .act (some 107) (.op (.pure (.move (.tmp 14)))) (some (106, true)),
       .act (some 108) (.op (.pure (.bin .neq (.tmp 107) (.const (.int .i64 15))))) (some (106, true)),
       .act (some 109) (.op (.pure (.pick (.tmp 106) (.tmp 108) (.const (.bool false))))) (some (103, false)),
       .act (some 110) (.op (.pure (.pick (.tmp 103) (.const (.bool true)) (.tmp 109)))) none])
     (.cond (.tmp 110)
      (.seq (.steps [
        .act (some 4) (.op (.pure (.move (.const (.bool false))))) none])
      .ret)
      .skip))
     (.seq (.steps [
       .act (some 111) (.op (.pure (.move (.tmp 14)))) none,
       .act (some 112) (.op (.pure (.bin .eql (.tmp 111) (.const (.int .i64 0))))) none])
     (.cond (.tmp 112)
      (.steps [
        .act (some 113) (.op (.pure (.move (.tmp 11)))) none,
        .act (some 114) (.op (.pure (.move (.tmp 12)))) none,
        .act (some 115) (.op (.pure (.bin .add (.const (.int .i64 100)) (.tmp 114)))) none,
        .act (some 116) (.op (.pure (.conv .u64 (.tmp 115)))) none,
        .act none (.op (.eff (.mapUpdate false (.tmp 113) (.tmp 116) (.const (.bool true))))) none])
      .skip))))))
    (.steps [
      .act (some 73) (.op (.pure (.move (.tmp 12)))) none,
      .act (some 74) (.op (.pure (.bin .add (.tmp 73) (.const (.int .i64 1))))) none,
      .act (some 12) (.op (.pure (.move (.tmp 74)))) none]))))))
  vwT))
def vwP : LCode :=
  (.seq (.seq (.steps [
    .act (some 10) (.op (.pure (.move (.const (.int .i64 0))))) none])
  (.block 2 (.loop [1, 5, 6, 8, 10] (.seq (.seq (.steps [
      .act (some 51) (.op (.pure (.move (.tmp 10)))) none,
      .act (some 52) (.op (.pure (.move (.tmp 1)))) none,
      .act (some 53) (.op (.pure (.len false (.tmp 52)))) none,
      .act (some 54) (.op (.pure (.bin .lss (.tmp 51) (.tmp 53)))) none,
      .act (some 55) (.op (.pure (.move (.tmp 54)))) none,
      .act (some 56) (.op (.pure (.move (.tmp 10)))) (some (55, true)),
      .act (some 57) (.op (.pure (.bin .lss (.tmp 56) (.const (.int .i64 100))))) (some (55, true)),
      .act (some 58) (.op (.pure (.pick (.tmp 55) (.tmp 57) (.const (.bool false))))) none])
    (.cond (.tmp 58)
     .skip
     (.exit 2)))
    (.seq (.block 3 (.steps [
       .act (some 61) (.op (.pure (.move (.tmp 1)))) none,
       .act (some 62) (.op (.pure (.move (.tmp 10)))) none,
       .act (some 63) (.op (.pure (.idxSl 1 (.tmp 61) (.tmp 62)))) none,
       .act (some 64) (.op (.read (.load1 (.tmp 63)))) none,
       .act (some 65) (.call (.func 12) [(.tmp 64)]) none,
       .act (some 66) (.op (.pure (.idxArr 4 1 (.tmp 8) (.tmp 65)))) none,
       .act (some 67) (.op (.read (.load1 (.tmp 66)))) none,
       .act (some 68) (.op (.pure (.move (.tmp 6)))) none,
       .act (some 69) (.call (.func 13) [(.tmp 67), (.tmp 68)]) none]))
    (.steps [
      .act (some 59) (.op (.pure (.move (.tmp 10)))) none,
      .act (some 60) (.op (.pure (.bin .add (.tmp 59) (.const (.int .i64 1))))) none,
      .act (some 10) (.op (.pure (.move (.tmp 60)))) none]))))))
  vwM)
def VW : LCode :=
  (.seq (.steps [
    .act (some 4) (.op (.pure (.move (.const (.bool false))))) none])
  (.seq (.steps [
    .act (some 21) (.op (.pure (.move (.tmp 0)))) none,
    .act (some 22) (.op (.pure (.bin .and (.tmp 21) (.const (.int .i64 1))))) none,
    .act (some 23) (.op (.pure (.conv .u64 (.tmp 22)))) none,
    .act (some 24) (.op (.pure (.bin .shl (.const (.int .i64 2)) (.tmp 23)))) none,
    .act (some 25) (.op (.pure (.build [(.int .i64 0), (.int .i64 0)] [(0, 1, (.const (.int .i64 0))), (1, 1, (.tmp 24))]))) none,
    .act (some 5) (.op (.new (.alloc [(.int .i64 0), (.int .i64 0)]))) none,
    .act none (.op (.eff (.store 2 (.tmp 5) (.tmp 25)))) none])
  (.seq (.steps [
    .act (some 27) (.op (.read (.loadN 2 (.tmp 5)))) none,
    .act (some 28) (.call (.func 9) [(.tmp 27)]) none,
    .act (some 29) (.call (.func 8) [(.tmp 28)]) none,
    .act (some 26) (.op (.pure (.move (.tmp 29)))) none,
    .act (some 30) (.op (.pure (.extract (.tmp 26) 0))) none,
    .act (some 31) (.op (.pure (.extract (.tmp 26) 1))) none,
    .act (some 6) (.op (.pure (.move (.tmp 30)))) none,
    .act (some 7) (.op (.pure (.move (.tmp 31)))) none])
  (.seq (.seq (.steps [
    .act (some 32) (.op (.pure (.move (.tmp 7)))) none,
    .act (some 33) (.op (.pure (.bin .neq (.tmp 32) (.const (.int .i64 0))))) none,
    .act (some 34) (.op (.pure (.move (.tmp 33)))) none,
    .act (some 35) (.op (.read (.loadN 2 (.tmp 5)))) (some (34, false)),
    .act (some 36) (.op (.pure (.move (.tmp 6)))) (some (34, false)),
    .act (some 37) (.call (.func 10) [(.tmp 35), (.tmp 36)]) (some (34, false)),
    .act (some 38) (.op (.pure (.bin .neq (.tmp 37) (.const (.int .i64 0))))) (some (34, false)),
    .act (some 39) (.op (.pure (.pick (.tmp 34) (.const (.bool true)) (.tmp 38)))) none])
  (.cond (.tmp 39)
   (.seq (.steps [
     .act (some 4) (.op (.pure (.move (.const (.bool false))))) none])
   .ret)
   .skip))
  (.seq (.steps [
    .act (some 8) (.op (.new (.alloc [(.pointer none), (.pointer none), (.pointer none), (.pointer none)]))) none])
  (.seq (.seq (.steps [
    .act (some 9) (.op (.pure (.move (.const (.int .i64 0))))) none])
  (.block 0 (.loop [1, 5, 6, 8, 9] (.seq (.seq (.steps [
      .act (some 40) (.op (.pure (.move (.tmp 9)))) none,
      .act (some 41) (.op (.pure (.bin .lss (.tmp 40) (.const (.int .i64 4))))) none])
    (.cond (.tmp 41)
     .skip
     (.exit 0)))
    (.seq (.block 1 (.steps [
       .act (some 44) (.op (.pure (.move (.tmp 9)))) none,
       .act (some 45) (.op (.read (.loadN 2 (.tmp 5)))) none,
       .act (some 46) (.op (.pure (.move (.tmp 9)))) none,
       .act (some 47) (.op (.pure (.bin .add (.const (.int .i64 100)) (.tmp 46)))) none,
       .act (some 48) (.op (.pure (.conv .u64 (.tmp 47)))) none,
       .act (some 49) (.call (.func 11) [(.tmp 45), (.tmp 48)]) none,
       .act (some 50) (.op (.pure (.idxArr 4 1 (.tmp 8) (.tmp 44)))) none,
       .act none (.op (.eff (.store 1 (.tmp 50) (.tmp 49)))) none]))
    (.steps [
      .act (some 42) (.op (.pure (.move (.tmp 9)))) none,
      .act (some 43) (.op (.pure (.bin .add (.tmp 42) (.const (.int .i64 1))))) none,
      .act (some 9) (.op (.pure (.move (.tmp 43)))) none]))))))
  vwP))))))

/-- What stands behind the Puts. -/
structure WT (H K : LHeap) (s : Nat) (m : MV) (w : List (BitVec 64)) (q : Nat) (W : List (BitVec 64 × Bool)) : Prop where
  rr : K[H.length]? = some (rro ⟨0, s⟩)
  mem : MemAt K (H.length + 3) (H.length + 1) (H.length + 2) m
  cl : Clean m w
  mp : K[q]? = some (.map (went Value.bool W))
  hq : H.length + 4 ≤ q
structure TS where
  k : Nat
  K : LHeap
  m : MV
  w : List (BitVec 64)
  W : List (BitVec 64 × Bool)
structure TI (H : LHeap) (s : Nat) (own : Nat → Nat) (q : Nat) (x : TS) : Prop where
  hk : x.k ≤ s
  wt : WT H x.K s x.m x.w q x.W
  seq : Seq s x.w x.k (((List.range s).map fun p => BitVec.ofNat 64 (100 + own p)).drop x.k)
  al : ∀ z ∈ x.W, z.2 = true
  inn : ∀ p, x.k ≤ p → p < s → (BitVec.ofNat 64 (100 + own p), true) ∈ x.W
theorem map_erase {α β : Type} (f : α → β) : ∀ (l : List α) (i : Nat), (l.map f).eraseIdx i = (l.eraseIdx i).map f
  | [], _ => rfl
  | _ :: _, 0 => rfl
  | x :: l, i + 1 => by simp [map_erase f l i]
theorem ofNat_inj' {a b : Nat} (h : BitVec.ofNat 64 a = BitVec.ofNat 64 b) (ha : a < 1000) (hb : b < 1000) : a = b := by
  have := congrArg BitVec.toNat h
  rwa [nat64 (by omega), nat64 (by omega)] at this
section
variable {H K : LHeap} {s : Nat} {m : MV} {w : List (BitVec 64)} {own : Nat → Nat} {q : Nat} {W : List (BitVec 64 × Bool)} {e : Env} {Q : LExit → Env → LHeap → Prop}
theorem WT.app (h : WT H K s m w q W) (t : LHeap) : WT H (K ++ t) s m w q W := ⟨get_old h.rr t, h.mem.app t, h.cl, get_old h.mp t, h.hq⟩
set_option maxHeartbeats 1000000 in
theorem vwT_ev (h : WT H K s m w q W) (hs : s = 2 ∨ s = 4) (hsq : Seq s w 0 ((List.range s).map fun p => BitVec.ofNat 64 (100 + own p))) (al : ∀ z ∈ W, z.2 = true) (inn : ∀ p, p < s → (BitVec.ofNat 64 (100 + own p), true) ∈ W) (hW : W.length = s)
    (ho : ∀ p p', p < s → p' < s → own p = own p' → p = p') (h4 : ∀ p, p < s → own p < 4) (hKl : H.length ≤ K.length)
    (e5 : LK.look e 5 = ptr H.length) (e6 : LK.look e 6 = ptr (H.length + 3)) (e11 : LK.look e 11 = .map (some q))
    (hQ : ∀ e' H', LK.look e' 4 = .bool true → Q .ret e' H') : XW (callE T) H.length vwT e K Q := by
  unfold vwT
  have ne0 : ∀ a : Int, (a != a) = false := fun a => by simp
  have hr : (RV.mk 0 s).right = true := by rcases hs with rfl | rfl <;> decide
  have hmp := h.mp
  simp -dsimp only [go_sem, Nat.reduceEqDiff, Nat.reduceAdd, Nat.reduceSub, Nat.reduceMul, Nat.reduceLeDiff, Nat.reduceLT, Nat.reduceBEq, Int.reduceLT, Int.reduceLE, Int.reduceGT, Int.reduceGE, Int.reduceEq, Int.reduceNe, Int.reduceBEq, Int.reduceBNe, Int.reduceAdd, Int.reduceSub, Int.reduceMul, Int.reduceToNat, Int.reduceNeg, ↓reduceIte, ↓reduceDIte, e5, e6, e11, h.mp, List.length_map, hW, lget_at h.rr, ne0]
  refine LT_of (fun x : TS => [(5, ptr H.length), (6, ptr (H.length + 3)), (11, .map (some q)), (16, i64 x.k)]) (fun x => x.K) (fun x => TI H s own q x ∧ H.length ≤ x.K.length) (fun x => s - x.k)
    ⟨0, K, m, w, W⟩ (by simp [restrict, LK.look, e5, e6, e11]) rfl ⟨⟨by simp, h, hsq, al, fun p _ hp => inn p hp⟩, hKl⟩ ?_
  clear h hsq al inn hW hmp
  rintro ⟨k, K, m, w, W⟩ ⟨⟨hk, h, hsq, al, inn⟩, hKl⟩
  simp only at hk h hsq al inn hKl ⊢
  by_cases c1 : k < s
  · have c1' : (k : Int) < s := by omega
    have w1 : IntKind.i64.wrap ((k : Int) + 1) = ((k + 1 : Nat) : Int) := by rw [wrap_i64] <;> omega
    have hr2 : lcells K H.length 0 2 = some [i64 0, i64 s] := lcells_of h.rr rfl
    simp -dsimp only [go_sem, Nat.reduceEqDiff, Nat.reduceAdd, Nat.reduceSub, Nat.reduceMul, Nat.reduceLeDiff, Nat.reduceLT, Nat.reduceBEq, Int.reduceLT, Int.reduceLE, Int.reduceGT, Int.reduceGE, Int.reduceEq, Int.reduceNe, Int.reduceBEq, Int.reduceBNe, Int.reduceAdd, Int.reduceSub, Int.reduceMul, Int.reduceToNat, Int.reduceNeg, ↓reduceIte, ↓reduceDIte, lget_at h.rr, c1', hr2]
    refine CT_of (vtake_ev (r := ⟨0, s⟩) hKl) ?_
    rintro _ _ ⟨u, u2, rfl, rfl⟩
    rw [if_pos hr]
    obtain ⟨Z, hZ⟩ : ∃ Z, Z = K ++ [u, u2] := ⟨_, rfl⟩
    have hZ2 : ∀ y, K ++ [u, u2, y] = Z ++ [y] := fun y => by rw [hZ]; simp
    have hZl : K.length + 2 = Z.length := by rw [hZ]; simp
    rw [hZ2, hZl]
    have hz := h.app [u, u2]
    rw [← hZ] at hz
    have hqZ : q < Z.length := (List.getElem?_eq_some_iff.1 hz.mp).1
    have hZ4 : H.length + 4 < Z.length := by have := hz.hq; omega
    obtain ⟨z, hz0⟩ : ∃ z : VOp × MV, z = (⟨⟨0, s⟩, true, 0#64, 0, 0#64, 0⟩, m) := ⟨_, rfl⟩
    simp -dsimp only [go_sem, Nat.reduceEqDiff, Nat.reduceAdd, Nat.reduceSub, Nat.reduceMul, Nat.reduceLeDiff, Nat.reduceLT, Nat.reduceBEq, Int.reduceLT, Int.reduceLE, Int.reduceGT, Int.reduceGE, Int.reduceEq, Int.reduceNe, Int.reduceBEq, Int.reduceBNe, Int.reduceAdd, Int.reduceSub, Int.reduceMul, Int.reduceToNat, Int.reduceNeg, ↓reduceIte, ↓reduceDIte]
    refine LT_of (fun j : Nat => [(5, ptr H.length), (6, ptr (H.length + 3)), (11, .map (some q)), (16, i64 k), (17, ptr Z.length), (18, i64 j)]) (fun j => memPut (Z ++ [vrw (runs j z).1]) (H.length + 3) (H.length + 1) (H.length + 2) (runs j z).2) (fun j => j ≤ 5) (fun j => 5 - j)
      0 rfl (by rw [hz0]; exact (memPut_same (hz.mem.app _)).symm) (by omega) ?_
    intro j hj
    have hlenj := runs_len j z
    have hmj : MemAt (memPut (Z ++ [vrw (runs j z).1]) (H.length + 3) (H.length + 1) (H.length + 2) (runs j z).2) (H.length + 3) (H.length + 1) (H.length + 2) (runs j z).2 := by
      refine (hz.mem.app _).put ?_ ?_
      · rw [hlenj.1, hz0]
      · rw [hlenj.2, hz0]; exact hz.mem.len
    have hoj : (memPut (Z ++ [vrw (runs j z).1]) (H.length + 3) (H.length + 1) (H.length + 2) (runs j z).2)[Z.length]? = some (vrw (runs j z).1) := by
      rw [memPut_get _ (by omega) (by omega) (by omega)]; exact get_app0 _ _
    by_cases c2 : j < 5
    · have c2' : (j : Int) < 5 := by omega
      have w2 : IntKind.i64.wrap ((j : Int) + 1) = ((j + 1 : Nat) : Int) := by rw [wrap_i64] <;> omega
      simp -dsimp only [go_sem, Nat.reduceEqDiff, Nat.reduceAdd, Nat.reduceSub, Nat.reduceMul, Nat.reduceLeDiff, Nat.reduceLT, Nat.reduceBEq, Int.reduceLT, Int.reduceLE, Int.reduceGT, Int.reduceGE, Int.reduceEq, Int.reduceNe, Int.reduceBEq, Int.reduceBNe, Int.reduceAdd, Int.reduceSub, Int.reduceMul, Int.reduceToNat, Int.reduceNeg, ↓reduceIte, ↓reduceDIte, c2']
      refine CT_of (vstep_ev hoj hmj (by omega) (by omega) (by omega) (by rw [runs_r, hz0]; exact hr)) ?_
      rintro _ _ ⟨rfl, rfl⟩
      have e1 : memPut ((memPut (Z ++ [vrw (runs j z).1]) (H.length + 3) (H.length + 1) (H.length + 2) (runs j z).2).set Z.length (vrw ((runs j z).1.step (runs j z).2).1)) (H.length + 3) (H.length + 1) (H.length + 2) ((runs j z).1.step (runs j z).2).2 = memPut (Z ++ [vrw (runs (j + 1) z).1]) (H.length + 3) (H.length + 1) (H.length + 2) (runs (j + 1) z).2 := by
        rw [memPut_set_off (by omega) (by omega) (by omega), runs_succ]
        have : (Z ++ [vrw (runs j z).1]).set Z.length (vrw ((runs j z).1.step (runs j z).2).1) = Z ++ [vrw ((runs j z).1.step (runs j z).2).1] := by simp
        rw [this]
        exact memPut_put (hz.mem.app _) _ _
      rw [e1]
      simp -dsimp only [go_sem, Nat.reduceEqDiff, Nat.reduceAdd, Nat.reduceSub, Nat.reduceMul, Nat.reduceLeDiff, Nat.reduceLT, Nat.reduceBEq, Int.reduceLT, Int.reduceLE, Int.reduceGT, Int.reduceGE, Int.reduceEq, Int.reduceNe, Int.reduceBEq, Int.reduceBNe, Int.reduceAdd, Int.reduceSub, Int.reduceMul, Int.reduceToNat, Int.reduceNeg, ↓reduceIte, ↓reduceDIte, w2]
      exact ⟨j + 1, rfl, rfl, by omega, by omega⟩
    · have c2' : ¬ (j : Int) < 5 := by omega
      obtain rfl : j = 5 := by omega
      have hdrop : ((List.range s).map fun p => BitVec.ofNat 64 (100 + own p)).drop k = BitVec.ofNat 64 (100 + own k) :: ((List.range s).map fun p => BitVec.ofNat 64 (100 + own p)).drop (k + 1) := by
        rw [List.drop_eq_getElem_cons (by simpa using c1)]
        simp
      rw [hdrop] at hsq
      obtain ⟨m', w', er, cl', seq'⟩ := take_ok hsq h.cl (by omega)
      rw [← hz0] at er
      rw [er] at hmj hoj ⊢
      simp only at hmj hoj ⊢
      have hg : ∀ i, i ≠ H.length + 3 → i ≠ H.length + 1 → i ≠ H.length + 2 → i < Z.length → (memPut (Z ++ [vrw ⟨⟨0, s⟩, true, BitVec.ofNat 64 (100 + own k), 5, BitVec.ofNat 64 k, 0⟩]) (H.length + 3) (H.length + 1) (H.length + 2) m')[i]? = Z[i]? := fun i h1 h2 h3 h4 => by
        rw [memPut_get _ (Ne.symm h1) (Ne.symm h2) (Ne.symm h3), get_left h4]
      have hmp' := hg q (by have := hz.hq; omega) (by have := hz.hq; omega) (by have := hz.hq; omega) hqZ
      rw [hz.mp] at hmp'
      have hrr' := hg H.length (by omega) (by omega) (by omega) (by omega)
      rw [hz.rr] at hrr'
      have hll := memPut_len (Z ++ [vrw ⟨⟨0, s⟩, true, BitVec.ofNat 64 (100 + own k), 5, BitVec.ofNat 64 k, 0⟩]) (H.length + 3) (H.length + 1) (H.length + 2) m'
      generalize memPut (Z ++ [vrw ⟨⟨0, s⟩, true, BitVec.ofNat 64 (100 + own k), 5, BitVec.ofNat 64 k, 0⟩]) (H.length + 3) (H.length + 1) (H.length + 2) m' = Y at *
      rw [List.length_append, List.length_singleton] at hll
      have hin := inn k (Nat.le_refl _) c1
      have hwf := lfind_went Value.bool (BitVec.ofNat 64 (100 + own k)) W
      have hg1 := wget_mem hin al
      obtain ⟨⟨pi, pv⟩, hpf⟩ := wfind_mem hin
      obtain rfl : pv = true := by
        rw [wget, hpf] at hg1
        exact hg1
      simp -dsimp only [go_sem, Nat.reduceEqDiff, Nat.reduceAdd, Nat.reduceSub, Nat.reduceMul, Nat.reduceLeDiff, Nat.reduceLT, Nat.reduceBEq, Int.reduceLT, Int.reduceLE, Int.reduceGT, Int.reduceGE, Int.reduceEq, Int.reduceNe, Int.reduceBEq, Int.reduceBNe, Int.reduceAdd, Int.reduceSub, Int.reduceMul, Int.reduceToNat, Int.reduceNeg, ↓reduceIte, ↓reduceDIte, c2']
      refine CT_val (vres_ev hoj) ?_
      rw [if_pos (show (VOp.mk ⟨0, s⟩ true (BitVec.ofNat 64 (100 + own k)) 5 (BitVec.ofNat 64 k) 0).at_ = 5 from rfl)]
      have hqH : H.length ≤ q := by have := hz.hq; omega
      simp -dsimp only [go_sem, Nat.reduceEqDiff, Nat.reduceAdd, Nat.reduceSub, Nat.reduceMul, Nat.reduceLeDiff, Nat.reduceLT, Nat.reduceBEq, Int.reduceLT, Int.reduceLE, Int.reduceGT, Int.reduceGE, Int.reduceEq, Int.reduceNe, Int.reduceBEq, Int.reduceBNe, Int.reduceAdd, Int.reduceSub, Int.reduceMul, Int.reduceToNat, Int.reduceNeg, ↓reduceIte, ↓reduceDIte, hmp', hwf, hpf, hqH, w1, Option.getD_some]
      have hqY : q < Y.length := (List.getElem?_eq_some_iff.1 hmp').1
      have hq4 := h.hq
      refine ⟨⟨k + 1, Y.set q (.map ((went Value.bool W).eraseIdx pi)), m', w', W.eraseIdx pi⟩, rfl, rfl, ⟨⟨c1, ⟨?_, hmj.set_off (by omega) (by omega) (by omega) _, cl', ?_, h.hq⟩, seq', ?_, ?_⟩, by simp only [List.length_set]; omega⟩, by simp only; omega⟩
      · rw [get_set_ne (by omega)]; exact hrr'
      · rw [get_set_eq hqY]
        simp only [went, map_erase]
      · exact fun y hy => al y (List.mem_of_mem_eraseIdx hy)
      · intro p p1 p2
        refine mem_erase hpf ?_ (inn p (by simp only at p1; omega) p2)
        intro e
        have := ofNat_inj' e (by have := h4 p p2; omega) (by have := h4 k c1; omega)
        have := ho p k p2 c1 (by omega)
        simp only at p1
        omega
  · have c1' : ¬ (k : Int) < s := by omega
    simp -dsimp only [go_sem, Nat.reduceEqDiff, Nat.reduceAdd, Nat.reduceSub, Nat.reduceMul, Nat.reduceLeDiff, Nat.reduceLT, Nat.reduceBEq, Int.reduceLT, Int.reduceLE, Int.reduceGT, Int.reduceGE, Int.reduceEq, Int.reduceNe, Int.reduceBEq, Int.reduceBNe, Int.reduceAdd, Int.reduceSub, Int.reduceMul, Int.reduceToNat, Int.reduceNeg, ↓reduceIte, ↓reduceDIte, lget_at h.rr, c1']
    refine CT_val (trap_c h.mem h.cl) ?_
    simp -dsimp only [go_sem, Nat.reduceEqDiff, Nat.reduceAdd, Nat.reduceSub, Nat.reduceMul, Nat.reduceLeDiff, Nat.reduceLT, Nat.reduceBEq, Int.reduceLT, Int.reduceLE, Int.reduceGT, Int.reduceGE, Int.reduceEq, Int.reduceNe, Int.reduceBEq, Int.reduceBNe, Int.reduceAdd, Int.reduceSub, Int.reduceMul, Int.reduceToNat, Int.reduceNeg, ↓reduceIte, ↓reduceDIte]
    refine CT_val (one_ev _ _) ?_
    simp -dsimp only [go_sem, Nat.reduceEqDiff, Nat.reduceAdd, Nat.reduceSub, Nat.reduceMul, Nat.reduceLeDiff, Nat.reduceLT, Nat.reduceBEq, Int.reduceLT, Int.reduceLE, Int.reduceGT, Int.reduceGE, Int.reduceEq, Int.reduceNe, Int.reduceBEq, Int.reduceBNe, Int.reduceAdd, Int.reduceSub, Int.reduceMul, Int.reduceToNat, Int.reduceNeg, ↓reduceIte, ↓reduceDIte]
    exact hQ _ _ rfl
/-- Four Puts, and an array that names them. -/
structure WH (H K : LHeap) (s : Nat) (m : MV) (L : List VOp) : Prop where
  rr : K[H.length]? = some (rro ⟨0, s⟩)
  mem : MemAt K (H.length + 3) (H.length + 1) (H.length + 2) m
  arr : ∀ i, i < 4 → lget K (H.length + 4) i = some (ptr (H.length + 7 + 3 * i))
  ops : ∀ (i : Nat) (x : VOp), L[i]? = some x → K[H.length + 7 + 3 * i]? = some (vrw x)
  len : H.length + 17 ≤ K.length
theorem WH.app {L : List VOp} (h : WH H K s m L) (t : LHeap) : WH H (K ++ t) s m L := by
  have := h.len
  exact ⟨get_old h.rr t, h.mem.app t, fun i hi => by rw [lget_left (by omega)]; exact h.arr i hi, fun i x g => get_old (h.ops i x g) t, by simp; omega⟩
theorem WH.off {L : List VOp} (h : WH H K s m L) (hL : L.length = 4) (hq : H.length + 17 ≤ q) (o : LObj) : WH H (K.set q o) s m L := by
  refine ⟨by rw [get_set_ne (by omega)]; exact h.rr, h.mem.set_off (by omega) (by omega) (by omega) _, fun i hi => by rw [lget, get_set_ne (by omega)]; exact h.arr i hi, fun i x g => ?_, by rw [List.length_set]; exact h.len⟩
  have := (List.getElem?_eq_some_iff.1 g).1
  rw [get_set_ne (by omega)]
  exact h.ops i x g
theorem WH.put {L : List VOp} (h : WH H K s m L) {i : Nat} {x x' : VOp} {m' : MV} (g : L[i]? = some x) (h1 : m'.w.length = m.w.length) (h2 : m'.bar.length = m.w.length) :
    WH H (memPut (K.set (H.length + 7 + 3 * i) (vrw x')) (H.length + 3) (H.length + 1) (H.length + 2) m') s m' (L.set i x') := by
  have hl := (List.getElem?_eq_some_iff.1 (h.ops i x g)).1
  have k : ∀ j, j ≠ H.length + 3 → j ≠ H.length + 1 → j ≠ H.length + 2 → j ≠ H.length + 7 + 3 * i → (memPut (K.set (H.length + 7 + 3 * i) (vrw x')) (H.length + 3) (H.length + 1) (H.length + 2) m')[j]? = K[j]? := fun j a b c d => by
    rw [memPut_get _ (Ne.symm a) (Ne.symm b) (Ne.symm c), get_set_ne (Ne.symm d)]
  refine ⟨by rw [k _ (by omega) (by omega) (by omega) (by omega)]; exact h.rr, (h.mem.set_off (by omega) (by omega) (by omega) _).put h1 h2, fun j hj => ?_, fun j y gj => ?_, by rw [memPut_len, List.length_set]; exact h.len⟩
  · rw [lget, k _ (by omega) (by omega) (by omega) (by omega)]
    exact h.arr j hj
  · by_cases e : i = j
    · subst e
      rw [List.getElem?_set_self (List.getElem?_eq_some_iff.1 g).1] at gj
      cases gj
      rw [memPut_get _ (by omega) (by omega) (by omega), get_set_eq hl]
    · rw [List.getElem?_set_ne e] at gj
      rw [k _ (by omega) (by omega) (by omega) (by omega)]
      exact h.ops j y gj
structure MS where
  i : Nat
  K : LHeap
  m : MV
  w : List (BitVec 64)
  T : Nat
  own : Nat → Nat
  L : List VOp
structure MI (H : LHeap) (s q th : Nat) (x : MS) : Prop where
  wh : WH H x.K s x.m x.L
  cl : Clean x.m x.w
  wi : WI s x.T x.w x.L x.own
  dn : ∀ (j : Nat) (y : VOp), j < th → x.L[j]? = some y → y.at_ = 5
  mp : x.K[q]? = some (.map (went Value.bool (wants x.L th)))
theorem mu_le (T : Nat) (y : VOp) : mu T y ≤ 7 := by
  unfold mu
  repeat' split
  all_goals omega
theorem go_r {T i : Nat} {own : Nat → Nat} {x : VOp} (h : POk s T own i x) (hs : s = 2 ∨ s = 4) : x.r.right = true := by
  rw [h.1]
  rcases hs with rfl | rfl <;> decide
set_option maxHeartbeats 1000000 in
theorem vwM_ev {L : List VOp} {tt : Nat} (h : WH H K s m L) (cl : Clean m w) (wi : WI s tt w L own)
    (e5 : LK.look e 5 = ptr H.length) (e6 : LK.look e 6 = ptr (H.length + 3)) (e8 : LK.look e 8 = ptr (H.length + 4))
    (hQ : ∀ e' H', LK.look e' 4 = .bool true → Q .ret e' H') : XW (callE T) H.length vwM e K Q := by
  unfold vwM
  simp -dsimp only [go_sem, Nat.reduceEqDiff, Nat.reduceAdd, Nat.reduceSub, Nat.reduceMul, Nat.reduceLeDiff, Nat.reduceLT, Nat.reduceBEq, Int.reduceLT, Int.reduceLE, Int.reduceGT, Int.reduceGE, Int.reduceEq, Int.reduceNe, Int.reduceBEq, Int.reduceBNe, Int.reduceAdd, Int.reduceSub, Int.reduceMul, Int.reduceToNat, Int.reduceNeg, ↓reduceIte, ↓reduceDIte]
  have hs := wi.hs
  have hKl := h.len
  refine LT_of (fun x : MS => [(5, ptr H.length), (6, ptr (H.length + 3)), (8, ptr (H.length + 4)), (11, .map (some K.length)), (12, i64 x.i)]) (fun x => x.K) (fun x => x.i ≤ 4 ∧ MI H s K.length x.i x) (fun x => 4 - x.i)
    ⟨0, K ++ [.map []], m, w, tt, own, L⟩ (by simp [restrict, LK.look, e5, e6, e8]) rfl ⟨by simp, ⟨h.app _, cl, wi, fun j y hj => by simp at hj, get_app0 _ _⟩⟩ ?_
  generalize hq : K.length = q at hKl
  clear h cl wi hq
  rintro ⟨th, K, m, w, tt, own, L⟩ ⟨hth, h, cl, wi, dn, mp⟩
  simp only at hth h cl wi dn mp ⊢
  by_cases c1 : th < 4
  · have c1' : (th : Int) < 4 := by omega
    have t0 : 0 ≤ (th : Int) := by omega
    have w1 : IntKind.i64.wrap ((th : Int) + 1) = ((th + 1 : Nat) : Int) := by rw [wrap_i64] <;> omega
    simp -dsimp only [go_sem, Nat.reduceEqDiff, Nat.reduceAdd, Nat.reduceSub, Nat.reduceMul, Nat.reduceLeDiff, Nat.reduceLT, Nat.reduceBEq, Int.reduceLT, Int.reduceLE, Int.reduceGT, Int.reduceGE, Int.reduceEq, Int.reduceNe, Int.reduceBEq, Int.reduceBNe, Int.reduceAdd, Int.reduceSub, Int.reduceMul, Int.reduceToNat, Int.reduceNeg, ↓reduceIte, ↓reduceDIte, c1']
    refine LT_of (fun x : MS => [(5, ptr H.length), (6, ptr (H.length + 3)), (8, ptr (H.length + 4)), (11, .map (some q)), (12, i64 th), (13, i64 x.i)]) (fun x => x.K) (fun x => MI H s q th x ∧ ∀ y, x.L[th]? = some y → x.i + mu x.T y ≤ 7) (fun x => 40 - x.i)
      ⟨0, K, m, w, tt, own, L⟩ rfl rfl ⟨⟨h, cl, wi, dn, mp⟩, fun y _ => by have := mu_le tt y; simp only; omega⟩ ?_
    clear h cl wi dn mp
    rintro ⟨n, K, m, w, tt, own, L⟩ ⟨⟨h, cl, wi, dn, mp⟩, hmu⟩
    simp only at h cl wi dn mp hmu ⊢
    obtain ⟨x, hx⟩ : ∃ x, L[th]? = some x := ⟨_, List.getElem?_eq_getElem (by rw [wi.ll]; exact c1)⟩
    have hn := hmu x hx
    have hn' : (n : Int) < 40 := by omega
    have gx := h.ops th x hx
    have ga := h.arr th c1
    simp -dsimp only [go_sem, Nat.reduceEqDiff, Nat.reduceAdd, Nat.reduceSub, Nat.reduceMul, Nat.reduceLeDiff, Nat.reduceLT, Nat.reduceBEq, Int.reduceLT, Int.reduceLE, Int.reduceGT, Int.reduceGE, Int.reduceEq, Int.reduceNe, Int.reduceBEq, Int.reduceBNe, Int.reduceAdd, Int.reduceSub, Int.reduceMul, Int.reduceToNat, Int.reduceNeg, ↓reduceIte, ↓reduceDIte, hn', c1', t0, ga]
    refine CT_val (vdone_ev gx) ?_
    by_cases c2 : x.at_ = 5
    · have c2' : (x.at_ == 5) = true := by simp [c2]
      simp -dsimp only [go_sem, Nat.reduceEqDiff, Nat.reduceAdd, Nat.reduceSub, Nat.reduceMul, Nat.reduceLeDiff, Nat.reduceLT, Nat.reduceBEq, Int.reduceLT, Int.reduceLE, Int.reduceGT, Int.reduceGE, Int.reduceEq, Int.reduceNe, Int.reduceBEq, Int.reduceBNe, Int.reduceAdd, Int.reduceSub, Int.reduceMul, Int.reduceToNat, Int.reduceNeg, ↓reduceIte, ↓reduceDIte, c2', c1', t0, ga]
      refine CT_val (vres_ev gx) ?_
      rw [if_pos c2]
      have hok : ∀ (j : Nat) (y : VOp), j < th + 1 → L[j]? = some y → y.at_ = 5 := by
        intro j y hj hy
        by_cases e : j = th
        · subst e
          rw [hx] at hy
          cases hy
          exact c2
        · exact dn j y (by omega) hy
      simp -dsimp only [go_sem, Nat.reduceEqDiff, Nat.reduceAdd, Nat.reduceSub, Nat.reduceMul, Nat.reduceLeDiff, Nat.reduceLT, Nat.reduceBEq, Int.reduceLT, Int.reduceLE, Int.reduceGT, Int.reduceGE, Int.reduceEq, Int.reduceNe, Int.reduceBEq, Int.reduceBNe, Int.reduceAdd, Int.reduceSub, Int.reduceMul, Int.reduceToNat, Int.reduceNeg, ↓reduceIte, ↓reduceDIte, c1', t0, ga]
      refine CT_val (vdone_ev gx) ?_
      rcases wi.end hx c2 with ⟨c3, _⟩ | ⟨c3, _⟩
      · have hk : okP L th = true := by simp [okP, hx, c3]
        have hws := wants_succ L th
        rw [if_pos hk] at hws
        have hnew := wants_new L th (by omega)
        have hwf := lfind_went Value.bool (BitVec.ofNat 64 (100 + th)) (wants L th)
        have hwr : IntKind.i64.wrap (100 + (th : Int)) = ((100 + th : Nat) : Int) := by rw [wrap_i64] <;> omega
        have hqH : H.length ≤ q := by omega
        simp -dsimp only [go_sem, Nat.reduceEqDiff, Nat.reduceAdd, Nat.reduceSub, Nat.reduceMul, Nat.reduceLeDiff, Nat.reduceLT, Nat.reduceBEq, Int.reduceLT, Int.reduceLE, Int.reduceGT, Int.reduceGE, Int.reduceEq, Int.reduceNe, Int.reduceBEq, Int.reduceBNe, Int.reduceAdd, Int.reduceSub, Int.reduceMul, Int.reduceToNat, Int.reduceNeg, ↓reduceIte, ↓reduceDIte, c2', c3, hwr, BitVec.ofInt_natCast, mp, hwf, hnew, hqH, w1]
        refine ⟨⟨th + 1, K.set q (.map (went Value.bool (wants L th) ++ [(w64 (BitVec.ofNat 64 (100 + th)), .bool true)])), m, w, tt, own, L⟩, rfl, rfl, ⟨by simp only; omega, ⟨h.off wi.ll hKl _, cl, wi, hok, ?_⟩⟩, by simp only; omega⟩
        simp only
        rw [hws, get_set_eq (List.getElem?_eq_some_iff.1 mp).1]
        simp
      · have hk : okP L th = false := by simp [okP, hx, c3]
        have hws := wants_succ L th
        rw [if_neg (by simp [hk])] at hws
        simp -dsimp only [go_sem, Nat.reduceEqDiff, Nat.reduceAdd, Nat.reduceSub, Nat.reduceMul, Nat.reduceLeDiff, Nat.reduceLT, Nat.reduceBEq, Int.reduceLT, Int.reduceLE, Int.reduceGT, Int.reduceGE, Int.reduceEq, Int.reduceNe, Int.reduceBEq, Int.reduceBNe, Int.reduceAdd, Int.reduceSub, Int.reduceMul, Int.reduceToNat, Int.reduceNeg, ↓reduceIte, ↓reduceDIte, c2', c3, w1]
        exact ⟨⟨th + 1, K, m, w, tt, own, L⟩, rfl, rfl, ⟨by simp only; omega, ⟨h, cl, wi, hok, by rw [hws]; exact mp⟩⟩, by simp only; omega⟩
    · have c2' : (x.at_ == 5) = false := by simp [c2]
      simp -dsimp only [go_sem, Nat.reduceEqDiff, Nat.reduceAdd, Nat.reduceSub, Nat.reduceMul, Nat.reduceLeDiff, Nat.reduceLT, Nat.reduceBEq, Int.reduceLT, Int.reduceLE, Int.reduceGT, Int.reduceGE, Int.reduceEq, Int.reduceNe, Int.reduceBEq, Int.reduceBNe, Int.reduceAdd, Int.reduceSub, Int.reduceMul, Int.reduceToNat, Int.reduceNeg, ↓reduceIte, ↓reduceDIte, c2', c1', t0, ga]
      refine CT_of (vstep_ev gx h.mem (by omega) (by omega) (by omega) (go_r (wi.ops th x hx) hs)) ?_
      rintro _ _ ⟨rfl, rfl⟩
      obtain ⟨tt', w', own', cl', wi', hmu'⟩ := wi.step hx cl
      have hm := hmu' c2
      have w2 : IntKind.i64.wrap ((n : Int) + 1) = ((n + 1 : Nat) : Int) := by rw [wrap_i64] <;> omega
      have hsl := step_len x m
      have hput := h.put hx (x' := (x.step m).1) (m' := (x.step m).2) hsl.1 (by rw [hsl.2]; exact h.mem.len)
      simp -dsimp only [go_sem, Nat.reduceEqDiff, Nat.reduceAdd, Nat.reduceSub, Nat.reduceMul, Nat.reduceLeDiff, Nat.reduceLT, Nat.reduceBEq, Int.reduceLT, Int.reduceLE, Int.reduceGT, Int.reduceGE, Int.reduceEq, Int.reduceNe, Int.reduceBEq, Int.reduceBNe, Int.reduceAdd, Int.reduceSub, Int.reduceMul, Int.reduceToNat, Int.reduceNeg, ↓reduceIte, ↓reduceDIte, w2]
      refine ⟨⟨n + 1, _, (x.step m).2, w', tt', own', L.set th (x.step m).1⟩, rfl, rfl, ⟨⟨hput, cl', wi', ?_, ?_⟩, ?_⟩, by simp only; omega⟩
      · intro j y hj hy
        simp only at hy
        rw [List.getElem?_set_ne (by omega)] at hy
        exact dn j y hj hy
      · simp only
        rw [wants_set L (Nat.le_refl _)]
        show (memPut (K.set (H.length + 7 + 3 * th) (vrw (x.step m).1)) (H.length + 3) (H.length + 1) (H.length + 2) (x.step m).2)[q]? = _
        rw [memPut_get _ (by omega) (by omega) (by omega), get_set_ne (by omega)]
        exact mp
      · intro y hy
        simp only at hy
        rw [List.getElem?_set_self (List.getElem?_eq_some_iff.1 hx).1] at hy
        cases hy
        simp only
        omega
  · have c1' : ¬ (th : Int) < 4 := by omega
    obtain rfl : th = 4 := by omega
    simp -dsimp only [go_sem, Nat.reduceEqDiff, Nat.reduceAdd, Nat.reduceSub, Nat.reduceMul, Nat.reduceLeDiff, Nat.reduceLT, Nat.reduceBEq, Int.reduceLT, Int.reduceLE, Int.reduceGT, Int.reduceGE, Int.reduceEq, Int.reduceNe, Int.reduceBEq, Int.reduceBNe, Int.reduceAdd, Int.reduceSub, Int.reduceMul, Int.reduceToNat, Int.reduceNeg, ↓reduceIte, ↓reduceDIte, c1']
    have hd : ∀ (i : Nat) (x : VOp), L[i]? = some x → x.at_ = 5 := by
      intro i x hx
      have := (List.getElem?_eq_some_iff.1 hx).1
      rw [wi.ll] at this
      exact dn i x this hx
    have hT := wi.full hd
    subst hT
    have hlen : (wants L 4).length = tt := by
      rw [wants, List.length_map]
      exact wi.count hd
    have hlK := h.len
    refine vwT_ev (own := own) (q := q) (W := wants L 4) ⟨h.rr, h.mem, cl, mp, by omega⟩ hs (wi.seq hd) ?_ ?_ hlen (fun p p' hp hp' e => wi.inj hp hp' e) (fun p hp => wi.own4 hp) (by omega) rfl rfl rfl hQ
    · intro z hz
      simp only [wants, List.mem_map] at hz
      obtain ⟨j, _, rfl⟩ := hz
      rfl
    · intro p hp
      simp only [wants, List.mem_map, List.mem_filter, List.mem_range]
      exact ⟨own p, ⟨wi.own4 hp, (wi.okP hd (wi.own4 hp)).2 ⟨p, hp, rfl⟩⟩, rfl⟩
end
end Go.Proofs.Ytgipbamdefjenaa
