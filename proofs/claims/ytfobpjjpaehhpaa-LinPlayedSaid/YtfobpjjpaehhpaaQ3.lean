/- The statement LinPlayed. -/
import Derived.Test.YtfobpjjpaehhpaaQ2
namespace Go.Proofs.Ytfobpjjpaehhpaa
open Go Go.LK
set_option linter.unusedSimpArgs false
set_option linter.unusedVariables false
theorem flat_put {l : List CallD} {k j : Nat} {v : Value} {c c' : CallD} (hj : j < 8) (h : l[k]? = some c) (hc : c'.cells = c.cells.set j v) : (l.flatMap CallD.cells).set (k * 8 + j) v = (l.set k c').flatMap CallD.cells := by
  induction l generalizing k with
  | nil => simp at h
  | cons x l ih =>
    have h8 := CallD.len x
    cases k with
    | zero =>
      simp at h; subst h
      rw [List.flatMap_cons, List.set_append_left _ _ (by omega), Nat.zero_mul, Nat.zero_add, ← hc]
      simp
    | succ k =>
      rw [List.flatMap_cons, List.set_append_right _ _ (by omega), h8, show (k + 1) * 8 + j - 8 = k * 8 + j by omega, ih (by simpa using h)]
      simp
theorem flat_get {l : List CallD} {k j : Nat} {c : CallD} (hj : j < 8) (h : l[k]? = some c) : (l.flatMap CallD.cells)[k * 8 + j]? = c.cells[j]? := by
  induction l generalizing k with
  | nil => simp at h
  | cons x l ih =>
    have h8 := CallD.len x
    cases k with
    | zero =>
      simp at h; subst h
      rw [List.flatMap_cons, List.getElem?_append_left (by omega), Nat.zero_mul, Nat.zero_add]
    | succ k =>
      rw [List.flatMap_cons, List.getElem?_append_right (by omega), h8, show (k + 1) * 8 + j - 8 = k * 8 + j by omega, ih (by simpa using h)]
theorem play_search {cap : Int} {l : List (BitVec 64)} {n : Nat} (hn : n ≤ l.length) (h62 : n ≤ 62) : searchF (playS cap (l.take n)).1 (stepM cap (playS cap (l.take n)).1 0) = some (List.range' 0 n) := by
  have hlen := (playS_len (cap := cap) n hn).1
  rw [searchF, if_pos ⟨by omega, play_right hn h62⟩]
  exact (play_like hn h62).only (fun i j c o hc ho h => play_ahead hn hc ho h) n 0 (by omega)
theorem play_valid {cap : Int} {l : List (BitVec 64)} {n : Nat} (hn : n ≤ l.length) (h62 : n ≤ 62) : validF (playS cap (l.take n)).1 (List.range' 0 n) cap 0 = true := by
  rw [validF, play_right hn h62]
  exact (play_like hn h62).run n 0 (by omega)
theorem bad_valid {cap : Int} {l : List (BitVec 64)} {n k : Nat} {ck : CallD} (hn : n ≤ l.length) (h62 : n ≤ 62) (hk : (playS cap (l.take n)).1[k]? = some ck) : validF ((playS cap (l.take n)).1.set k { ck with ret := ck.ret ^^^ 2#64 }) (List.range' 0 n) cap 0 = false := by
  rw [validF]
  have := bad_run hn h62 hk k 0 (by omega) n (by omega)
  rw [Bool.and_eq_false_iff]
  exact .inr this
theorem meet_search {cap : Int} {l : List (BitVec 64)} {n k : Nat} {ck : CallD} (hn : n ≤ l.length) (h62 : n ≤ 62) (hk : (playS cap (l.take n)).1[k]? = some ck) : ∃ r, searchF ((playS cap (l.take n)).1.set k (meetC ck)) (stepM cap ((playS cap (l.take n)).1.set k (meetC ck)) 0) = some r ∧ validF ((playS cap (l.take n)).1.set k (meetC ck)) r cap 0 = true := by
  have hL := meet_like (cap := cap) hn h62 hk
  have h1 := vrun_search (by rw [hL.len]; exact h62) (meet_right hn h62 hk) (hL.run n 0 (by omega))
  obtain ⟨r, hr⟩ := Option.isSome_iff_exists.1 h1
  obtain ⟨_, _, h3⟩ := search_vrun hr
  exact ⟨r, hr, by rw [validF, meet_right hn h62 hk, h3]; rfl⟩
theorem valid_at {lim ncap oc nl m : Nat} {cap mode : Int} {al ao : Option Addr} {l : List CallD} {o : List Nat} {H : LHeap} (hnl : l.length = nl) (hm : o.length = m) (h62 : nl ≤ 62) (hs : Sl 8 H al (l.flatMap CallD.cells)) (ho : Sl 1 H ao (o.map fun i : Nat => i64 (i : Int))) (hol : m ≤ 900) (hcap : nl ≤ ncap) (hc : cap ≤ 9223372036854775807) :
    callE T 13 lim [.slice al nl ncap, .slice ao m oc, i64 cap, i64 mode] H fun v H' => v = .bool (validF l o cap mode) ∧ H' = H := by
  subst hnl hm; exact valid_ev h62 hs ho hol hcap hc
theorem fifo_at {lim ncap nl : Nat} {cap mode : Int} {al : Option Addr} {l : List CallD} {H : LHeap} (hnl : l.length = nl) (hl : lim ≤ H.length) (hs : Sl 8 H al (l.flatMap CallD.cells)) (hcap : nl ≤ ncap) (hc : cap ≤ 9223372036854775807) :
    callE T 10 lim [.slice al nl ncap, i64 cap, i64 mode] H fun v H' => ∃ t, H' = H ++ t ∧ SchRes (H ++ t) lim (searchF l (stepM cap l mode)) v := by
  subst hnl; exact fifo_ev hl hs hcap hc
set_option maxHeartbeats 4000000 in
theorem linplayed_ev {lim ncap : Nat} {cap at_ : Int} {al : Option Addr} {l : List (BitVec 64)} {H : LHeap} (hs : Sl 1 H al (l.map w64)) (ha : -9223372036854775808 ≤ at_ ∧ at_ ≤ 9223372036854775807) :
    callE T 7 lim [i64 cap, .slice al l.length ncap, i64 at_] H fun v H' => v = .bool true := by
  refine callE_pop rfl (by simp) rfl ?_
  simp -dsimp only [go_sem, Nat.reduceEqDiff, Nat.reduceAdd, Nat.reduceSub, Nat.reduceMul, Nat.reduceLeDiff, Nat.reduceLT, Nat.reduceBEq, Int.reduceLT, Int.reduceLE, Int.reduceGT, Int.reduceGE, Int.reduceEq, Int.reduceNe, Int.reduceBEq, Int.reduceBNe, Int.reduceAdd, Int.reduceSub, Int.reduceMul, Int.reduceToNat, Int.reduceNeg, ↓reduceIte, ↓reduceDIte]
  have hb7 : IntKind.i64.wrap ((BitVec.ofInt IntKind.i64.bits cap &&& BitVec.ofInt IntKind.i64.bits 7).toNat : Int) ≤ 9223372036854775807 := by
    have : (BitVec.ofInt IntKind.i64.bits cap &&& BitVec.ofInt IntKind.i64.bits 7).toNat ≤ 7 := by rw [BitVec.toNat_and]; exact Nat.and_le_right
    rw [wrap_i64 (by omega) (by omega)]; omega
  generalize IntKind.i64.wrap ((BitVec.ofInt IntKind.i64.bits cap &&& BitVec.ofInt IntKind.i64.bits 7).toNat : Int) = cp at hb7 ⊢
  refine CT_of (played_ev (cap := cp) (by simp) hs) ?_
  rintro _ _ ⟨n, a1, t1, hn, rfl, rfl, h1⟩
  have hnl : n ≤ l.length := by omega
  have h40 : n ≤ 40 := by omega
  have hlen := (playS_len (cap := cp) n hnl).1
  have hse := play_search (cap := cp) hnl (by omega)
  have hva := play_valid (cap := cp) hnl (by omega)
  have hbad := fun k ck => bad_valid (cap := cp) (k := k) (ck := ck) hnl (by omega)
  have hmeet := fun k ck => meet_search (cap := cp) (k := k) (ck := ck) hnl (by omega)
  generalize hC : (playS cp (l.take n)).1 = C at h1 hlen hse hva hbad hmeet
  subst hlen
  simp -dsimp only [go_sem, Nat.reduceEqDiff, Nat.reduceAdd, Nat.reduceSub, Nat.reduceMul, Nat.reduceLeDiff, Nat.reduceLT, Nat.reduceBEq, Int.reduceLT, Int.reduceLE, Int.reduceGT, Int.reduceGE, Int.reduceEq, Int.reduceNe, Int.reduceBEq, Int.reduceBNe, Int.reduceAdd, Int.reduceSub, Int.reduceMul, Int.reduceToNat, Int.reduceNeg, ↓reduceIte, ↓reduceDIte]
  refine CT_of (fifo_ev (l := C) (mode := 0) (by simp) h1 (Nat.le_refl _) hb7) ?_
  rintro _ _ ⟨t2, rfl, hm⟩
  obtain ⟨a2, oc2, rfl, ho2⟩ := sch_cases hm
  rw [hse] at ho2 ⊢
  simp only [Option.getD_some, List.length_range'] at ho2 ⊢
  have h2 : Sl 8 (H ++ (t1 ++ t2)) a1 (C.flatMap CallD.cells) := by simpa using h1.app t2
  rw [List.append_assoc] at ho2
  have e1 : ((C.length : Int) != (C.length : Int)) = false := by simp
  simp -dsimp only [go_sem, Nat.reduceEqDiff, Nat.reduceAdd, Nat.reduceSub, Nat.reduceMul, Nat.reduceLeDiff, Nat.reduceLT, Nat.reduceBEq, Int.reduceLT, Int.reduceLE, Int.reduceGT, Int.reduceGE, Int.reduceEq, Int.reduceNe, Int.reduceBEq, Int.reduceBNe, Int.reduceAdd, Int.reduceSub, Int.reduceMul, Int.reduceToNat, Int.reduceNeg, ↓reduceIte, ↓reduceDIte, Option.isSome_some, e1]
  refine CT_val (valid_at (l := C) (o := List.range' 0 C.length) (cap := cp) (mode := 0) rfl (by simp) (by omega) h2 ho2.sl (by omega) (Nat.le_refl _) hb7) ?_
  rw [hva]
  simp -dsimp only [go_sem, Nat.reduceEqDiff, Nat.reduceAdd, Nat.reduceSub, Nat.reduceMul, Nat.reduceLeDiff, Nat.reduceLT, Nat.reduceBEq, Int.reduceLT, Int.reduceLE, Int.reduceGT, Int.reduceGE, Int.reduceEq, Int.reduceNe, Int.reduceBEq, Int.reduceBNe, Int.reduceAdd, Int.reduceSub, Int.reduceMul, Int.reduceToNat, Int.reduceNeg, ↓reduceIte, ↓reduceDIte]
  have s2 := ho2.sl
  generalize hHH : H ++ (t1 ++ t2) = K at h2 s2 ⊢
  have hHK : H.length ≤ K.length := by rw [← hHH]; simp
  refine LT_of (fun i : Nat => [(0, i64 cp), (2, i64 at_), (7, .slice a1 C.length C.length), (8, .slice a2 C.length oc2), (10, i64 i)]) (fun _ => K) (fun i => i ≤ C.length) (fun i => C.length - i) 0 (by simp) (by simp) (by simp) ?_
  intro i hi
  by_cases hlt : i < C.length
  · have k1 : (i : Int) < C.length := by omega
    have k3 : 0 ≤ (i : Int) := by omega
    have hw : IntKind.i64.wrap ((i : Int) + 1) = ((i + 1 : Nat) : Int) := by rw [wrap_i64] <;> omega
    obtain ⟨b2, o2, rfl, _, g2⟩ := s2.all (by simp; omega)
    have q2 := g2 [] i (i64 (i : Int)) (by simp [hlt])
    rw [List.append_nil] at q2
    have e3 : ((i : Int) != (i : Int)) = false := by simp
    simp -dsimp only [go_sem, Nat.reduceEqDiff, Nat.reduceAdd, Nat.reduceSub, Nat.reduceMul, Nat.reduceLeDiff, Nat.reduceLT, Nat.reduceBEq, Int.reduceLT, Int.reduceLE, Int.reduceGT, Int.reduceGE, Int.reduceEq, Int.reduceNe, Int.reduceBEq, Int.reduceBNe, Int.reduceAdd, Int.reduceSub, Int.reduceMul, Int.reduceToNat, Int.reduceNeg, ↓reduceIte, ↓reduceDIte, k1, k3, q2, e3, hw]
    exact ⟨i + 1, rfl, by omega, by omega⟩
  · have k1 : ¬ (i : Int) < C.length := by omega
    by_cases hz : C.length = 0
    · have e4 : ((C.length : Int) == 0) = true := by simp [hz]
      simp -dsimp only [go_sem, Nat.reduceEqDiff, Nat.reduceAdd, Nat.reduceSub, Nat.reduceMul, Nat.reduceLeDiff, Nat.reduceLT, Nat.reduceBEq, Int.reduceLT, Int.reduceLE, Int.reduceGT, Int.reduceGE, Int.reduceEq, Int.reduceNe, Int.reduceBEq, Int.reduceBNe, Int.reduceAdd, Int.reduceSub, Int.reduceMul, Int.reduceToNat, Int.reduceNeg, ↓reduceIte, ↓reduceDIte, k1, e4]
      refine CT_val one_at ?_
      simp -dsimp only [go_sem, Nat.reduceEqDiff, Nat.reduceAdd, Nat.reduceSub, Nat.reduceMul, Nat.reduceLeDiff, Nat.reduceLT, Nat.reduceBEq, Int.reduceLT, Int.reduceLE, Int.reduceGT, Int.reduceGE, Int.reduceEq, Int.reduceNe, Int.reduceBEq, Int.reduceBNe, Int.reduceAdd, Int.reduceSub, Int.reduceMul, Int.reduceToNat, Int.reduceNeg, ↓reduceIte, ↓reduceDIte]
    · have e4 : ((C.length : Int) == 0) = false := by rw [beq_eq_false_iff_ne]; omega
      have e5 : ¬ ((C.length : Int) = 0) := by omega
      obtain ⟨k, hkk, hkn⟩ : ∃ k : Nat, (IntKind.i64.wrap (at_.tmod (C.length : Int) + (C.length : Int))).tmod (C.length : Int) = (k : Int) ∧ k < C.length := by
        have h1 := Int.tmod_lt_of_pos at_ (show (0 : Int) < C.length by omega)
        have h2 := Int.lt_tmod_of_pos at_ (show (0 : Int) < C.length by omega)
        rw [wrap_i64 (by omega) (by omega)]
        have h3 := Int.tmod_nonneg (b := (C.length : Int)) (a := at_.tmod (C.length : Int) + (C.length : Int)) (by omega)
        have h4 := Int.tmod_lt_of_pos (at_.tmod (C.length : Int) + (C.length : Int)) (show (0 : Int) < C.length by omega)
        exact ⟨((at_.tmod (C.length : Int) + (C.length : Int)).tmod (C.length : Int)).toNat, by omega, by omega⟩
      have hck : C[k]? = some (C[k]'hkn) := List.getElem?_eq_getElem _
      generalize C[k]'hkn = c at hck
      have m1 : (k : Int) < C.length := by omega
      have m3 : 0 ≤ (k : Int) := by omega
      have hsrc := fun t' => (h2.app t').src (m := 8) (n := C.length) (cap := C.length) (by omega) (by rw [flat_len CallD.len])
      have hone := cells_oneD C
      have n1 : C.length * 64 ≤ 140737488355328 := by omega
      have n2 : C.length ≤ 140737488355328 := by omega
      have f0 := flat_get (j := 0) (by omega) hck
      have f1 := flat_get (j := 1) (by omega) hck
      have f3 := flat_get (j := 3) (by omega) hck
      have f4 := flat_get (j := 4) (by omega) hck
      have f6 := flat_get (j := 6) (by omega) hck
      have f7 := flat_get (j := 7) (by omega) hck
      simp only [CallD.cells, List.getElem?_cons_zero, List.getElem?_cons_succ, Nat.add_zero] at f0 f1 f3 f4 f6 f7
      simp -dsimp only [go_sem, Nat.reduceEqDiff, Nat.reduceAdd, Nat.reduceSub, Nat.reduceMul, Nat.reduceLeDiff, Nat.reduceLT, Nat.reduceBEq, Int.reduceLT, Int.reduceLE, Int.reduceGT, Int.reduceGE, Int.reduceEq, Int.reduceNe, Int.reduceBEq, Int.reduceBNe, Int.reduceAdd, Int.reduceSub, Int.reduceMul, Int.reduceToNat, Int.reduceNeg, ↓reduceIte, ↓reduceDIte, k1, e4, e5, hkk, hsrc, hone, n1, n2, hHK, m1, m3, f1, f6, take_app_n, get_app_n, get_app_n0, set_app_n, set_app_n0, lget_app_n, lget_app_n0, lcells_app_n, lcells_app_n0, List.length_set, List.take_of_length_le, List.set_set, get_left, set_left, lget_left, lcells_left, get_set_eq, get_set_ne, lget_set_eq, lget_set_ne, lcells_set_ne]
      have fl : (C.flatMap CallD.cells).length = C.length * 8 := flat_len CallD.len C
      have w0 : k * 8 + 1 ≤ C.length * 8 := by omega
      have w3 : k * 8 + 3 + 1 ≤ C.length * 8 := by omega
      have w4 : k * 8 + 4 + 1 ≤ C.length * 8 := by omega
      have w7 : k * 8 + 7 + 1 ≤ C.length * 8 := by omega
      obtain ⟨x, hx, hxn, hcx⟩ := play_get (cap := cp) (n := C.length) hnl (i := k) (c := c) (by rw [hC]; exact hck)
      have hfr : c.fr = 2 * (k : Int) := by rw [hcx]; rfl
      have hto : c.to = 2 * (k : Int) + 1 := by rw [hcx]; rfl
      have u3 : IntKind.i64.wrap (c.fr - 3) = c.fr - 3 := by rw [wrap_i64] <;> omega
      have u4 : IntKind.i64.wrap (c.to + 4) = c.to + 4 := by rw [wrap_i64] <;> omega
      have q3 : ((C.flatMap CallD.cells).set (k * 8) (Value.int IntKind.i64 60))[k * 8 + 3]? = some (i64 c.fr) := by
        rw [List.getElem?_set_ne (by omega)]; exact f3
      have q4 : ∀ v, (((C.flatMap CallD.cells).set (k * 8) (Value.int IntKind.i64 60)).set (k * 8 + 3) v)[k * 8 + 4]? = some (i64 c.to) := fun v => by
        rw [List.getElem?_set_ne (by omega), List.getElem?_set_ne (by omega)]; exact f4
      have hms : (((C.flatMap CallD.cells).set (k * 8) (Value.int IntKind.i64 60)).set (k * 8 + 3) (Value.int IntKind.i64 (if 0 < c.fr - 3 then c.fr - 3 else 0))).set (k * 8 + 4) (Value.int IntKind.i64 (c.to + 4)) = (C.set k (meetC c)).flatMap CallD.cells := by
        have p1 := flat_put (j := 0) (v := i64 60) (c' := { c with th := 60 }) (by omega) hck rfl
        have hk1' : (C.set k { c with th := 60 })[k]? = some { c with th := 60 } := List.getElem?_set_self hkn
        have p2 := flat_put (j := 3) (v := i64 (if 0 < c.fr - 3 then c.fr - 3 else 0)) (c' := { c with th := 60, fr := if 0 < c.fr - 3 then c.fr - 3 else 0 }) (by omega) hk1' rfl
        rw [List.set_set] at p2
        have hk2' : (C.set k { c with th := 60, fr := if 0 < c.fr - 3 then c.fr - 3 else 0 })[k]? = some { c with th := 60, fr := if 0 < c.fr - 3 then c.fr - 3 else 0 } := List.getElem?_set_self hkn
        have p3 := flat_put (j := 4) (v := i64 (c.to + 4)) (c' := { c with th := 60, fr := if 0 < c.fr - 3 then c.fr - 3 else 0, to := c.to + 4 }) (by omega) hk2' rfl
        rw [List.set_set] at p3
        rw [Nat.add_zero] at p1
        rw [p1, p2, p3]
        congr 2
        have : (if 0 < c.fr - 3 then c.fr - 3 else 0) = if c.fr - 3 < 0 then 0 else c.fr - 3 := by split <;> split <;> omega
        rw [this]; rfl
      have hm8 : ∀ X Y, Sl 8 (K ++ (.dead :: X :: .dead :: .row false 8 ((C.set k (meetC c)).flatMap CallD.cells) :: Y)) (some ⟨K.length + 3, 0, none⟩) ((C.set k (meetC c)).flatMap CallD.cells) := fun X Y => Sl.row (ro := false) (by rw [get_app]; rfl)
      have hml : (C.set k (meetC c)).length = C.length := by simp
      obtain ⟨r, hr1, hr2⟩ := hmeet k c hck
      have hrl := search_len (l := C.set k (meetC c)) (stp := stepM cp (C.set k (meetC c)) 0)
      rw [hr1] at hrl
      simp only [Option.getD_some] at hrl
      by_cases hk1 : c.kind = 1
      · have e6 : (c.kind == 1) = true := by simpa using hk1
        by_cases hc0 : c.code = 0
        · have e7 : (c.code == 0) = true := by simpa using hc0
          simp -dsimp only [go_sem, Nat.reduceEqDiff, Nat.reduceAdd, Nat.reduceSub, Nat.reduceMul, Nat.reduceLeDiff, Nat.reduceLT, Nat.reduceBEq, Int.reduceLT, Int.reduceLE, Int.reduceGT, Int.reduceGE, Int.reduceEq, Int.reduceNe, Int.reduceBEq, Int.reduceBNe, Int.reduceAdd, Int.reduceSub, Int.reduceMul, Int.reduceToNat, Int.reduceNeg, ↓reduceIte, ↓reduceDIte, e6, e7, m1, m3, f6, f7, fl, w7, hHK, List.length_set, take_app_n, get_app_n, get_app_n0, set_app_n, set_app_n0, lget_app_n, lget_app_n0, lcells_app_n, lcells_app_n0, List.length_set, List.take_of_length_le, List.set_set, get_left, set_left, lget_left, lcells_left, get_set_eq, get_set_ne, lget_set_eq, lget_set_ne, lcells_set_ne]
          have hps : (C.flatMap CallD.cells).set (k * 8 + 7) (w64 (c.ret ^^^ 2#64)) = (C.set k { c with ret := c.ret ^^^ 2#64 }).flatMap CallD.cells := flat_put (by omega) hck rfl
          rw [hps]
          refine CT_val (valid_at (l := C.set k { c with ret := c.ret ^^^ 2#64 }) (o := List.range' 0 C.length) (cap := cp) (mode := 0) (by simp) (by simp) (by omega) (Sl.row (ro := false) (by rw [get_app]; rfl)) (s2.app _) (by omega) (Nat.le_refl _) hb7) ?_
          rw [hbad k c hck]
          simp -dsimp only [go_sem, Nat.reduceEqDiff, Nat.reduceAdd, Nat.reduceSub, Nat.reduceMul, Nat.reduceLeDiff, Nat.reduceLT, Nat.reduceBEq, Int.reduceLT, Int.reduceLE, Int.reduceGT, Int.reduceGE, Int.reduceEq, Int.reduceNe, Int.reduceBEq, Int.reduceBNe, Int.reduceAdd, Int.reduceSub, Int.reduceMul, Int.reduceToNat, Int.reduceNeg, ↓reduceIte, ↓reduceDIte, m1, m3, hsrc, hone, n1, n2, hHK, f0, q3, q4, fl, w0, w3, w4, u3, u4, List.length_set, take_app_n, get_app_n, get_app_n0, set_app_n, set_app_n0, lget_app_n, lget_app_n0, lcells_app_n, lcells_app_n0, List.length_set, List.take_of_length_le, List.set_set, get_left, set_left, lget_left, lcells_left, get_set_eq, get_set_ne, lget_set_eq, lget_set_ne, lcells_set_ne]
          rw [hms]
          refine CT_of (fifo_at (l := C.set k (meetC c)) (mode := 0) hml (by simp; omega) (hm8 _ []) (Nat.le_refl _) hb7) ?_
          rintro _ _ ⟨t5, rfl, hm5⟩
          obtain ⟨a5, oc5, rfl, ho5⟩ := sch_cases hm5
          rw [hr1] at ho5 ⊢
          simp only [Option.getD_some] at ho5 ⊢
          simp -dsimp only [go_sem, Nat.reduceEqDiff, Nat.reduceAdd, Nat.reduceSub, Nat.reduceMul, Nat.reduceLeDiff, Nat.reduceLT, Nat.reduceBEq, Int.reduceLT, Int.reduceLE, Int.reduceGT, Int.reduceGE, Int.reduceEq, Int.reduceNe, Int.reduceBEq, Int.reduceBNe, Int.reduceAdd, Int.reduceSub, Int.reduceMul, Int.reduceToNat, Int.reduceNeg, ↓reduceIte, ↓reduceDIte, Option.isSome_some]
          refine CT_val (valid_at (l := C.set k (meetC c)) (o := r) (cap := cp) (mode := 0) hml rfl (by omega) (hm8 _ t5) (by simpa using ho5.sl) (by omega) (Nat.le_refl _) hb7) ?_
          rw [hr2]
          simp -dsimp only [go_sem, Nat.reduceEqDiff, Nat.reduceAdd, Nat.reduceSub, Nat.reduceMul, Nat.reduceLeDiff, Nat.reduceLT, Nat.reduceBEq, Int.reduceLT, Int.reduceLE, Int.reduceGT, Int.reduceGE, Int.reduceEq, Int.reduceNe, Int.reduceBEq, Int.reduceBNe, Int.reduceAdd, Int.reduceSub, Int.reduceMul, Int.reduceToNat, Int.reduceNeg, ↓reduceIte, ↓reduceDIte]
          refine CT_val one_at ?_
          simp -dsimp only [go_sem, Nat.reduceEqDiff, Nat.reduceAdd, Nat.reduceSub, Nat.reduceMul, Nat.reduceLeDiff, Nat.reduceLT, Nat.reduceBEq, Int.reduceLT, Int.reduceLE, Int.reduceGT, Int.reduceGE, Int.reduceEq, Int.reduceNe, Int.reduceBEq, Int.reduceBNe, Int.reduceAdd, Int.reduceSub, Int.reduceMul, Int.reduceToNat, Int.reduceNeg, ↓reduceIte, ↓reduceDIte]
        · have e7 : (c.code == 0) = false := by simpa using hc0
          simp -dsimp only [go_sem, Nat.reduceEqDiff, Nat.reduceAdd, Nat.reduceSub, Nat.reduceMul, Nat.reduceLeDiff, Nat.reduceLT, Nat.reduceBEq, Int.reduceLT, Int.reduceLE, Int.reduceGT, Int.reduceGE, Int.reduceEq, Int.reduceNe, Int.reduceBEq, Int.reduceBNe, Int.reduceAdd, Int.reduceSub, Int.reduceMul, Int.reduceToNat, Int.reduceNeg, ↓reduceIte, ↓reduceDIte, e6, e7, m1, m3, f6, hsrc, hone, n1, n2, hHK, f0, q3, q4, fl, w0, w3, w4, u3, u4, List.length_set, take_app_n, get_app_n, get_app_n0, set_app_n, set_app_n0, lget_app_n, lget_app_n0, lcells_app_n, lcells_app_n0, List.length_set, List.take_of_length_le, List.set_set, get_left, set_left, lget_left, lcells_left, get_set_eq, get_set_ne, lget_set_eq, lget_set_ne, lcells_set_ne]
          rw [hms]
          refine CT_of (fifo_at (l := C.set k (meetC c)) (mode := 0) hml (by simp; omega) (hm8 _ []) (Nat.le_refl _) hb7) ?_
          rintro _ _ ⟨t5, rfl, hm5⟩
          obtain ⟨a5, oc5, rfl, ho5⟩ := sch_cases hm5
          rw [hr1] at ho5 ⊢
          simp only [Option.getD_some] at ho5 ⊢
          simp -dsimp only [go_sem, Nat.reduceEqDiff, Nat.reduceAdd, Nat.reduceSub, Nat.reduceMul, Nat.reduceLeDiff, Nat.reduceLT, Nat.reduceBEq, Int.reduceLT, Int.reduceLE, Int.reduceGT, Int.reduceGE, Int.reduceEq, Int.reduceNe, Int.reduceBEq, Int.reduceBNe, Int.reduceAdd, Int.reduceSub, Int.reduceMul, Int.reduceToNat, Int.reduceNeg, ↓reduceIte, ↓reduceDIte, Option.isSome_some]
          refine CT_val (valid_at (l := C.set k (meetC c)) (o := r) (cap := cp) (mode := 0) hml rfl (by omega) (hm8 _ t5) (by simpa using ho5.sl) (by omega) (Nat.le_refl _) hb7) ?_
          rw [hr2]
          simp -dsimp only [go_sem, Nat.reduceEqDiff, Nat.reduceAdd, Nat.reduceSub, Nat.reduceMul, Nat.reduceLeDiff, Nat.reduceLT, Nat.reduceBEq, Int.reduceLT, Int.reduceLE, Int.reduceGT, Int.reduceGE, Int.reduceEq, Int.reduceNe, Int.reduceBEq, Int.reduceBNe, Int.reduceAdd, Int.reduceSub, Int.reduceMul, Int.reduceToNat, Int.reduceNeg, ↓reduceIte, ↓reduceDIte]
          refine CT_val one_at ?_
          simp -dsimp only [go_sem, Nat.reduceEqDiff, Nat.reduceAdd, Nat.reduceSub, Nat.reduceMul, Nat.reduceLeDiff, Nat.reduceLT, Nat.reduceBEq, Int.reduceLT, Int.reduceLE, Int.reduceGT, Int.reduceGE, Int.reduceEq, Int.reduceNe, Int.reduceBEq, Int.reduceBNe, Int.reduceAdd, Int.reduceSub, Int.reduceMul, Int.reduceToNat, Int.reduceNeg, ↓reduceIte, ↓reduceDIte]
      · have e6 : (c.kind == 1) = false := by simpa using hk1
        simp -dsimp only [go_sem, Nat.reduceEqDiff, Nat.reduceAdd, Nat.reduceSub, Nat.reduceMul, Nat.reduceLeDiff, Nat.reduceLT, Nat.reduceBEq, Int.reduceLT, Int.reduceLE, Int.reduceGT, Int.reduceGE, Int.reduceEq, Int.reduceNe, Int.reduceBEq, Int.reduceBNe, Int.reduceAdd, Int.reduceSub, Int.reduceMul, Int.reduceToNat, Int.reduceNeg, ↓reduceIte, ↓reduceDIte, e6, m1, m3, hsrc, hone, n1, n2, hHK, f0, q3, q4, fl, w0, w3, w4, u3, u4, List.length_set, take_app_n, get_app_n, get_app_n0, set_app_n, set_app_n0, lget_app_n, lget_app_n0, lcells_app_n, lcells_app_n0, List.length_set, List.take_of_length_le, List.set_set, get_left, set_left, lget_left, lcells_left, get_set_eq, get_set_ne, lget_set_eq, lget_set_ne, lcells_set_ne]
        rw [hms]
        refine CT_of (fifo_at (l := C.set k (meetC c)) (mode := 0) hml (by simp; omega) (hm8 _ []) (Nat.le_refl _) hb7) ?_
        rintro _ _ ⟨t5, rfl, hm5⟩
        obtain ⟨a5, oc5, rfl, ho5⟩ := sch_cases hm5
        rw [hr1] at ho5 ⊢
        simp only [Option.getD_some] at ho5 ⊢
        simp -dsimp only [go_sem, Nat.reduceEqDiff, Nat.reduceAdd, Nat.reduceSub, Nat.reduceMul, Nat.reduceLeDiff, Nat.reduceLT, Nat.reduceBEq, Int.reduceLT, Int.reduceLE, Int.reduceGT, Int.reduceGE, Int.reduceEq, Int.reduceNe, Int.reduceBEq, Int.reduceBNe, Int.reduceAdd, Int.reduceSub, Int.reduceMul, Int.reduceToNat, Int.reduceNeg, ↓reduceIte, ↓reduceDIte, Option.isSome_some]
        refine CT_val (valid_at (l := C.set k (meetC c)) (o := r) (cap := cp) (mode := 0) hml rfl (by omega) (hm8 _ t5) (by simpa using ho5.sl) (by omega) (Nat.le_refl _) hb7) ?_
        rw [hr2]
        simp -dsimp only [go_sem, Nat.reduceEqDiff, Nat.reduceAdd, Nat.reduceSub, Nat.reduceMul, Nat.reduceLeDiff, Nat.reduceLT, Nat.reduceBEq, Int.reduceLT, Int.reduceLE, Int.reduceGT, Int.reduceGE, Int.reduceEq, Int.reduceNe, Int.reduceBEq, Int.reduceBNe, Int.reduceAdd, Int.reduceSub, Int.reduceMul, Int.reduceToNat, Int.reduceNeg, ↓reduceIte, ↓reduceDIte]
        refine CT_val one_at ?_
        simp -dsimp only [go_sem, Nat.reduceEqDiff, Nat.reduceAdd, Nat.reduceSub, Nat.reduceMul, Nat.reduceLeDiff, Nat.reduceLT, Nat.reduceBEq, Int.reduceLT, Int.reduceLE, Int.reduceGT, Int.reduceGE, Int.reduceEq, Int.reduceNe, Int.reduceBEq, Int.reduceBNe, Int.reduceAdd, Int.reduceSub, Int.reduceMul, Int.reduceToNat, Int.reduceNeg, ↓reduceIte, ↓reduceDIte]
end Go.Proofs.Ytfobpjjpaehhpaa
