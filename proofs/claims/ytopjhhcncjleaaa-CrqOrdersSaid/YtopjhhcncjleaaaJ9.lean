/- DROP The search of calls, worked out. -/
import Derived.Test.YtopjhhcncjleaaaJ7
namespace Go.Proofs.Ytopjhhcncjleaaa
open Go Go.LK
set_option linter.unusedSimpArgs false
set_option linter.unusedVariables false
/-- What is ahead of a call, of the first so many; and which of them are done. -/
def aheadTo (l : List CallD) (c : CallD) (i : Nat) : Nat → BitVec 64
  | 0 => 0#64
  | k + 1 => match l[k]? with
    | some o => if k ≠ i ∧ aheadF o c = true then withB (aheadTo l c i k) k else aheadTo l c i k
    | none => aheadTo l c i k
def doneTo (l : List CallD) : Nat → BitVec 64
  | 0 => 0#64
  | k + 1 => match l[k]? with
    | some o => if o.dn = true then withB (doneTo l k) k else doneTo l k
    | none => doneTo l k
def ahB (l : List CallD) (i : Nat) : BitVec 64 := match l[i]? with
  | some c => aheadTo l c i l.length
  | none => 0#64
abbrev Queue := List (BitVec 64)
def prob (l : List CallD) (stp : Queue → Nat → Option Queue) : Prob Queue := { n := l.length, ah := ahB l, done := doneTo l l.length, step := stp }
def searchF (l : List CallD) (stp : Queue → Nat → Option Queue) : Option (List Nat) :=
  if l.length ≤ 62 ∧ rightL l = true then (prob l stp).fnd 0#64 [] else none
def SchRes (H' : LHeap) (n : Nat) (o : Option (List Nat)) (v : Value) : Prop :=
  match o with
  | some r => ∃ a' oc, v = .tuple #[.slice a' r.length oc, .bool true] ∧ OrdAt n H' a' oc r
  | none => v = .tuple #[.slice none 0 0, .bool false]
/-- What a search is given by its caller. -/
structure Given0 (cap : Int) (n : Nat) (stp : Queue → Nat → Option Queue) (E : List (Nat × LObj)) (sk kk : FuncId) (sc kc : List Value) : Prop where
  step : ∀ H lim, Has E H → lim ≤ H.length → ∀ b s (i : Nat), i < n → Sl 1 H b (s.map w64) → s.length < 1000 → callE T sk lim ([fifo cap b s.length, i64 i] ++ sc) H fun v H2 => ∃ t, H2 = H ++ t ∧ MayN (H ++ t) H.length b cap (stp s i) v
  key : ∀ H lim, Has E H → ∀ b s, Sl 1 H b (s.map w64) → s.length < 1000 → callE T kk lim ([fifo cap b s.length] ++ kc) H fun v H2 => v = strV (keyN cap s) ∧ H2 = H
  len : ∀ s i t, stp s i = some t → t.length ≤ s.length + 1
/-- A slice's block. -/
def slE (H : LHeap) (a : Option Addr) : List (Nat × LObj) := match a with
  | some x => match H[x.block]? with
    | some o => [(x.block, o)]
    | none => []
  | none => []
theorem slE_has (H : LHeap) (a : Option Addr) : Has (slE H a) H := by
  intro x hx
  unfold slE at hx
  split at hx
  · split at hx
    · rename_i h
      simp only [List.mem_singleton] at hx
      subst hx; exact h
    · cases hx
  · cases hx
theorem slE_at {H H' : LHeap} {m : Nat} {a : Option Addr} {c : List Value} (h : Sl m H a c) (g : Has (slE H a) H') : Sl m H' a c := by
  rcases h with h | ⟨b, o, ro, es, cc, rfl, h1, h2⟩
  · exact .inl h
  · refine .inr ⟨b, o, ro, es, cc, rfl, g (b, _) ?_, h2⟩
    simp [slE, h1]
theorem slE_blk {H : LHeap} {a : Option Addr} {x : Nat × LObj} (h : x ∈ slE H a) : ∃ y, a = some y ∧ y.block = x.1 ∧ H[x.1]? = some x.2 := by
  have h0 := slE_has H a x h
  unfold slE at h
  split at h
  · split at h
    · simp only [List.mem_singleton] at h
      subst h; exact ⟨_, rfl, rfl, h0⟩
    · cases h
  · cases h
theorem back {H H' : LHeap} (h1 : H.length ≤ H'.length) (h2 : ∀ j, j < H.length → H'[j]? = H[j]?) : H' = H ++ H'.drop H.length := by
  conv => lhs; rw [← List.take_append_drop H.length H']
  congr 1
  refine List.ext_getElem? fun j => ?_
  rw [List.getElem?_take]
  split
  · exact h2 j (by assumption)
  · rw [List.getElem?_eq_none (by omega)]
set_option maxHeartbeats 4000000 in
theorem search_ev {lim ncap : Nat} {cap : Int} {al : Option Addr} {l : List CallD} {stp : Queue → Nat → Option Queue} {E0 : List (Nat × LObj)} {sk kk : FuncId} {sc kc : List Value} {H : LHeap} (hl : lim ≤ H.length) (hs : Sl 8 H al (l.flatMap CallD.cells)) (hcap : l.length ≤ ncap) (hE0 : Has E0 H) (hG0 : l.length ≤ 62 → Given0 cap l.length stp E0 sk kk sc kc) :
    callE T 64 lim [.slice al l.length ncap, fifo cap none 0, .func (.func sk) #[] sc.toArray, .func (.func kk) #[] kc.toArray] H fun v H' => ∃ t, H' = H ++ t ∧ SchRes (H ++ t) lim (searchF l stp) v := by
  refine callE_stay rfl (by simp) rfl ?_
  by_cases h62 : l.length ≤ 62
  · have hG := hG0 h62
    have k1 : ¬ (62 < (l.length : Int)) := by omega
    simp -dsimp only [go_sem, Nat.reduceEqDiff, Nat.reduceAdd, Nat.reduceSub, Nat.reduceMul, Nat.reduceLeDiff, Nat.reduceLT, Nat.reduceBEq, Int.reduceLT, Int.reduceLE, Int.reduceGT, Int.reduceGE, Int.reduceEq, Int.reduceNe, Int.reduceBEq, Int.reduceBNe, Int.reduceAdd, Int.reduceSub, Int.reduceMul, Int.reduceToNat, Int.reduceNeg, ↓reduceIte, ↓reduceDIte, k1]
    refine CT_val (right_cap hcap (hs.app _)) ?_
    cases hr : rightL l
    · simp -dsimp only [go_sem, Nat.reduceEqDiff, Nat.reduceAdd, Nat.reduceSub, Nat.reduceMul, Nat.reduceLeDiff, Nat.reduceLT, Nat.reduceBEq, Int.reduceLT, Int.reduceLE, Int.reduceGT, Int.reduceGE, Int.reduceEq, Int.reduceNe, Int.reduceBEq, Int.reduceBNe, Int.reduceAdd, Int.reduceSub, Int.reduceMul, Int.reduceToNat, Int.reduceNeg, ↓reduceIte, ↓reduceDIte]
      refine ⟨_, rfl, ?_⟩
      simp [searchF, hr, SchRes]
    · simp -dsimp only [go_sem, Nat.reduceEqDiff, Nat.reduceAdd, Nat.reduceSub, Nat.reduceMul, Nat.reduceLeDiff, Nat.reduceLT, Nat.reduceBEq, Int.reduceLT, Int.reduceLE, Int.reduceGT, Int.reduceGE, Int.reduceEq, Int.reduceNe, Int.reduceBEq, Int.reduceBNe, Int.reduceAdd, Int.reduceSub, Int.reduceMul, Int.reduceToNat, Int.reduceNeg, ↓reduceIte, ↓reduceDIte]
      refine LT_of (fun x : Nat × Option Addr × LHeap => [(0, .slice al l.length ncap), (5, ptrF H.length), (10, ptrF (H.length + 2)), (30, .slice al l.length ncap), (31, i64 l.length), (32, i64 x.1)]) (fun x => x.2.2)
        (fun x => x.1 ≤ l.length ∧ x.2.2[H.length]? = some (.row false 0 [i64 cap, .slice none 0 0]) ∧ x.2.2[H.length + 1]? = some (.map []) ∧ x.2.2[H.length + 2]? = some (.row false 0 [.slice al l.length ncap, .slice x.2.1 x.1 x.1, w64 (doneTo l x.1), .func (.func sk) #[] sc.toArray, .func (.func kk) #[] kc.toArray, .map (some (H.length + 1)), .slice none 0 0]) ∧ Own 1 x.2.2 (H.length + 3) x.2.1 (((List.range x.1).map (ahB l)).map w64) ∧ ∀ j, j < H.length → x.2.2[j]? = H[j]?) (fun x => l.length - x.1)
        (0, none, H ++ [.row false 0 [i64 cap, .slice none 0 0], .map [], .row false 0 [.slice al l.length ncap, .slice none 0 0, w64 0#64, .func (.func sk) #[] sc.toArray, .func (.func kk) #[] kc.toArray, .map (some (H.length + 1)), .slice none 0 0]]) (by simp) (by simp) ⟨by simp, by simp, by simp, by simp [doneTo], Own.nil _ _ _, fun j hj => get_left hj _⟩ ?_
      rintro ⟨i, aa, K⟩ ⟨hi, hb0, hb1, hb2, ho, hold⟩
      simp only at hi hb0 hb1 hb2 ho hold ⊢
      have hsK : Sl 8 K al (l.flatMap CallD.cells) := by
        rcases hs with h | ⟨b, o, ro, es, cc, rfl, h1, h2⟩
        · exact .inl h
        · exact .inr ⟨b, o, ro, es, cc, rfl, (hold b (List.getElem?_eq_some_iff.1 h1).1).trans h1, h2⟩
      have hlK : H.length + 3 ≤ K.length := by have := (List.getElem?_eq_some_iff.1 hb2).1; omega
      by_cases hlt : i < l.length
      · have h1 : (i : Int) < l.length := by omega
        have h3 : 0 ≤ (i : Int) := by omega
        have k2 : l[i]? = some (l[i]'hlt) := List.getElem?_eq_getElem _
        generalize l[i]'hlt = c at k2
        obtain ⟨ab, ao, hab, hab1, hg⟩ := hsK.rows (f := CallD.cells) CallD.len (by omega) (by omega)
        have gc := hg [] i c k2
        simp only [CallD.cells, List.append_nil] at gc
        have hw : IntKind.i64.wrap ((i : Int) + 1) = ((i + 1 : Nat) : Int) := by rw [wrap_i64] <;> omega
        subst hab
        simp -dsimp only [go_sem, Nat.reduceEqDiff, Nat.reduceAdd, Nat.reduceSub, Nat.reduceMul, Nat.reduceLeDiff, Nat.reduceLT, Nat.reduceBEq, Int.reduceLT, Int.reduceLE, Int.reduceGT, Int.reduceGE, Int.reduceEq, Int.reduceNe, Int.reduceBEq, Int.reduceBNe, Int.reduceAdd, Int.reduceSub, Int.reduceMul, Int.reduceToNat, Int.reduceNeg, ↓reduceIte, ↓reduceDIte, h1, h3, gc, take_app_n, get_app_n, get_app_n0, set_app_n, set_app_n0, lget_app_n, lget_app_n0, lcells_app_n, lcells_app_n0, List.length_set, List.take_of_length_le, List.set_set, get_left, set_left, lget_left, lcells_left, get_set_eq, get_set_ne, lget_set_eq, lget_set_ne, lcells_set_ne]
        refine LT_of (fun x : Nat × LHeap => [(0, .slice (some ⟨ab, ao, none⟩) l.length ncap), (5, ptrF H.length), (10, ptrF (H.length + 2)), (11, i64 i), (12, ptrF K.length), (13, w64 (aheadTo l c i x.1)), (30, .slice (some ⟨ab, ao, none⟩) l.length ncap), (31, i64 l.length), (32, i64 i), (37, .slice (some ⟨ab, ao, none⟩) l.length ncap), (38, i64 l.length), (39, i64 x.1)]) (fun x => K ++ (.row false 0 c.cells :: x.2)) (fun x => x.1 ≤ l.length) (fun x => l.length - x.1)
          (0, []) (by simp [aheadTo]) (by simp [CallD.cells]) (by simp) ?_
        rintro ⟨k, t⟩ hk
        simp only at hk ⊢
        by_cases hkl : k < l.length
        · have m1 : (k : Int) < l.length := by omega
          have m3 : 0 ≤ (k : Int) := by omega
          have k3 : l[k]? = some (l[k]'hkl) := List.getElem?_eq_getElem _
          generalize l[k]'hkl = d at k3
          have gd := fun t => hg t k d k3
          simp only [CallD.cells] at gd
          have mw : IntKind.i64.wrap ((k : Int) + 1) = ((k + 1 : Nat) : Int) := by rw [wrap_i64] <;> omega
          have hah : ∀ b, (decide ((k : Nat) ≠ i) && aheadF d c) = b → aheadTo l c i (k + 1) = if b = true then withB (aheadTo l c i k) k else aheadTo l c i k := by
            intro b hb
            subst hb
            simp [aheadTo, k3]
          by_cases hki : k = i
          · have e1 : ((k : Int) != (i : Int)) = false := by simp [hki]
            have hz := hah false (by simp [hki])
            simp -dsimp only [go_sem, Nat.reduceEqDiff, Nat.reduceAdd, Nat.reduceSub, Nat.reduceMul, Nat.reduceLeDiff, Nat.reduceLT, Nat.reduceBEq, Int.reduceLT, Int.reduceLE, Int.reduceGT, Int.reduceGE, Int.reduceEq, Int.reduceNe, Int.reduceBEq, Int.reduceBNe, Int.reduceAdd, Int.reduceSub, Int.reduceMul, Int.reduceToNat, Int.reduceNeg, ↓reduceIte, ↓reduceDIte, m1, m3, gd, mw, e1, take_app_n, get_app_n, get_app_n0, set_app_n, set_app_n0, lget_app_n, lget_app_n0, lcells_app_n, lcells_app_n0, List.length_set, List.take_of_length_le, List.set_set, get_left, set_left, lget_left, lcells_left, get_set_eq, get_set_ne, lget_set_eq, lget_set_ne, lcells_set_ne]
            exact ⟨(k + 1, _), by rw [hz]; rfl, rfl, by dsimp only; omega, by dsimp only; omega⟩
          · have e1 : ((k : Int) != (i : Int)) = true := by simp; omega
            simp -dsimp only [go_sem, Nat.reduceEqDiff, Nat.reduceAdd, Nat.reduceSub, Nat.reduceMul, Nat.reduceLeDiff, Nat.reduceLT, Nat.reduceBEq, Int.reduceLT, Int.reduceLE, Int.reduceGT, Int.reduceGE, Int.reduceEq, Int.reduceNe, Int.reduceBEq, Int.reduceBNe, Int.reduceAdd, Int.reduceSub, Int.reduceMul, Int.reduceToNat, Int.reduceNeg, ↓reduceIte, ↓reduceDIte, m1, m3, gd, mw, e1, take_app_n, get_app_n, get_app_n0, set_app_n, set_app_n0, lget_app_n, lget_app_n0, lcells_app_n, lcells_app_n0, List.length_set, List.take_of_length_le, List.set_set, get_left, set_left, lget_left, lcells_left, get_set_eq, get_set_ne, lget_set_eq, lget_set_ne, lcells_set_ne, CallD.cells]
            refine CT_val (ahead_ev (a := d) (b := c)) ?_
            cases hac : aheadF d c
            · have hz := hah false (by simp [hac])
              simp -dsimp only [go_sem, Nat.reduceEqDiff, Nat.reduceAdd, Nat.reduceSub, Nat.reduceMul, Nat.reduceLeDiff, Nat.reduceLT, Nat.reduceBEq, Int.reduceLT, Int.reduceLE, Int.reduceGT, Int.reduceGE, Int.reduceEq, Int.reduceNe, Int.reduceBEq, Int.reduceBNe, Int.reduceAdd, Int.reduceSub, Int.reduceMul, Int.reduceToNat, Int.reduceNeg, ↓reduceIte, ↓reduceDIte, mw]
              exact ⟨(k + 1, _), by rw [hz]; rfl, rfl, by dsimp only; omega, by dsimp only; omega⟩
            · have hz := hah true (by simp [hac, hki])
              simp -dsimp only [go_sem, Nat.reduceEqDiff, Nat.reduceAdd, Nat.reduceSub, Nat.reduceMul, Nat.reduceLeDiff, Nat.reduceLT, Nat.reduceBEq, Int.reduceLT, Int.reduceLE, Int.reduceGT, Int.reduceGE, Int.reduceEq, Int.reduceNe, Int.reduceBEq, Int.reduceBNe, Int.reduceAdd, Int.reduceSub, Int.reduceMul, Int.reduceToNat, Int.reduceNeg, ↓reduceIte, ↓reduceDIte]
              refine CT_val (with_ev (by omega)) ?_
              simp -dsimp only [go_sem, Nat.reduceEqDiff, Nat.reduceAdd, Nat.reduceSub, Nat.reduceMul, Nat.reduceLeDiff, Nat.reduceLT, Nat.reduceBEq, Int.reduceLT, Int.reduceLE, Int.reduceGT, Int.reduceGE, Int.reduceEq, Int.reduceNe, Int.reduceBEq, Int.reduceBNe, Int.reduceAdd, Int.reduceSub, Int.reduceMul, Int.reduceToNat, Int.reduceNeg, ↓reduceIte, ↓reduceDIte, mw]
              exact ⟨(k + 1, _), by rw [hz]; rfl, rfl, by dsimp only; omega, by dsimp only; omega⟩
        · have m1 : ¬ (k : Int) < l.length := by omega
          have hkk : k = l.length := by omega
          subst hkk
          have hahi : ahB l i = aheadTo l c i l.length := by simp [ahB, k2]
          rw [← hahi]
          generalize hK1 : K ++ LObj.row false 0 c.cells :: t = K1
          have hlt1 : K.length < K1.length := by rw [← hK1]; simp
          have b0 := get_old hb0 (LObj.row false 0 c.cells :: t)
          rw [hK1] at b0
          have b1 := get_old hb1 (LObj.row false 0 c.cells :: t)
          rw [hK1] at b1
          have b2 := get_old hb2 (LObj.row false 0 c.cells :: t)
          rw [hK1] at b2
          have bc : K1[K.length]? = some (.row false 0 c.cells) := by rw [← hK1]; exact get_app0 _ _
          have ho1 : Own 1 K1 (H.length + 3) aa (((List.range i).map (ahB l)).map w64) := by rw [← hK1]; exact ho.app _
          have q1 : lget K1 (H.length + 2) 1 = some (.slice aa i i) := by rw [lget_at b2]; rfl
          obtain ⟨a2, K3, hap, hO3, hl3, hk3, hf3⟩ := Own.push (ho1.app [.row false 1 [w64 (ahB l i)]]) (lim := lim) (bytes := 8) (k := i) (news := [w64 (ahB l i)]) (by simp) (by omega) (by omega) (by simp; omega) (by omega) (by omega)
          have hoffs : ∀ j, j < H.length + 3 → Off j aa := fun j hj => ho.fresh.off (by omega)
          have hoffK : Off K.length aa := ho.sl.off (Nat.le_refl _)
          have K3at : ∀ j o, K1[j]? = some o → Off j aa → K3[j]? = some o := by
            intro j o h1 h2
            have hj := (List.getElem?_eq_some_iff.1 h1).1
            rw [hk3 j (by simp; omega) h2, get_left hj]; exact h1
          have c0 := K3at _ _ b0 (hoffs _ (by omega))
          have c1 := K3at _ _ b1 (hoffs _ (by omega))
          have c2 := K3at _ _ b2 (hoffs _ (by omega))
          have cc := K3at _ _ bc hoffK
          have hpl3 := (List.getElem?_eq_some_iff.1 c2).1
          have limp : lim ≤ H.length + 2 := by omega
          have hKne : H.length + 2 ≠ K.length := by omega
          have qc : lget K3 K.length 5 = some (.bool c.dn) := by rw [lget_at cc]; rfl
          have hdn : doneTo l (i + 1) = if c.dn = true then withB (doneTo l i) i else doneTo l i := by simp [doneTo, k2]
          have hO : ∀ x, Own 1 (K3.set (H.length + 2) x) (H.length + 3) a2 (((List.range (i + 1)).map (ahB l)).map w64) := by
            intro x
            rw [List.range_succ, List.map_append, List.map_append]
            rcases hO3 with ⟨_, h⟩ | ⟨b, rfl, h2, h3⟩
            · simp at h
            · exact .inr ⟨b, rfl, h2, by rw [get_set_ne (by omega)]; exact h3⟩
          have hold3 : ∀ x j, j < H.length → (K3.set (H.length + 2) x)[j]? = H[j]? := by
            intro x j hj
            rw [get_set_ne (by omega), hk3 j (by simp; omega) (hoffs j (by omega)), get_left (by omega), ← hK1, get_left (by omega)]
            exact hold j hj
          cases hcd : c.dn
          · rw [hcd] at qc
            simp only [hcd, Bool.false_eq_true, if_false] at hdn
            simp -dsimp only [go_sem, Nat.reduceEqDiff, Nat.reduceAdd, Nat.reduceSub, Nat.reduceMul, Nat.reduceLeDiff, Nat.reduceLT, Nat.reduceBEq, Int.reduceLT, Int.reduceLE, Int.reduceGT, Int.reduceGE, Int.reduceEq, Int.reduceNe, Int.reduceBEq, Int.reduceBNe, Int.reduceAdd, Int.reduceSub, Int.reduceMul, Int.reduceToNat, Int.reduceNeg, ↓reduceIte, ↓reduceDIte, m1, q1, hap, c2, cc, qc, hpl3, limp, hKne, hw, take_app_n, get_app_n, get_app_n0, set_app_n, set_app_n0, lget_app_n, lget_app_n0, lcells_app_n, lcells_app_n0, List.length_set, List.take_of_length_le, List.set_set, get_left, set_left, lget_left, lcells_left, get_set_eq, get_set_ne, lget_set_eq, lget_set_ne, lcells_set_ne]
            exact ⟨(i + 1, a2, _), rfl, rfl, ⟨by dsimp only; omega, by rw [get_set_ne (by omega)]; exact c0, by rw [get_set_ne (by omega)]; exact c1, by rw [get_set_eq hpl3, hdn], hO _, hold3 _⟩, by dsimp only; omega⟩
          · rw [hcd] at qc
            simp only [hcd, if_true] at hdn
            simp -dsimp only [go_sem, Nat.reduceEqDiff, Nat.reduceAdd, Nat.reduceSub, Nat.reduceMul, Nat.reduceLeDiff, Nat.reduceLT, Nat.reduceBEq, Int.reduceLT, Int.reduceLE, Int.reduceGT, Int.reduceGE, Int.reduceEq, Int.reduceNe, Int.reduceBEq, Int.reduceBNe, Int.reduceAdd, Int.reduceSub, Int.reduceMul, Int.reduceToNat, Int.reduceNeg, ↓reduceIte, ↓reduceDIte, m1, q1, hap, c2, cc, qc, hpl3, limp, hKne, hw, take_app_n, get_app_n, get_app_n0, set_app_n, set_app_n0, lget_app_n, lget_app_n0, lcells_app_n, lcells_app_n0, List.length_set, List.take_of_length_le, List.set_set, get_left, set_left, lget_left, lcells_left, get_set_eq, get_set_ne, lget_set_eq, lget_set_ne, lcells_set_ne]
            refine CT_val (with_ev (by omega)) ?_
            simp -dsimp only [go_sem, Nat.reduceEqDiff, Nat.reduceAdd, Nat.reduceSub, Nat.reduceMul, Nat.reduceLeDiff, Nat.reduceLT, Nat.reduceBEq, Int.reduceLT, Int.reduceLE, Int.reduceGT, Int.reduceGE, Int.reduceEq, Int.reduceNe, Int.reduceBEq, Int.reduceBNe, Int.reduceAdd, Int.reduceSub, Int.reduceMul, Int.reduceToNat, Int.reduceNeg, ↓reduceIte, ↓reduceDIte, m1, q1, hap, c2, cc, qc, hpl3, limp, hKne, hw, take_app_n, get_app_n, get_app_n0, set_app_n, set_app_n0, lget_app_n, lget_app_n0, lcells_app_n, lcells_app_n0, List.length_set, List.take_of_length_le, List.set_set, get_left, set_left, lget_left, lcells_left, get_set_eq, get_set_ne, lget_set_eq, lget_set_ne, lcells_set_ne]
            exact ⟨(i + 1, a2, _), rfl, rfl, ⟨by dsimp only; omega, by rw [get_set_ne (by omega)]; exact c0, by rw [get_set_ne (by omega)]; exact c1, by rw [get_set_eq hpl3, hdn], hO _, hold3 _⟩, by dsimp only; omega⟩
      · have h1 : ¬ (i : Int) < l.length := by omega
        have hii : i = l.length := by omega
        subst hii
        have q2 : lcells K H.length 0 2 = some [i64 cap, .slice none 0 0] := lcells_of hb0 rfl
        simp -dsimp only [go_sem, Nat.reduceEqDiff, Nat.reduceAdd, Nat.reduceSub, Nat.reduceMul, Nat.reduceLeDiff, Nat.reduceLT, Nat.reduceBEq, Int.reduceLT, Int.reduceLE, Int.reduceGT, Int.reduceGE, Int.reduceEq, Int.reduceNe, Int.reduceBEq, Int.reduceBNe, Int.reduceAdd, Int.reduceSub, Int.reduceMul, Int.reduceToNat, Int.reduceNeg, ↓reduceIte, ↓reduceDIte, h1, q2]
        have hG' : Given cap (prob l stp) (E0 ++ slE K aa) aa sk kk sc kc :=
          ⟨h62, fun H' hE => slE_at (c := ((List.range l.length).map (ahB l)).map w64) ho.sl (fun x hx => hE x (List.mem_append_right _ hx)),
            fun H' lim' hE => hG.step H' lim' (fun x hx => hE x (List.mem_append_left _ hx)),
            fun H' lim' hE => hG.key H' lim' (fun x hx => hE x (List.mem_append_left _ hx)), hG.len⟩
        have hpp : Off (H.length + 2) aa := ho.fresh.off (by omega)
        have hqq : Off (H.length + 1) aa := ho.fresh.off (by omega)
        have hEK : Has (E0 ++ slE K aa) K := by
          intro x hx
          rcases List.mem_append.1 hx with hx | hx
          · have := hE0 x hx
            rw [hold _ (List.getElem?_eq_some_iff.1 this).1]; exact this
          · exact slE_has K aa x hx
        have hOK : OffE (H.length + 2) (H.length + 1) none (E0 ++ slE K aa) := by
          intro x hx
          refine ⟨?_, ?_, fun y hy => by cases hy⟩
          · rcases List.mem_append.1 hx with hx | hx
            · have := (List.getElem?_eq_some_iff.1 (hE0 x hx)).1; omega
            · obtain ⟨y, e1, e2, _⟩ := slE_blk hx
              rw [← e2]; exact hpp y e1
          · rcases List.mem_append.1 hx with hx | hx
            · have := (List.getElem?_eq_some_iff.1 (hE0 x hx)).1; omega
            · obtain ⟨y, e1, e2, _⟩ := slE_blk hx
              rw [← e2]; exact hqq y e1
        have hFK : FI lim cap (prob l stp) (H.length + 2) (H.length + 1) (.slice al l.length ncap) (.slice aa l.length l.length) (.func (.func sk) #[] sc.toArray) (.func (.func kk) #[] kc.toArray) K none 0 [] [] :=
          ⟨hb2, hb1, .inl ⟨rfl, rfl, rfl⟩, by omega, by omega, by omega, (fun x hx => by cases hx), (fun x hx => by cases hx), (fun x hx => by cases hx)⟩
        have hleft : leftN (prob l stp).n 0#64 ≤ 62 := by
          unfold leftN
          exact Nat.le_trans (List.countP_le_length) (by simpa [prob] using h62)
        refine CT_of (find_ev (nl := l.length) (ncap := ncap) (al := al) hG' rfl _ 0#64 [] K none 0 [] [] none rfl hFK hEK hOK (Sl.nil _ _) (fun x hx => by cases hx) (by simp; omega) (by simp; omega) (by omega)) ?_
        rintro _ K6 ⟨a6, oc6, D6, rfl, hF6, hKp6⟩
        have hold6 : ∀ j, j < H.length → K6[j]? = H[j]? := fun j hj => (hKp6.2 j (by omega) (by omega) (by omega) (fun x hx => by cases hx)).1.trans (hold j hj)
        have hlen6 : H.length ≤ K6.length := by have := hKp6.1; omega
        have hsf : searchF l stp = (prob l stp).fnd 0#64 [] := by rw [searchF, if_pos ⟨h62, hr⟩]
        have hbk := back hlen6 hold6
        cases hfn : (prob l stp).fnd 0#64 [] with
        | none =>
          simp -dsimp only [go_sem, Nat.reduceEqDiff, Nat.reduceAdd, Nat.reduceSub, Nat.reduceMul, Nat.reduceLeDiff, Nat.reduceLT, Nat.reduceBEq, Int.reduceLT, Int.reduceLE, Int.reduceGT, Int.reduceGE, Int.reduceEq, Int.reduceNe, Int.reduceBEq, Int.reduceBNe, Int.reduceAdd, Int.reduceSub, Int.reduceMul, Int.reduceToNat, Int.reduceNeg, ↓reduceIte, ↓reduceDIte, Option.isSome_none]
          refine ⟨_, hbk, ?_⟩
          rw [hsf, hfn]; rfl
        | some r =>
          rw [hfn] at hF6
          have q6 : lget K6 (H.length + 2) 6 = some (.slice a6 r.length oc6) := by rw [lget_at hF6.row]; rfl
          simp -dsimp only [go_sem, Nat.reduceEqDiff, Nat.reduceAdd, Nat.reduceSub, Nat.reduceMul, Nat.reduceLeDiff, Nat.reduceLT, Nat.reduceBEq, Int.reduceLT, Int.reduceLE, Int.reduceGT, Int.reduceGE, Int.reduceEq, Int.reduceNe, Int.reduceBEq, Int.reduceBNe, Int.reduceAdd, Int.reduceSub, Int.reduceMul, Int.reduceToNat, Int.reduceNeg, ↓reduceIte, ↓reduceDIte, Option.isSome_some, q6]
          refine ⟨_, hbk, ?_⟩
          rw [hsf, hfn, ← hbk]
          exact ⟨a6, oc6, rfl, hF6.ord⟩
  · have k1 : (62 < (l.length : Int)) := by omega
    simp -dsimp only [go_sem, Nat.reduceEqDiff, Nat.reduceAdd, Nat.reduceSub, Nat.reduceMul, Nat.reduceLeDiff, Nat.reduceLT, Nat.reduceBEq, Int.reduceLT, Int.reduceLE, Int.reduceGT, Int.reduceGE, Int.reduceEq, Int.reduceNe, Int.reduceBEq, Int.reduceBNe, Int.reduceAdd, Int.reduceSub, Int.reduceMul, Int.reduceToNat, Int.reduceNeg, ↓reduceIte, ↓reduceDIte, k1]
    refine ⟨_, rfl, ?_⟩
    simp [searchF, h62, SchRes]
end Go.Proofs.Ytopjhhcncjleaaa
/- DROP Steps of a queue, by calls that met; orders for a queue. -/
namespace Go.Proofs.Ytopjhhcncjleaaa
open Go Go.LK
set_option linter.unusedSimpArgs false
set_option linter.unusedVariables false
def stepM (cap : Int) (l : List CallD) (mode : Int) (s : Queue) (i : Nat) : Option Queue := match l[i]? with
  | some c => mayF cap s c mode (cntF l i 0 l.length) (cntF l i 1 l.length)
  | none => none
/-- The same, where it counts for nothing who met it. -/
def stepS (cap : Int) (l : List CallD) (s : Queue) (i : Nat) : Option Queue := match l[i]? with
  | some c => mayF cap s c 0 0 0
  | none => none
theorem doF_len (cap : Int) (s : Queue) (kind : Int) (x : BitVec 64) : (doF cap s kind x).1.length ≤ s.length + 1 := by
  unfold doF
  split
  · split <;> simp
  · split
    · cases s <;> simp; omega
    · simp
theorem mayF_len {cap : Int} {s t : Queue} {c : CallD} {mode puts takes : Int} (h : mayF cap s c mode puts takes = some t) : t.length ≤ s.length + 1 := by
  have := doF_len cap s c.kind c.arg
  unfold mayF at h
  split at h
  · split at h
    · cases h; exact this
    · cases h
  · split at h
    · cases h; exact this
    · split at h
      · cases h; omega
      · cases h
set_option maxHeartbeats 1000000 in
theorem may1_ev {lim pl pm nl ncap : Nat} {cap mode : Int} {al b : Option Addr} {l : List CallD} {s : Queue} {i : Nat} {H : LHeap} (hl : lim ≤ H.length) (hnl : l.length = nl) (hn : nl ≤ 62) (hpl : H[pl]? = some (.row false 0 [.slice al nl ncap])) (hpm : H[pm]? = some (.row false 0 [i64 mode])) (hs : Sl 8 H al (l.flatMap CallD.cells)) (hi : i < nl) (hb : Sl 1 H b (s.map w64)) (hsn : s.length < 1000) (hcap : cap ≤ 9223372036854775807) :
    callE T 85 lim [fifo cap b s.length, i64 i, ptrF pl, ptrF pm] H fun v H2 => ∃ t, H2 = H ++ t ∧ MayN (H ++ t) H.length b cap (stepM cap l mode s i) v := by
  refine callE_stay rfl (by simp) rfl ?_
  subst hnl
  have h1 : (i : Int) < l.length := by omega
  have h3 : 0 ≤ (i : Int) := by omega
  have k2 : l[i]? = some (l[i]'hi) := List.getElem?_eq_getElem _
  generalize l[i]'hi = c at k2
  obtain ⟨ab, ao, rfl, hab1, hg⟩ := hs.rows (f := CallD.cells) CallD.len (by omega) (by omega)
  have gc := fun t => hg t i c k2
  simp only [CallD.cells] at gc
  have pl0 : ∀ t, lget (H ++ t) pl 0 = some (.slice (some ⟨ab, ao, none⟩) l.length ncap) := fun t => by rw [lget_at (get_old hpl t)]; rfl
  have pm0 : ∀ t, lget (H ++ t) pm 0 = some (i64 mode) := fun t => by rw [lget_at (get_old hpm t)]; rfl
  simp -dsimp only [go_sem, Nat.reduceEqDiff, Nat.reduceAdd, Nat.reduceSub, Nat.reduceMul, Nat.reduceLeDiff, Nat.reduceLT, Nat.reduceBEq, Int.reduceLT, Int.reduceLE, Int.reduceGT, Int.reduceGE, Int.reduceEq, Int.reduceNe, Int.reduceBEq, Int.reduceBNe, Int.reduceAdd, Int.reduceSub, Int.reduceMul, Int.reduceToNat, Int.reduceNeg, ↓reduceIte, ↓reduceDIte, pl0, pm0, gc, h1, h3]
  refine CT_val (among_at rfl (hs.app _) (by omega)) ?_
  simp -dsimp only [go_sem, Nat.reduceEqDiff, Nat.reduceAdd, Nat.reduceSub, Nat.reduceMul, Nat.reduceLeDiff, Nat.reduceLT, Nat.reduceBEq, Int.reduceLT, Int.reduceLE, Int.reduceGT, Int.reduceGE, Int.reduceEq, Int.reduceNe, Int.reduceBEq, Int.reduceBNe, Int.reduceAdd, Int.reduceSub, Int.reduceMul, Int.reduceToNat, Int.reduceNeg, ↓reduceIte, ↓reduceDIte, pl0, pm0, gc, h1, h3]
  refine CT_val (among_at rfl (hs.app _) (by omega)) ?_
  simp -dsimp only [go_sem, Nat.reduceEqDiff, Nat.reduceAdd, Nat.reduceSub, Nat.reduceMul, Nat.reduceLeDiff, Nat.reduceLT, Nat.reduceBEq, Int.reduceLT, Int.reduceLE, Int.reduceGT, Int.reduceGE, Int.reduceEq, Int.reduceNe, Int.reduceBEq, Int.reduceBNe, Int.reduceAdd, Int.reduceSub, Int.reduceMul, Int.reduceToNat, Int.reduceNeg, ↓reduceIte, ↓reduceDIte, pl0, pm0, gc, h1, h3]
  refine CT_of (qmay_ev (c := c) (by simp; omega) (hb.app _) hcap (by omega) (by have := cnt_le l i 0 l.length; omega)) ?_
  rintro _ _ ⟨t, rfl, hm⟩
  have hst : stepM cap l mode s i = mayF cap s c mode (cntF l i 0 l.length) (cntF l i 1 l.length) := by simp [stepM, k2]
  rw [hst]
  cases hq : mayF cap s c mode (cntF l i 0 l.length) (cntF l i 1 l.length) with
  | none =>
    rw [hq] at hm
    simp only [MayN] at hm
    subst hm
    simp -dsimp only [go_sem, Nat.reduceEqDiff, Nat.reduceAdd, Nat.reduceSub, Nat.reduceMul, Nat.reduceLeDiff, Nat.reduceLT, Nat.reduceBEq, Int.reduceLT, Int.reduceLE, Int.reduceGT, Int.reduceGE, Int.reduceEq, Int.reduceNe, Int.reduceBEq, Int.reduceBNe, Int.reduceAdd, Int.reduceSub, Int.reduceMul, Int.reduceToNat, Int.reduceNeg, ↓reduceIte, ↓reduceDIte, hl, take_app_n, get_app_n, get_app_n0, set_app_n, set_app_n0, lget_app_n, lget_app_n0, lcells_app_n, lcells_app_n0, List.length_set, List.take_of_length_le, List.set_set, get_left, set_left, lget_left, lcells_left, get_set_eq, get_set_ne, lget_set_eq, lget_set_ne, lcells_set_ne]
    exact ⟨_, rfl, rfl⟩
  | some m =>
    rw [hq] at hm
    simp only [MayN] at hm
    obtain ⟨a', rfl, hm1, hm2⟩ := hm
    have hl1 : lim ≤ H.length + 1 := by omega
    simp -dsimp only [go_sem, Nat.reduceEqDiff, Nat.reduceAdd, Nat.reduceSub, Nat.reduceMul, Nat.reduceLeDiff, Nat.reduceLT, Nat.reduceBEq, Int.reduceLT, Int.reduceLE, Int.reduceGT, Int.reduceGE, Int.reduceEq, Int.reduceNe, Int.reduceBEq, Int.reduceBNe, Int.reduceAdd, Int.reduceSub, Int.reduceMul, Int.reduceToNat, Int.reduceNeg, ↓reduceIte, ↓reduceDIte, hl, hl1, take_app_n, get_app_n, get_app_n0, set_app_n, set_app_n0, lget_app_n, lget_app_n0, lcells_app_n, lcells_app_n0, List.length_set, List.take_of_length_le, List.set_set, get_left, set_left, lget_left, lcells_left, get_set_eq, get_set_ne, lget_set_eq, lget_set_ne, lcells_set_ne]
    exact ⟨_, rfl, a', rfl, hm1.into (by omega) (by simp [unbox_app, unbox_cons, unboxO_box]), hm2.imp id (·.mono (by simp))⟩
theorem fifo_ev {lim ncap : Nat} {cap mode : Int} {al : Option Addr} {l : List CallD} {H : LHeap} (hl : lim ≤ H.length) (hs : Sl 8 H al (l.flatMap CallD.cells)) (hcap : l.length ≤ ncap) (hc : cap ≤ 9223372036854775807) :
    callE T 37 lim [.slice al l.length ncap, i64 cap, i64 mode] H fun v H' => ∃ t, H' = H ++ t ∧ SchRes (H ++ t) lim (searchF l (stepM cap l mode)) v := by
  refine callE_stay rfl (by simp) rfl ?_
  simp -dsimp only [go_sem, Nat.reduceEqDiff, Nat.reduceAdd, Nat.reduceSub, Nat.reduceMul, Nat.reduceLeDiff, Nat.reduceLT, Nat.reduceBEq, Int.reduceLT, Int.reduceLE, Int.reduceGT, Int.reduceGE, Int.reduceEq, Int.reduceNe, Int.reduceBEq, Int.reduceBNe, Int.reduceAdd, Int.reduceSub, Int.reduceMul, Int.reduceToNat, Int.reduceNeg, ↓reduceIte, ↓reduceDIte]
  refine callE_stay rfl (by simp) rfl ?_
  simp -dsimp only [go_sem, Nat.reduceEqDiff, Nat.reduceAdd, Nat.reduceSub, Nat.reduceMul, Nat.reduceLeDiff, Nat.reduceLT, Nat.reduceBEq, Int.reduceLT, Int.reduceLE, Int.reduceGT, Int.reduceGE, Int.reduceEq, Int.reduceNe, Int.reduceBEq, Int.reduceBNe, Int.reduceAdd, Int.reduceSub, Int.reduceMul, Int.reduceToNat, Int.reduceNeg, ↓reduceIte, ↓reduceDIte]
  have hE : Has ((H.length, .row false 0 [.slice al l.length ncap]) :: (H.length + 1, .row false 0 [i64 mode]) :: slE H al) (H ++ [.row false 0 [.slice al l.length ncap], .row false 0 [i64 mode]]) := by
    intro x hx
    rcases List.mem_cons.1 hx with rfl | hx
    · simp
    rcases List.mem_cons.1 hx with rfl | hx
    · simp
    exact get_old (slE_has H al x hx) _
  refine CT_of (search_ev (kc := []) (stp := stepM cap l mode) (by simp; omega) (hs.app _) hcap hE fun h62 => ⟨?_, ?_, ?_⟩) ?_
  · intro H' lim' hE' hl' b s i hi hb hsn
    refine may1_ev hl' rfl h62 (hE' (H.length, .row false 0 [.slice al l.length ncap]) (by simp)) (hE' (H.length + 1, .row false 0 [i64 mode]) (by simp)) ?_ hi hb hsn hc
    exact slE_at hs fun x hx => hE' x (by simp [hx])
  · intro H' lim' hE' b s hb hsn
    exact key_ev hb (by omega)
  · intro s i t h
    unfold stepM at h
    split at h
    · exact mayF_len h
    · cases h
  · rintro _ _ ⟨t, rfl, hm⟩
    cases hq : searchF l (stepM cap l mode) with
    | none =>
      rw [hq] at hm
      simp only [SchRes] at hm
      subst hm
      simp -dsimp only [go_sem, Nat.reduceEqDiff, Nat.reduceAdd, Nat.reduceSub, Nat.reduceMul, Nat.reduceLeDiff, Nat.reduceLT, Nat.reduceBEq, Int.reduceLT, Int.reduceLE, Int.reduceGT, Int.reduceGE, Int.reduceEq, Int.reduceNe, Int.reduceBEq, Int.reduceBNe, Int.reduceAdd, Int.reduceSub, Int.reduceMul, Int.reduceToNat, Int.reduceNeg, ↓reduceIte, ↓reduceDIte]
      exact ⟨_, rfl, rfl⟩
    | some r =>
      rw [hq] at hm
      simp only [SchRes] at hm
      obtain ⟨a', oc, rfl, hm1⟩ := hm
      simp -dsimp only [go_sem, Nat.reduceEqDiff, Nat.reduceAdd, Nat.reduceSub, Nat.reduceMul, Nat.reduceLeDiff, Nat.reduceLT, Nat.reduceBEq, Int.reduceLT, Int.reduceLE, Int.reduceGT, Int.reduceGE, Int.reduceEq, Int.reduceNe, Int.reduceBEq, Int.reduceBNe, Int.reduceAdd, Int.reduceSub, Int.reduceMul, Int.reduceToNat, Int.reduceNeg, ↓reduceIte, ↓reduceDIte]
      exact ⟨_, rfl, a', oc, rfl, by simpa using hm1⟩
end Go.Proofs.Ytopjhhcncjleaaa
