/- Steps of a queue, by calls that met; orders for a queue. -/
import Derived.Test.YtfobpjjpaehhpaaL4
namespace Go.Proofs.Ytfobpjjpaehhpaa
open Go Go.LK
set_option linter.unusedSimpArgs false
set_option linter.unusedVariables false
def stepM (cap : Int) (l : List CallD) (mode : Int) (s : Queue) (i : Nat) : Option Queue := match l[i]? with
  | some c => mayF cap s c mode (cntF l i 0 l.length) (cntF l i 1 l.length)
  | none => none
/-- The same, where it counts for nothing who met it. -/
def stepS (cap : Int) (l : List CallD) (s : Queue) (i : Nat) : Option Queue := match l[i]? with
  | some c => mayF cap s c 0 0 0
  | none => none
theorem doF_len (cap : Int) (s : Queue) (kind : Int) (x : BitVec 64) : (doF cap s kind x).1.length ≤ s.length + 1 := by
  unfold doF
  split
  · split <;> simp
  · split
    · cases s <;> simp; omega
    · simp
theorem mayF_len {cap : Int} {s t : Queue} {c : CallD} {mode puts takes : Int} (h : mayF cap s c mode puts takes = some t) : t.length ≤ s.length + 1 := by
  have := doF_len cap s c.kind c.arg
  unfold mayF at h
  split at h
  · split at h
    · cases h; exact this
    · cases h
  · split at h
    · cases h; exact this
    · split at h
      · cases h; omega
      · cases h
set_option maxHeartbeats 1000000 in
theorem may1_ev {lim pl pm nl ncap : Nat} {cap mode : Int} {al b : Option Addr} {l : List CallD} {s : Queue} {i : Nat} {H : LHeap} (hl : lim ≤ H.length) (hnl : l.length = nl) (hn : nl ≤ 62) (hpl : H[pl]? = some (.row false 0 [.slice al nl ncap])) (hpm : H[pm]? = some (.row false 0 [i64 mode])) (hs : Sl 8 H al (l.flatMap CallD.cells)) (hi : i < nl) (hb : Sl 1 H b (s.map w64)) (hsn : s.length < 1000) (hcap : cap ≤ 9223372036854775807) :
    callE T 37 lim [fifo cap b s.length, i64 i, ptrF pl, ptrF pm] H fun v H2 => ∃ t, H2 = H ++ t ∧ MayN (H ++ t) H.length b cap (stepM cap l mode s i) v := by
  refine callE_stay rfl (by simp) rfl ?_
  subst hnl
  have h1 : (i : Int) < l.length := by omega
  have h3 : 0 ≤ (i : Int) := by omega
  have k2 : l[i]? = some (l[i]'hi) := List.getElem?_eq_getElem _
  generalize l[i]'hi = c at k2
  obtain ⟨ab, ao, rfl, hab1, hg⟩ := hs.rows (f := CallD.cells) CallD.len (by omega) (by omega)
  have gc := fun t => hg t i c k2
  simp only [CallD.cells] at gc
  have pl0 : ∀ t, lget (H ++ t) pl 0 = some (.slice (some ⟨ab, ao, none⟩) l.length ncap) := fun t => by rw [lget_at (get_old hpl t)]; rfl
  have pm0 : ∀ t, lget (H ++ t) pm 0 = some (i64 mode) := fun t => by rw [lget_at (get_old hpm t)]; rfl
  simp -dsimp only [go_sem, Nat.reduceEqDiff, Nat.reduceAdd, Nat.reduceSub, Nat.reduceMul, Nat.reduceLeDiff, Nat.reduceLT, Nat.reduceBEq, Int.reduceLT, Int.reduceLE, Int.reduceGT, Int.reduceGE, Int.reduceEq, Int.reduceNe, Int.reduceBEq, Int.reduceBNe, Int.reduceAdd, Int.reduceSub, Int.reduceMul, Int.reduceToNat, Int.reduceNeg, ↓reduceIte, ↓reduceDIte, pl0, pm0, gc, h1, h3]
  refine CT_val (among_at rfl (hs.app _) (by omega)) ?_
  simp -dsimp only [go_sem, Nat.reduceEqDiff, Nat.reduceAdd, Nat.reduceSub, Nat.reduceMul, Nat.reduceLeDiff, Nat.reduceLT, Nat.reduceBEq, Int.reduceLT, Int.reduceLE, Int.reduceGT, Int.reduceGE, Int.reduceEq, Int.reduceNe, Int.reduceBEq, Int.reduceBNe, Int.reduceAdd, Int.reduceSub, Int.reduceMul, Int.reduceToNat, Int.reduceNeg, ↓reduceIte, ↓reduceDIte, pl0, pm0, gc, h1, h3]
  refine CT_val (among_at rfl (hs.app _) (by omega)) ?_
  simp -dsimp only [go_sem, Nat.reduceEqDiff, Nat.reduceAdd, Nat.reduceSub, Nat.reduceMul, Nat.reduceLeDiff, Nat.reduceLT, Nat.reduceBEq, Int.reduceLT, Int.reduceLE, Int.reduceGT, Int.reduceGE, Int.reduceEq, Int.reduceNe, Int.reduceBEq, Int.reduceBNe, Int.reduceAdd, Int.reduceSub, Int.reduceMul, Int.reduceToNat, Int.reduceNeg, ↓reduceIte, ↓reduceDIte, pl0, pm0, gc, h1, h3]
  refine CT_of (may_ev (c := c) (by simp; omega) (hb.app _) hcap (by omega) (by have := cnt_le l i 0 l.length; omega)) ?_
  rintro _ _ ⟨t, rfl, hm⟩
  have hst : stepM cap l mode s i = mayF cap s c mode (cntF l i 0 l.length) (cntF l i 1 l.length) := by simp [stepM, k2]
  rw [hst]
  cases hq : mayF cap s c mode (cntF l i 0 l.length) (cntF l i 1 l.length) with
  | none =>
    rw [hq] at hm
    simp only [MayN] at hm
    subst hm
    simp -dsimp only [go_sem, Nat.reduceEqDiff, Nat.reduceAdd, Nat.reduceSub, Nat.reduceMul, Nat.reduceLeDiff, Nat.reduceLT, Nat.reduceBEq, Int.reduceLT, Int.reduceLE, Int.reduceGT, Int.reduceGE, Int.reduceEq, Int.reduceNe, Int.reduceBEq, Int.reduceBNe, Int.reduceAdd, Int.reduceSub, Int.reduceMul, Int.reduceToNat, Int.reduceNeg, ↓reduceIte, ↓reduceDIte, hl, take_app_n, get_app_n, get_app_n0, set_app_n, set_app_n0, lget_app_n, lget_app_n0, lcells_app_n, lcells_app_n0, List.length_set, List.take_of_length_le, List.set_set, get_left, set_left, lget_left, lcells_left, get_set_eq, get_set_ne, lget_set_eq, lget_set_ne, lcells_set_ne]
    exact ⟨_, rfl, rfl⟩
  | some m =>
    rw [hq] at hm
    simp only [MayN] at hm
    obtain ⟨a', rfl, hm1, hm2⟩ := hm
    have hl1 : lim ≤ H.length + 1 := by omega
    simp -dsimp only [go_sem, Nat.reduceEqDiff, Nat.reduceAdd, Nat.reduceSub, Nat.reduceMul, Nat.reduceLeDiff, Nat.reduceLT, Nat.reduceBEq, Int.reduceLT, Int.reduceLE, Int.reduceGT, Int.reduceGE, Int.reduceEq, Int.reduceNe, Int.reduceBEq, Int.reduceBNe, Int.reduceAdd, Int.reduceSub, Int.reduceMul, Int.reduceToNat, Int.reduceNeg, ↓reduceIte, ↓reduceDIte, hl, hl1, take_app_n, get_app_n, get_app_n0, set_app_n, set_app_n0, lget_app_n, lget_app_n0, lcells_app_n, lcells_app_n0, List.length_set, List.take_of_length_le, List.set_set, get_left, set_left, lget_left, lcells_left, get_set_eq, get_set_ne, lget_set_eq, lget_set_ne, lcells_set_ne]
    exact ⟨_, rfl, a', rfl, hm1.into (by omega) (by simp [unbox_app, unbox_cons, unboxO_box]), hm2.imp id (·.mono (by simp))⟩
theorem fifo_ev {lim ncap : Nat} {cap mode : Int} {al : Option Addr} {l : List CallD} {H : LHeap} (hl : lim ≤ H.length) (hs : Sl 8 H al (l.flatMap CallD.cells)) (hcap : l.length ≤ ncap) (hc : cap ≤ 9223372036854775807) :
    callE T 10 lim [.slice al l.length ncap, i64 cap, i64 mode] H fun v H' => ∃ t, H' = H ++ t ∧ SchRes (H ++ t) lim (searchF l (stepM cap l mode)) v := by
  refine callE_stay rfl (by simp) rfl ?_
  simp -dsimp only [go_sem, Nat.reduceEqDiff, Nat.reduceAdd, Nat.reduceSub, Nat.reduceMul, Nat.reduceLeDiff, Nat.reduceLT, Nat.reduceBEq, Int.reduceLT, Int.reduceLE, Int.reduceGT, Int.reduceGE, Int.reduceEq, Int.reduceNe, Int.reduceBEq, Int.reduceBNe, Int.reduceAdd, Int.reduceSub, Int.reduceMul, Int.reduceToNat, Int.reduceNeg, ↓reduceIte, ↓reduceDIte]
  refine callE_stay rfl (by simp) rfl ?_
  simp -dsimp only [go_sem, Nat.reduceEqDiff, Nat.reduceAdd, Nat.reduceSub, Nat.reduceMul, Nat.reduceLeDiff, Nat.reduceLT, Nat.reduceBEq, Int.reduceLT, Int.reduceLE, Int.reduceGT, Int.reduceGE, Int.reduceEq, Int.reduceNe, Int.reduceBEq, Int.reduceBNe, Int.reduceAdd, Int.reduceSub, Int.reduceMul, Int.reduceToNat, Int.reduceNeg, ↓reduceIte, ↓reduceDIte]
  have hE : Has ((H.length, .row false 0 [.slice al l.length ncap]) :: (H.length + 1, .row false 0 [i64 mode]) :: slE H al) (H ++ [.row false 0 [.slice al l.length ncap], .row false 0 [i64 mode]]) := by
    intro x hx
    rcases List.mem_cons.1 hx with rfl | hx
    · simp
    rcases List.mem_cons.1 hx with rfl | hx
    · simp
    exact get_old (slE_has H al x hx) _
  refine CT_of (search_ev (kc := []) (stp := stepM cap l mode) (by simp; omega) (hs.app _) hcap hE fun h62 => ⟨?_, ?_, ?_⟩) ?_
  · intro H' lim' hE' hl' b s i hi hb hsn
    refine may1_ev hl' rfl h62 (hE' (H.length, .row false 0 [.slice al l.length ncap]) (by simp)) (hE' (H.length + 1, .row false 0 [i64 mode]) (by simp)) ?_ hi hb hsn hc
    exact slE_at hs fun x hx => hE' x (by simp [hx])
  · intro H' lim' hE' b s hb hsn
    exact key_ev hb (by omega)
  · intro s i t h
    unfold stepM at h
    split at h
    · exact mayF_len h
    · cases h
  · rintro _ _ ⟨t, rfl, hm⟩
    cases hq : searchF l (stepM cap l mode) with
    | none =>
      rw [hq] at hm
      simp only [SchRes] at hm
      subst hm
      simp -dsimp only [go_sem, Nat.reduceEqDiff, Nat.reduceAdd, Nat.reduceSub, Nat.reduceMul, Nat.reduceLeDiff, Nat.reduceLT, Nat.reduceBEq, Int.reduceLT, Int.reduceLE, Int.reduceGT, Int.reduceGE, Int.reduceEq, Int.reduceNe, Int.reduceBEq, Int.reduceBNe, Int.reduceAdd, Int.reduceSub, Int.reduceMul, Int.reduceToNat, Int.reduceNeg, ↓reduceIte, ↓reduceDIte]
      exact ⟨_, rfl, rfl⟩
    | some r =>
      rw [hq] at hm
      simp only [SchRes] at hm
      obtain ⟨a', oc, rfl, hm1⟩ := hm
      simp -dsimp only [go_sem, Nat.reduceEqDiff, Nat.reduceAdd, Nat.reduceSub, Nat.reduceMul, Nat.reduceLeDiff, Nat.reduceLT, Nat.reduceBEq, Int.reduceLT, Int.reduceLE, Int.reduceGT, Int.reduceGE, Int.reduceEq, Int.reduceNe, Int.reduceBEq, Int.reduceBNe, Int.reduceAdd, Int.reduceSub, Int.reduceMul, Int.reduceToNat, Int.reduceNeg, ↓reduceIte, ↓reduceDIte]
      exact ⟨_, rfl, a', oc, rfl, by simpa using hm1⟩
theorem step1_ev {lim pl nl ncap : Nat} {cap : Int} {al b : Option Addr} {l : List CallD} {s : Queue} {i : Nat} {H : LHeap} (hl : lim ≤ H.length) (hnl : l.length = nl) (hn : nl ≤ 62) (hpl : H[pl]? = some (.row false 0 [.slice al nl ncap])) (hs : Sl 8 H al (l.flatMap CallD.cells)) (hi : i < nl) (hb : Sl 1 H b (s.map w64)) (hsn : s.length < 1000) (hcap : cap ≤ 9223372036854775807) :
    callE T 14 lim [fifo cap b s.length, i64 i, ptrF pl] H fun v H2 => ∃ t, H2 = H ++ t ∧ MayN (H ++ t) H.length b cap (stepS cap l s i) v := by
  refine callE_stay rfl (by simp) rfl ?_
  subst hnl
  have h1 : (i : Int) < l.length := by omega
  have h3 : 0 ≤ (i : Int) := by omega
  have k2 : l[i]? = some (l[i]'hi) := List.getElem?_eq_getElem _
  generalize l[i]'hi = c at k2
  obtain ⟨ab, ao, rfl, hab1, hg⟩ := hs.rows (f := CallD.cells) CallD.len (by omega) (by omega)
  have gc := fun t => hg t i c k2
  simp only [CallD.cells] at gc
  have pl0 : ∀ t, lget (H ++ t) pl 0 = some (.slice (some ⟨ab, ao, none⟩) l.length ncap) := fun t => by rw [lget_at (get_old hpl t)]; rfl
  simp -dsimp only [go_sem, Nat.reduceEqDiff, Nat.reduceAdd, Nat.reduceSub, Nat.reduceMul, Nat.reduceLeDiff, Nat.reduceLT, Nat.reduceBEq, Int.reduceLT, Int.reduceLE, Int.reduceGT, Int.reduceGE, Int.reduceEq, Int.reduceNe, Int.reduceBEq, Int.reduceBNe, Int.reduceAdd, Int.reduceSub, Int.reduceMul, Int.reduceToNat, Int.reduceNeg, ↓reduceIte, ↓reduceDIte, pl0, gc, h1, h3]
  refine CT_of (may_ev (c := c) (by simp; omega) (hb.app _) hcap (by omega) (by omega)) ?_
  rintro _ _ ⟨t, rfl, hm⟩
  have hst : stepS cap l s i = mayF cap s c 0 0 0 := by simp [stepS, k2]
  rw [hst]
  cases hq : mayF cap s c 0 0 0 with
  | none =>
    rw [hq] at hm
    simp only [MayN] at hm
    subst hm
    simp -dsimp only [go_sem, Nat.reduceEqDiff, Nat.reduceAdd, Nat.reduceSub, Nat.reduceMul, Nat.reduceLeDiff, Nat.reduceLT, Nat.reduceBEq, Int.reduceLT, Int.reduceLE, Int.reduceGT, Int.reduceGE, Int.reduceEq, Int.reduceNe, Int.reduceBEq, Int.reduceBNe, Int.reduceAdd, Int.reduceSub, Int.reduceMul, Int.reduceToNat, Int.reduceNeg, ↓reduceIte, ↓reduceDIte, hl, take_app_n, get_app_n, get_app_n0, set_app_n, set_app_n0, lget_app_n, lget_app_n0, lcells_app_n, lcells_app_n0, List.length_set, List.take_of_length_le, List.set_set, get_left, set_left, lget_left, lcells_left, get_set_eq, get_set_ne, lget_set_eq, lget_set_ne, lcells_set_ne]
    exact ⟨_, rfl, rfl⟩
  | some m =>
    rw [hq] at hm
    simp only [MayN] at hm
    obtain ⟨a', rfl, hm1, hm2⟩ := hm
    have hl1 : lim ≤ H.length + 1 := by omega
    simp -dsimp only [go_sem, Nat.reduceEqDiff, Nat.reduceAdd, Nat.reduceSub, Nat.reduceMul, Nat.reduceLeDiff, Nat.reduceLT, Nat.reduceBEq, Int.reduceLT, Int.reduceLE, Int.reduceGT, Int.reduceGE, Int.reduceEq, Int.reduceNe, Int.reduceBEq, Int.reduceBNe, Int.reduceAdd, Int.reduceSub, Int.reduceMul, Int.reduceToNat, Int.reduceNeg, ↓reduceIte, ↓reduceDIte, hl, hl1, take_app_n, get_app_n, get_app_n0, set_app_n, set_app_n0, lget_app_n, lget_app_n0, lcells_app_n, lcells_app_n0, List.length_set, List.take_of_length_le, List.set_set, get_left, set_left, lget_left, lcells_left, get_set_eq, get_set_ne, lget_set_eq, lget_set_ne, lcells_set_ne]
    exact ⟨_, rfl, a', rfl, hm1.into (by omega) (by simp [unbox_app, unbox_cons, unboxO_box]), hm2.imp id (·.mono (by simp))⟩
theorem key1_ev {lim : Nat} {cap : Int} {a : Option Addr} {l : List (BitVec 64)} {H : LHeap} (hs : Sl 1 H a (l.map w64)) (hn : l.length < 1000000) :
    callE T 16 lim [fifo cap a l.length] H fun v H' => v = strV (keyN cap l) ∧ H' = H := by
  refine callE_pop rfl (by simp) rfl ?_
  simp -dsimp only [go_sem, Nat.reduceEqDiff, Nat.reduceAdd, Nat.reduceSub, Nat.reduceMul, Nat.reduceLeDiff, Nat.reduceLT, Nat.reduceBEq, Int.reduceLT, Int.reduceLE, Int.reduceGT, Int.reduceGE, Int.reduceEq, Int.reduceNe, Int.reduceBEq, Int.reduceBNe, Int.reduceAdd, Int.reduceSub, Int.reduceMul, Int.reduceToNat, Int.reduceNeg, ↓reduceIte, ↓reduceDIte]
  refine CT_val (key_ev (hs.app _) hn) ?_
  simp -dsimp only [go_sem, Nat.reduceEqDiff, Nat.reduceAdd, Nat.reduceSub, Nat.reduceMul, Nat.reduceLeDiff, Nat.reduceLT, Nat.reduceBEq, Int.reduceLT, Int.reduceLE, Int.reduceGT, Int.reduceGE, Int.reduceEq, Int.reduceNe, Int.reduceBEq, Int.reduceBNe, Int.reduceAdd, Int.reduceSub, Int.reduceMul, Int.reduceToNat, Int.reduceNeg, ↓reduceIte, ↓reduceDIte]
end Go.Proofs.Ytfobpjjpaehhpaa
