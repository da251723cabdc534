/- A log of calls. -/
import Derived.Test.YtfobpjjpaehhpaaM2
namespace Go.Proofs.Ytfobpjjpaehhpaa
open Go Go.LK
set_option linter.unusedSimpArgs false
set_option linter.unusedVariables false
/-! maps of numbers -/
def mfind {α : Type} (k : Int) : List (Int × α) → Option (Nat × α)
  | [] => none
  | (x, v) :: r => if k = x then some (0, v) else (mfind k r).map fun p => (p.1 + 1, p.2)
abbrev ents {α : Type} (f : α → Value) (l : List (Int × α)) : List (Value × Value) := l.map fun q => (i64 q.1, f q.2)
theorem lfind_ents {α : Type} (f : α → Value) (k : Int) : ∀ l : List (Int × α), lfind false (i64 k) (ents f l) = some ((mfind k l).map fun p => (p.1, f p.2))
  | [] => rfl
  | (x, v) :: r => by
    simp only [ents, List.map_cons, lfind, sameKey_int, mfind]
    by_cases h : k = x
    · subst h; simp
    · have h1 : (k == x) = false := by simpa using h
      have := lfind_ents f k r
      simp only [ents] at this
      simp [h1, h, this]
      cases mfind k r <;> rfl
structure HV where
  l : List CallD
  op : List (Int × Int)
  now : Int
def isOne (a : Option Addr) (H : LHeap) (l : List CallD) : Prop := (a = none ∧ l = []) ∨ ∃ q, a = some ⟨q, 0, none⟩ ∧ H[q]? = some (.row false 8 (l.flatMap CallD.cells))
structure LogAt (n : Nat) (H : LHeap) (b m : Nat) (a : Option Addr) (v : HV) : Prop where
  row : H[b]? = some (.row false 0 [.slice a v.l.length v.l.length, .map (some m), i64 v.now])
  mp : H[m]? = some (.map (ents i64 v.op))
  ls : isOne a H v.l
  nb : n ≤ b
  nm : n ≤ m
  na : Fresh n a
  ne : b ≠ m
  ob : Off b a
  om : Off m a
def Keeps (b m : Nat) (a a' : Option Addr) (H H' : LHeap) : Prop := H.length ≤ H'.length ∧ ∀ j, j < H.length → j ≠ b → j ≠ m → Off j a → H'[j]? = H[j]? ∧ Off j a'
theorem LogAt.lb {n b m : Nat} {H : LHeap} {a : Option Addr} {v : HV} (h : LogAt n H b m a v) : b < H.length ∧ m < H.length :=
  ⟨(List.getElem?_eq_some_iff.1 h.row).1, (List.getElem?_eq_some_iff.1 h.mp).1⟩
theorem LogAt.app {n b m : Nat} {H : LHeap} {a : Option Addr} {v : HV} (h : LogAt n H b m a v) (t : LHeap) : LogAt n (H ++ t) b m a v := by
  refine ⟨get_old h.row t, get_old h.mp t, ?_, h.nb, h.nm, h.na, h.ne, h.ob, h.om⟩
  rcases h.ls with h | ⟨q, h1, h2⟩
  · exact .inl h
  · exact .inr ⟨q, h1, get_old h2 t⟩
theorem LogAt.sl {n b m : Nat} {H : LHeap} {a : Option Addr} {v : HV} (h : LogAt n H b m a v) : Sl 8 H a (v.l.flatMap CallD.cells) := by
  rcases h.ls with ⟨h1, h2⟩ | ⟨q, h1, h2⟩
  · rw [h1, h2]; exact Sl.nil _ _
  · rw [h1]; exact Sl.row h2
theorem none_no {lim : Nat} {H : LHeap} {b n m : Nat} {a : Option Addr} {v : HV} (h : LogAt n H b m a v) : callE T 51 lim [ptr b] H fun r H' => r = .bool false ∧ H' = H := by
  refine callE_pop rfl (by simp) rfl ?_
  have g1 := lget_at h.row 1
  simp only [List.getElem?_cons_succ, List.getElem?_cons_zero] at g1
  simp -dsimp only [go_sem, Nat.reduceEqDiff, Nat.reduceAdd, Nat.reduceSub, Nat.reduceMul, Nat.reduceLeDiff, Nat.reduceLT, Nat.reduceBEq, Int.reduceLT, Int.reduceLE, Int.reduceGT, Int.reduceGE, Int.reduceEq, Int.reduceNe, Int.reduceBEq, Int.reduceBNe, Int.reduceAdd, Int.reduceSub, Int.reduceMul, Int.reduceToNat, Int.reduceNeg, ↓reduceIte, ↓reduceDIte, g1]
def HV.open (v : HV) (t : Int) : Option Int := (mfind t v.op).map (·.2)
theorem open_ev {lim : Nat} {H : LHeap} {b n m : Nat} {a : Option Addr} {v : HV} {t : Int} (h : LogAt n H b m a v) : callE T 50 lim [ptr b, i64 t] H fun r H' => r = .tuple #[i64 ((v.open t).getD 0), .bool (v.open t).isSome] ∧ H' = H := by
  refine callE_pop rfl (by simp) rfl ?_
  have g1 := lget_at h.row 1
  simp only [List.getElem?_cons_succ, List.getElem?_cons_zero] at g1
  simp -dsimp only [go_sem, Nat.reduceEqDiff, Nat.reduceAdd, Nat.reduceSub, Nat.reduceMul, Nat.reduceLeDiff, Nat.reduceLT, Nat.reduceBEq, Int.reduceLT, Int.reduceLE, Int.reduceGT, Int.reduceGE, Int.reduceEq, Int.reduceNe, Int.reduceBEq, Int.reduceBNe, Int.reduceAdd, Int.reduceSub, Int.reduceMul, Int.reduceToNat, Int.reduceNeg, ↓reduceIte, ↓reduceDIte]
  refine CT_val (none_no h) ?_
  have g2 := lfind_ents i64 t v.op
  have g3 := h.mp
  simp -dsimp only [go_sem, Nat.reduceEqDiff, Nat.reduceAdd, Nat.reduceSub, Nat.reduceMul, Nat.reduceLeDiff, Nat.reduceLT, Nat.reduceBEq, Int.reduceLT, Int.reduceLE, Int.reduceGT, Int.reduceGE, Int.reduceEq, Int.reduceNe, Int.reduceBEq, Int.reduceBNe, Int.reduceAdd, Int.reduceSub, Int.reduceMul, Int.reduceToNat, Int.reduceNeg, ↓reduceIte, ↓reduceDIte, g1, g2, g3]
  unfold HV.open
  cases mfind t v.op <;> exact ⟨rfl, rfl⟩
theorem step_ev {lim : Nat} {H : LHeap} {b n m : Nat} {a : Option Addr} {v : HV} (h : LogAt n H b m a v) (hw : -9223372036854775808 ≤ v.now ∧ v.now < 9223372036854775807) :
    callE T 52 lim [ptr b] H fun r H' => H' = H.set b (.row false 0 [.slice a v.l.length v.l.length, .map (some m), i64 (v.now + 1)]) := by
  refine callE_pop rfl (by simp) rfl ?_
  have g1 := lget_at h.row 2
  simp only [List.getElem?_cons_succ, List.getElem?_cons_zero] at g1
  have hlb := h.lb.1
  have hw1 : IntKind.i64.wrap (v.now + 1) = v.now + 1 := by rw [wrap_i64] <;> omega
  have g2 := h.row
  simp -dsimp only [go_sem, Nat.reduceEqDiff, Nat.reduceAdd, Nat.reduceSub, Nat.reduceMul, Nat.reduceLeDiff, Nat.reduceLT, Nat.reduceBEq, Int.reduceLT, Int.reduceLE, Int.reduceGT, Int.reduceGE, Int.reduceEq, Int.reduceNe, Int.reduceBEq, Int.reduceBNe, Int.reduceAdd, Int.reduceSub, Int.reduceMul, Int.reduceToNat, Int.reduceNeg, ↓reduceIte, ↓reduceDIte]
  refine CT_val (none_no h) ?_
  simp -dsimp only [go_sem, Nat.reduceEqDiff, Nat.reduceAdd, Nat.reduceSub, Nat.reduceMul, Nat.reduceLeDiff, Nat.reduceLT, Nat.reduceBEq, Int.reduceLT, Int.reduceLE, Int.reduceGT, Int.reduceGE, Int.reduceEq, Int.reduceNe, Int.reduceBEq, Int.reduceBNe, Int.reduceAdd, Int.reduceSub, Int.reduceMul, Int.reduceToNat, Int.reduceNeg, ↓reduceIte, ↓reduceDIte, g1, hw1, g2]
  rw [List.take_of_length_le (by simp)]
theorem isOne.set {a : Option Addr} {H : LHeap} {l : List CallD} {b : Nat} (h : isOne a H l) (ho : Off b a) (x : LObj) : isOne a (H.set b x) l := by
  rcases h with h | ⟨q, h1, h2⟩
  · exact .inl h
  · exact .inr ⟨q, h1, by rw [get_set_ne (fun e => ho _ h1 e.symm)]; exact h2⟩
theorem LogAt.step {n b m : Nat} {H : LHeap} {a : Option Addr} {v : HV} (h : LogAt n H b m a v) (k : Int) : LogAt n (H.set b (.row false 0 [.slice a v.l.length v.l.length, .map (some m), i64 k])) b m a { v with now := k } := by
  refine ⟨get_set_eq h.lb.1 _, ?_, h.ls.set h.ob _, h.nb, h.nm, h.na, h.ne, h.ob, h.om⟩
  rw [get_set_ne h.ne]; exact h.mp
theorem Keeps.step {b m : Nat} {H : LHeap} {a : Option Addr} (x : LObj) : Keeps b m a a H (H.set b x) :=
  ⟨by simp, fun j hj h1 h2 h3 => ⟨get_set_ne (fun e => h1 e.symm) _, h3⟩⟩
theorem cells_one (l : List CallD) : (l.flatMap CallD.cells).all Value.oneCell' = true := by
  simp [CallD.cells, Value.oneCell']
  intro x _
  exact ⟨rfl, rfl⟩
theorem calls_ev {lim : Nat} {H : LHeap} {b n m : Nat} {a : Option Addr} {v : HV} (hl : lim ≤ H.length) (h : LogAt n H b m a v) (hn : v.l.length < 1000000) :
    callE T 35 lim [ptr b] H fun r H' => ∃ a' t, r = .slice a' v.l.length v.l.length ∧ H' = H ++ t ∧ Sl 8 (H ++ t) a' (v.l.flatMap CallD.cells) := by
  refine callE_stay rfl (by simp) rfl ?_
  have g1 := lget_at h.row 0
  simp only [List.getElem?_cons_zero] at g1
  simp -dsimp only [go_sem, Nat.reduceEqDiff, Nat.reduceAdd, Nat.reduceSub, Nat.reduceMul, Nat.reduceLeDiff, Nat.reduceLT, Nat.reduceBEq, Int.reduceLT, Int.reduceLE, Int.reduceGT, Int.reduceGE, Int.reduceEq, Int.reduceNe, Int.reduceBEq, Int.reduceBNe, Int.reduceAdd, Int.reduceSub, Int.reduceMul, Int.reduceToNat, Int.reduceNeg, ↓reduceIte, ↓reduceDIte]
  refine CT_val (none_no h) ?_
  simp -dsimp only [go_sem, Nat.reduceEqDiff, Nat.reduceAdd, Nat.reduceSub, Nat.reduceMul, Nat.reduceLeDiff, Nat.reduceLT, Nat.reduceBEq, Int.reduceLT, Int.reduceLE, Int.reduceGT, Int.reduceGE, Int.reduceEq, Int.reduceNe, Int.reduceBEq, Int.reduceBNe, Int.reduceAdd, Int.reduceSub, Int.reduceMul, Int.reduceToNat, Int.reduceNeg, ↓reduceIte, ↓reduceDIte, g1]
  refine callE_stay rfl (by simp) rfl ?_
  rcases h.ls with ⟨h1, h2⟩ | ⟨q, h1, h2⟩
  · subst h1
    rw [h2] at g1 ⊢
    simp -dsimp only [go_sem, Nat.reduceEqDiff, Nat.reduceAdd, Nat.reduceSub, Nat.reduceMul, Nat.reduceLeDiff, Nat.reduceLT, Nat.reduceBEq, Int.reduceLT, Int.reduceLE, Int.reduceGT, Int.reduceGE, Int.reduceEq, Int.reduceNe, Int.reduceBEq, Int.reduceBNe, Int.reduceAdd, Int.reduceSub, Int.reduceMul, Int.reduceToNat, Int.reduceNeg, ↓reduceIte, ↓reduceDIte]
    exact ⟨_, _, rfl, (List.append_nil _).symm, Sl.nil _ _⟩
  · subst h1
    have hq := (List.getElem?_eq_some_iff.1 h2).1
    have hsrc := fun t => ((h.sl).app t).src (m := 8) (n := v.l.length) (cap := v.l.length) (by omega) (by rw [flat_len CallD.len])
    have h6 : v.l.length * 64 ≤ 140737488355328 := by omega
    have h7 : v.l.length ≤ 140737488355328 := by omega
    simp -dsimp only [go_sem, Nat.reduceEqDiff, Nat.reduceAdd, Nat.reduceSub, Nat.reduceMul, Nat.reduceLeDiff, Nat.reduceLT, Nat.reduceBEq, Int.reduceLT, Int.reduceLE, Int.reduceGT, Int.reduceGE, Int.reduceEq, Int.reduceNe, Int.reduceBEq, Int.reduceBNe, Int.reduceAdd, Int.reduceSub, Int.reduceMul, Int.reduceToNat, Int.reduceNeg, ↓reduceIte, ↓reduceDIte, hsrc, cells_one, h6, h7, hl]
    exact ⟨_, _, rfl, rfl, Sl.row (get_app H _ 1)⟩
/-- What Begin does. -/
def HV.begin (v : HV) (t kind : Int) (arg : BitVec 64) : HV × Int × Int :=
  if t < 0 ∨ 64 ≤ t then (v, 0, 2)
  else if (v.open t).isSome = true then (v, 0, 16)
  else if 1024 ≤ v.l.length then (v, 0, 15)
  else ({ l := v.l ++ [{ th := t, kind := kind, arg := arg, fr := v.now, to := 0, dn := false, code := 0, ret := 0#64 }], op := v.op ++ [(t, (v.l.length : Int))], now := v.now + 1 }, v.l.length, 0)
theorem LogAt.grown {n b m : Nat} {H K : LHeap} {a : Option Addr} {v : HV} (h : LogAt n H b m a v) (hK : K.length = H.length) (hn : n ≤ H.length) (x : LObj) (c : CallD) (op : List (Int × Int)) (k : Nat) (hk : k = v.l.length + 1) :
    LogAt n ((K.set b (.row false 0 [.slice (some ⟨H.length + 1, 0, none⟩) k k, .map (some m), i64 v.now])).set m (.map (ents i64 op)) ++ [x, .row false 8 ((v.l ++ [c]).flatMap CallD.cells)]) b m (some ⟨H.length + 1, 0, none⟩) { l := v.l ++ [c], op := op, now := v.now } := by
  subst hk
  have hlb := h.lb
  have e : (v.l ++ [c]).length = v.l.length + 1 := by simp
  have hX : ((K.set b (.row false 0 [.slice (some ⟨H.length + 1, 0, none⟩) (v.l.length + 1) (v.l.length + 1), .map (some m), i64 v.now])).set m (.map (ents i64 op))).length = H.length := by simp [hK]
  refine ⟨?_, ?_, .inr ⟨_, rfl, ?_⟩, h.nb, h.nm, Fresh.mk (by omega), h.ne, ?_, ?_⟩
  · rw [get_left (by omega), get_set_ne h.ne.symm, get_set_eq (by omega), e]
  · rw [get_left (by omega), get_set_eq (by simp; omega)]
  · rw [get_app_n hX]; rfl
  · intro x hx; cases hx; dsimp only; omega
  · intro x hx; cases hx; dsimp only; omega
theorem Keeps.grown {b m : Nat} {H K t : LHeap} {a : Option Addr} {x y : LObj} (hK : K.length = H.length) (hj : ∀ j, j < H.length → Off j a → K[j]? = H[j]?) (k : Nat) :
    Keeps b m a (some ⟨H.length + k, 0, none⟩) H ((K.set b x).set m y ++ t) := by
  refine ⟨by simp [hK], fun j h1 h2 h3 h4 => ⟨?_, ?_⟩⟩
  · rw [get_left (by simp; omega), get_set_ne (fun e => h3 e.symm), get_set_ne (fun e => h2 e.symm), hj j h1 h4]
  · intro x hx; cases hx; dsimp only; omega
theorem Keeps.then {b m : Nat} {a a' : Option Addr} {H H' : LHeap} (h : Keeps b m a a' H H') (x : LObj) : Keeps b m a a' H (H'.set b x) :=
  ⟨by have := h.1; simpa using this, fun j h1 h2 h3 h4 => ⟨by rw [get_set_ne (fun e => h2 e.symm)]; exact (h.2 j h1 h2 h3 h4).1, (h.2 j h1 h2 h3 h4).2⟩⟩
set_option maxHeartbeats 1000000 in
theorem begin_ev {lim : Nat} {H : LHeap} {b n m : Nat} {a : Option Addr} {v : HV} {t kind : Int} {arg : BitVec 64} (hl : lim ≤ n) (hnH : n ≤ H.length) (h : LogAt n H b m a v) (hn : v.l.length ≤ 1024) (hw : 0 ≤ v.now ∧ v.now < 1000000000) :
    callE T 33 lim [ptr b, i64 t, i64 kind, w64 arg] H fun r H' => ∃ a', r = .tuple #[i64 (v.begin t kind arg).2.1, i64 (v.begin t kind arg).2.2] ∧ LogAt n H' b m a' (v.begin t kind arg).1 ∧ Keeps b m a a' H H' := by
  refine callE_stay rfl (by simp) rfl ?_
  simp -dsimp only [go_sem, Nat.reduceEqDiff, Nat.reduceAdd, Nat.reduceSub, Nat.reduceMul, Nat.reduceLeDiff, Nat.reduceLT, Nat.reduceBEq, Int.reduceLT, Int.reduceLE, Int.reduceGT, Int.reduceGE, Int.reduceEq, Int.reduceNe, Int.reduceBEq, Int.reduceBNe, Int.reduceAdd, Int.reduceSub, Int.reduceMul, Int.reduceToNat, Int.reduceNeg, ↓reduceIte, ↓reduceDIte]
  refine CT_val (open_ev h) ?_
  simp -dsimp only [go_sem, Nat.reduceEqDiff, Nat.reduceAdd, Nat.reduceSub, Nat.reduceMul, Nat.reduceLeDiff, Nat.reduceLT, Nat.reduceBEq, Int.reduceLT, Int.reduceLE, Int.reduceGT, Int.reduceGE, Int.reduceEq, Int.reduceNe, Int.reduceBEq, Int.reduceBNe, Int.reduceAdd, Int.reduceSub, Int.reduceMul, Int.reduceToNat, Int.reduceNeg, ↓reduceIte, ↓reduceDIte]
  refine CT_val (none_no h) ?_
  simp -dsimp only [go_sem, Nat.reduceEqDiff, Nat.reduceAdd, Nat.reduceSub, Nat.reduceMul, Nat.reduceLeDiff, Nat.reduceLT, Nat.reduceBEq, Int.reduceLT, Int.reduceLE, Int.reduceGT, Int.reduceGE, Int.reduceEq, Int.reduceNe, Int.reduceBEq, Int.reduceBNe, Int.reduceAdd, Int.reduceSub, Int.reduceMul, Int.reduceToNat, Int.reduceNeg, ↓reduceIte, ↓reduceDIte]
  have same : Keeps b m a a H H := ⟨Nat.le_refl _, fun j _ _ _ h3 => ⟨rfl, h3⟩⟩
  by_cases h1 : t < 0
  · have e : v.begin t kind arg = (v, 0, 2) := by rw [HV.begin, if_pos (.inl h1)]
    simp -dsimp only [go_sem, Nat.reduceEqDiff, Nat.reduceAdd, Nat.reduceSub, Nat.reduceMul, Nat.reduceLeDiff, Nat.reduceLT, Nat.reduceBEq, Int.reduceLT, Int.reduceLE, Int.reduceGT, Int.reduceGE, Int.reduceEq, Int.reduceNe, Int.reduceBEq, Int.reduceBNe, Int.reduceAdd, Int.reduceSub, Int.reduceMul, Int.reduceToNat, Int.reduceNeg, ↓reduceIte, ↓reduceDIte, h1]
    rw [e]
    exact ⟨a, rfl, h, same⟩
  by_cases h2 : 64 ≤ t
  · have e : v.begin t kind arg = (v, 0, 2) := by rw [HV.begin, if_pos (.inr h2)]
    simp -dsimp only [go_sem, Nat.reduceEqDiff, Nat.reduceAdd, Nat.reduceSub, Nat.reduceMul, Nat.reduceLeDiff, Nat.reduceLT, Nat.reduceBEq, Int.reduceLT, Int.reduceLE, Int.reduceGT, Int.reduceGE, Int.reduceEq, Int.reduceNe, Int.reduceBEq, Int.reduceBNe, Int.reduceAdd, Int.reduceSub, Int.reduceMul, Int.reduceToNat, Int.reduceNeg, ↓reduceIte, ↓reduceDIte, h1, h2]
    rw [e]
    exact ⟨a, rfl, h, same⟩
  cases hb : (v.open t).isSome
  rotate_left
  · have e : v.begin t kind arg = (v, 0, 16) := by rw [HV.begin, if_neg (by omega), if_pos hb]
    simp -dsimp only [go_sem, Nat.reduceEqDiff, Nat.reduceAdd, Nat.reduceSub, Nat.reduceMul, Nat.reduceLeDiff, Nat.reduceLT, Nat.reduceBEq, Int.reduceLT, Int.reduceLE, Int.reduceGT, Int.reduceGE, Int.reduceEq, Int.reduceNe, Int.reduceBEq, Int.reduceBNe, Int.reduceAdd, Int.reduceSub, Int.reduceMul, Int.reduceToNat, Int.reduceNeg, ↓reduceIte, ↓reduceDIte, h1, h2, hb]
    rw [e]
    exact ⟨a, rfl, h, same⟩
  have g0 := lget_at h.row 0
  simp only [List.getElem?_cons_zero] at g0
  by_cases h3 : 1024 ≤ v.l.length
  · have e : v.begin t kind arg = (v, 0, 15) := by rw [HV.begin, if_neg (by omega), if_neg (by rw [hb]; simp), if_pos h3]
    have k3 : 1024 ≤ (v.l.length : Int) := by omega
    simp -dsimp only [go_sem, Nat.reduceEqDiff, Nat.reduceAdd, Nat.reduceSub, Nat.reduceMul, Nat.reduceLeDiff, Nat.reduceLT, Nat.reduceBEq, Int.reduceLT, Int.reduceLE, Int.reduceGT, Int.reduceGE, Int.reduceEq, Int.reduceNe, Int.reduceBEq, Int.reduceBNe, Int.reduceAdd, Int.reduceSub, Int.reduceMul, Int.reduceToNat, Int.reduceNeg, ↓reduceIte, ↓reduceDIte, h1, h2, hb, g0, k3]
    rw [e]
    exact ⟨a, rfl, h, same⟩
  have k3 : ¬ 1024 ≤ (v.l.length : Int) := by omega
  have e : v.begin t kind arg = (({ l := v.l ++ [{ th := t, kind := kind, arg := arg, fr := v.now, to := 0, dn := false, code := 0, ret := 0#64 }], op := v.op ++ [(t, (v.l.length : Int))], now := v.now + 1 } : HV), (v.l.length : Int), (0 : Int)) := by
    rw [HV.begin, if_neg (by omega), if_neg (by rw [hb]; simp), if_neg h3]
  have g2 := lget_at h.row 2
  have g1 := lget_at h.row 1
  simp only [List.getElem?_cons_zero, List.getElem?_cons_succ] at g1 g2
  have hlb := h.lb
  have hb1 := hlb.1
  have hm1 := hlb.2
  have limb : lim ≤ b := Nat.le_trans hl h.nb
  have limm : lim ≤ m := Nat.le_trans hl h.nm
  have hrow := h.row
  have hmp := h.mp
  have hmf : mfind t v.op = none := by
    unfold HV.open at hb
    cases hq : mfind t v.op with
    | none => rfl
    | some p => rw [hq] at hb; cases hb
  have hlf := lfind_ents i64 t v.op
  rw [hmf] at hlf
  simp only [Option.map_none] at hlf
  have hne := h.ne
  have hne' := h.ne.symm
  rcases h.ls with ⟨q1, q2⟩ | ⟨q, q1, q2⟩
  · subst q1
    rw [q2] at g0 e k3 hrow
    have hm2 : m < (H.set b (.row false 0 [.slice (some ⟨H.length + 1, 0, none⟩) 1 1, .map (some m), i64 v.now])).length := by simp; exact hm1
    simp only [List.length_nil] at g0 hrow k3 e
    simp -dsimp only [go_sem, Nat.reduceEqDiff, Nat.reduceAdd, Nat.reduceSub, Nat.reduceMul, Nat.reduceLeDiff, Nat.reduceLT, Nat.reduceBEq, Int.reduceLT, Int.reduceLE, Int.reduceGT, Int.reduceGE, Int.reduceEq, Int.reduceNe, Int.reduceBEq, Int.reduceBNe, Int.reduceAdd, Int.reduceSub, Int.reduceMul, Int.reduceToNat, Int.reduceNeg, ↓reduceIte, ↓reduceDIte, h1, h2, hb, g0, g1, g2, k3, take_app_n, get_app_n, get_app_n0, set_app_n, set_app_n0, lget_app_n, lget_app_n0, lcells_app_n, lcells_app_n0, List.length_set, List.take_of_length_le, List.set_set, get_left, set_left, lget_left, lcells_left, get_set_eq, get_set_ne, lget_set_eq, lget_set_ne, lcells_set_ne, hb1, hm1, hrow, hmp, limb, limm, hlf, hne, hne']
    have key := h.grown (K := H) rfl hnH (.row false 8 [i64 t, i64 kind, w64 arg, i64 v.now, i64 0, .bool false, i64 0, w64 0#64]) { th := t, kind := kind, arg := arg, fr := v.now, to := 0, dn := false, code := 0, ret := 0#64 } (v.op ++ [(t, 0)]) 1 (by rw [q2]; rfl)
    have key2 := (Keeps.grown (b := b) (m := m) (K := H) (H := H) (a := none) (t := [.row false 8 [i64 t, i64 kind, w64 arg, i64 v.now, i64 0, .bool false, i64 0, w64 0#64], .row false 8 [i64 t, i64 kind, w64 arg, i64 v.now, i64 0, .bool false, i64 0, w64 0#64]]) (x := .row false 0 [.slice (some ⟨H.length + 1, 0, none⟩) 1 1, .map (some m), i64 v.now]) (y := .map (ents i64 (v.op ++ [(t, 0)]))) rfl (fun j _ _ => rfl) 1)
    rw [q2] at key
    simp only [ents, List.map_append, List.map_cons, List.map_nil, List.nil_append, List.flatMap_cons, List.flatMap_nil, List.append_nil, CallD.cells] at key key2
    refine CT_heap (step_ev key (by dsimp only; omega)) fun _ => ?_
    simp -dsimp only [go_sem, Nat.reduceEqDiff, Nat.reduceAdd, Nat.reduceSub, Nat.reduceMul, Nat.reduceLeDiff, Nat.reduceLT, Nat.reduceBEq, Int.reduceLT, Int.reduceLE, Int.reduceGT, Int.reduceGE, Int.reduceEq, Int.reduceNe, Int.reduceBEq, Int.reduceBNe, Int.reduceAdd, Int.reduceSub, Int.reduceMul, Int.reduceToNat, Int.reduceNeg, ↓reduceIte, ↓reduceDIte]
    rw [e]
    refine ⟨some ⟨H.length + 1, 0, none⟩, rfl, ?_, ?_⟩
    · have := key.step (v.now + 1)
      simpa [ents] using this
    · have := key2.then (.row false 0 [.slice (some ⟨H.length + 1, 0, none⟩) 1 1, .map (some m), i64 (v.now + 1)])
      simpa [ents] using this
  · subst q1
    have hq1 := (List.getElem?_eq_some_iff.1 q2).1
    have hq2 : lim ≤ q := Nat.le_trans hl (h.na _ rfl)
    have hno : ¬ (v.l.length + 1 ≤ v.l.length ∧ 0 < v.l.length) := by omega
    have k4 : (v.l.length + 1) * 64 ≤ 140737488355328 := by omega
    have k5 : v.l.length ≤ 140737488355327 := by omega
    have k6 : v.l.length * 8 = (v.l.flatMap CallD.cells).length := (flat_len CallD.len v.l).symm
    have k7 : (v.l.flatMap CallD.cells).take (v.l.length * 8) = v.l.flatMap CallD.cells := List.take_of_length_le (by omega)
    have o1 : q ≠ b := h.ob _ rfl
    have o2 : q ≠ m := h.om _ rfl
    simp -dsimp only [go_sem, Nat.reduceEqDiff, Nat.reduceAdd, Nat.reduceSub, Nat.reduceMul, Nat.reduceLeDiff, Nat.reduceLT, Nat.reduceBEq, Int.reduceLT, Int.reduceLE, Int.reduceGT, Int.reduceGE, Int.reduceEq, Int.reduceNe, Int.reduceBEq, Int.reduceBNe, Int.reduceAdd, Int.reduceSub, Int.reduceMul, Int.reduceToNat, Int.reduceNeg, ↓reduceIte, ↓reduceDIte, h1, h2, hb, g0, g1, g2, k3, take_app_n, get_app_n, get_app_n0, set_app_n, set_app_n0, lget_app_n, lget_app_n0, lcells_app_n, lcells_app_n0, List.length_set, List.take_of_length_le, List.set_set, get_left, set_left, lget_left, lcells_left, get_set_eq, get_set_ne, lget_set_eq, lget_set_ne, lcells_set_ne, hb1, hm1, hrow, hmp, limb, limm, hlf, hne, hne', hq1, hq2, hno, k4, k5, k6, k7, q2, o1, o2]
    have key := h.grown (K := H.set q .dead) (by simp) hnH (.row false 8 [i64 t, i64 kind, w64 arg, i64 v.now, i64 0, .bool false, i64 0, w64 0#64]) { th := t, kind := kind, arg := arg, fr := v.now, to := 0, dn := false, code := 0, ret := 0#64 } (v.op ++ [(t, (v.l.length : Int))]) (v.l.length + 1) rfl
    have key2 := (Keeps.grown (b := b) (m := m) (K := H.set q .dead) (H := H) (a := some ⟨q, 0, none⟩) (t := [.row false 8 [i64 t, i64 kind, w64 arg, i64 v.now, i64 0, .bool false, i64 0, w64 0#64], .row false 8 (v.l.flatMap CallD.cells ++ [i64 t, i64 kind, w64 arg, i64 v.now, i64 0, .bool false, i64 0, w64 0#64])]) (x := .row false 0 [.slice (some ⟨H.length + 1, 0, none⟩) (v.l.length + 1) (v.l.length + 1), .map (some m), i64 v.now]) (y := .map (ents i64 (v.op ++ [(t, (v.l.length : Int))]))) (by simp) (fun j _ ho => get_set_ne (ho _ rfl) _) 1)
    have ec : (v.l ++ [({ th := t, kind := kind, arg := arg, fr := v.now, to := 0, dn := false, code := 0, ret := 0#64 } : CallD)]).flatMap CallD.cells = v.l.flatMap CallD.cells ++ [i64 t, i64 kind, w64 arg, i64 v.now, i64 0, .bool false, i64 0, w64 0#64] := by simp [CallD.cells]
    have em : ents i64 (v.op ++ [(t, (v.l.length : Int))]) = ents i64 v.op ++ [(i64 t, i64 (v.l.length : Int))] := by simp [ents]
    have key3 := key.step (v.now + 1)
    have key4 := key2.then (.row false 0 [.slice (some ⟨H.length + 1, 0, none⟩) (v.l.length + 1) (v.l.length + 1), .map (some m), i64 (v.now + 1)])
    rw [ec, em] at key key3
    rw [em] at key4
    refine CT_heap (step_ev key (by dsimp only; omega)) fun _ => ?_
    simp -dsimp only [go_sem, Nat.reduceEqDiff, Nat.reduceAdd, Nat.reduceSub, Nat.reduceMul, Nat.reduceLeDiff, Nat.reduceLT, Nat.reduceBEq, Int.reduceLT, Int.reduceLE, Int.reduceGT, Int.reduceGE, Int.reduceEq, Int.reduceNe, Int.reduceBEq, Int.reduceBNe, Int.reduceAdd, Int.reduceSub, Int.reduceMul, Int.reduceToNat, Int.reduceNeg, ↓reduceIte, ↓reduceDIte]
    rw [e]
    refine ⟨some ⟨H.length + 1, 0, none⟩, rfl, ?_, ?_⟩
    · simpa using key3
    · simpa using key4
theorem erase_map {α β : Type} (f : α → β) : ∀ (l : List α) (i : Nat), (l.map f).eraseIdx i = (l.eraseIdx i).map f
  | [], i => rfl
  | x :: l, 0 => rfl
  | x :: l, i + 1 => by simp [erase_map f l i]
def dropOp (op : List (Int × Int)) (t : Int) : List (Int × Int) := match mfind t op with | some p => op.eraseIdx p.1 | none => op
/-- What End does. -/
def HV.fin (v : HV) (id code : Int) (ret : BitVec 64) : HV × Int :=
  if id < 0 then (v, 13)
  else match v.l[id.toNat]? with
    | none => (v, 13)
    | some c => if c.dn = true then (v, 16) else ({ l := v.l.set id.toNat { c with dn := true, to := v.now, code := code, ret := ret }, op := dropOp v.op c.th, now := v.now + 1 }, 0)
theorem flat_set (l : List CallD) (i : Nat) (c : CallD) (to code : Int) (ret : BitVec 64) (h : l[i]? = some c) :
    ((((l.flatMap CallD.cells).set (i * 8 + 5) (.bool true)).set (i * 8 + 4) (i64 to)).set (i * 8 + 6) (i64 code)).set (i * 8 + 7) (w64 ret) = (l.set i { c with dn := true, to := to, code := code, ret := ret }).flatMap CallD.cells := by
  induction l generalizing i with
  | nil => simp at h
  | cons x l ih =>
    cases i with
    | zero =>
      simp at h; subst h
      simp [CallD.cells]
    | succ i =>
      have h8 := CallD.len x
      rw [List.flatMap_cons]
      rw [List.set_append_right _ _ (by omega), List.set_append_right _ _ (by omega), List.set_append_right _ _ (by omega), List.set_append_right _ _ (by omega)]
      rw [h8, show (i + 1) * 8 + 5 - 8 = i * 8 + 5 by omega, show (i + 1) * 8 + 4 - 8 = i * 8 + 4 by omega, show (i + 1) * 8 + 6 - 8 = i * 8 + 6 by omega, show (i + 1) * 8 + 7 - 8 = i * 8 + 7 by omega]
      rw [ih i (by simpa using h)]
      simp
set_option maxHeartbeats 1000000 in
theorem fin_ev {lim : Nat} {H : LHeap} {b n m : Nat} {a : Option Addr} {v : HV} {id code : Int} {ret : BitVec 64} (hl : lim ≤ n) (h : LogAt n H b m a v) (hn : v.l.length ≤ 1000000) (hw : 0 ≤ v.now ∧ v.now < 1000000000) :
    callE T 34 lim [ptr b, i64 id, i64 code, w64 ret] H fun r H' => r = i64 (v.fin id code ret).2 ∧ LogAt n H' b m a (v.fin id code ret).1 ∧ Keeps b m a a H H' := by
  refine callE_stay rfl (by simp) rfl ?_
  simp -dsimp only [go_sem, Nat.reduceEqDiff, Nat.reduceAdd, Nat.reduceSub, Nat.reduceMul, Nat.reduceLeDiff, Nat.reduceLT, Nat.reduceBEq, Int.reduceLT, Int.reduceLE, Int.reduceGT, Int.reduceGE, Int.reduceEq, Int.reduceNe, Int.reduceBEq, Int.reduceBNe, Int.reduceAdd, Int.reduceSub, Int.reduceMul, Int.reduceToNat, Int.reduceNeg, ↓reduceIte, ↓reduceDIte]
  refine CT_val (none_no h) ?_
  have same : Keeps b m a a H H := ⟨Nat.le_refl _, fun j _ _ _ h3 => ⟨rfl, h3⟩⟩
  by_cases h1 : id < 0
  · have e : v.fin id code ret = (v, 13) := by rw [HV.fin, if_pos h1]
    simp -dsimp only [go_sem, Nat.reduceEqDiff, Nat.reduceAdd, Nat.reduceSub, Nat.reduceMul, Nat.reduceLeDiff, Nat.reduceLT, Nat.reduceBEq, Int.reduceLT, Int.reduceLE, Int.reduceGT, Int.reduceGE, Int.reduceEq, Int.reduceNe, Int.reduceBEq, Int.reduceBNe, Int.reduceAdd, Int.reduceSub, Int.reduceMul, Int.reduceToNat, Int.reduceNeg, ↓reduceIte, ↓reduceDIte, h1]
    rw [e]
    exact ⟨rfl, h, same⟩
  obtain ⟨i, rfl⟩ := Int.eq_ofNat_of_zero_le (Int.not_lt.1 h1)
  have g0 := lget_at h.row 0
  have g1 := lget_at h.row 1
  have g2 := lget_at h.row 2
  simp only [List.getElem?_cons_zero, List.getElem?_cons_succ] at g0 g1 g2
  cases hc : v.l[i]? with
  | none =>
    have e : v.fin i code ret = (v, 13) := by simp [HV.fin, hc]
    have k1 : (v.l.length : Int) ≤ (i : Int) := by have := List.getElem?_eq_none_iff.1 hc; omega
    simp -dsimp only [go_sem, Nat.reduceEqDiff, Nat.reduceAdd, Nat.reduceSub, Nat.reduceMul, Nat.reduceLeDiff, Nat.reduceLT, Nat.reduceBEq, Int.reduceLT, Int.reduceLE, Int.reduceGT, Int.reduceGE, Int.reduceEq, Int.reduceNe, Int.reduceBEq, Int.reduceBNe, Int.reduceAdd, Int.reduceSub, Int.reduceMul, Int.reduceToNat, Int.reduceNeg, ↓reduceIte, ↓reduceDIte, h1, g0, k1]
    rw [e]
    exact ⟨rfl, h, same⟩
  | some c =>
    have hi := (List.getElem?_eq_some_iff.1 hc).1
    have k1 : ¬ (v.l.length : Int) ≤ (i : Int) := by omega
    have k2 : (i : Int) < (v.l.length : Int) := by omega
    have k3 : 0 ≤ (i : Int) := by omega
    rcases h.ls with ⟨q1, q2⟩ | ⟨q, q1, q2⟩
    · rw [q2] at hc; simp at hc
    subst q1
    obtain ⟨_, _, q3, _, _, hg⟩ := h.sl.rowsAt (f := CallD.cells) CallD.len (by omega) (by omega)
    cases q3
    have r5 := hg [] i c 5 hc (by omega)
    have r0 := hg [] i c 0 hc (by omega)
    simp only [List.append_nil, CallD.cells, List.getElem?_cons_zero, List.getElem?_cons_succ, Nat.zero_add, Nat.add_zero] at r5 r0
    cases hd : c.dn
    rotate_left
    · have e : v.fin i code ret = (v, 16) := by simp [HV.fin, hc, hd]
      rw [hd] at r5
      simp -dsimp only [go_sem, Nat.reduceEqDiff, Nat.reduceAdd, Nat.reduceSub, Nat.reduceMul, Nat.reduceLeDiff, Nat.reduceLT, Nat.reduceBEq, Int.reduceLT, Int.reduceLE, Int.reduceGT, Int.reduceGE, Int.reduceEq, Int.reduceNe, Int.reduceBEq, Int.reduceBNe, Int.reduceAdd, Int.reduceSub, Int.reduceMul, Int.reduceToNat, Int.reduceNeg, ↓reduceIte, ↓reduceDIte, h1, g0, k1, k2, k3, r5]
      rw [e]
      exact ⟨rfl, h, same⟩
    rw [hd] at r5
    have e : v.fin i code ret = ({ l := v.l.set i { c with dn := true, to := v.now, code := code, ret := ret }, op := dropOp v.op c.th, now := v.now + 1 }, 0) := by simp [HV.fin, hc, hd]
    have hb1 := h.lb.1
    have hm1 := h.lb.2
    have hrow := h.row
    have hmp := h.mp
    have limm : lim ≤ m := Nat.le_trans hl h.nm
    have hne := h.ne
    have hne' := h.ne.symm
    have hq1 := (List.getElem?_eq_some_iff.1 q2).1
    have o1 : q ≠ b := h.ob _ rfl
    have o2 : q ≠ m := h.om _ rfl
    have hfl := flat_len CallD.len v.l
    have f5 : i * 8 + 5 < (v.l.flatMap CallD.cells).length := by omega
    have f4 : i * 8 + 4 < (v.l.flatMap CallD.cells).length := by omega
    have f6 : i * 8 + 6 < (v.l.flatMap CallD.cells).length := by omega
    have f7 : i * 8 + 7 < (v.l.flatMap CallD.cells).length := by omega
    have fs := flat_set v.l i c v.now code ret hc
    have gth : ((v.l.set i { c with dn := true, to := v.now, code := code, ret := ret }).flatMap CallD.cells)[i * 8]? = some (i64 c.th) := by
      have := flat_at (f := CallD.cells) CallD.len (v.l.set i { c with dn := true, to := v.now, code := code, ret := ret }) i { c with dn := true, to := v.now, code := code, ret := ret } (by simp [hi])
      have := congrArg (fun x : List Value => x[0]?) this
      simpa [CallD.cells] using this
    have f5' : i * 8 + 5 + 1 ≤ (v.l.flatMap CallD.cells).length := by omega
    have f4' : i * 8 + 4 + 1 ≤ (v.l.flatMap CallD.cells).length := by omega
    have f6' : i * 8 + 6 + 1 ≤ (v.l.flatMap CallD.cells).length := by omega
    have f7' : i * 8 + 7 + 1 ≤ (v.l.flatMap CallD.cells).length := by omega
    have hlf := lfind_ents i64 c.th v.op
    have lenset : (v.l.set i { c with dn := true, to := v.now, code := code, ret := ret }).length = v.l.length := by simp
    have fin : ∀ X : LHeap, (X = (H.set q (.row false 8 ((v.l.set i { c with dn := true, to := v.now, code := code, ret := ret }).flatMap CallD.cells))).set m (.map (ents i64 (dropOp v.op c.th)))) →
        LogAt n X b m (some ⟨q, 0, none⟩) { l := v.l.set i { c with dn := true, to := v.now, code := code, ret := ret }, op := dropOp v.op c.th, now := v.now } ∧ Keeps b m (some ⟨q, 0, none⟩) (some ⟨q, 0, none⟩) H X := by
      rintro X rfl
      refine ⟨⟨?_, ?_, .inr ⟨q, rfl, ?_⟩, h.nb, h.nm, h.na, h.ne, h.ob, h.om⟩, by simp, fun j j1 j2 j3 j4 => ⟨?_, j4⟩⟩
      · rw [get_set_ne hne', get_set_ne o1, hrow, lenset]
      · rw [get_set_eq (by simpa using hm1)]
      · rw [get_set_ne o2.symm, get_set_eq hq1]
      · rw [get_set_ne (fun e => j3 e.symm), get_set_ne (j4 _ rfl)]
    cases hmf : mfind c.th v.op with
    | none =>
      rw [hmf] at hlf
      simp only [Option.map_none] at hlf
      have hdo : dropOp v.op c.th = v.op := by simp [dropOp, hmf]
      have hsame : (H.set q (.row false 8 ((v.l.set i { c with dn := true, to := v.now, code := code, ret := ret }).flatMap CallD.cells))).set m (.map (ents i64 v.op)) = H.set q (.row false 8 ((v.l.set i { c with dn := true, to := v.now, code := code, ret := ret }).flatMap CallD.cells)) :=
        set_same (by rw [get_set_ne o2]; exact hmp)
      rw [hdo] at fin
      rw [hsame] at fin
      obtain ⟨z1, z2⟩ := fin _ rfl
      simp -dsimp only [go_sem, Nat.reduceEqDiff, Nat.reduceAdd, Nat.reduceSub, Nat.reduceMul, Nat.reduceLeDiff, Nat.reduceLT, Nat.reduceBEq, Int.reduceLT, Int.reduceLE, Int.reduceGT, Int.reduceGE, Int.reduceEq, Int.reduceNe, Int.reduceBEq, Int.reduceBNe, Int.reduceAdd, Int.reduceSub, Int.reduceMul, Int.reduceToNat, Int.reduceNeg, ↓reduceIte, ↓reduceDIte, h1, g0, g1, g2, k1, k2, k3, r5, take_app_n, get_app_n, get_app_n0, set_app_n, set_app_n0, lget_app_n, lget_app_n0, lcells_app_n, lcells_app_n0, List.length_set, List.take_of_length_le, List.set_set, get_left, set_left, lget_left, lcells_left, get_set_eq, get_set_ne, lget_set_eq, lget_set_ne, lcells_set_ne, hb1, hm1, hrow, hmp, limm, hne, hne', hq1, q2, o1, o2, f5, f4, f6, f7, f5', f4', f6', f7', fs, gth, hlf]
      refine CT_heap (step_ev z1 (by dsimp only; omega)) fun _ => ?_
      simp -dsimp only [go_sem, Nat.reduceEqDiff, Nat.reduceAdd, Nat.reduceSub, Nat.reduceMul, Nat.reduceLeDiff, Nat.reduceLT, Nat.reduceBEq, Int.reduceLT, Int.reduceLE, Int.reduceGT, Int.reduceGE, Int.reduceEq, Int.reduceNe, Int.reduceBEq, Int.reduceBNe, Int.reduceAdd, Int.reduceSub, Int.reduceMul, Int.reduceToNat, Int.reduceNeg, ↓reduceIte, ↓reduceDIte]
      rw [e, hdo]
      exact ⟨rfl, z1.step _, z2.then _⟩
    | some p =>
      rw [hmf] at hlf
      simp only [Option.map_some] at hlf
      have hdo : dropOp v.op c.th = v.op.eraseIdx p.1 := by simp [dropOp, hmf]
      have hme : (ents i64 v.op).eraseIdx p.1 = ents i64 (v.op.eraseIdx p.1) := by simp [ents, erase_map]
      rw [hdo] at fin
      obtain ⟨z1, z2⟩ := fin _ rfl
      simp -dsimp only [go_sem, Nat.reduceEqDiff, Nat.reduceAdd, Nat.reduceSub, Nat.reduceMul, Nat.reduceLeDiff, Nat.reduceLT, Nat.reduceBEq, Int.reduceLT, Int.reduceLE, Int.reduceGT, Int.reduceGE, Int.reduceEq, Int.reduceNe, Int.reduceBEq, Int.reduceBNe, Int.reduceAdd, Int.reduceSub, Int.reduceMul, Int.reduceToNat, Int.reduceNeg, ↓reduceIte, ↓reduceDIte, h1, g0, g1, g2, k1, k2, k3, r5, take_app_n, get_app_n, get_app_n0, set_app_n, set_app_n0, lget_app_n, lget_app_n0, lcells_app_n, lcells_app_n0, List.length_set, List.take_of_length_le, List.set_set, get_left, set_left, lget_left, lcells_left, get_set_eq, get_set_ne, lget_set_eq, lget_set_ne, lcells_set_ne, hb1, hm1, hrow, hmp, limm, hne, hne', hq1, q2, o1, o2, f5, f4, f6, f7, f5', f4', f6', f7', fs, gth, hlf, hme]
      refine CT_heap (step_ev z1 (by dsimp only; omega)) fun _ => ?_
      simp -dsimp only [go_sem, Nat.reduceEqDiff, Nat.reduceAdd, Nat.reduceSub, Nat.reduceMul, Nat.reduceLeDiff, Nat.reduceLT, Nat.reduceBEq, Int.reduceLT, Int.reduceLE, Int.reduceGT, Int.reduceGE, Int.reduceEq, Int.reduceNe, Int.reduceBEq, Int.reduceBNe, Int.reduceAdd, Int.reduceSub, Int.reduceMul, Int.reduceToNat, Int.reduceNeg, ↓reduceIte, ↓reduceDIte]
      rw [e, hdo]
      exact ⟨rfl, z1.step _, z2.then _⟩
/-! a log that nobody made -/
end Go.Proofs.Ytfobpjjpaehhpaa
