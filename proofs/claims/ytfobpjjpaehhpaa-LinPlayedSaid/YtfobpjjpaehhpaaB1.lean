/- Texts that tell queues apart. -/
import Derived.Test.YtfobpjjpaehhpaaB0
namespace Go.Proofs.Ytfobpjjpaehhpaa
open Go Go.LK
set_option linter.unusedSimpArgs false
set_option linter.unusedVariables false
/-- A word's bytes, the first so many. -/
def bytesN (v : BitVec 64) (k : Nat) : List UInt8 := (List.range k).map fun j => UInt8.ofNat (v >>> (8 * j)).toNat
theorem bytesN_succ (v : BitVec 64) (k : Nat) : bytesN v (k + 1) = bytesN v k ++ [UInt8.ofNat (v >>> (8 * k)).toNat] := by
  simp [bytesN, List.range_succ]
theorem bytesN_len (v : BitVec 64) (k : Nat) : (bytesN v k).length = k := by simp [bytesN]
theorem shr_eq (v : BitVec 64) (k : Nat) : ((v >>> (8 * k)) >>> (8 : Nat)) = v >>> (8 * (k + 1)) := by
  rw [← BitVec.shiftRight_add]; congr 1
theorem lay_ev {lim : Nat} {a : Option Addr} {c : List UInt8} {v : BitVec 64} {H t : LHeap} {k : Nat} (hl : lim ≤ H.length) (ho : Own 1 (H ++ t) H.length a (c.map b8)) (hk : c.length = k) (hn : k < 100000000) :
    callE T 29 lim [.slice a k k, w64 v] (H ++ t) fun r H' => ∃ a' t', r = .slice a' (k + 8) (k + 8) ∧ H' = H ++ t' ∧ Own 1 (H ++ t') H.length a' ((c ++ bytesN v 8).map b8) ∧
      (∀ j o, t[j]? = some o → Off (H.length + j) a → t'[j]? = some o ∧ Off (H.length + j) a') := by
  refine callE_stay rfl (by simp) rfl ?_
  simp -dsimp only [go_sem, Nat.reduceEqDiff, Nat.reduceAdd, Nat.reduceSub, Nat.reduceMul, Nat.reduceLeDiff, Nat.reduceLT, Nat.reduceBEq, Int.reduceLT, Int.reduceLE, Int.reduceGT, Int.reduceGE, Int.reduceEq, Int.reduceNe, Int.reduceBEq, Int.reduceBNe, Int.reduceAdd, Int.reduceSub, Int.reduceMul, Int.reduceToNat, Int.reduceNeg, ↓reduceIte, ↓reduceDIte]
  refine LT_of (fun s : Nat × Option Addr × LHeap => [(0, .slice s.2.1 (k + s.1) (k + s.1)), (1, w64 (v >>> (8 * s.1))), (5, i64 s.1)]) (fun s => H ++ s.2.2) (fun s => s.1 ≤ 8 ∧ Own 1 (H ++ s.2.2) H.length s.2.1 ((c ++ bytesN v s.1).map b8) ∧ (∀ j o, t[j]? = some o → Off (H.length + j) a → s.2.2[j]? = some o ∧ Off (H.length + j) s.2.1)) (fun s => 8 - s.1) (0, a, t) (by simp) rfl ⟨by simp, by simpa [bytesN] using ho, fun j o h1 h2 => ⟨h1, h2⟩⟩ ?_
  rintro ⟨i, a', t'⟩ ⟨hi, ho, hk0⟩
  simp only at hi ho hk0 ⊢
  by_cases hlt : i < 8
  · have h1 : (i : Int) < 8 := by omega
    have hw : IntKind.i64.wrap ((i : Int) + 1) = ((i + 1 : Nat) : Int) := by rw [wrap_i64] <;> omega
    have g2 := fun u news => ho.grow (k := k + i) (bytes := 1) (lim := lim) (by simp [bytesN_len, hk]) (by omega) hl (by omega) (by omega) u news
    have h8 : min (8#64).toNat 64 = 8 := rfl
    simp -dsimp only [go_sem, Nat.reduceEqDiff, Nat.reduceAdd, Nat.reduceSub, Nat.reduceMul, Nat.reduceLeDiff, Nat.reduceLT, Nat.reduceBEq, Int.reduceLT, Int.reduceLE, Int.reduceGT, Int.reduceGE, Int.reduceEq, Int.reduceNe, Int.reduceBEq, Int.reduceBNe, Int.reduceAdd, Int.reduceSub, Int.reduceMul, Int.reduceToNat, Int.reduceNeg, ↓reduceIte, ↓reduceDIte, h1, g2, hw, h8, shr_eq v i]
    refine ⟨(i + 1, some ⟨H.length + (t'.length + 1), 0, none⟩, _), rfl, rfl, ⟨by dsimp only; omega, ?_, fun j o q1 q2 => ?_⟩, by dsimp only; omega⟩
    · dsimp only
      rw [show (c ++ bytesN v (i + 1)).map b8 = (c ++ bytesN v i).map b8 ++ [b8 (UInt8.ofNat (v >>> (8 * i)).toNat)] by simp [bytesN_succ]]
      exact Own.grown (u := [_]) rfl (by simp) a'
    · obtain ⟨q3, q4⟩ := hk0 j o q1 q2
      have hj : j < t'.length := (List.getElem?_eq_some_iff.1 q3).1
      exact ⟨get_old (killT_get ho rfl q3 q4) _, fun x hx => by cases hx; dsimp only; omega⟩
  · have h1 : ¬ (i : Int) < 8 := by omega
    simp -dsimp only [go_sem, Nat.reduceEqDiff, Nat.reduceAdd, Nat.reduceSub, Nat.reduceMul, Nat.reduceLeDiff, Nat.reduceLT, Nat.reduceBEq, Int.reduceLT, Int.reduceLE, Int.reduceGT, Int.reduceGE, Int.reduceEq, Int.reduceNe, Int.reduceBEq, Int.reduceBNe, Int.reduceAdd, Int.reduceSub, Int.reduceMul, Int.reduceToNat, Int.reduceNeg, ↓reduceIte, ↓reduceDIte, h1]
    have : i = 8 := by omega
    subst this
    exact ⟨_, _, rfl, rfl, ho, hk0⟩
/-- A queue's key. -/
def keyN (cap : Int) (l : List (BitVec 64)) : List UInt8 := bytesN (BitVec.ofInt 64 cap) 8 ++ l.flatMap (bytesN · 8)
theorem keyN_len (cap : Int) (l : List (BitVec 64)) : (keyN cap l).length = 8 + 8 * l.length := by
  simp only [keyN, List.length_append, bytesN_len, List.length_flatMap]
  rw [List.map_const', List.sum_replicate_nat]; omega
theorem keyN_snoc (cap : Int) (l : List (BitVec 64)) (x : BitVec 64) : keyN cap (l ++ [x]) = keyN cap l ++ bytesN x 8 := by
  simp [keyN]
theorem key_ev {lim : Nat} {cap : Int} {a : Option Addr} {l : List (BitVec 64)} {H : LHeap} (hs : Sl 1 H a (l.map w64)) (hn : l.length < 1000000) :
    callE T 17 lim [fifo cap a l.length] H fun v H' => v = strV (keyN cap l) ∧ H' = H := by
  refine callE_pop rfl (by simp) rfl ?_
  simp -dsimp only [go_sem, Nat.reduceEqDiff, Nat.reduceAdd, Nat.reduceSub, Nat.reduceMul, Nat.reduceLeDiff, Nat.reduceLT, Nat.reduceBEq, Int.reduceLT, Int.reduceLE, Int.reduceGT, Int.reduceGE, Int.reduceEq, Int.reduceNe, Int.reduceBEq, Int.reduceBNe, Int.reduceAdd, Int.reduceSub, Int.reduceMul, Int.reduceToNat, Int.reduceNeg, ↓reduceIte, ↓reduceDIte]
  refine CT_of (lay_ev (c := []) (by omega) (Own.nil _ _ _) rfl (by omega)) ?_
  rintro _ _ ⟨a1, t1, rfl, rfl, g1, g0⟩
  have hb := (g0 0 _ rfl (fun x hx => by cases hx)).1
  have hb1 : lget t1 0 1 = some (.slice a l.length l.length) := by simp [lget, hb]
  simp -dsimp only [go_sem, Nat.reduceEqDiff, Nat.reduceAdd, Nat.reduceSub, Nat.reduceMul, Nat.reduceLeDiff, Nat.reduceLT, Nat.reduceBEq, Int.reduceLT, Int.reduceLE, Int.reduceGT, Int.reduceGE, Int.reduceEq, Int.reduceNe, Int.reduceBEq, Int.reduceBNe, Int.reduceAdd, Int.reduceSub, Int.reduceMul, Int.reduceToNat, Int.reduceNeg, ↓reduceIte, ↓reduceDIte, hb1]
  refine LT_of (fun s : Nat × Option Addr × LHeap => [(3, .slice s.2.1 (8 + 8 * s.1) (8 + 8 * s.1)), (11, .slice a l.length l.length), (12, i64 l.length), (13, i64 s.1)]) (fun s => H ++ s.2.2) (fun s => s.1 ≤ l.length ∧ Own 1 (H ++ s.2.2) H.length s.2.1 ((keyN cap (l.take s.1)).map b8)) (fun s => l.length - s.1) (0, a1, t1) rfl rfl ⟨by simp, by simpa [keyN] using g1⟩ ?_
  rintro ⟨i, a', t⟩ ⟨hi, ho⟩
  simp only at hi ho ⊢
  have hkl := keyN_len cap (l.take i)
  rw [List.length_take, Nat.min_eq_left hi] at hkl
  by_cases hlt : i < l.length
  · have h1 : (i : Int) < l.length := by omega
    have h3 : 0 ≤ (i : Int) := by omega
    have hw : IntKind.i64.wrap ((i : Int) + 1) = ((i + 1 : Nat) : Int) := by rw [wrap_i64] <;> omega
    have k1 : l[i]? = some (l[i]'hlt) := List.getElem?_eq_getElem _
    generalize l[i]'hlt = x at k1
    obtain ⟨b, o, rfl, hb, hg⟩ := hs.all (by simp; omega)
    have g2 := fun t => hg t i (w64 x) (by simp [k1])
    simp -dsimp only [go_sem, Nat.reduceEqDiff, Nat.reduceAdd, Nat.reduceSub, Nat.reduceMul, Nat.reduceLeDiff, Nat.reduceLT, Nat.reduceBEq, Int.reduceLT, Int.reduceLE, Int.reduceGT, Int.reduceGE, Int.reduceEq, Int.reduceNe, Int.reduceBEq, Int.reduceBNe, Int.reduceAdd, Int.reduceSub, Int.reduceMul, Int.reduceToNat, Int.reduceNeg, ↓reduceIte, ↓reduceDIte, h1, h3, g2, hw]
    refine CT_of (lay_ev (by omega) ho hkl (by omega)) ?_
    rintro _ _ ⟨a2, t2, rfl, rfl, g3, _⟩
    simp -dsimp only [go_sem, Nat.reduceEqDiff, Nat.reduceAdd, Nat.reduceSub, Nat.reduceMul, Nat.reduceLeDiff, Nat.reduceLT, Nat.reduceBEq, Int.reduceLT, Int.reduceLE, Int.reduceGT, Int.reduceGE, Int.reduceEq, Int.reduceNe, Int.reduceBEq, Int.reduceBNe, Int.reduceAdd, Int.reduceSub, Int.reduceMul, Int.reduceToNat, Int.reduceNeg, ↓reduceIte, ↓reduceDIte, h1, h3, g2, hw]
    refine ⟨(i + 1, a2, t2), by simp only [show 8 + 8 * (i + 1) = 8 + 8 * i + 8 by omega], rfl, ⟨by dsimp only; omega, ?_⟩, by dsimp only; omega⟩
    dsimp only
    rw [List.take_add_one, k1]
    simp only [Option.toList_some, keyN_snoc]
    exact g3
  · have h1 : ¬ (i : Int) < l.length := by omega
    have : i = l.length := by omega
    subst this
    rw [List.take_length] at ho
    rcases ho with ⟨_, h⟩ | ⟨b, rfl, hb1, hb2⟩
    · have := congrArg List.length h
      simp [keyN_len] at this
    · have hc := lcells_of (n := 8 + 8 * l.length) hb2 (by simp [keyN_len])
      simp -dsimp only [go_sem, Nat.reduceEqDiff, Nat.reduceAdd, Nat.reduceSub, Nat.reduceMul, Nat.reduceLeDiff, Nat.reduceLT, Nat.reduceBEq, Int.reduceLT, Int.reduceLE, Int.reduceGT, Int.reduceGE, Int.reduceEq, Int.reduceNe, Int.reduceBEq, Int.reduceBNe, Int.reduceAdd, Int.reduceSub, Int.reduceMul, Int.reduceToNat, Int.reduceNeg, ↓reduceIte, ↓reduceDIte, h1, hc, bytesOf_b8]
theorem bytesN_inj {x y : BitVec 64} (h : bytesN x 8 = bytesN y 8) : x = y := by
  have e : ∀ j, j < 8 → x.toNat / 256 ^ j % 256 = y.toNat / 256 ^ j % 256 := by
    intro j hj
    have := congrArg (fun l => l[j]?) h
    simp only [bytesN, List.getElem?_map, List.getElem?_range hj, Option.map_some, Option.some.injEq] at this
    have := congrArg UInt8.toNat this
    simpa [UInt8.toNat_ofNat', BitVec.toNat_ushiftRight, Nat.shiftRight_eq_div_pow, Nat.pow_mul] using this
  have h0 := e 0 (by omega)
  have h1 := e 1 (by omega)
  have h2 := e 2 (by omega)
  have h3 := e 3 (by omega)
  have h4 := e 4 (by omega)
  have h5 := e 5 (by omega)
  have h6 := e 6 (by omega)
  have h7 := e 7 (by omega)
  have hx := x.isLt
  have hy := y.isLt
  refine BitVec.eq_of_toNat_eq ?_
  omega
theorem keys_inj : ∀ {l m : List (BitVec 64)}, l.flatMap (bytesN · 8) = m.flatMap (bytesN · 8) → l = m
  | [], [], _ => rfl
  | [], y :: m, h => by
    have := congrArg List.length h
    simp only [List.flatMap_nil, List.flatMap_cons, List.length_append, bytesN_len, List.length_nil] at this
    omega
  | x :: l, [], h => by
    have := congrArg List.length h
    simp only [List.flatMap_nil, List.flatMap_cons, List.length_append, bytesN_len, List.length_nil] at this
    omega
  | x :: l, y :: m, h => by
    simp only [List.flatMap_cons] at h
    obtain ⟨h1, h2⟩ := List.append_inj h (by simp [bytesN_len])
    rw [bytesN_inj h1, keys_inj h2]
theorem keyN_eq {c d : Int} {l m : List (BitVec 64)} (hc : -9223372036854775808 ≤ c ∧ c ≤ 9223372036854775807) (hd : -9223372036854775808 ≤ d ∧ d ≤ 9223372036854775807) :
    (keyN c l == keyN d m) = decide (c = d ∧ l = m) := by
  rw [Bool.eq_iff_iff, beq_iff_eq, decide_eq_true_eq]
  constructor
  · intro h
    obtain ⟨h1, h2⟩ := List.append_inj h (by simp [bytesN_len])
    refine ⟨?_, keys_inj h2⟩
    have := congrArg BitVec.toInt (bytesN_inj h1)
    rw [BitVec.toInt_ofInt, BitVec.toInt_ofInt] at this
    rw [Int.bmod_eq_of_le (by omega) (by omega), Int.bmod_eq_of_le (by omega) (by omega)] at this
    exact this
  · rintro ⟨rfl, rfl⟩; rfl
end Go.Proofs.Ytfobpjjpaehhpaa
