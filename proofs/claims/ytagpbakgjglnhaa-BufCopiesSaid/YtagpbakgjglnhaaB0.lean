/- Words of a text's bytes: plain. -/
import Derived.Test.YtagpbakgjglnhaaM3
import Derived.Test.YtagpbakgjglnhaaC1
namespace Go.Proofs.Ytagpbakgjglnhaa
open Go Go.LK
set_option linter.unusedSimpArgs false
set_option linter.unusedVariables false
/-- The number of which these are the bytes, the least one first. -/
def wN : List UInt8 → Nat
  | [] => 0
  | x :: l => x.toNat + 256 * wN l
theorem u8_lt (x : UInt8) : x.toNat < 256 := x.toNat_lt
theorem wN_lt : ∀ l : List UInt8, wN l < 256 ^ l.length
  | [] => by simp [wN]
  | x :: l => by
    have := wN_lt l
    have := u8_lt x
    simp only [wN, List.length_cons, Nat.pow_succ]
    omega
theorem wN_snoc (x : UInt8) : ∀ l : List UInt8, wN (l ++ [x]) = wN l + 256 ^ l.length * x.toNat
  | [] => by simp [wN]
  | y :: l => by
    simp only [List.cons_append, wN, wN_snoc x l, List.length_cons, Nat.pow_succ, Nat.mul_add]
    rw [Nat.add_assoc, Nat.mul_comm (256 ^ l.length) 256, Nat.mul_assoc]
/-- The j-th word of a text. -/
def wordAt (s : List UInt8) (j : Nat) : BitVec 64 := BitVec.ofNat 64 (wN ((s.drop (8 * j)).take 8))
theorem or_byte (c : List UInt8) (x : UInt8) (h : c.length ≤ 7) : BitVec.ofNat 64 (wN c) ||| (BitVec.ofNat 64 x.toNat <<< (8 * c.length)) = BitVec.ofNat 64 (wN (c ++ [x])) := by
  have h1 := wN_lt c
  have h2 := u8_lt x
  have e : (256 : Nat) ^ c.length = 2 ^ (8 * c.length) := by rw [Nat.pow_mul]
  have h3 : (2 : Nat) ^ (8 * c.length) ≤ 2 ^ 56 := Nat.pow_le_pow_right (by omega) (by omega)
  have h4 : x.toNat * 2 ^ (8 * c.length) ≤ 255 * 2 ^ 56 := Nat.mul_le_mul (by omega) h3
  apply BitVec.eq_of_toNat_eq
  rw [BitVec.toNat_or, BitVec.toNat_shiftLeft, BitVec.toNat_ofNat, BitVec.toNat_ofNat, BitVec.toNat_ofNat, wN_snoc, e, Nat.shiftLeft_eq]
  rw [Nat.mod_eq_of_lt (a := x.toNat) (by omega), Nat.mod_eq_of_lt (a := x.toNat * _) (by omega), Nat.mod_eq_of_lt (a := wN c) (by omega)]
  rw [Nat.mod_eq_of_lt (by rw [Nat.mul_comm] at h4; omega), Nat.add_comm (wN c), Nat.two_pow_add_eq_or_of_lt (by omega), Nat.or_comm, Nat.mul_comm]
def payN (s : List UInt8) (n i : Nat) : List (BitVec 64) := BitVec.ofNat 64 n :: (List.range ((n + 7) / 8)).map (wordAt (s.take i))
/-- The document's words of a text. -/
def pay (s : List UInt8) : List (BitVec 64) := payN s s.length s.length
theorem payN_len (s : List UInt8) (n i : Nat) : (payN s n i).length = 1 + (n + 7) / 8 := by simp [payN]; omega
theorem payN_at {s : List UInt8} {n i j : Nat} (h : j < (n + 7) / 8) : (payN s n i)[1 + j]? = some (wordAt (s.take i) j) := by
  rw [Nat.add_comm]; simp [payN, h]
theorem take_snoc {s : List UInt8} {i : Nat} {x : UInt8} (hx : s[i]? = some x) : s.take (i + 1) = s.take i ++ [x] := by
  rw [List.take_add_one, hx]; rfl
theorem payN_step {s : List UInt8} {i : Nat} {x : UInt8} (hx : s[i]? = some x) :
    (payN s s.length i).set (1 + i / 8) (wordAt (s.take i) (i / 8) ||| (BitVec.ofNat 64 x.toNat <<< (8 * (i % 8)))) = payN s s.length (i + 1) := by
  have hi : i < s.length := (List.getElem?_eq_some_iff.1 hx).1
  have hl : (s.take i).length = i := by simp; omega
  have hd : i = 8 * (i / 8) + i % 8 := by omega
  have hm : i % 8 < 8 := Nat.mod_lt _ (by omega)
  apply List.ext_getElem?
  intro j
  cases j with
  | zero => rw [List.getElem?_set_ne (by omega)]; simp [payN]
  | succ j =>
    rw [Nat.add_comm j 1]
    by_cases hj : j < (s.length + 7) / 8
    · rw [payN_at hj]
      have hc : ((s.take i).drop (8 * (i / 8))).length = i % 8 := by rw [List.length_drop, hl]; omega
      by_cases he : j = i / 8
      · subst he
        rw [List.getElem?_set_self (by rw [payN_len]; omega)]
        congr 1
        have h1 : (((s.take i).drop (8 * (i / 8))).take 8) = (s.take i).drop (8 * (i / 8)) := List.take_of_length_le (by omega)
        have h2 : (((s.take (i + 1)).drop (8 * (i / 8))).take 8) = (s.take i).drop (8 * (i / 8)) ++ [x] := by
          rw [take_snoc hx, List.drop_append_of_le_length (by omega)]
          exact List.take_of_length_le (by simp only [List.length_append, List.length_cons, List.length_nil]; omega)
        have := or_byte ((s.take i).drop (8 * (i / 8))) x (by omega)
        rw [hc] at this
        rw [wordAt, wordAt, h1, h2, this]
      · rw [List.getElem?_set_ne (by omega), payN_at hj]
        congr 1
        rw [wordAt, wordAt]
        congr 2
        rw [take_snoc hx]
        by_cases hlt : j < i / 8
        · rw [List.drop_append_of_le_length (by omega), List.take_append_of_le_length (by rw [List.length_drop]; omega)]
        · rw [List.drop_eq_nil_of_le (by omega), List.drop_eq_nil_of_le (by simp only [List.length_append, List.length_cons, List.length_nil]; omega)]
    · rw [List.getElem?_eq_none (by rw [List.length_set, payN_len]; omega), List.getElem?_eq_none (by rw [payN_len]; omega)]
theorem pay0 (s : List UInt8) (n : Nat) : payN s n 0 = BitVec.ofNat 64 n :: List.replicate ((n + 7) / 8) 0#64 := by
  simp only [payN, List.take_zero]
  congr 1
  rw [List.eq_replicate_iff]
  refine ⟨by simp, fun b hb => ?_⟩
  obtain ⟨j, _, rfl⟩ := List.mem_map.1 hb
  simp [wordAt, wN]
/-- From the last one on. -/
theorem horner {s : List UInt8} (i k : Nat) (h : k ≤ 7) : 256#64 * BitVec.ofNat 64 (wN ((s.drop (i + (k + 1))).take (7 - k))) + (match s[i + k]? with | some x => BitVec.ofNat 64 x.toNat | none => 0#64) = BitVec.ofNat 64 (wN ((s.drop (i + k)).take (8 - k))) := by
  rw [← BitVec.ofNat_mul]
  cases hx : s[i + k]? with
  | none =>
    have := List.getElem?_eq_none_iff.1 hx
    rw [List.drop_eq_nil_of_le (by omega), List.drop_eq_nil_of_le (by omega)]
    simp [wN]
  | some x =>
    have hi := (List.getElem?_eq_some_iff.1 hx).1
    have e : s.drop (i + k) = x :: s.drop (i + (k + 1)) := by
      rw [List.drop_eq_getElem_cons hi, (List.getElem?_eq_some_iff.1 hx).2]; rfl
    rw [e, show 8 - k = (7 - k) + 1 by omega, List.take_succ_cons, wN, ← BitVec.ofNat_add]
    congr 1; omega
/-- A word's bytes, the first so many. -/
def bytesN (v : BitVec 64) (k : Nat) : List UInt8 := (List.range k).map fun j => UInt8.ofNat (v >>> (8 * j)).toNat
theorem bytesN_succ (v : BitVec 64) (k : Nat) : bytesN v (k + 1) = bytesN v k ++ [UInt8.ofNat (v >>> (8 * k)).toNat] := by
  simp [bytesN, List.range_succ]
theorem bytesN_len (v : BitVec 64) (k : Nat) : (bytesN v k).length = k := by simp [bytesN]
theorem shr_eq (v : BitVec 64) (k : Nat) : ((v >>> (8 * k)) >>> (8 : Nat)) = v >>> (8 * (k + 1)) := by
  rw [← BitVec.shiftRight_add]; congr 1
theorem div256 (v : BitVec 64) : v / 256#64 = v >>> (8 : Nat) := by
  apply BitVec.eq_of_toNat_eq
  rw [BitVec.toNat_udiv, BitVec.toNat_ushiftRight, Nat.shiftRight_eq_div_pow]; rfl
theorem mod256 (v : BitVec 64) : UInt8.ofNat (v % 256#64).toNat = UInt8.ofNat v.toNat := by
  apply UInt8.toNat_inj.1
  rw [UInt8.toNat_ofNat', UInt8.toNat_ofNat', BitVec.toNat_umod]
  show v.toNat % 256 % 256 = v.toNat % 256
  omega
def bytesOfWords (l : List (BitVec 64)) : List UInt8 := l.flatMap (bytesN · 8)
theorem bytesOfWords_len (l : List (BitVec 64)) : (bytesOfWords l).length = 8 * l.length := by
  simp only [bytesOfWords, bytesN_len, List.length_flatMap]
  rw [List.map_const', List.sum_replicate_nat]; omega
theorem bytesOfWords_snoc (l : List (BitVec 64)) (x : BitVec 64) : bytesOfWords (l ++ [x]) = bytesOfWords l ++ bytesN x 8 := by simp [bytesOfWords]
end Go.Proofs.Ytagpbakgjglnhaa
