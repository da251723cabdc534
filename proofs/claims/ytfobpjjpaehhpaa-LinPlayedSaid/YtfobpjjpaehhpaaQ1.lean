/- Calls that were one behind the other: plain. -/
import Derived.Test.YtfobpjjpaehhpaaP1
namespace Go.Proofs.Ytfobpjjpaehhpaa
open Go Go.LK
set_option linter.unusedSimpArgs false
set_option linter.unusedVariables false
def kindOf (x : BitVec 64) : Int := ((x &&& 1#64).toNat : Int)
def threadOf (x : BitVec 64) : Int := ((x >>> 8 &&& 7#64).toNat : Int)
def playC (cap : Int) (i : Nat) (s : Queue) (x : BitVec 64) : CallD := { th := threadOf x, kind := kindOf x, arg := x, fr := 2 * (i : Int), to := 2 * (i : Int) + 1, dn := true, code := (doF cap s (kindOf x) x).2.1, ret := (doF cap s (kindOf x) x).2.2 }
def playS (cap : Int) (l : List (BitVec 64)) : List CallD × Queue := l.foldl (fun p x => (p.1 ++ [playC cap p.1.length p.2 x], (doF cap p.2 (kindOf x) x).1)) ([], [])
theorem playS_succ {cap : Int} {l : List (BitVec 64)} {i : Nat} {x : BitVec 64} (h : l[i]? = some x) : playS cap (l.take (i + 1)) = ((playS cap (l.take i)).1 ++ [playC cap (playS cap (l.take i)).1.length (playS cap (l.take i)).2 x], (doF cap (playS cap (l.take i)).2 (kindOf x) x).1) := by
  rw [List.take_add_one, h, playS, List.foldl_append]; rfl
theorem playS_len {cap : Int} {l : List (BitVec 64)} : ∀ i, i ≤ l.length → (playS cap (l.take i)).1.length = i ∧ (playS cap (l.take i)).2.length ≤ i
  | 0, _ => by simp [playS]
  | i + 1, h => by
    obtain ⟨h1, h2⟩ := playS_len (cap := cap) (l := l) i (by omega)
    have hx : l[i]? = some (l[i]'(by omega)) := List.getElem?_eq_getElem _
    rw [playS_succ hx]
    have := doF_len cap (playS cap (l.take i)).2 (kindOf l[i]) l[i]
    simp; omega
theorem playS_at {cap : Int} {l : List (BitVec 64)} {n : Nat} (hn : n ≤ l.length) {i : Nat} {x : BitVec 64} (hi : i < n) (h : l[i]? = some x) : (playS cap (l.take n)).1[i]? = some (playC cap i (playS cap (l.take i)).2 x) := by
  induction n with
  | zero => omega
  | succ n ih =>
    have hx : l[n]? = some (l[n]'(by omega)) := List.getElem?_eq_getElem _
    have hl := (playS_len (cap := cap) (l := l) n (by omega)).1
    rw [playS_succ hx]
    by_cases e : i = n
    · subst e
      rw [hx] at h; cases h
      simp only
      rw [List.getElem?_append_right (by omega), hl, Nat.sub_self]
      rfl
    · simp only
      rw [List.getElem?_append_left (by omega)]
      exact ih (by omega) (by omega)
def maskB : Nat → BitVec 64
  | 0 => 0#64
  | i + 1 => withB (maskB i) i
theorem mask_bit {j : Nat} (hj : j < 64) : ∀ i, (maskB i).getLsbD j = decide (j < i)
  | 0 => by simp [maskB]
  | i + 1 => by
    rw [maskB, get_with hj, mask_bit hj i, Bool.eq_iff_iff]
    simp only [Bool.or_eq_true, decide_eq_true_eq]
    omega
/-- Calls that did as a queue does; each began where it did, or ahead of it, and ended there, or behind it. -/
structure Like (cap : Int) (l : List (BitVec 64)) (n : Nat) (d : List CallD) : Prop where
  nl : n ≤ l.length
  n62 : n ≤ 62
  len : d.length = n
  at_ : ∀ (i : Nat) (x : BitVec 64) (c : CallD), l[i]? = some x → d[i]? = some c → c.kind = kindOf x ∧ c.arg = x ∧ c.dn = true ∧ c.code = (doF cap (playS cap (l.take i)).2 (kindOf x) x).2.1 ∧ c.ret = (doF cap (playS cap (l.take i)).2 (kindOf x) x).2.2 ∧ c.fr ≤ 2 * (i : Int) ∧ 2 * (i : Int) + 1 ≤ c.to
section
variable {cap : Int} {l : List (BitVec 64)} {n : Nat} {d : List CallD}
theorem Like.step (h : Like cap l n d) {i : Nat} {x : BitVec 64} (hi : i < n) (hx : l[i]? = some x) : stepM cap d 0 (playS cap (l.take i)).2 i = some (playS cap (l.take (i + 1))).2 := by
  have hd : d[i]? = some (d[i]'(by rw [h.len]; exact hi)) := List.getElem?_eq_getElem _
  obtain ⟨a1, a2, a3, a4, a5, _⟩ := h.at_ i x _ hx hd
  rw [stepM_at hd, playS_succ hx]
  unfold mayF
  rw [if_neg (by rw [a3]; simp), a1, a2, a4, a5, if_pos ⟨rfl, rfl⟩]
theorem Like.ah (h : Like cap l n d) {i : Nat} {c : CallD} (hi : d[i]? = some c) : ahB d i &&& ~~~(maskB i) = 0#64 := by
  have hin : i < d.length := (List.getElem?_eq_some_iff.1 hi).1
  have hn := h.nl
  have hl := h.len
  have h62 := h.n62
  refine (ah_sub (by omega) hi).2 fun k o ho hk hu => ?_
  have hkn : k < d.length := (List.getElem?_eq_some_iff.1 ho).1
  rw [mask_bit (by omega), decide_eq_false_iff_not] at hu
  have hx : l[i]? = some (l[i]'(by omega)) := List.getElem?_eq_getElem _
  have hy : l[k]? = some (l[k]'(by omega)) := List.getElem?_eq_getElem _
  obtain ⟨_, _, _, _, _, b1, _⟩ := h.at_ i _ _ hx hi
  obtain ⟨_, _, _, _, _, _, b2⟩ := h.at_ k _ _ hy ho
  simp only [aheadF, Bool.and_eq_false_iff, decide_eq_false_iff_not]
  exact .inr (by omega)
theorem Like.run (h : Like cap l n d) : ∀ (k i : Nat), i + k = n → (prob d (stepM cap d 0)).vrun (List.range' i k) (maskB i) (playS cap (l.take i)).2 = true
  | 0, i, e => by
    have hl := h.len
    have h62 := h.n62
    rw [List.range'_zero, Prob.vrun, decide_eq_true_eq]
    refine (done_sub (l := d) (by omega)).2 fun k o ho hu => ?_
    have hkn : k < d.length := (List.getElem?_eq_some_iff.1 ho).1
    rw [mask_bit (by omega), decide_eq_false_iff_not] at hu
    omega
  | k + 1, i, e => by
    have hl := h.len
    have h62 := h.n62
    have hn := h.nl
    have hd : d[i]? = some (d[i]'(by omega)) := List.getElem?_eq_getElem _
    have hx : l[i]? = some (l[i]'(by omega)) := List.getElem?_eq_getElem _
    have e1 : (prob d (stepM cap d 0)).step (playS cap (l.take i)).2 i = some (playS cap (l.take (i + 1))).2 := h.step (by omega) hx
    rw [List.range'_succ, Prob.vrun, e1]
    refine (if_pos ⟨?_, ?_, h.ah hd⟩).trans (h.run k (i + 1) (by omega))
    · show i < d.length; omega
    · rw [mask_bit (by omega)]; simp
/-- One behind the other. -/
theorem Like.only (h : Like cap l n d) (hq : ∀ (i j : Nat) (c o : CallD), d[i]? = some c → d[j]? = some o → j < i → aheadF o c = true) : ∀ (k i : Nat), i + k = n → (prob d (stepM cap d 0)).fnd (maskB i) (playS cap (l.take i)).2 = some (List.range' i k)
  | 0, i, e => by
    have hl := h.len
    have h62 := h.n62
    rw [Prob.fnd_eq _ (show d.length ≤ 64 by omega), if_pos]
    · rfl
    · refine (done_sub (l := d) (by omega)).2 fun k o ho hu => ?_
      have hkn : k < d.length := (List.getElem?_eq_some_iff.1 ho).1
      rw [mask_bit (by omega), decide_eq_false_iff_not] at hu
      omega
  | k + 1, i, e => by
    have hl := h.len
    have h62 := h.n62
    have hn := h.nl
    have hd : d[i]? = some (d[i]'(by omega)) := List.getElem?_eq_getElem _
    have hx : l[i]? = some (l[i]'(by omega)) := List.getElem?_eq_getElem _
    have e1 : (prob d (stepM cap d 0)).step (playS cap (l.take i)).2 i = some (playS cap (l.take (i + 1))).2 := h.step (by omega) hx
    rw [Prob.fnd_eq _ (show d.length ≤ 64 by omega), if_neg]
    · refine findSome_at (i := i) (show i < d.length by omega) (fun j hj => ?_) ?_
      · rw [Prob.tryAt, if_pos]
        left
        rw [mask_bit (by omega)]; simpa using hj
      · rw [Prob.tryAt, if_neg, e1]
        · simp only [show withB (maskB i) i = maskB (i + 1) from rfl, h.only hq k (i + 1) (by omega)]
          rfl
        · rintro (q | q)
          · rw [mask_bit (by omega)] at q; simp at q
          · exact q (h.ah hd)
    · intro q
      have := (done_sub (l := d) (by omega)).1 q i _ hd (by rw [mask_bit (by omega)]; simp)
      rw [(h.at_ i _ _ hx hd).2.2.1] at this; cases this
end
theorem ahead_iff {a b : CallD} : aheadF a b = true ↔ a.dn = true ∧ a.to < b.fr := by
  simp [aheadF]
theorem right_dn {c : CallD} (h1 : 0 ≤ c.th) (h2 : c.th < 64) (h3 : 0 ≤ c.fr) (h4 : c.dn = true) (h5 : c.fr ≤ c.to) : rightF c = true := by
  unfold rightF
  rw [if_neg (by omega), if_pos h4]
  simpa using h5
theorem twice_no {c o : CallD} (h : o.th ≠ c.th) : twiceF c o = false := by
  simp [twiceF, h]
theorem kind_range (x : BitVec 64) : kindOf x = 0 ∨ kindOf x = 1 := by
  have : (x &&& 1#64).toNat ≤ 1 := by rw [BitVec.toNat_and]; exact Nat.and_le_right
  unfold kindOf; omega
theorem thread_range (x : BitVec 64) : 0 ≤ threadOf x ∧ threadOf x ≤ 7 := by
  have : (x >>> 8 &&& 7#64).toNat ≤ 7 := by rw [BitVec.toNat_and]; exact Nat.and_le_right
  unfold threadOf; omega
section
variable {cap : Int} {l : List (BitVec 64)} {n : Nat}
theorem play_get (hn : n ≤ l.length) {i : Nat} {c : CallD} (h : (playS cap (l.take n)).1[i]? = some c) : ∃ x, l[i]? = some x ∧ i < n ∧ c = playC cap i (playS cap (l.take i)).2 x := by
  have hi : i < n := by
    have := (List.getElem?_eq_some_iff.1 h).1
    rw [(playS_len n hn).1] at this; exact this
  have hx : l[i]? = some (l[i]'(by omega)) := List.getElem?_eq_getElem _
  refine ⟨_, hx, hi, ?_⟩
  rw [playS_at hn hi hx] at h
  cases h; rfl
theorem play_like (hn : n ≤ l.length) (h62 : n ≤ 62) : Like cap l n (playS cap (l.take n)).1 := by
  refine ⟨hn, h62, (playS_len n hn).1, fun i x c hx hc => ?_⟩
  obtain ⟨y, hy, _, rfl⟩ := play_get hn hc
  rw [hx] at hy; cases hy
  exact ⟨rfl, rfl, rfl, rfl, rfl, by simp [playC], by simp [playC]⟩
theorem play_ahead (hn : n ≤ l.length) {i j : Nat} {c o : CallD} (hc : (playS cap (l.take n)).1[i]? = some c) (ho : (playS cap (l.take n)).1[j]? = some o) (h : j < i) : aheadF o c = true := by
  obtain ⟨x, _, _, rfl⟩ := play_get hn hc
  obtain ⟨y, _, _, rfl⟩ := play_get hn ho
  refine ahead_iff.2 ⟨rfl, ?_⟩
  show 2 * (j : Int) + 1 < 2 * (i : Int)
  omega
theorem play_right (hn : n ≤ l.length) (h62 : n ≤ 62) : rightL (playS cap (l.take n)).1 = true := by
  rw [right_iff]
  refine ⟨by rw [(playS_len n hn).1]; omega, fun k c hc => ?_⟩
  obtain ⟨x, _, _, e⟩ := play_get hn hc
  refine ⟨?_, fun j o hj ho => ?_⟩
  · subst e
    have := thread_range x
    refine right_dn this.1 (by show threadOf x < 64; omega) (by show 0 ≤ 2 * (k : Int); omega) rfl (by show 2 * (k : Int) ≤ 2 * (k : Int) + 1; omega)
  · have := play_ahead hn hc ho hj
    simp [twiceF, meetsF, this]
/-- The one that is made to meet others. -/
def meetC (c : CallD) : CallD := { c with th := 60, fr := if c.fr - 3 < 0 then 0 else c.fr - 3, to := c.to + 4 }
theorem meet_like (hn : n ≤ l.length) (h62 : n ≤ 62) {k : Nat} {ck : CallD} (hk : (playS cap (l.take n)).1[k]? = some ck) : Like cap l n ((playS cap (l.take n)).1.set k (meetC ck)) := by
  have hb := play_like (cap := cap) hn h62
  have hkl := (List.getElem?_eq_some_iff.1 hk).1
  refine ⟨hn, h62, by rw [List.length_set]; exact hb.len, fun i x c hx hc => ?_⟩
  rw [List.getElem?_set] at hc
  split at hc
  · rename_i e
    subst e
    cases hc
    obtain ⟨a1, a2, a3, a4, a5, a6, a7⟩ := hb.at_ k x ck hx hk
    refine ⟨a1, a2, a3, a4, a5, ?_, ?_⟩
    · simp only [meetC]; split <;> omega
    · simp only [meetC]; omega
  · exact hb.at_ i x c hx hc
theorem meet_right (hn : n ≤ l.length) (h62 : n ≤ 62) {k : Nat} {ck : CallD} (hk : (playS cap (l.take n)).1[k]? = some ck) : rightL ((playS cap (l.take n)).1.set k (meetC ck)) = true := by
  have hkl := (List.getElem?_eq_some_iff.1 hk).1
  have hr := right_iff.1 (play_right (cap := cap) hn h62)
  have hth : ∀ (i : Nat) (c : CallD), (playS cap (l.take n)).1[i]? = some c → c.th ≠ 60 := by
    intro i c hc
    obtain ⟨x, _, _, rfl⟩ := play_get hn hc
    have := thread_range x
    show threadOf x ≠ 60
    omega
  rw [right_iff]
  refine ⟨by rw [List.length_set]; exact hr.1, fun i c hc => ?_⟩
  rw [List.getElem?_set] at hc
  split at hc
  · rename_i e
    subst e
    cases hc
    obtain ⟨x, _, _, e⟩ := play_get hn hk
    refine ⟨?_, fun j o hj ho => ?_⟩
    · subst e
      refine right_dn (by show (0 : Int) ≤ 60; omega) (by show (60 : Int) < 64; omega) (by show (0 : Int) ≤ if 2 * (k : Int) - 3 < 0 then 0 else 2 * (k : Int) - 3; split <;> omega) rfl (by show (if 2 * (k : Int) - 3 < 0 then 0 else 2 * (k : Int) - 3) ≤ 2 * (k : Int) + 1 + 4; split <;> omega)
    · rw [List.getElem?_set_ne (by omega)] at ho
      have := hth j o ho
      exact twice_no (show o.th ≠ 60 from this)
  · rename_i e
    obtain ⟨h1, h2⟩ := hr.2 i c hc
    refine ⟨h1, fun j o hj ho => ?_⟩
    rw [List.getElem?_set] at ho
    split at ho
    · rename_i e2
      subst e2
      cases ho
      have := hth i c hc
      exact twice_no (show (60 : Int) ≠ c.th from fun q => this q.symm)
    · exact h2 j o hj ho
theorem xor_ne (x : BitVec 64) : x ^^^ 2#64 ≠ x := by
  intro h
  have := congrArg (fun y => x ^^^ y) h
  simp only [← BitVec.xor_assoc, BitVec.xor_self, BitVec.zero_xor] at this
  exact absurd this (by decide)
/-- Where a number is another one, it is no order. -/
theorem bad_run (hn : n ≤ l.length) (h62 : n ≤ 62) {k : Nat} {ck : CallD} (hk : (playS cap (l.take n)).1[k]? = some ck) : ∀ (a i : Nat), i + a = k → ∀ m, i + m = n → (prob ((playS cap (l.take n)).1.set k { ck with ret := ck.ret ^^^ 2#64 }) (stepM cap ((playS cap (l.take n)).1.set k { ck with ret := ck.ret ^^^ 2#64 }) 0)).vrun (List.range' i m) (maskB i) (playS cap (l.take i)).2 = false
  | 0, i, e, m, em => by
    obtain rfl : i = k := by omega
    obtain ⟨x, hx, hin, e2⟩ := play_get hn hk
    have hkl := (List.getElem?_eq_some_iff.1 hk).1
    obtain ⟨m, rfl⟩ : ∃ m', m = m' + 1 := ⟨m - 1, by omega⟩
    rw [List.range'_succ, Prob.vrun]
    have hg : ((playS cap (l.take n)).1.set i { ck with ret := ck.ret ^^^ 2#64 })[i]? = some { ck with ret := ck.ret ^^^ 2#64 } := List.getElem?_set_self hkl
    have e1 : (prob ((playS cap (l.take n)).1.set i { ck with ret := ck.ret ^^^ 2#64 }) (stepM cap ((playS cap (l.take n)).1.set i { ck with ret := ck.ret ^^^ 2#64 }) 0)).step (playS cap (l.take i)).2 i = none := by
      show stepM cap _ 0 _ i = none
      rw [stepM_at hg]
      unfold mayF
      have hdn : ck.dn = true := by rw [e2]; rfl
      rw [if_neg (by simp [hdn]), if_neg, if_neg (by simp [letF])]
      rintro ⟨_, q⟩
      rw [e2] at q
      exact xor_ne _ q.symm
    rw [e1]
    split <;> rfl
  | a + 1, i, e, m, em => by
    have hkl := (List.getElem?_eq_some_iff.1 hk).1
    have hb := play_like (cap := cap) hn h62
    have hlen := hb.len
    obtain ⟨m, rfl⟩ : ∃ m', m = m' + 1 := ⟨m - 1, by omega⟩
    have hx : l[i]? = some (l[i]'(by omega)) := List.getElem?_eq_getElem _
    have hd : (playS cap (l.take n)).1[i]? = some ((playS cap (l.take n)).1[i]'(by omega)) := List.getElem?_eq_getElem _
    have hg : ((playS cap (l.take n)).1.set k { ck with ret := ck.ret ^^^ 2#64 })[i]? = some ((playS cap (l.take n)).1[i]'(by omega)) := by
      rw [List.getElem?_set_ne (by omega)]; exact hd
    have e1 : (prob ((playS cap (l.take n)).1.set k { ck with ret := ck.ret ^^^ 2#64 }) (stepM cap ((playS cap (l.take n)).1.set k { ck with ret := ck.ret ^^^ 2#64 }) 0)).step (playS cap (l.take i)).2 i = some (playS cap (l.take (i + 1))).2 := by
      show stepM cap _ 0 _ i = _
      rw [stepM_at hg, ← hb.step (by omega) hx, stepM_at hd]
      exact mayF_strict _ _ _ _ _ _ _
    rw [List.range'_succ, Prob.vrun, e1]
    have := bad_run hn h62 hk a (i + 1) (by omega) m (by omega)
    split
    · exact this
    · rfl
end
end Go.Proofs.Ytfobpjjpaehhpaa
