/- The statement HpMeets: plain. -/
import Derived.Test.YtcogpinognopcaaG4
namespace Go.Proofs.Ytcogpinognopcaa
open Go Go.LK
set_option linter.unusedSimpArgs false
set_option linter.unusedVariables false
abbrev g4 : GV := ⟨4, 4, 2⟩
theorem load_cl {m : MV} {w : List (BitVec 64)} (c : Clean m w) {a : Int} (h0 : 0 ≤ a) (h1 : a < w.length) : m.load a = w.getD a.toNat 0 := by
  rw [MV.load, c.bad h0 h1, c.at]; rfl
theorem set_getD {w : List (BitVec 64)} {i j : Nat} {v : BitVec 64} (h : i ≠ j) : (w.set i v).getD j 0 = w.getD j 0 := by
  simp only [List.getD]; rw [List.getElem?_set_ne h]
theorem set_getD_self {w : List (BitVec 64)} {i : Nat} {v : BitVec 64} (h : i < w.length) : (w.set i v).getD i 0 = v := by
  simp only [List.getD]; rw [List.getElem?_set_self h]; rfl
/-- An operation of another thread. -/
structure OpOk (x : HOp) : Prop where
  g : x.g = g4
  kind : x.kind = 0 ∨ x.kind = 1
  s0 : 6 ≤ x.slot
  s1 : x.slot ≤ 9
  w0 : 0 ≤ x.word
  w1 : x.word ≤ 3
  met : x.met = []
  a0 : 0 ≤ x.at_
  a1 : x.at_ ≤ 2
theorem opOk_step {x : HOp} {m : MV} {w : List (BitVec 64)} (h : OpOk x) (c : Clean m w) (hw : w.length = 12) :
    ∃ w', Clean (x.step m).2 w' ∧ w'.length = 12 ∧ w'.getD 5 0 = w.getD 5 0 ∧ OpOk (x.step m).1 := by
  have h0 := h.s0; have h1 := h.s1; have h2 := h.w0; have h3 := h.w1
  have e5 : x.slot.toNat ≠ 5 := by omega
  cases hd : x.done
  · rcases h.kind with k | k
    · by_cases g1 : x.at_ = 1
      · have es : x.step m = ({ x with at_ := 2 }, m.use 1 x.slot (fun _ => x.p)) := by simp [HOp.step, hd, k, g1]
        rw [es]
        exact ⟨_, c.use (by omega) (by omega) 1 (fun _ => x.p), by simp [hw], set_getD e5, ⟨h.g, h.kind, h0, h1, h2, h3, h.met, by simp, by simp⟩⟩
      · have es : x.step m = ({ x with done := decide (x.at_ = 2) && (m.load x.word == x.p), p := m.load x.word, at_ := 1 }, m.use 0 x.word id) := by simp [HOp.step, hd, k, g1]
        rw [es]
        exact ⟨_, c.use_id (by omega) (by omega) 0, hw, rfl, ⟨h.g, h.kind, h0, h1, h2, h3, h.met, by simp, by simp⟩⟩
    · have es : x.step m = ({ x with done := true }, m.use 1 x.slot (fun _ => 0#64)) := by simp [HOp.step, hd, k]
      rw [es]
      exact ⟨_, c.use (by omega) (by omega) 1 (fun _ => 0#64), by simp [hw], set_getD e5, ⟨h.g, h.kind, h0, h1, h2, h3, h.met, h.a0, h.a1⟩⟩
  · have es : x.step m = (x, m) := by simp [HOp.step, hd]
    rw [es]
    exact ⟨w, c, hw, rfl, h⟩
/-- The Protect. -/
structure PO (x : HOp) (w : List (BitVec 64)) : Prop where
  g : x.g = g4
  kind : x.kind = 0
  slot : x.slot = 5
  word : x.word = 0
  met : x.met = []
  code : x.code = 0
  at_ : x.at_ = 0 ∨ x.at_ = 1 ∨ x.at_ = 2
  two : x.done = false → x.at_ = 2 → w.getD 5 0 = x.p
  fin : x.done = true → w.getD 5 0 = x.p
def rank (x : HOp) (w : List (BitVec 64)) : Nat :=
  if x.done = true then 0 else if x.at_ = 0 then 3 else if x.at_ = 1 then (if x.p = w.getD 0 0 then 2 else 4) else (if x.p = w.getD 0 0 then 1 else 3)
theorem rank_le (x : HOp) (w : List (BitVec 64)) : rank x w ≤ 4 := by
  unfold rank; split; · omega
  split; · omega
  split
  · split <;> omega
  · split <;> omega
theorem po_step {x : HOp} {m : MV} {w : List (BitVec 64)} (h : PO x w) (c : Clean m w) (hw : w.length = 12) (hd : x.done = false) :
    ∃ w', Clean (x.step m).2 w' ∧ w'.length = 12 ∧ PO (x.step m).1 w' ∧ rank (x.step m).1 w' < rank x w := by
  have hs := h.slot; have hwd := h.word
  by_cases g1 : x.at_ = 1
  · have es : x.step m = ({ x with at_ := 2 }, m.use 1 x.slot (fun _ => x.p)) := by simp [HOp.step, hd, h.kind, g1]
    rw [es, hs]
    have cu := c.use (a := 5) (by omega) (by omega) 1 (fun _ => x.p)
    have e5 : (w.set 5 x.p).getD 5 0 = x.p := set_getD_self (by omega)
    have e0 : (w.set 5 x.p).getD 0 0 = w.getD 0 0 := set_getD (by decide)
    refine ⟨w.set 5 x.p, cu, by simp [hw], ⟨h.g, h.kind, rfl, hwd, h.met, h.code, by simp, fun _ _ => e5, fun q => ?_⟩, ?_⟩
    · exact e5
    · simp only [rank, hd, g1, e0]
      generalize w.getD 0 0 = z
      by_cases q : x.p = z <;> simp [q]
  · have es : x.step m = ({ x with done := decide (x.at_ = 2) && (m.load x.word == x.p), p := m.load x.word, at_ := 1 }, m.use 0 x.word id) := by simp [HOp.step, hd, h.kind, g1]
    have hl : m.load x.word = w.getD 0 0 := by rw [hwd, load_cl c (by omega) (by omega)]; rfl
    rw [es, hl]
    refine ⟨w, c.use_id (by omega) (by omega) 0, hw, ⟨h.g, h.kind, hs, hwd, h.met, h.code, by simp, fun _ q => ?_, fun q => ?_⟩, ?_⟩
    · simp at q
    · simp only [Bool.and_eq_true, decide_eq_true_eq, beq_iff_eq] at q
      simp only
      rw [h.two hd q.1, q.2]
    · rcases h.at_ with q | q | q
      · simp [rank, hd, q]
      · exact absurd q g1
      · simp only [rank, hd, q]
        generalize w.getD 0 0 = z
        by_cases r : z = x.p
        · subst r; simp
        · have r' : ¬ x.p = z := fun q => r q.symm
          simp [r, r']
/-- The scan. -/
structure SC (x : HOp) (w : List (BitVec 64)) (k : Nat) : Prop where
  g : x.g = g4
  kind : x.kind = 2
  code : x.code = 0
  at_ : x.at_ = k
  le : k ≤ 8
  done : x.done = decide (k = 8)
  p : k = 8 → x.p = BitVec.ofNat 64 x.met.length
  len : x.met.length ≤ k
  has : 2 ≤ k → w.getD 5 0 = 0#64 ∨ w.getD 5 0 ∈ x.met
theorem sc_step {x : HOp} {m : MV} {w : List (BitVec 64)} {k : Nat} (h : SC x w k) (c : Clean m w) (hw : w.length = 12) (hk : k < 8) :
    Clean (x.step m).2 w ∧ SC (x.step m).1 w (k + 1) := by
  have hd : x.done = false := by rw [h.done]; simp; omega
  have hat := h.at_
  have hg := h.g
  have es : x.step m = ({ x with met := (if m.load (x.g.a + x.at_) = 0#64 then x.met else x.met ++ [m.load (x.g.a + x.at_)]), at_ := x.at_ + 1, p := BitVec.ofNat 64 (if m.load (x.g.a + x.at_) = 0#64 then x.met else x.met ++ [m.load (x.g.a + x.at_)]).length, done := decide (x.at_ + 1 = x.g.words) }, m.use 0 (x.g.a + x.at_) id) := by simp [HOp.step, hd, h.kind]
  have ha : x.g.a = 4 := by rw [hg]
  have hwords : x.g.words = 8 := by rw [hg]; rfl
  have hl : m.load (4 + (k : Int)) = w.getD (4 + k) 0 := by
    rw [load_cl c (by omega) (by omega), show (4 + (k : Int)).toNat = 4 + k by omega]
  rw [es, ha, hat, hl, hwords]
  refine ⟨c.use_id (by omega) (by omega) 0, ⟨hg, h.kind, h.code, by simp, by omega, ?_, fun _ => rfl, ?_, fun _ => ?_⟩⟩
  · simp only
    rw [decide_eq_decide]; omega
  · simp only
    split
    · have := h.len; omega
    · simp; exact h.len
  · simp only
    by_cases e : k = 1
    · subst e
      by_cases z : w.getD (4 + 1) 0 = 0#64
      · exact .inl z
      · right
        rw [if_neg z]; simp
    · rcases h.has (by omega) with q | q
      · exact .inl q
      · right
        split
        · exact q
        · exact List.mem_append_left _ q
theorem SC.wrd {x : HOp} {w w' : List (BitVec 64)} {k : Nat} (h : SC x w k) (e : w'.getD 5 0 = w.getD 5 0) : SC x w' k :=
  ⟨h.g, h.kind, h.code, h.at_, h.le, h.done, h.p, h.len, by rw [e]; exact h.has⟩
theorem PO.wrd {x : HOp} {w w' : List (BitVec 64)} (h : PO x w) (e : w'.getD 5 0 = w.getD 5 0) : PO x w' :=
  ⟨h.g, h.kind, h.slot, h.word, h.met, h.code, h.at_, by rw [e]; exact h.two, by rw [e]; exact h.fin⟩
end Go.Proofs.Ytcogpinognopcaa
