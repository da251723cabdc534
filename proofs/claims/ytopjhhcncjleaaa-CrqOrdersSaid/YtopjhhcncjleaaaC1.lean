/- DROP Plain facts on words and masks. -/
import Derived.Test.YtopjhhcncjleaaaS0
import Derived.Test.YtopjhhcncjleaaaM3
namespace Go.Proofs.Ytopjhhcncjleaaa
open Go Go.LK
set_option linter.unusedSimpArgs false
set_option linter.unusedVariables false
theorem andK (c : Int) (k : Int) (hk : (BitVec.ofInt IntKind.i64.bits k).toNat ≤ 1000000) : ∃ d : Int, IntKind.i64.wrap ((BitVec.ofInt IntKind.i64.bits c &&& BitVec.ofInt IntKind.i64.bits k).toNat : Int) = d ∧ 0 ≤ d ∧ d ≤ (BitVec.ofInt IntKind.i64.bits k).toNat := by
  have h : (BitVec.ofInt IntKind.i64.bits c &&& BitVec.ofInt IntKind.i64.bits k).toNat ≤ (BitVec.ofInt IntKind.i64.bits k).toNat := by
    rw [BitVec.toNat_and]
    exact Nat.and_le_right
  exact ⟨_, wrap_i64 (by omega) (by omega), by omega, by omega⟩
theorem leqCells_w2 (a b c d : BitVec 64) : leqCells [false, false] [w64 a, w64 b] [w64 c, w64 d] = some (a == c && b == d) := by
  rw [leqCells_w, leqCells_w]; simp [leqCells]
theorem leqCells_w3 (a b c d e f : BitVec 64) : leqCells [false, false, false] [w64 a, w64 b, w64 c] [w64 d, w64 e, w64 f] = some (a == d && (b == e && c == f)) := by
  rw [leqCells_w, leqCells_w, leqCells_w]; simp [leqCells]
theorem leqCells_w3s (a b c : BitVec 64) : leqCells [false, false, false] [w64 a, w64 b, w64 c] [w64 a, w64 b, w64 c] = some true := by
  rw [leqCells_w3]; simp
theorem leqCells_w2s (a b : BitVec 64) : leqCells [false, false] [w64 a, w64 b] [w64 a, w64 b] = some true := by
  rw [leqCells_w2]; simp
theorem Sl.upto {m : Nat} {H : LHeap} {a : Option Addr} {c : List Value} (h : Sl m H a c) {n k cap : Nat} {kk : IntKind} (hm : 0 < m) (hn : c.length = n * m) (hk : k ≤ n) (h0 : 0 < n) (hc : n ≤ cap) :
    (∀ t, lslice (H ++ t) m (.slice a n cap) none (some (.int kk (k : Int))) none = some (.slice a k cap)) ∧ Sl m H a (c.take (k * m)) := by
  rcases h with ⟨rfl, rfl⟩ | ⟨b, o, ro, es, cc, rfl, g2, g3, g4, g5⟩
  · exact absurd (Nat.mul_eq_zero.1 hn.symm) (by omega)
  · refine ⟨fun t => ?_, .inr ⟨b, o, ro, es, cc, rfl, g2, ?_, ?_, g5⟩⟩
    · have e : (0 : Int) ≤ (k : Int) ∧ (k : Int) ≤ (cap : Int) := by omega
      have e2 : k ≤ cap := by omega
      simp [lslice, lbound, e, get_old g2 t, g5, hk, e2]
    · rw [List.length_take]; omega
    · rw [List.length_take, ← List.take_take, g4]
end Go.Proofs.Ytopjhhcncjleaaa
/- DROP Objects that stand in blocks of their own, beside a memory. -/
namespace Go.Proofs.Ytopjhhcncjleaaa
open Go Go.LK
set_option linter.unusedSimpArgs false
set_option linter.unusedVariables false
theorem MemAt.set_off {H : LHeap} {b pw pb o : Nat} {m : MV} (h : MemAt H b pw pb m) (h1 : o ≠ b) (h2 : o ≠ pw) (h3 : o ≠ pb) (x : LObj) : MemAt (H.set o x) b pw pb m :=
  ⟨by rw [get_set_ne h1]; exact h.row, by rw [get_set_ne h2]; exact h.ws, by rw [get_set_ne h3]; exact h.bs, h.len, h.pos, h.le, h.n1, h.n2, h.n3⟩
theorem memPut_set_off {H : LHeap} {b pw pb o : Nat} (h1 : o ≠ b) (h2 : o ≠ pw) (h3 : o ≠ pb) (m : MV) (x : LObj) : (memPut H b pw pb m).set o x = memPut (H.set o x) b pw pb m := by
  simp only [memPut]
  rw [List.set_comm _ _ h3.symm, List.set_comm _ _ h2.symm, List.set_comm _ _ h1.symm]
theorem lcells_set_eq {H : LHeap} {b : Nat} (hb : b < H.length) (ro : Bool) (es : Nat) (c : List Value) (o n : Nat) : lcells (H.set b (.row ro es c)) b o n = if o + n ≤ c.length then some ((c.drop o).take n) else none := by simp only [lcells, get_set_eq hb]
/-- Which objects threads have, each in a block of its own. -/
structure OpsAt {α : Type} (row : α → LObj) (lo : Nat) (H : LHeap) (L : List (Option (Nat × α))) : Prop where
  at_ : ∀ (j q : Nat) (x : α), L[j]? = some (some (q, x)) → lo ≤ q ∧ H[q]? = some (row x)
  ne : ∀ (j j' q : Nat) (x x' : α), L[j]? = some (some (q, x)) → L[j']? = some (some (q, x')) → j = j'
section
variable {α : Type} {row : α → LObj} {lo : Nat} {H : LHeap} {L : List (Option (Nat × α))}
theorem OpsAt.app (h : OpsAt row lo H L) (t : LHeap) : OpsAt row lo (H ++ t) L :=
  ⟨fun j q x g => ⟨(h.at_ j q x g).1, get_old (h.at_ j q x g).2 t⟩, h.ne⟩
theorem OpsAt.none (k : Nat) : OpsAt row lo H (List.replicate k Option.none) := by
  refine ⟨fun j q x g => ?_, fun j j' q x x' g => ?_⟩ <;>
  · rw [List.getElem?_replicate] at g; split at g <;> simp at g
theorem OpsAt.put (h : OpsAt row lo H L) {j q : Nat} {x : α} (g : L[j]? = some (some (q, x))) (x' : α) : OpsAt row lo (H.set q (row x')) (L.set j (some (q, x'))) := by
  have hj : j < L.length := (List.getElem?_eq_some_iff.1 g).1
  have hq : q < H.length := (List.getElem?_eq_some_iff.1 (h.at_ j q x g).2).1
  refine ⟨fun i p y gi => ?_, fun i i' p y y' gi gi' => ?_⟩
  · by_cases e : j = i
    · subst e
      rw [List.getElem?_set_self hj] at gi
      cases gi
      exact ⟨(h.at_ j q x g).1, get_set_eq hq _⟩
    · rw [List.getElem?_set_ne e] at gi
      refine ⟨(h.at_ i p y gi).1, ?_⟩
      rw [get_set_ne (fun q' => e (h.ne j i q x y g (by rw [q']; exact gi)))]
      exact (h.at_ i p y gi).2
  · by_cases e : j = i
    · subst e
      rw [List.getElem?_set_self hj] at gi
      cases gi
      by_cases e' : j = i'
      · exact e'
      · rw [List.getElem?_set_ne e'] at gi'
        exact h.ne j i' q x y' g gi'
    · rw [List.getElem?_set_ne e] at gi
      by_cases e' : j = i'
      · subst e'
        rw [List.getElem?_set_self hj] at gi'
        cases gi'
        exact h.ne i j q y x gi g
      · rw [List.getElem?_set_ne e'] at gi'
        exact h.ne i i' p y y' gi gi'
theorem OpsAt.clear (h : OpsAt row lo H L) (j : Nat) : OpsAt row lo H (L.set j Option.none) := by
  have key : ∀ (i p : Nat) (y : α), (L.set j Option.none)[i]? = some (some (p, y)) → L[i]? = some (some (p, y)) := by
    intro i p y g
    by_cases e : j = i
    · subst e
      rw [List.getElem?_set] at g
      simp at g
    · rw [List.getElem?_set_ne e] at g; exact g
  exact ⟨fun i p y g => h.at_ i p y (key i p y g), fun i i' p y y' g g' => h.ne i i' p y y' (key i p y g) (key i' p y' g')⟩
theorem OpsAt.lt (h : OpsAt row lo H L) {j q : Nat} {x : α} (g : L[j]? = some (some (q, x))) : q < H.length := (List.getElem?_eq_some_iff.1 (h.at_ j q x g).2).1
theorem OpsAt.new (h : OpsAt row lo H L) {t : LHeap} {j q : Nat} {x : α} (hq : H.length ≤ q) (hlo : lo ≤ q) (hx : (H ++ t)[q]? = some (row x)) : OpsAt row lo (H ++ t) (L.set j (some (q, x))) := by
  have h' := h.app t
  have key : ∀ (i p : Nat) (y : α), (L.set j (some (q, x)))[i]? = some (some (p, y)) → (i = j ∧ p = q ∧ y = x) ∨ (i ≠ j ∧ L[i]? = some (some (p, y))) := by
    intro i p y g
    by_cases e : j = i
    · subst e
      rw [List.getElem?_set] at g
      simp only [if_true] at g
      split at g
      · cases g; exact .inl ⟨rfl, rfl, rfl⟩
      · cases g
    · rw [List.getElem?_set_ne e] at g; exact .inr ⟨fun q => e q.symm, g⟩
  refine ⟨fun i p y g => ?_, fun i i' p y y' g g' => ?_⟩
  · rcases key i p y g with ⟨rfl, rfl, rfl⟩ | ⟨_, g⟩
    · exact ⟨hlo, hx⟩
    · exact h'.at_ i p y g
  · rcases key i p y g with ⟨rfl, rfl, rfl⟩ | ⟨_, k1⟩
    · rcases key i' p y' g' with ⟨e1, _, _⟩ | ⟨_, k'⟩
      · exact e1.symm
      · have := h.lt k'; omega
    · rcases key i' p y' g' with ⟨e1, e2, _⟩ | ⟨_, k'⟩
      · have := h.lt k1; omega
      · exact h.ne i i' p y y' k1 k'
theorem OpsAt.off (h : OpsAt row lo H L) {c : Nat} (hc : c < lo) (o : LObj) : OpsAt row lo (H.set c o) L :=
  ⟨fun j q x g => ⟨(h.at_ j q x g).1, by
    have := (h.at_ j q x g).1
    rw [get_set_ne (by omega)]; exact (h.at_ j q x g).2⟩, h.ne⟩
theorem OpsAt.mem (h : OpsAt row lo H L) {b pw pb : Nat} (h1 : b < lo) (h2 : pw < lo) (h3 : pb < lo) (m : MV) : OpsAt row lo (memPut H b pw pb m) L :=
  ((h.off h1 _).off h2 _).off h3 _
end
/-- A slice that the function made itself grows by one. -/
theorem Own.push {m n lim bytes k : Nat} {K : LHeap} {a : Option Addr} {c news : List Value} (h : Own m K n a c) (hk : c.length = k * m) (hm : 0 < m) (hl : lim ≤ n) (hn : n ≤ K.length)
    (hb : (k + 1) * bytes ≤ 140737488355328) (hb2 : k + 1 ≤ 140737488355328) : ∃ a' K', lappend lim K m bytes (.slice a k k) news 1 = some (.slice a' (k + 1) (k + 1), K') ∧ Own m K' n a' (c ++ news) ∧ K.length ≤ K'.length ∧
      (∀ j, j < K.length → Off j a → K'[j]? = K[j]?) ∧ Fresh K.length a' := by
  rcases h with ⟨rfl, rfl⟩ | ⟨b, rfl, h2, h3⟩
  · have hk0 : k = 0 := by
      rcases Nat.mul_eq_zero.1 hk.symm with h | h
      · exact h
      · omega
    subst hk0
    have e1 : (1 : Nat) * bytes ≤ 140737488355328 := by omega
    refine ⟨some ⟨K.length, 0, none⟩, K ++ [.row false m news], ?_, .inr ⟨K.length, rfl, hn, get_app0 _ _⟩, by simp, fun j hj _ => get_left hj _, Fresh.mk (Nat.le_refl _)⟩
    rw [lappend_nil, if_neg (by decide), if_pos ⟨e1, by omega, hm⟩]
  · have hbl := (List.getElem?_eq_some_iff.1 h3).1
    have hno : ¬ (k + 1 ≤ k ∧ 0 < k) := by omega
    have htk : (c.drop 0).take (k * m) = c := by rw [List.drop_zero]; exact List.take_of_length_le (by omega)
    refine ⟨some ⟨K.length, 0, none⟩, K.set b .dead ++ [.row false m (c ++ news)], ?_, .inr ⟨K.length, rfl, hn, ?_⟩, by simp, fun j hj ho => ?_, Fresh.mk (Nat.le_refl _)⟩
    · rw [lappend_some, if_neg hno, h3]
      simp only
      rw [if_pos ⟨trivial, by omega, by omega, hb, by omega, hm, by omega⟩, htk]
    · have := get_app0 (K.set b .dead) [.row false m (c ++ news)]
      rw [List.length_set] at this
      exact this
    · rw [get_left (by simpa using hj), get_set_ne (fun q => ho _ rfl q)]
end Go.Proofs.Ytopjhhcncjleaaa
