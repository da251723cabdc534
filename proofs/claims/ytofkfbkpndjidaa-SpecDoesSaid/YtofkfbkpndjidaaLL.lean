/- Slices of rows; slices that a function makes itself and lets grow. -/
import Derived.Test.YtofkfbkpndjidaaLH
namespace Go.LK
open Go Go.RowKit
set_option linter.unusedVariables false
set_option linter.unusedSimpArgs false

theorem flat_len {α : Type} {f : α → List Value} {m : Nat} (hf : ∀ a, (f a).length = m) : ∀ (l : List α), (l.flatMap f).length = l.length * m
  | [] => by simp
  | a :: l => by rw [List.flatMap_cons, List.length_append, hf, flat_len hf l, List.length_cons, Nat.succ_mul]; omega
theorem flat_at {α : Type} {f : α → List Value} {m : Nat} (hf : ∀ a, (f a).length = m) : ∀ (l : List α) (i : Nat) (a : α), l[i]? = some a → ((l.flatMap f).drop (i * m)).take m = f a
  | [], i, a, h => by simp at h
  | x :: l, 0, a, h => by
    simp at h; subst h
    rw [List.flatMap_cons, Nat.zero_mul, List.drop_zero, ← hf x, List.take_left]
  | x :: l, i + 1, a, h => by
    simp at h
    rw [List.flatMap_cons, Nat.succ_mul, Nat.add_comm, ← List.drop_drop, show List.drop m (f x ++ l.flatMap f) = l.flatMap f by rw [← hf x, List.drop_left]]
    exact flat_at hf l i a h
theorem Sl.rows {α : Type} {f : α → List Value} {m : Nat} (hf : ∀ a, (f a).length = m) (hm : 0 < m) {H : LHeap} {a : Option Addr} {l : List α} (h : Sl m H a (l.flatMap f)) (hl : 0 < l.length) :
    ∃ b o, a = some ⟨b, o, none⟩ ∧ b < H.length ∧ ∀ t i x, l[i]? = some x → lcells (H ++ t) b (o + i * m) m = some (f x) := by
  have hlen := flat_len hf l
  rcases h with ⟨rfl, h⟩ | ⟨b, o, ro, es, cc, rfl, h2, h3, h4, h5⟩
  · rw [h] at hlen
    have : 0 < l.length * m := Nat.mul_pos hl hm
    simp at hlen; omega
  · refine ⟨b, o, rfl, (List.getElem?_eq_some_iff.1 h2).1, fun t i x hx => ?_⟩
    have hi : i < l.length := (List.getElem?_eq_some_iff.1 hx).1
    have hle : (i + 1) * m ≤ l.length * m := Nat.mul_le_mul_right _ hi
    rw [Nat.succ_mul] at hle
    simp only [lcells, get_old h2 t]
    rw [if_pos (by omega)]
    have e := flat_at hf l i x hx
    rw [← h4, List.drop_take, List.take_take, List.drop_drop, Nat.min_eq_left (by omega)] at e
    rw [e]

/-- A slice that the function made itself, from a block number on; it is full. -/
def Own (m : Nat) (H : LHeap) (n : Nat) (a : Option Addr) (c : List Value) : Prop :=
  (a = none ∧ c = []) ∨ ∃ b, a = some ⟨b, 0, none⟩ ∧ n ≤ b ∧ H[b]? = some (.row false m c)
theorem Own.nil (m : Nat) (H : LHeap) (n : Nat) : Own m H n none [] := .inl ⟨rfl, rfl⟩
theorem Own.app {m : Nat} {H : LHeap} {n : Nat} {a : Option Addr} {c : List Value} (h : Own m H n a c) (t : LHeap) : Own m (H ++ t) n a c := by
  rcases h with h | ⟨b, h1, h2, h3⟩
  · exact .inl h
  · exact .inr ⟨b, h1, h2, get_old h3 t⟩
theorem Own.sl {m : Nat} {H : LHeap} {n : Nat} {a : Option Addr} {c : List Value} (h : Own m H n a c) : Sl m H a c := by
  rcases h with ⟨rfl, rfl⟩ | ⟨b, rfl, h2, h3⟩
  · exact Sl.nil _ _
  · exact Sl.row h3
theorem Own.fresh {m : Nat} {H : LHeap} {n : Nat} {a : Option Addr} {c : List Value} (h : Own m H n a c) : Fresh n a := by
  rcases h with ⟨rfl, rfl⟩ | ⟨b, rfl, h2, h3⟩
  · exact Fresh.nil _
  · exact Fresh.mk h2
def killT (n : Nat) (t : LHeap) (a : Option Addr) : LHeap :=
  match a with
  | none => t
  | some x => t.set (x.block - n) .dead
theorem killT_len (n : Nat) (t : LHeap) (a : Option Addr) : (killT n t a).length = t.length := by
  cases a <;> simp [killT]
theorem killT_app {m n : Nat} {H t u : LHeap} {a : Option Addr} {c : List Value} (h : Own m (H ++ t) n a c) (hn : n = H.length) : killT n (t ++ u) a = killT n t a ++ u := by
  subst hn
  rcases h with ⟨rfl, rfl⟩ | ⟨b, rfl, h2, h3⟩
  · rfl
  · have := (List.getElem?_eq_some_iff.1 h3).1
    rw [List.length_append] at this
    simp only [killT]
    rw [List.set_append_left _ _ (by omega)]
theorem Own.grow {m k lim bytes : Nat} {H t : LHeap} {a : Option Addr} {c : List Value} (h : Own m (H ++ t) H.length a c) (hk : c.length = k * m) (hm : 0 < m) (hlim : lim ≤ H.length)
    (hb : (k + 1) * bytes ≤ 140737488355328) (hb2 : k + 1 ≤ 140737488355328) :
    ∀ u news, lappend lim (H ++ (t ++ u)) m bytes (.slice a k k) news 1 =
      some (.slice (some ⟨H.length + (t.length + u.length), 0, none⟩) (k + 1) (k + 1), H ++ (killT H.length t a ++ (u ++ [.row false m (c ++ news)]))) := by
  intro u news
  rcases h with ⟨rfl, rfl⟩ | ⟨b, rfl, h2, h3⟩
  · have hk0 : k = 0 := by
      rcases Nat.mul_eq_zero.1 hk.symm with h | h
      · exact h
      · omega
    subst hk0
    have e1 : (1 : Nat) * bytes ≤ 140737488355328 := by omega
    simp [lappend, killT, e1, hm]
    omega
  · have hb1 : (H ++ (t ++ u))[b]? = some (.row false m c) := by rw [← List.append_assoc]; exact get_old h3 u
    have hbl := (List.getElem?_eq_some_iff.1 h3).1
    rw [List.length_append] at hbl
    have hset : (H ++ (t ++ u)).set b .dead = H ++ (t.set (b - H.length) .dead ++ u) := by
      rw [List.set_append_right _ _ h2, List.set_append_left _ _ (by omega)]
    have hno : ¬ (k + 1 ≤ k ∧ 0 < k) := by omega
    have htk : c.take (k * m) = c := List.take_of_length_le (by omega)
    simp only [lappend, hno, if_false, hb1, hset]
    rw [if_pos ⟨trivial, by omega, by omega, hb, by omega, hm, by omega⟩]
    simp [killT, htk]
theorem Own.grown {m n : Nat} {H t u : LHeap} {c : List Value} (hn : n = H.length) (hu : n ≤ H.length + (t.length + u.length)) (a : Option Addr) :
    Own m (H ++ (killT n t a ++ (u ++ [.row false m c]))) n (some ⟨H.length + (t.length + u.length), 0, none⟩) c := by
  refine .inr ⟨_, rfl, hu, ?_⟩
  rw [get_app]
  rw [List.getElem?_append_right (by rw [killT_len]; omega), killT_len, Nat.add_sub_cancel_left, List.getElem?_append_right (Nat.le_refl _)]
  simp
/-- What stands in another block stands there behind it, too. -/
theorem killT_get {m n : Nat} {H t : LHeap} {a : Option Addr} {c : List Value} {j : Nat} {o : LObj} (h : Own m (H ++ t) n a c) (hn : n = H.length) (hj : t[j]? = some o) (hne : Off (n + j) a) : (killT n t a)[j]? = some o := by
  subst hn
  rcases h with ⟨rfl, rfl⟩ | ⟨b, rfl, h2, h3⟩
  · exact hj
  · simp only [killT]
    have := hne _ rfl
    simp only at this
    rw [List.getElem?_set_ne (by omega)]
    exact hj
theorem Sl.killed {m k n : Nat} {H t u : LHeap} {a b : Option Addr} {c d : List Value} (h : Sl k (H ++ t) b d) (ho : Own m (H ++ t) n a c) (hn : n = H.length) (hoff : ∀ x, a = some x → Off x.block b) : Sl k (H ++ (killT n t a ++ u)) b d := by
  subst hn
  rw [← List.append_assoc]
  refine Sl.app ?_ _
  rcases ho with ⟨rfl, rfl⟩ | ⟨q, rfl, h2, h3⟩
  · exact h
  · simp only [killT]
    have e : H ++ t.set (q - H.length) .dead = (H ++ t).set q .dead := by rw [List.set_append_right _ _ h2]
    rw [e]
    exact h.set_off (hoff _ rfl) _
end Go.LK
