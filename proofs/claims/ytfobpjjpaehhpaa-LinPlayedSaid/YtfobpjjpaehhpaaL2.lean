/- The search: what it keeps. -/
import Derived.Test.YtfobpjjpaehhpaaL1
namespace Go.Proofs.Ytfobpjjpaehhpaa
open Go Go.LK
set_option linter.unusedSimpArgs false
set_option linter.unusedVariables false
/-- An order that grows, and is cut back. -/
def OrdAt (lim : Nat) (H : LHeap) (a : Option Addr) (cap : Nat) (o : List Nat) : Prop :=
  (a = none ∧ o = [] ∧ cap = 0) ∨ ∃ b cc, a = some ⟨b, 0, none⟩ ∧ lim ≤ b ∧ H[b]? = some (.row false 1 cc) ∧ cc.length = cap ∧ o.length ≤ cap ∧ cc.take o.length = o.map (fun i : Nat => i64 (i : Int))
theorem OrdAt.push {lim cap : Nat} {K : LHeap} {a : Option Addr} {o : List Nat} (h : OrdAt lim K a cap o) (hl : lim ≤ K.length) (hn : o.length < 1000) (i : Nat) :
    ∃ a' cap' K', lappend lim K 1 8 (.slice a o.length cap) [i64 i] 1 = some (.slice a' (o.length + 1) cap', K') ∧ OrdAt lim K' a' cap' (o ++ [i]) ∧ K.length ≤ K'.length ∧ (∀ j, j < K.length → Off j a → K'[j]? = K[j]? ∧ Off j a') := by
  rcases h with ⟨rfl, rfl, rfl⟩ | ⟨b, cc, rfl, h1, h2, h3, h4, h5⟩
  · refine ⟨some ⟨K.length, 0, none⟩, 1, K ++ [.row false 1 [i64 i]], ?_, .inr ⟨_, _, rfl, hl, get_app0 _ _, rfl, Nat.le_refl _, rfl⟩, by simp, fun j hj _ => ⟨get_left hj _, fun x hx => by cases hx; dsimp only; omega⟩⟩
    rw [List.length_nil, lappend_nil, if_neg (by decide), if_pos ⟨by decide, by decide, by decide⟩]
  · have hbl := (List.getElem?_eq_some_iff.1 h2).1
    by_cases hc : o.length + 1 ≤ cap ∧ 0 < cap
    · refine ⟨_, cap, K.set b (.row false 1 (setMany cc (0 + o.length * 1) [i64 i])), ?_, .inr ⟨b, _, rfl, h1, get_set_eq hbl _, ?_, ?_, ?_⟩, by simp, fun j hj ho => ⟨get_set_ne (fun q => ho _ rfl q) _, ho⟩⟩
      · rw [lappend_some, if_pos hc]
        simp only [lput, h2]
        rw [if_pos ⟨by simp; omega, .inl h1, rfl⟩]
        rfl
      · simp [setMany, h3]
      · simp; omega
      · simp only [setMany, Nat.mul_one, Nat.zero_add, List.length_append, List.length_singleton, List.map_append, List.map_cons, List.map_nil]
        rw [List.take_add_one, List.take_set_of_le (by omega), h5, List.getElem?_set_self (by omega)]
        rfl
    · refine ⟨some ⟨K.length, 0, none⟩, o.length + 1, K.set b .dead ++ [.row false 1 (o.map (fun i : Nat => i64 (i : Int)) ++ [i64 i])], ?_, .inr ⟨K.length, o.map (fun i : Nat => i64 (i : Int)) ++ [i64 i], rfl, hl, ?_, ?_, ?_, ?_⟩, by simp, fun j hj ho => ⟨?_, fun x hx => by cases hx; dsimp only; omega⟩⟩
      · rw [lappend_some, if_neg hc, h2]
        simp only
        rw [if_pos ⟨trivial, by omega, by omega, by omega, by omega, by decide, h1⟩, List.drop_zero, Nat.mul_one, h5]
      · have := get_app0 (K.set b .dead) [.row false 1 (o.map (fun i : Nat => i64 (i : Int)) ++ [i64 i])]
        rw [List.length_set] at this
        exact this
      · simp
      · simp
      · rw [List.take_of_length_le (by simp)]; simp
      · rw [get_left (by simpa using hj), get_set_ne (fun q => ho _ rfl q)]
theorem OrdAt.cut {lim cap : Nat} {K : LHeap} {a : Option Addr} {o : List Nat} {i : Nat} (h : OrdAt lim K a cap (o ++ [i])) :
    (∀ t, lslice (K ++ t) 1 (.slice a (o.length + 1) cap) none (some (i64 (o.length : Nat))) none = some (.slice a o.length cap)) ∧ OrdAt lim K a cap o := by
  rcases h with ⟨_, h, _⟩ | ⟨b, cc, rfl, h1, h2, h3, h4, h5⟩
  · simp at h
  · simp only [List.length_append, List.length_singleton] at h4 h5
    refine ⟨fun t => ?_, .inr ⟨b, cc, rfl, h1, h2, h3, by omega, ?_⟩⟩
    · have e : (0 : Int) ≤ (o.length : Int) ∧ (o.length : Int) ≤ (cap : Int) := by omega
      have e2 : o.length ≤ cap := by omega
      simp [lslice, lbound, e, e2, get_old h2 t]
    · have := congrArg (List.take o.length) h5
      rw [List.take_take, Nat.min_eq_left (by omega)] at this
      rw [this]; simp
/-- Names that are dead. -/
def deadE (D : List (List UInt8)) : List (Value × Value) := D.map fun x => (strV x, .bool true)
theorem dead_find (k : List UInt8) : ∀ D : List (List UInt8), (k ∈ D → ∃ i, D[i]? = some k ∧ lfind true (strV k) (deadE D) = some (some (i, .bool true))) ∧ (k ∉ D → lfind true (strV k) (deadE D) = some none)
  | [] => ⟨fun h => by simp at h, fun _ => rfl⟩
  | x :: D => by
    obtain ⟨h1, h2⟩ := dead_find k D
    simp only [deadE, List.map_cons, lfind, sameKey_sv]
    by_cases e : k = x
    · subst e
      refine ⟨fun _ => ⟨0, rfl, by simp⟩, fun h => by simp at h⟩
    · have eb : (k == x) = false := by simpa using e
      rw [eb]
      refine ⟨fun h => ?_, fun h => ?_⟩
      · obtain ⟨i, a1, a2⟩ := h1 (by simpa [e] using h)
        refine ⟨i + 1, by simpa using a1, ?_⟩
        simp only [deadE] at a2
        simp [a2]
      · have := h2 (fun q => h (by simp [q]))
        simp only [deadE] at this
        simp [this]
/-- What a finder has. -/
structure FI (lim : Nat) (cap : Int) (P : Prob (List (BitVec 64))) (p q : Nat) (sl sa sf kf : Value) (H : LHeap) (a : Option Addr) (oc : Nat) (o : List Nat) (D : List (List UInt8)) : Prop where
  row : H[p]? = some (.row false 0 [sl, sa, w64 P.done, sf, kf, .map (some q), .slice a o.length oc])
  mp : H[q]? = some (.map (deadE D))
  ord : OrdAt lim H a oc o
  pq : p ≠ q
  limp : lim ≤ p
  limq : lim ≤ q
  offp : Off p a
  offq : Off q a
  sound : ∀ x ∈ D, ∀ (k : Nat) (u : BitVec 64) (s : List (BitVec 64)), k ≤ 8 → u >>> (8 * k) = 0#64 → x = nameN k cap u s → P.fnd u s = none
theorem OrdAt.app {lim cap : Nat} {K : LHeap} {a : Option Addr} {o : List Nat} (h : OrdAt lim K a cap o) (t : LHeap) : OrdAt lim (K ++ t) a cap o := by
  rcases h with h | ⟨b, cc, h1, h2, h3, h4⟩
  · exact .inl h
  · exact .inr ⟨b, cc, h1, h2, get_old h3 t, h4⟩
theorem FI.app {lim : Nat} {cap : Int} {P : Prob (List (BitVec 64))} {p q : Nat} {sl sa sf kf : Value} {H : LHeap} {a : Option Addr} {oc : Nat} {o : List Nat} {D : List (List UInt8)} (h : FI lim cap P p q sl sa sf kf H a oc o D) (t : LHeap) : FI lim cap P p q sl sa sf kf (H ++ t) a oc o D :=
  ⟨get_old h.row t, get_old h.mp t, h.ord.app t, h.pq, h.limp, h.limq, h.offp, h.offq, h.sound⟩
/-- Blocks that stay. -/
def Kp (p q : Nat) (a a' : Option Addr) (H H' : LHeap) : Prop := H.length ≤ H'.length ∧ ∀ j, j < H.length → j ≠ p → j ≠ q → Off j a → H'[j]? = H[j]? ∧ Off j a'
theorem Kp.refl {p q : Nat} {a : Option Addr} {H : LHeap} : Kp p q a a H H := ⟨Nat.le_refl _, fun j _ _ _ h => ⟨rfl, h⟩⟩
theorem Kp.app {p q : Nat} {a : Option Addr} {H : LHeap} (t : LHeap) : Kp p q a a H (H ++ t) := ⟨by simp, fun j hj _ _ h => ⟨get_left hj _, h⟩⟩
theorem Kp.trans {p q : Nat} {a b c : Option Addr} {H K L : LHeap} (h : Kp p q a b H K) (g : Kp p q b c K L) : Kp p q a c H L :=
  ⟨Nat.le_trans h.1 g.1, fun j hj h1 h2 h3 => by
    obtain ⟨a1, a2⟩ := h.2 j hj h1 h2 h3
    obtain ⟨b1, b2⟩ := g.2 j (Nat.lt_of_lt_of_le hj h.1) h1 h2 a2
    exact ⟨b1.trans a1, b2⟩⟩
theorem Kp.at_ {p q : Nat} {a a' : Option Addr} {H H' : LHeap} (h : Kp p q a a' H H') {j : Nat} {o : LObj} (h1 : j ≠ p) (h2 : j ≠ q) (h3 : Off j a) (g : H[j]? = some o) : H'[j]? = some o ∧ Off j a' := by
  obtain ⟨a1, a2⟩ := h.2 j (List.getElem?_eq_some_iff.1 g).1 h1 h2 h3
  exact ⟨a1.trans g, a2⟩
theorem Kp.setp {p q : Nat} {a : Option Addr} {H : LHeap} (x : LObj) : Kp p q a a H (H.set p x) := ⟨by simp, fun j hj h1 _ h => ⟨get_set_ne (fun e => h1 e.symm) _, h⟩⟩
theorem Kp.setq {p q : Nat} {a : Option Addr} {H : LHeap} (x : LObj) : Kp p q a a H (H.set q x) := ⟨by simp, fun j hj _ h1 h => ⟨get_set_ne (fun e => h1 e.symm) _, h⟩⟩
theorem OrdAt.off {lim cap b : Nat} {K : LHeap} {a : Option Addr} {o : List Nat} (h : OrdAt lim K a cap o) (hb : K.length ≤ b) : Off b a := by
  rcases h with ⟨rfl, _⟩ | ⟨c, cc, rfl, h1, h2, _⟩
  · exact fun x hx => by cases hx
  · have := (List.getElem?_eq_some_iff.1 h2).1
    exact fun x hx => by cases hx; dsimp only; omega
theorem OrdAt.set {lim cap b : Nat} {K : LHeap} {a : Option Addr} {o : List Nat} (h : OrdAt lim K a cap o) (hb : Off b a) (x : LObj) : OrdAt lim (K.set b x) a cap o := by
  rcases h with h | ⟨c, cc, rfl, h1, h2, h3⟩
  · exact .inl h
  · exact .inr ⟨c, cc, rfl, h1, by rw [get_set_ne (fun e => hb _ rfl e.symm)]; exact h2, h3⟩
theorem FI.kill {lim : Nat} {cap : Int} {P : Prob (List (BitVec 64))} {p q : Nat} {sl sa sf kf : Value} {H : LHeap} {a : Option Addr} {oc : Nat} {o : List Nat} {D : List (List UInt8)} (h : FI lim cap P p q sl sa sf kf H a oc o D) (D' : List (List UInt8))
    (hs : ∀ x ∈ D', ∀ (k : Nat) (u : BitVec 64) (s : List (BitVec 64)), k ≤ 8 → u >>> (8 * k) = 0#64 → x = nameN k cap u s → P.fnd u s = none) : FI lim cap P p q sl sa sf kf (H.set q (.map (deadE D'))) a oc o D' :=
  ⟨by rw [get_set_ne h.pq.symm]; exact h.row, get_set_eq (List.getElem?_eq_some_iff.1 h.mp).1 _, h.ord.set h.offq _, h.pq, h.limp, h.limq, h.offp, h.offq, hs⟩
theorem FI.setp {lim : Nat} {cap : Int} {P : Prob (List (BitVec 64))} {p q : Nat} {sl sa sf kf : Value} {H : LHeap} {a : Option Addr} {oc : Nat} {o o' : List Nat} {D : List (List UInt8)} (h : FI lim cap P p q sl sa sf kf H a oc o D) (ho : OrdAt lim H a oc o') : FI lim cap P p q sl sa sf kf (H.set p (.row false 0 [sl, sa, w64 P.done, sf, kf, .map (some q), .slice a o'.length oc])) a oc o' D :=
  ⟨get_set_eq (List.getElem?_eq_some_iff.1 h.row).1 _, by rw [get_set_ne h.pq]; exact h.mp, ho.set h.offp _, h.pq, h.limp, h.limq, h.offp, h.offq, h.sound⟩
/-- A slice stands in no block that changes. -/
def OffS (p q : Nat) (a sb : Option Addr) : Prop := ∀ x, sb = some x → x.block ≠ p ∧ x.block ≠ q ∧ Off x.block a
theorem Kp.sl {p q m : Nat} {a a' sb : Option Addr} {H H' : LHeap} {c : List Value} (h : Kp p q a a' H H') (hs : Sl m H sb c) (ho : OffS p q a sb) : Sl m H' sb c ∧ OffS p q a' sb := by
  rcases hs with ⟨rfl, rfl⟩ | ⟨b, o, ro, es, cc, rfl, h1, h2⟩
  · exact ⟨.inl ⟨rfl, rfl⟩, fun x hx => by cases hx⟩
  · obtain ⟨k1, k2, k3⟩ := ho _ rfl
    obtain ⟨g1, g2⟩ := h.at_ k1 k2 k3 h1
    exact ⟨.inr ⟨b, o, ro, es, cc, rfl, g1, h2⟩, fun x hx => by cases hx; exact ⟨k1, k2, g2⟩⟩
/-- What the search is given stays. -/
def Has (E : List (Nat × LObj)) (H : LHeap) : Prop := ∀ x ∈ E, H[x.1]? = some x.2
def OffE (p q : Nat) (a : Option Addr) (E : List (Nat × LObj)) : Prop := ∀ x ∈ E, x.1 ≠ p ∧ x.1 ≠ q ∧ Off x.1 a
theorem Kp.has {p q : Nat} {a a' : Option Addr} {H H' : LHeap} {E : List (Nat × LObj)} (h : Kp p q a a' H H') (g : Has E H) (o : OffE p q a E) : Has E H' ∧ OffE p q a' E :=
  ⟨fun x hx => (h.at_ (o x hx).1 (o x hx).2.1 (o x hx).2.2 (g x hx)).1, fun x hx => ⟨(o x hx).1, (o x hx).2.1, (h.at_ (o x hx).1 (o x hx).2.1 (o x hx).2.2 (g x hx)).2⟩⟩
theorem Has.app {E : List (Nat × LObj)} {H : LHeap} (h : Has E H) (t : LHeap) : Has E (H ++ t) := fun x hx => get_old (h x hx) t
end Go.Proofs.Ytfobpjjpaehhpaa
