/- Operations that are begun, beside the document's. -/
import Derived.Test.YtopjhhcncjleaaaW1
namespace Go.Proofs.Ytopjhhcncjleaaa
open Go Go.LK
set_option linter.unusedSimpArgs false
set_option linter.unusedVariables false
theorem keep_of {H K : LHeap} (hl : H.length ≤ K.length) (h : ∀ j, j < H.length → K[j]? = H[j]?) : ∃ t, K = H ++ t := by
  refine ⟨K.drop H.length, ?_⟩
  apply List.ext_getElem?
  intro i
  rcases Nat.lt_or_ge i H.length with hi | hi
  · rw [List.getElem?_append_left hi, h i hi]
  · rw [List.getElem?_append_right hi, List.getElem?_drop]
    congr 1; omega
structure BI {α : Type} (row : α → LObj) (cells : α → List Value) (k : Nat) (H K : LHeap) (ap ao : Option Addr) (L : List (Nat × α)) : Prop where
  keep : ∃ t, K = H ++ t
  ops : Ptrs row H.length K ap L
  own : Own k K H.length ao (L.flatMap fun z => cells z.2)
section
variable {α : Type} {row : α → LObj} {cells : α → List Value} {k : Nat} {H K : LHeap} {ao ap : Option Addr} {L : List (Nat × α)}
theorem BI.nil : BI row cells k H H none none [] := ⟨⟨[], by simp⟩, Ptrs.nil _, Own.nil _ _ _⟩
theorem BI.app (s : BI row cells k H K ap ao L) (t : LHeap) : BI row cells k H (K ++ t) ap ao L := by
  obtain ⟨u, hu⟩ := s.keep
  exact ⟨⟨u ++ t, by rw [hu, List.append_assoc]⟩, s.ops.app t, s.own.app t⟩
theorem BI.len (s : BI row cells k H K ap ao L) : H.length ≤ K.length := by
  obtain ⟨u, rfl⟩ := s.keep
  simp
theorem own_ne {m m' n n' : Nat} {H : LHeap} {a a' : Option Addr} {c c' : List Value} (h : Own m H n a c) (h' : Own m' H n' a' c') (hne : m ≠ m') : ∀ b, a' = some ⟨b, 0, none⟩ → Off b a := by
  intro b e
  rcases h' with ⟨rfl, _⟩ | ⟨b', rfl, _, g⟩
  · cases e
  · cases e
    exact off_row g h (fun q => hne q.symm)
theorem own_same {m n : Nat} {H H' : LHeap} {a : Option Addr} {c : List Value} (h : Own m H n a c) (hp : ∀ b, a = some ⟨b, 0, none⟩ → b < H.length → H'[b]? = H[b]?) : Own m H' n a c := by
  rcases h with h | ⟨b, h1, h2, h3⟩
  · exact .inl h
  · exact .inr ⟨b, h1, h2, by rw [hp b h1 (List.getElem?_eq_some_iff.1 h3).1]; exact h3⟩
theorem BI.push (s : BI row cells k H K ap ao L) (hrow : ∀ x, ∃ c, row x = .row false 0 c) (hcell : ∀ x, (cells x).length = k) (hk : 1 < k) (hk2 : k ≤ 100) {lim q n bytes : Nat} {t : LHeap} {x : α} (hn : L.length = n) (hn2 : n < 100000) (hby : bytes ≤ 1000) (hl : lim ≤ H.length)
    (hq : K.length ≤ q) (hx : (K ++ t)[q]? = some (row x)) : ∃ ap' K1, lappend lim (K ++ t) 1 8 (.slice ap n n) [ptr q] 1 = some (.slice ap' (n + 1) (n + 1), K1) ∧ lim ≤ K1.length ∧ (∃ t, K1 = H ++ t) ∧
      ∀ u, ∃ ao' K2, lappend lim (K1 ++ u) k bytes (.slice ao n n) (cells x) 1 = some (.slice ao' (n + 1) (n + 1), K2) ∧ BI row cells k H K2 ap' ao' (L ++ [(q, x)]) := by
  have hHK := s.len
  have s1 := s.app t
  have hHKt : H.length ≤ (K ++ t).length := s1.len
  have hby1 : (n + 1) * 8 ≤ 140737488355328 := by omega
  have hby2 : (n + 1) * bytes ≤ 140737488355328 := by
    have : (n + 1) * bytes ≤ 100000 * 1000 := Nat.mul_le_mul (by omega) hby
    omega
  obtain ⟨ap', K1, p1, p2, p3, p4, p5⟩ := Own.push (lim := lim) (bytes := 8) (k := n) (news := [ptr q]) s1.ops.own (by simp [hn]) (by decide) hl hHKt hby1 (by omega)
  have hne1 : ∀ b, b < (K ++ t).length → (∀ c, (K ++ t)[b]? ≠ some (.row false 1 c)) → K1[b]? = (K ++ t)[b]? := by
    intro b hb hc
    refine p4 b hb ?_
    intro z hz e
    rcases s1.ops.own with ⟨e1, _⟩ | ⟨b', e1, _, e3⟩
    · rw [e1] at hz; cases hz
    · rw [e1] at hz; cases hz
      simp only at e
      subst e
      exact hc _ e3
  have o1 : Own k K1 H.length ao (L.flatMap fun z => cells z.2) := own_same s1.own fun b hb hlt => by
    refine hne1 b hlt fun c hc => ?_
    rcases s1.own with ⟨e1, _⟩ | ⟨b', e1, _, e3⟩
    · rw [e1] at hb; cases hb
    · rw [e1] at hb; cases hb
      rw [hc] at e3
      cases e3
      omega
  have hK1 : ∀ j, j < H.length → K1[j]? = H[j]? := by
    intro j hj
    obtain ⟨v, hv⟩ := s1.keep
    rw [p4 j (by omega) (s1.ops.own.fresh.off hj), hv, get_left hj]
  have ops1 : OpsAt row H.length K1 ((L ++ [(q, x)]).map some) := by
    rw [List.map_append]
    have o2 : OpsAt row H.length (K ++ t) (L.map some ++ [some (q, x)]) := s.ops.ops.snoc hq (by omega) hx
    refine o2.same ?_
    intro j p y g
    refine hne1 p (o2.lt g) fun c hc => ?_
    have := (o2.at_ j p y g).2
    rw [hc] at this
    obtain ⟨cy, hcy⟩ := hrow y
    rw [hcy] at this
    cases this
  refine ⟨ap', K1, p1, by omega, keep_of (by omega) hK1, fun u => ?_⟩
  have o1u := o1.app u
  obtain ⟨ao', K2, r1, r2, r3, r4, r5⟩ := Own.push (lim := lim) (bytes := bytes) (k := n) (news := cells x) o1u (by rw [flat_len (fun z : Nat × α => hcell z.2), hn]) (by omega) hl (by simp; omega) hby2 (by omega)
  have hne2 : ∀ b, b < (K1 ++ u).length → (∀ c, (K1 ++ u)[b]? ≠ some (.row false k c)) → K2[b]? = (K1 ++ u)[b]? := by
    intro b hb hc
    refine r4 b hb ?_
    intro z hz e
    rcases o1u with ⟨e1, _⟩ | ⟨b', e1, _, e3⟩
    · rw [e1] at hz; cases hz
    · rw [e1] at hz; cases hz
      simp only at e
      subst e
      exact hc _ e3
  refine ⟨ao', K2, r1, keep_of (by simp at r3; omega) fun j hj => ?_, ⟨?_, ?_⟩, ?_⟩
  · rw [r4 j (by simp; omega) (o1u.fresh.off hj), get_left (by omega), hK1 j hj]
  · rw [List.map_append]
    have p2u := p2.app u
    refine own_same p2u fun b hb hlt => ?_
    refine hne2 b hlt fun c hc => ?_
    rcases p2u with ⟨e1, _⟩ | ⟨b', e1, _, e3⟩
    · rw [e1] at hb; cases hb
    · rw [e1] at hb; cases hb
      rw [hc] at e3
      cases e3
      omega
  · have o3 := ops1.app u
    refine o3.same ?_
    intro j p y g
    refine hne2 p (o3.lt g) fun c hc => ?_
    have := (o3.at_ j p y g).2
    rw [hc] at this
    obtain ⟨cy, hcy⟩ := hrow y
    rw [hcy] at this
    cases this
    omega
  · rw [List.flatMap_append, List.flatMap_cons, List.flatMap_nil, List.append_nil]
    exact r2
theorem OpsAt.mono {lo lo' : Nat} {L : List (Option (Nat × α))} (h : OpsAt row lo K L) (hl : lo' ≤ lo) : OpsAt row lo' K L :=
  ⟨fun j q x g => ⟨Nat.le_trans hl (h.at_ j q x g).1, (h.at_ j q x g).2⟩, h.ne⟩
theorem own_mono {m n n' : Nat} {a : Option Addr} {c : List Value} (h : Own m K n a c) (hn : n' ≤ n) : Own m K n' a c := by
  rcases h with h | ⟨b, h1, h2, h3⟩
  · exact .inl h
  · exact .inr ⟨b, h1, Nat.le_trans hn h2, h3⟩
/-- All are begun. -/
theorem BI.all (s : BI row cells k H K ap ao L) {H0 : LHeap} {lo b pw pb bx n : Nat} {m mr : MV} {w : List (BitVec 64)} {aw ab : Option Addr} (keep : ∃ t, H = H0 ++ t) (h2 : lo ≤ H.length) (mem : MemAt H b pw pb m)
    (lb : Lay lo b pw pb bx H0.length) (cl : Clean m w) (clr : Clean mr w) (wl : w.length = n) (ref : RefAt H aw ab n mr) (fw : Off4 b pw pb bx aw) (fb : Off4 b pw pb bx ab) (box : H[bx]? = some (xrow aw ab n mr)) :
    SI row cells k H0 lo b pw pb bx n K m mr w aw ab ao ap L := by
  obtain ⟨t, rfl⟩ := keep
  obtain ⟨u, hu⟩ := s.keep
  have e : K = H0 ++ (t ++ u) := by rw [hu, List.append_assoc]
  refine ⟨⟨_, e⟩, by have := s.len; omega, by rw [hu]; exact mem.app u, lb, cl, clr, wl, by rw [hu]; exact ref.app u, fw, fb, by rw [hu]; exact get_old box u, ⟨own_mono s.ops.own h2, s.ops.ops.mono h2⟩, own_mono s.own h2⟩
/-- What is read of an operation. -/
theorem SI.read {lo b pw pb bx n : Nat} {m mr : MV} {w : List (BitVec 64)} {aw ab : Option Addr} (s : SI row cells k H lo b pw pb bx n K m mr w aw ab ao ap L) (hcell : ∀ x, (cells x).length = k) (hk : 0 < k) {j p : Nat} {x : α} (hj : L[j]? = some (p, x)) :
    ∃ bp bo, ap = some ⟨bp, 0, none⟩ ∧ ao = some ⟨bo, 0, none⟩ ∧ (∀ t, lget (K ++ t) bp j = some (ptr p)) ∧ (∀ t, lcells (K ++ t) bo (j * k) k = some (cells x)) ∧ (∀ t i, i < k → lget (K ++ t) bo (j * k + i) = (cells x)[i]?) ∧ (∀ t, (K ++ t)[p]? = some (row x)) ∧ lo ≤ p := by
  have hjl : j < L.length := (List.getElem?_eq_some_iff.1 hj).1
  obtain ⟨bp, e1, _, _, g1⟩ := s.ops.own.has (by simp; omega)
  obtain ⟨bo, e2, _, _, g2⟩ := s.own.has (by rw [flat_len (f := fun z : Nat × α => cells z.2) (fun z => hcell z.2)]; exact Nat.mul_pos (by omega) hk)
  have s1 := s.ops.own.sl
  rw [e1] at s1
  obtain ⟨_, _, q1, _, r1⟩ := s1.all (by simp; omega)
  cases q1
  have s2 := s.own.sl
  rw [e2] at s2
  obtain ⟨_, _, q2, _, r2, r3⟩ := s2.rowsAt (f := fun z : Nat × α => cells z.2) (fun z => hcell z.2) hk (by omega)
  cases q2
  have hp := s.ops.ops.at_ j p x (map_some_get.2 hj)
  refine ⟨bp, bo, e1, e2, fun t => ?_, fun t => ?_, fun t i hi => ?_, fun t => get_old hp.2 t, hp.1⟩
  · have := r1 t j (ptr p) (by simp [hj])
    rwa [Nat.zero_add] at this
  · have := r2 t j _ hj
    rwa [Nat.zero_add] at this
  · have := r3 t j _ i hj hi
    rwa [Nat.zero_add] at this
end
end Go.Proofs.Ytopjhhcncjleaaa
