/- DROP A memory of which nothing is barred. -/
import Derived.Test.YtcogpinognopcaaM1
namespace Go.Proofs.Ytcogpinognopcaa
open Go Go.LK
set_option linter.unusedSimpArgs false
set_option linter.unusedVariables false
structure Clean (m : MV) (w : List (BitVec 64)) : Prop where
  ws : m.w = w
  bar : ∀ x ∈ m.bar, x = false
  len : m.bar.length = w.length
  pos : 0 < w.length
  le : w.length ≤ 65536
  trap : m.trap = -1
  fell : m.fell = false
section
variable {lim b pw pb : Nat} {m : MV} {H : LHeap} {w : List (BitVec 64)}
theorem Clean.ok (c : Clean m w) : m.Ok w.length := ⟨by rw [c.ws], c.len, c.pos, c.le⟩
theorem Clean.new {n : Nat} (h : 0 < n) (h2 : n ≤ 65536) : Clean (MV.new n) (List.replicate n 0#64) :=
  ⟨rfl, by simp [MV.new], by simp [MV.new], by simpa using h, by simpa using h2, rfl, rfl⟩
theorem Clean.bad (c : Clean m w) {a : Int} (h0 : 0 ≤ a) (h1 : a < w.length) : m.bad a = false := MV.bad_of c.ok h0 h1 c.bar
theorem Clean.use (c : Clean m w) {a : Int} (h0 : 0 ≤ a) (h1 : a < w.length) (k : Nat) (f : BitVec 64 → BitVec 64) : Clean (m.use k a f) (w.set a.toNat (f (w.getD a.toNat 0))) := by
  rw [MV.use_ok (c.bad h0 h1)]
  have ht := MV.tick_w m k
  refine ⟨?_, ?_, ?_, by simpa using c.pos, by simpa using c.le, ?_, ?_⟩
  · show m.w.set a.toNat (f (m.at a)) = _
    rw [MV.at, c.ws]
  · show ∀ x ∈ (m.tick k).bar, x = false
    rw [ht.2.1]; exact c.bar
  · show (m.tick k).bar.length = _
    rw [ht.2.1, List.length_set]; exact c.len
  · exact ht.2.2.2.trans c.trap
  · exact ht.2.2.1.trans c.fell
theorem Clean.use_id (c : Clean m w) {a : Int} (h0 : 0 ≤ a) (h1 : a < w.length) (k : Nat) : Clean (m.use k a id) w := by
  have := c.use h0 h1 k id
  have e : w.set a.toNat (id (w.getD a.toNat 0)) = w := by
    have h := MV.set_at (c.bad h0 h1)
    rw [MV.at, c.ws] at h; exact h
  rw [e] at this; exact this
theorem Clean.at (c : Clean m w) (a : Int) : m.at a = w.getD a.toNat 0 := by rw [MV.at, c.ws]
theorem Clean.pair (c : Clean m w) {a : Int} (h0 : 0 ≤ a) (h1 : a + 1 < w.length) (h2 : a.tmod 2 = 0) (x y p q : BitVec 64) :
    Clean (m.pair a x y p q) (if w.getD a.toNat 0 = x ∧ w.getD (a + 1).toNat 0 = y then (w.set a.toNat p).set (a + 1).toNat q else w) := by
  have b1 := c.bad h0 (by omega)
  have b2 := c.bad (a := a + 1) (by omega) h1
  have ht := MV.tick_w m 5
  rw [MV.pair, if_neg (by simp [b1, h2]), if_neg (by simp [b2]), c.at, c.at]
  split
  · refine ⟨by show (m.w.set _ _).set _ _ = _; rw [c.ws], ?_, ?_, by simpa using c.pos, by simpa using c.le, ht.2.2.2.trans c.trap, ht.2.2.1.trans c.fell⟩
    · show ∀ x ∈ (m.tick 5).bar, x = false
      rw [ht.2.1]; exact c.bar
    · show (m.tick 5).bar.length = _
      rw [ht.2.1, List.length_set, List.length_set]; exact c.len
  · exact ⟨ht.1.trans c.ws, by rw [ht.2.1]; exact c.bar, by rw [ht.2.1]; exact c.len, c.pos, c.le, ht.2.2.2.trans c.trap, ht.2.2.1.trans c.fell⟩
theorem load_c (h : MemAt H b pw pb m) (c : Clean m w) {a : Int} (h0 : 0 ≤ a) (h1 : a < w.length) :
    callE T 22 lim [ptr b, i64 a] H fun v H' => ∃ m', Clean m' w ∧ v = w64 (w.getD a.toNat 0) ∧ H' = memPut H b pw pb m' :=
  (load_ev h).mono fun v H' e => ⟨_, c.use_id h0 h1 0, by rw [e.1, MV.load, c.bad h0 h1, c.at]; rfl, e.2⟩
theorem store_c (h : MemAt H b pw pb m) (c : Clean m w) {a : Int} {x : BitVec 64} (h0 : 0 ≤ a) (h1 : a < w.length) :
    callE T 14 lim [ptr b, i64 a, w64 x] H fun v H' => ∃ m', Clean m' (w.set a.toNat x) ∧ H' = memPut H b pw pb m' :=
  (store_ev h).mono fun v H' e => ⟨_, c.use h0 h1 1 _, e⟩
theorem trap_c (h : MemAt H b pw pb m) (c : Clean m w) : callE T 24 lim [ptr b] H fun v H' => v = i64 (-1) ∧ H' = H :=
  (trap_ev h).mono fun v H' e => by rw [c.trap] at e; exact e
end
theorem MV.Ok.peek_all {m : MV} {n : Nat} (h : m.Ok n) : m.peek 0 n = m.w := by
  have h1 := h.w; have h2 := h.pos
  unfold MV.peek
  rw [if_neg (by omega), if_neg (by omega), if_neg (by omega)]
  rw [show (min (n : Int) (m.w.length - 0)).toNat = m.w.length by omega]
  simp
/-- How many steps there were, none of them lost. -/
structure MV.Few (m : MV) (n : Nat) : Prop where
  a0 : 0 ≤ m.c0
  a1 : 0 ≤ m.c1
  a2 : 0 ≤ m.c2
  a3 : 0 ≤ m.c3
  a4 : 0 ≤ m.c4
  a5 : 0 ≤ m.c5
  sum : m.c0 + m.c1 + m.c2 + m.c3 + m.c4 + m.c5 = n
  le : n ≤ 1000000000
theorem MV.Few.steps {m : MV} {n : Nat} (h : m.Few n) : m.sum 6 = n := by
  have := h.a0; have := h.a1; have := h.a2; have := h.a3; have := h.a4; have := h.a5; have := h.sum; have := h.le
  have e1 : m.sum 1 = m.c0 := by simp only [MV.sum, MV.cnt]; rw [wrap_i64] <;> omega
  have e2 : m.sum 2 = m.c0 + m.c1 := by
    show IntKind.i64.wrap (m.sum 1 + m.c1) = _
    rw [e1, wrap_i64] <;> omega
  have e3 : m.sum 3 = m.c0 + m.c1 + m.c2 := by
    show IntKind.i64.wrap (m.sum 2 + m.c2) = _
    rw [e2, wrap_i64] <;> omega
  have e4 : m.sum 4 = m.c0 + m.c1 + m.c2 + m.c3 := by
    show IntKind.i64.wrap (m.sum 3 + m.c3) = _
    rw [e3, wrap_i64] <;> omega
  have e5 : m.sum 5 = m.c0 + m.c1 + m.c2 + m.c3 + m.c4 := by
    show IntKind.i64.wrap (m.sum 4 + m.c4) = _
    rw [e4, wrap_i64] <;> omega
  show IntKind.i64.wrap (m.sum 5 + m.c5) = _
  rw [e5, wrap_i64] <;> omega
theorem MV.Few.new (n : Nat) : (MV.new n).Few 0 := ⟨Int.le_refl _, Int.le_refl _, Int.le_refl _, Int.le_refl _, Int.le_refl _, Int.le_refl _, rfl, by omega⟩
theorem MV.Few.tick {m : MV} {n : Nat} (h : m.Few n) (hn : n < 1000000000) (k : Nat) : (m.tick k).Few (n + 1) := by
  have h0 := h.a0; have h1 := h.a1; have h2 := h.a2; have h3 := h.a3; have h4 := h.a4; have h5 := h.a5; have hs := h.sum; have hl := h.le
  have u0 : up m.c0 = m.c0 + 1 := wrap_i64 (by omega) (by omega)
  have u1 : up m.c1 = m.c1 + 1 := wrap_i64 (by omega) (by omega)
  have u2 : up m.c2 = m.c2 + 1 := wrap_i64 (by omega) (by omega)
  have u3 : up m.c3 = m.c3 + 1 := wrap_i64 (by omega) (by omega)
  have u4 : up m.c4 = m.c4 + 1 := wrap_i64 (by omega) (by omega)
  have u5 : up m.c5 = m.c5 + 1 := wrap_i64 (by omega) (by omega)
  unfold MV.tick
  split <;> constructor <;> (try dsimp only) <;> (try simp only [u0, u1, u2, u3, u4, u5]) <;> omega
theorem MV.Few.fall {m : MV} {n : Nat} (h : m.Few n) (a : Int) : (m.fall a).Few n := by
  unfold MV.fall
  split
  · exact h
  · exact ⟨h.a0, h.a1, h.a2, h.a3, h.a4, h.a5, h.sum, h.le⟩
theorem MV.Few.setw {m : MV} {n : Nat} (h : m.Few n) (w : List (BitVec 64)) : (m.setw w).Few n := ⟨h.a0, h.a1, h.a2, h.a3, h.a4, h.a5, h.sum, h.le⟩
theorem MV.Few.use {m : MV} {n : Nat} (h : m.Few n) (hn : n < 1000000000) (k : Nat) (a : Int) (f : BitVec 64 → BitVec 64) : (m.use k a f).Few (n + 1) := by
  unfold MV.use
  split
  · exact (h.tick hn k).fall a
  · exact (h.tick hn k).setw _
theorem MV.Few.pair {m : MV} {n : Nat} (h : m.Few n) (hn : n < 1000000000) (a : Int) (x y p q : BitVec 64) : (m.pair a x y p q).Few (n + 1) := by
  unfold MV.pair
  split
  · exact (h.tick hn 5).fall a
  · split
    · exact (h.tick hn 5).fall _
    · split
      · exact (h.tick hn 5).setw _
      · exact h.tick hn 5
theorem MV.use_get {m : MV} {k : Nat} {a : Int} {f : BitVec 64 → BitVec 64} {i : Nat} (h : a.toNat ≠ i) : (m.use k a f).w[i]? = m.w[i]? := by
  unfold MV.use
  split
  · rw [(MV.fall_w _ _).1, MV.tick_ws]
  · exact List.getElem?_set_ne h
theorem MV.pair_get {m : MV} {a : Int} {x y p q : BitVec 64} {i : Nat} (h : a.toNat ≠ i) (h2 : (a + 1).toNat ≠ i) : (m.pair a x y p q).w[i]? = m.w[i]? := by
  unfold MV.pair
  split
  · rw [(MV.fall_w _ _).1, MV.tick_ws]
  · split
    · rw [(MV.fall_w _ _).1, MV.tick_ws]
    · split
      · show ((m.w.set _ _).set _ _)[i]? = _
        rw [List.getElem?_set_ne h2, List.getElem?_set_ne h]
      · rw [MV.tick_ws]
theorem MemAt.tail {A A' t : LHeap} {b pw pb : Nat} {m : MV} (h : MemAt (A ++ t) b pw pb m) (hl : A'.length = A.length) (h1 : A.length ≤ b) (h2 : A.length ≤ pw) (h3 : A.length ≤ pb) : MemAt (A' ++ t) b pw pb m := by
  have e : ∀ c, A.length ≤ c → (A' ++ t)[c]? = (A ++ t)[c]? := fun c hc => by
    rw [List.getElem?_append_right (by omega), List.getElem?_append_right hc, hl]
  exact ⟨(e b h1).trans h.row, (e pw h2).trans h.ws, (e pb h3).trans h.bs, h.len, h.pos, h.le, h.n1, h.n2, h.n3⟩
end Go.Proofs.Ytcogpinognopcaa
