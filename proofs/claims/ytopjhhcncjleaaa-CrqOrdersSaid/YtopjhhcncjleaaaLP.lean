/- Arguments that came in, whatever their types' shapes: numbers, bools, texts, structs and arrays of these, slices of these; and their reading behind the call. -/
import Derived.Test.YtopjhhcncjleaaaLL
import Derived.WalkKit
import Derived.ProofKit
import Derived.OpenShut
import Derived.ChangeOld
import Derived.ChangeArms
namespace Go.LK
open Go Go.RowKit Go.ChangeShapes Go.WideShapes
set_option linter.unusedVariables false
set_option linter.unusedSimpArgs false

inductive CK where
  | int (k : IntKind)
  | bool
inductive AT where
  | one (c : CK)
  | str
  | slice (ks : List CK)
def CellIs : CK → Value → Prop
  | .int k, v => ∃ n, v = .int k n ∧ (Lit.int k n).wf = true
  | .bool, v => ∃ b, v = .bool b
/-- Cell by cell. -/
def Row2 {α : Type} (R : α → Value → Prop) : List α → List Value → Prop
  | [], [] => True
  | k :: ks, c :: cs => R k c ∧ Row2 R ks cs
  | _, _ => False
theorem Row2.length {α : Type} {R : α → Value → Prop} : ∀ {ks : List α} {cs : List Value}, Row2 R ks cs → cs.length = ks.length
  | [], [], _ => rfl
  | k :: ks, c :: cs, h => by simp [Row2.length h.2]
  | [], _ :: _, h => h.elim
  | _ :: _, [], h => h.elim
theorem Row2.app {α : Type} {R : α → Value → Prop} : ∀ {ks ls : List α} {cs ds : List Value}, Row2 R ks cs → Row2 R ls ds → Row2 R (ks ++ ls) (cs ++ ds)
  | [], _, [], _, _, h => h
  | k :: ks, _, c :: cs, _, h, g => ⟨h.1, Row2.app h.2 g⟩
  | [], _, _ :: _, _, h, _ => h.elim
  | _ :: _, _, [], _, h, _ => h.elim
theorem Row2.map {α β : Type} {R : α → Value → Prop} {S : β → Value → Prop} (f : α → β) (g : ∀ a v, R a v → S (f a) v) : ∀ {ks : List α} {cs : List Value}, Row2 R ks cs → Row2 S (ks.map f) cs
  | [], [], _ => trivial
  | k :: ks, c :: cs, h => ⟨g _ _ h.1, Row2.map f g h.2⟩
  | [], _ :: _, h => h.elim
  | _ :: _, [], h => h.elim
def fieldsOf {α : Type} (f : TypeId → Option (List α)) (P : Program) : Nat → List Field → Option (List α)
  | _, [] => some []
  | o, fd :: r => match f fd.type with
    | some ks => if fd.offset = o ∧ P.cellsOf fd.type = ks.length then (fieldsOf f P (o + ks.length) r).map (ks ++ ·) else none
    | none => none
def tyFlat (P : Program) : Nat → TypeId → Option (List CK)
  | 0, _ => none
  | d + 1, t => match P.underlying t with
    | some (.int k) => some [.int k]
    | some .bool => some [.bool]
    | some (.struct fs) => match fieldsOf (tyFlat P d) P 0 fs.toList with
      | some ks => if P.cellsOf t = ks.length then some ks else none
      | none => none
    | some (.array n e) => match tyFlat P d e with
      | some ks => if P.cellsOf e = ks.length ∧ P.cellsOf t = n * ks.length then some ((List.replicate n ks).flatten) else none
      | none => none
    | _ => none
def tyCells (P : Program) : Nat → TypeId → Option (List AT)
  | 0, _ => none
  | d + 1, t => match tyFlat P (d + 1) t with
    | some ks => some (ks.map .one)
    | none => match P.underlying t with
      | some .string => some [.str]
      | some (.slice e) => match tyFlat P d e with
        | some ks => if P.cellsOf e = ks.length ∧ 0 < ks.length then some [.slice ks] else none
        | none => none
      | some (.struct fs) => match fieldsOf (tyCells P d) P 0 fs.toList with
        | some ks => if P.cellsOf t = ks.length then some ks else none
        | none => none
      | _ => none
def CellOk (w : World) : AT → Value → Prop
  | .one c, v => CellIs c v
  | .str, v => ∃ s, v = .string s ∧ s.size ≤ maxLen
  | .slice ks, v => 0 < ks.length ∧ (v = .slice none 0 0 ∨ ∃ a len cap, v = .slice (some a) len cap ∧ len ≤ cap ∧ cap ≤ maxLen ∧
      ∀ i, i < len → ∃ row, Row2 CellIs ks row ∧ ∀ j, j < ks.length → w.cell? (a.add (i * ks.length + j)) = row[j]?)
theorem add_add (a : Addr) (x y : Nat) : (a.add x).add y = a.add (x + y) := by
  unfold Addr.add
  by_cases hx : x = 0
  · subst hx; simp
  · by_cases hy : y = 0
    · subst hy; simp
    · simp [hx, hy, Nat.add_assoc]
section
variable {HH : Type} {enc : TypeId × Value → HH} {P : Program} {w : World} {base : Nat} {spare : Nat → Bool} {held : Bool}
theorem fieldsOf_row {α : Type} {R : α → Value → Prop} {f : TypeId → Option (List α)} {n : Nat}
    (ih : ∀ t ks cs x, f t = some ks → DataW.trod enc P w base spare held n t cs = some x → Row2 R ks cs) {cs : List Value} :
    ∀ (fs : List Field) (o : Nat) (ks : List α), fieldsOf f P o fs = some ks → cs.length = o + ks.length →
      (∀ fd ∈ fs, ∃ x, DataW.trod enc P w base spare held n fd.type ((cs.drop fd.offset).take (P.cellsOf fd.type)) = some x) → Row2 R ks (cs.drop o)
  | [], o, ks, h, hl, _ => by
    simp only [fieldsOf, Option.some.injEq] at h
    subst h
    have : cs.drop o = [] := List.drop_eq_nil_of_le (by simp at hl; omega)
    rw [this]; trivial
  | fd :: r, o, ks, h, hl, hx => by
    simp only [fieldsOf] at h
    cases hf : f fd.type with
    | none => rw [hf] at h; cases h
    | some ks0 =>
      rw [hf] at h
      simp only at h
      split at h
      · rename_i hc
        obtain ⟨ho, hc⟩ := hc
        obtain ⟨ks1, h1, rfl⟩ := Option.map_eq_some_iff.1 h
        simp only [List.length_append] at hl
        obtain ⟨x, hx0⟩ := hx fd (by simp)
        have r0 := ih _ _ _ _ hf hx0
        rw [ho, hc] at r0
        have r1 := fieldsOf_row ih r (o + ks0.length) ks1 h1 (by omega) (fun fd' h' => hx fd' (by simp [h']))
        have e : cs.drop o = (cs.drop o).take ks0.length ++ cs.drop (o + ks0.length) := by
          rw [← List.drop_drop]; exact (List.take_append_drop _ _).symm
        rw [e]
        exact r0.app r1
      · cases h
theorem rep_row {α : Type} {R : α → Value → Prop} {ks : List α} : ∀ (n : Nat) (cs : List Value), cs.length = n * ks.length →
    (∀ i, i < n → Row2 R ks ((cs.drop (i * ks.length)).take ks.length)) → Row2 R ((List.replicate n ks).flatten) cs
  | 0, cs, hl, _ => by
    have : cs = [] := List.eq_nil_of_length_eq_zero (by simpa using hl)
    subst this; trivial
  | n + 1, cs, hl, h => by
    rw [List.replicate_succ, List.flatten_cons]
    have e : cs = cs.take ks.length ++ cs.drop ks.length := (List.take_append_drop _ _).symm
    rw [e]
    refine Row2.app (by simpa using h 0 (by omega)) (rep_row n _ ?_ ?_)
    · rw [List.length_drop, hl, Nat.add_mul, Nat.one_mul, Nat.add_sub_cancel]
    · intro i hi
      have := h (i + 1) (by omega)
      rw [List.drop_drop]
      rw [show ks.length + i * ks.length = (i + 1) * ks.length by rw [Nat.add_mul, Nat.one_mul, Nat.add_comm]]
      exact this
theorem trod_flat : ∀ (d n : Nat) (t : TypeId) (ks : List CK) (cs : List Value) (x : DataW HH × List MemPlace), tyFlat P d t = some ks → DataW.trod enc P w base spare held n t cs = some x → Row2 CellIs ks cs
  | 0, _, _, _, _, _, h, _ => by simp [tyFlat] at h
  | d + 1, n, t, ks, cs, x, h, hx => by
    simp only [tyFlat] at h
    split at h
    · rename_i k hu
      cases h
      obtain ⟨m, rfl, _, hw⟩ := DataW.trod_int hu hx
      exact ⟨⟨m, rfl, hw⟩, trivial⟩
    · rename_i hu
      cases h
      obtain ⟨b, rfl, _⟩ := DataW.trod_bool hu hx
      exact ⟨⟨b, rfl⟩, trivial⟩
    · rename_i fs hu
      split at h
      · rename_i ks0 hf
        split at h
        · rename_i hc
          cases h
          obtain ⟨xs, m, rfl, _, hl, hxl, hel⟩ := DataW.trod_struct hu hx
          have := fieldsOf_row (n := m) (R := CellIs) (fun t' ks' cs' x' a b => trod_flat d m t' ks' cs' x' a b) (cs := cs) fs.toList 0 ks hf (by omega) (by
            intro fd hfd
            obtain ⟨i, hi, rfl⟩ := List.getElem_of_mem hfd
            have hi' : i < fs.size := by simpa using hi
            refine ⟨xs[i]'(by omega), ?_⟩
            rw [hel i _ (by simp [hi']), List.getElem?_eq_getElem (by omega)])
          simpa using this
        · cases h
      · cases h
    · rename_i m e hu
      split at h
      · rename_i ks0 hf
        split at h
        · rename_i hc
          cases h
          obtain ⟨xs, m', rfl, _, hl, hxl, hel⟩ := DataW.trod_array hu hx
          refine rep_row m cs (by omega) fun i hi => ?_
          have h1 := hel i hi
          rw [List.getElem?_eq_getElem (by omega)] at h1
          have := trod_flat d m' e _ _ _ hf h1
          rw [hc.1] at this
          exact this
        · cases h
      · cases h
    · cases h
theorem trod_cells : ∀ (d n : Nat) (t : TypeId) (ks : List AT) (cs : List Value) (x : DataW HH × List MemPlace), tyCells P d t = some ks → DataW.trod enc P w base spare held n t cs = some x → Row2 (CellOk w) ks cs
  | 0, _, _, _, _, _, h, _ => by simp [tyCells] at h
  | d + 1, n, t, ks, cs, x, h, hx => by
    simp only [tyCells] at h
    split at h
    · rename_i ks0 hf
      cases h
      exact (trod_flat _ n t _ _ _ hf hx).map AT.one fun a v hv => hv
    · split at h
      · rename_i hu
        cases h
        obtain ⟨s, rfl, _, hs⟩ := DataW.trod_string hu hx
        exact ⟨⟨s, rfl, hs⟩, trivial⟩
      · rename_i e hu
        split at h
        · rename_i ks0 hf
          split at h
          · rename_i hc
            cases h
            rcases DataW.trod_slice hu hx with ⟨rfl, _⟩ | ⟨a, len, cap, elems, rest, m, _, rfl, _, hb, hl, hm, hlen, hel, _, _⟩
            · exact ⟨⟨hc.2, .inl rfl⟩, trivial⟩
            · refine ⟨⟨hc.2, .inr ⟨a, len, cap, rfl, hl, hm, fun i hi => ?_⟩⟩, trivial⟩
              have h1 := hel i hi
              rw [List.getElem?_eq_getElem (by omega)] at h1
              obtain ⟨row, h2, h3⟩ := Option.bind_eq_some_iff.1 h1
              refine ⟨row, trod_flat _ _ _ _ _ _ hf h3, fun j hj => ?_⟩
              rw [← add_add, ← hc.1]
              exact (World.cells?_some h2).2.2 j (by omega)
          · cases h
        · cases h
      · rename_i fs hu
        split at h
        · rename_i ks0 hf
          split at h
          · rename_i hc
            cases h
            obtain ⟨xs, m, rfl, _, hl, hxl, hel⟩ := DataW.trod_struct hu hx
            have := fieldsOf_row (n := m) (R := CellOk w) (fun t' ks' cs' x' a b => trod_cells d m t' ks' cs' x' a b) (cs := cs) fs.toList 0 ks hf (by omega) (by
              intro fd hfd
              obtain ⟨i, hi, rfl⟩ := List.getElem_of_mem hfd
              have hi' : i < fs.size := by simpa using hi
              refine ⟨xs[i]'(by omega), ?_⟩
              rw [hel i _ (by simp [hi']), List.getElem?_eq_getElem (by omega)])
            simpa using this
          · cases h
        · cases h
      · cases h
theorem trodAll_below {W W' : World} (hl : laidOutB P = true) : ∀ {ts : List TypeId} {vs : List Value} {ds : List (DataW HH)} {ps : List MemPlace}, ts.all (fun t => P.readableRec t && decide (t < P.types.size)) = true →
    DataW.TrodAll enc P W 0 (fun _ => true) true ts vs ds ps → Below W.heap.size W W' → DataW.TrodAll enc P W' 0 (fun b => decide (b < W.heap.size)) true ts vs ds ps
  | [], [], [], _, _, h, _ => h
  | t :: ts, v :: vs, d :: ds, ps, ht, h, hb => by
    obtain ⟨p, q, h1, h2, rfl⟩ := h
    simp only [List.all_cons, Bool.and_eq_true, decide_eq_true_eq] at ht
    refine ⟨p, q, Below.trod hl ht.1.1 ht.1.2 h1 hb ?_, trodAll_below hl (by simpa using ht.2) h2 hb, rfl⟩
    intro x hx
    obtain ⟨m, hm⟩ := h1
    exact DataW.trod_lt m _ _ _ hm x hx
  | [], _ :: _, _, _, _, h, _ => by simp [DataW.TrodAll] at h
  | [], [], _ :: _, _, _, h, _ => by simp [DataW.TrodAll] at h
  | _ :: _, [], _, _, _, h, _ => by simp [DataW.TrodAll] at h
  | _ :: _, _ :: _, [], _, _, h, _ => by simp [DataW.TrodAll] at h
end
/-- What is known, beside its reading, of slices that came in. -/
def WideOk (w : World) (cs : List Value) : Prop := ∀ c ∈ cs, ∀ a len cap, c = .slice (some a) len cap → a.spot = none ∧ ∃ cs el fz, w.heap[a.block]? = some (.cells cs el fz)
theorem cell_wide {P : Program} {w : World} {r : Reach} {base : Nat} {u : TypeId} {a : Addr} {len cap : Nat} (h : Cell.okWide P w r base u (.slice (some a) len cap)) : a.spot = none ∧ ∃ cs el fz, w.heap[a.block]? = some (.cells cs el fz) := by
  have fin : ∀ e, w.has P r base a e cap → a.spot = none ∧ ∃ cs el fz, w.heap[a.block]? = some (.cells cs el fz) := by
    rintro e ⟨_, h2, row, cells, h3, _⟩
    refine ⟨h2, ?_⟩
    unfold World.shape? at h3
    split at h3
    · rename_i c el fz hb; exact ⟨c, el, fz, hb⟩
    · cases h3
  cases hu : P.underlying u with
  | none => simp [Cell.okWide, Cell.ok, hu] at h
  | some td =>
    cases td with
    | slice e =>
      simp only [Cell.okWide, Cell.ok, hu] at h
      exact fin e h.2.2
    | _ => simp [Cell.okWide, Cell.ok, hu] at h
theorem wideOk {P : Program} {w : World} {r : Reach} {base : Nat} {t : TypeId} {v : Value} (h : Value.okWide P w r base t v) : WideOk w v.cells.toList := by
  have row : ∀ cs : Array Value, Row.okWide P w r base t cs → WideOk w cs.toList := by
    rintro cs ⟨ts, _, _, h3⟩ c hc a len cap rfl
    obtain ⟨i, hi, he⟩ := List.getElem_of_mem hc
    obtain ⟨u, _, hu⟩ := h3 i (.slice (some a) len cap) (by rw [← he]; simp at hi; simp [hi])
    exact cell_wide hu
  have one : Cell.okWide P w r base t v → WideOk w v.cells.toList := by
    intro h c hc a len cap rfl
    cases v with
    | agg cs =>
      exfalso
      cases hu : P.underlying t with
      | none => simp [Cell.okWide, Cell.ok, hu] at h
      | some td => cases td <;> simp [Cell.okWide, Cell.ok, hu] at h
    | _ =>
      simp only [Value.cells, List.mem_singleton] at hc
      first
        | (cases hc; exact cell_wide h)
        | cases hc
  unfold Value.okWide at h
  split at h
  · obtain ⟨cs, rfl, _, h3⟩ := h; exact row cs h3
  · obtain ⟨cs, rfl, _, h3⟩ := h; exact row cs h3
  · exact one h
/-- What the logical machine is told of an argument's cells. -/
def LogIs (H : LHeap) : AT → Value → Prop
  | .one c, v => CellIs c v
  | .str, v => ∃ s, v = .string s ∧ s.size ≤ maxLen
  | .slice ks, v => ∃ (a : Option Addr) (rows : List (List Value)), v = .slice a rows.length rows.length ∧ (∀ r ∈ rows, Row2 CellIs ks r) ∧ Sl ks.length H a rows.flatten ∧ rows.length ≤ maxLen
theorem LogIs.app {H : LHeap} {k : AT} {v : Value} (h : LogIs H k v) (l : LHeap) : LogIs (H ++ l) k v := by
  cases k with
  | one c => exact h
  | str => exact h
  | slice ks =>
    obtain ⟨a, rows, h1, h2, h3, h4⟩ := h
    exact ⟨a, rows, h1, h2, h3.app l, h4⟩
theorem Row2.imp {α : Type} {R S : α → Value → Prop} (g : ∀ a v, R a v → S a v) : ∀ {ks : List α} {cs : List Value}, Row2 R ks cs → Row2 S ks cs
  | [], [], _ => trivial
  | k :: ks, c :: cs, h => ⟨g _ _ h.1, Row2.imp g h.2⟩
  | [], _ :: _, h => h.elim
  | _ :: _, [], h => h.elim
theorem cellIs_scalar {c : CK} {v : Value} (h : CellIs c v) : scalar v = true := by
  cases c with
  | int k => obtain ⟨n, rfl, _⟩ := h; rfl
  | bool => obtain ⟨b, rfl⟩ := h; rfl
theorem row_scalar : ∀ {ks : List CK} {cs : List Value}, Row2 CellIs ks cs → cs.all scalar = true
  | [], [], _ => rfl
  | k :: ks, c :: cs, h => by simp only [List.all_cons, cellIs_scalar h.1, row_scalar h.2, Bool.and_self]
  | [], _ :: _, h => h.elim
  | _ :: _, [], h => h.elim
theorem Start.arg {w : World} : ∀ {ts : List AT} {cs : List Value} {i : Inj} {H : LHeap}, Start w i H → Row2 (CellOk w) ts cs → WideOk w cs →
    ∃ i' t lcs, Start w i' (H ++ t) ∧ i.le i' ∧ VRs i' lcs cs ∧ Row2 (LogIs (H ++ t)) ts lcs
  | [], [], i, H, hS, _, _ => ⟨i, [], [], by simpa using hS, Inj.le_refl _, .nil, trivial⟩
  | [], _ :: _, _, _, _, h, _ => h.elim
  | _ :: _, [], _, _, _, h, _ => h.elim
  | k :: ts, c :: cs, i, H, hS, h, hw => by
    have hw' : WideOk w cs := fun x hx => hw x (by simp [hx])
    have one : ∀ {i1 : Inj} {t1 : LHeap} {lc : Value}, Start w i1 (H ++ t1) → i.le i1 → VR i1 lc c → LogIs (H ++ t1) k lc →
        ∃ i' t lcs, Start w i' (H ++ t) ∧ i.le i' ∧ VRs i' lcs (c :: cs) ∧ Row2 (LogIs (H ++ t)) (k :: ts) lcs := by
      intro i1 t1 lc g1 g2 g3 g4
      obtain ⟨i2, t2, lcs, k1, k2, k3, k4⟩ := Start.arg g1 h.2 hw'
      refine ⟨i2, t1 ++ t2, lc :: lcs, by rw [← List.append_assoc]; exact k1, Inj.le_trans g2 k2, .cons (g3.mono k2) k3, ?_, ?_⟩
      · rw [← List.append_assoc]; exact g4.app t2
      · rw [← List.append_assoc]; exact k4
    have h1 := h.1
    cases k with
    | one q =>
      exact one (t1 := []) (by simpa using hS) (Inj.le_refl _) (VR.of_scalar _ (cellIs_scalar h1)) h1
    | str =>
      obtain ⟨s, rfl, hs⟩ := h1
      exact one (t1 := []) (lc := .string s) (by simpa using hS) (Inj.le_refl _) (.string s) ⟨s, rfl, hs⟩
    | slice ks =>
      obtain ⟨hk, rfl | ⟨a, len, cap, rfl, hl, hm, hel⟩⟩ := h1
      · exact one (t1 := []) (lc := .slice none 0 0) (by simpa using hS) (Inj.le_refl _) .snil ⟨none, [], rfl, by simp, Sl.nil _ _, by simp⟩
      · obtain ⟨hsp, cs0, el, fz, hb⟩ := hw _ (List.mem_cons_self) a len cap rfl
        have : ∃ rows : List (List Value), rows.length = len ∧ (∀ r ∈ rows, Row2 CellIs ks r) ∧ ∀ j v, rows.flatten[j]? = some v → cs0[a.off + j]? = some v := by
          have : ∀ n, n ≤ len → ∃ rows : List (List Value), rows.length = n ∧ (∀ r ∈ rows, Row2 CellIs ks r) ∧ rows.flatten.length = n * ks.length ∧ ∀ j v, rows.flatten[j]? = some v → cs0[a.off + j]? = some v := by
            intro n
            induction n with
            | zero => intro _; exact ⟨[], rfl, by simp, by simp, by simp⟩
            | succ n ih =>
              intro hn
              obtain ⟨rows, r1, r2, r3, r4⟩ := ih (by omega)
              obtain ⟨row, s1, s2⟩ := hel n (by omega)
              have sl := s1.length
              refine ⟨rows ++ [row], by simp [r1], ?_, ?_, ?_⟩
              · intro r hr
                rcases List.mem_append.1 hr with hr | hr
                · exact r2 r hr
                · rw [List.mem_singleton.1 hr]; exact s1
              · rw [List.flatten_append, List.length_append, r3, Nat.add_mul, Nat.one_mul]; simp [sl]
              · intro j v hj
                rw [List.flatten_append] at hj
                by_cases hjl : j < rows.flatten.length
                · rw [List.getElem?_append_left hjl] at hj; exact r4 j v hj
                · rw [List.getElem?_append_right (by omega)] at hj
                  simp only [List.flatten_cons, List.flatten_nil, List.append_nil] at hj
                  have hj2 : j - rows.flatten.length < ks.length := by
                    have := (List.getElem?_eq_some_iff.1 hj).1; omega
                  have := s2 _ hj2
                  rw [cell_at hsp hb, hj, ← r3] at this
                  rw [← this]; congr 1; omega
          obtain ⟨rows, r1, r2, _, r4⟩ := this len (Nat.le_refl _)
          exact ⟨rows, r1, r2, r4⟩
        obtain ⟨rows, r1, r2, r4⟩ := this
        have hfl : rows.flatten.length = len * ks.length := by
          have : ∀ rows : List (List Value), (∀ r ∈ rows, Row2 CellIs ks r) → rows.flatten.length = rows.length * ks.length := by
            intro rows
            induction rows with
            | nil => intro _; simp
            | cons r rs ih =>
              intro h
              rw [List.flatten_cons, List.length_append, ih (fun x hx => h x (by simp [hx])), (h r (by simp)).length, List.length_cons, Nat.add_mul, Nat.one_mul, Nat.add_comm]
          rw [this rows r2, r1]
        have hsc : rows.flatten.all scalar = true := by
          rw [List.all_flatten, List.all_eq_true]
          intro r hr
          exact row_scalar (r2 r hr)
        obtain ⟨p, g1, g2⟩ := hS.slice (x := a) (n := len) (m := ks.length) (cap := cap) (c := rows.flatten) hk hsp hb hl hfl r4 hsc
        exact one g1 (hS.le p) g2 ⟨_, rows, by rw [r1], r2, Sl.row (get_app0 H _), by rw [r1]; exact Nat.le_trans hl hm⟩
/-- An argument's shape: is it an aggregate, and its cells. -/
def argSpec (P : Program) (t : TypeId) : Option (Bool × List AT) :=
  match aggTy P t, tyCells P 20 t with
  | some g, some a => some (g, a)
  | _, _ => none
def ArgLog (H : LHeap) (s : Bool × List AT) (lv : Value) : Prop := ∃ lcs, Row2 (LogIs H) s.2 lcs ∧ ((s.1 = true ∧ lv = .agg lcs.toArray) ∨ (s.1 = false ∧ lcs = [lv]))
theorem ArgLog.app {H : LHeap} {s : Bool × List AT} {lv : Value} (h : ArgLog H s lv) (l : LHeap) : ArgLog (H ++ l) s lv := by
  obtain ⟨lcs, h1, h2⟩ := h
  exact ⟨lcs, h1.imp fun a v hv => hv.app l, h2⟩
theorem Start.args {HH : Type} {enc : TypeId × Value → HH} {P : Program} {w : World} {base : Nat} {spare : Nat → Bool} {held : Bool} {r : Reach} {b0 : Nat} :
    ∀ {ts : List TypeId} {vs : List Value} {ds : List (DataW HH)} {ps : List MemPlace} {sp : List (Bool × List AT)} {i : Inj} {H : LHeap}, ts.map (argSpec P) = sp.map some →
      DataW.TrodAll enc P w base spare held ts vs ds ps → (∀ (j : Nat) t v, ts[j]? = some t → vs[j]? = some v → Value.okWide P w r b0 t v) → Start w i H →
      ∃ i' t lvs, Start w i' (H ++ t) ∧ i.le i' ∧ VRs i' lvs vs ∧ Row2 (ArgLog (H ++ t)) sp lvs
  | [], [], [], _, [], i, H, _, _, _, hS => ⟨i, [], [], by simpa using hS, Inj.le_refl _, .nil, trivial⟩
  | [], _, _, _, _ :: _, _, _, h, _, _, _ => by simp at h
  | _ :: _, _, _, _, [], _, _, h, _, _, _ => by simp at h
  | [], _ :: _, _, _, _, _, _, _, h, _, _ => by simp [DataW.TrodAll] at h
  | [], [], _ :: _, _, _, _, _, _, h, _, _ => by simp [DataW.TrodAll] at h
  | _ :: _, [], _, _, _, _, _, _, h, _, _ => by simp [DataW.TrodAll] at h
  | _ :: _, _ :: _, [], _, _, _, _, _, h, _, _ => by simp [DataW.TrodAll] at h
  | t :: ts, v :: vs, d :: ds, ps, s :: sp, i, H, hsp, h, hok, hS => by
    obtain ⟨p, q, h1, h2, rfl⟩ := h
    simp only [List.map_cons, List.cons.injEq] at hsp
    have ok0 := hok 0 t v rfl rfl
    have hok' : ∀ (j : Nat) t' v', ts[j]? = some t' → vs[j]? = some v' → Value.okWide P w r b0 t' v' := fun j t' v' a b => hok (j + 1) t' v' (by simpa using a) (by simpa using b)
    obtain ⟨fuel, hf⟩ := h1
    have hs := hsp.1
    unfold argSpec at hs
    split at hs
    · rename_i g a hg ha
      cases hs
      have hrow := trod_cells 20 fuel t a _ _ ha hf
      obtain ⟨i1, t1, lcs, k1, k2, k3, k4⟩ := hS.arg hrow (wideOk ok0)
      have fin : ∀ lv, VR i1 lv v → ((g = true ∧ lv = .agg lcs.toArray) ∨ (g = false ∧ lcs = [lv])) →
          ∃ i' t' lvs, Start w i' (H ++ t') ∧ i.le i' ∧ VRs i' lvs (v :: vs) ∧ Row2 (ArgLog (H ++ t')) ((g, a) :: sp) lvs := by
        intro lv m1 m2
        obtain ⟨i2, t2, lvs, n1, n2, n3, n4⟩ := Start.args hsp.2 h2 hok' k1
        refine ⟨i2, t1 ++ t2, lv :: lvs, by rw [← List.append_assoc]; exact n1, Inj.le_trans k2 n2, .cons (m1.mono n2) n3, ?_, ?_⟩
        · rw [← List.append_assoc]
          exact ArgLog.app ⟨lcs, k4, m2⟩ t2
        · rw [← List.append_assoc]; exact n4
      unfold aggTy at hg
      split at hg
      · rename_i fs hu
        cases hg
        obtain ⟨cs, rfl, _⟩ := okWide_struct hu ok0
        exact fin _ (.agg _ _ (by simpa [Value.cells] using k3)) (.inl ⟨rfl, rfl⟩)
      · rename_i n e hu
        cases hg
        simp only [Value.okWide, hu] at ok0
        obtain ⟨cs, rfl, _⟩ := ok0
        exact fin _ (.agg _ _ (by simpa [Value.cells] using k3)) (.inl ⟨rfl, rfl⟩)
      · rename_i x hx1 hx2 hu
        cases hg
        have hc : v.cells = #[v] := by
          cases v with
          | agg cs =>
            exfalso
            simp only [Value.okWide, hu] at ok0
            cases x <;> simp_all [Cell.okWide, Cell.ok]
          | _ => rfl
        rw [hc] at k3
        cases k3 with
        | cons m1 m2 =>
          cases m2
          exact fin _ m1 (.inr ⟨rfl, rfl⟩)
      · cases hg
    · cases hs
/-- The walk, for arguments of whatever shapes. -/
theorem law_args {HH : Type} {enc : TypeId × Value → HH} {P : Program} {T : FuncId → Option LFun} (hT : TableOk P T) {k : FuncId} {w : World} {base : Nat} {spare : Nat → Bool} {held : Bool} {r : Reach} {b0 : Nat}
    {ts : List TypeId} {vs : Array Value} {ds : List (DataW HH)} {ps : List MemPlace} {sp : List (Bool × List AT)} (hsp : ts.map (argSpec P) = sp.map some)
    (h : DataW.TrodAll enc P w base spare held ts vs.toList ds ps) (hok : ∀ (j : Nat) t v, ts[j]? = some t → vs[j]? = some v → Value.okWide P w r b0 t v)
    (hc : ∀ lvs H, Row2 (ArgLog H) sp lvs → callE T k 0 lvs H fun v _ => v = .bool true) :
    Calls P k vs w fun e w' => e = .returned (.bool true) ∧ Below w.heap.size w w' := by
  obtain ⟨i', t, lvs, g1, _, g3, g4⟩ := (Start.nil w).args hsp h (fun j t v a b => hok j t v a (by simpa using b))
  exact law_of hT g1 g3 (hc _ _ g4)
/-! ### arguments taken apart -/
section
variable {α : Type} {R : α → Value → Prop} {k : α} {ks : List α} {lvs : List Value} {H : LHeap} {v : Value}
theorem row_cons (h : Row2 R (k :: ks) lvs) : ∃ v vs, lvs = v :: vs ∧ R k v ∧ Row2 R ks vs := by
  cases lvs with
  | nil => exact h.elim
  | cons v vs => exact ⟨v, vs, rfl, h.1, h.2⟩
theorem row_nil (h : Row2 R [] lvs) : lvs = [] := by
  cases lvs with
  | nil => rfl
  | cons v vs => exact h.elim
theorem arg_agg {s : List AT} (h : ArgLog H (true, s) v) : ∃ lcs : List Value, v = .agg lcs.toArray ∧ Row2 (LogIs H) s lcs := by
  obtain ⟨lcs, h1, ⟨_, h2⟩ | ⟨h2, _⟩⟩ := h
  · exact ⟨lcs, h2, h1⟩
  · cases h2
theorem arg_one {s : AT} (h : ArgLog H (false, [s]) v) : LogIs H s v := by
  obtain ⟨lcs, h1, ⟨h2, _⟩ | ⟨_, rfl⟩⟩ := h
  · cases h2
  · exact h1.1
theorem is_i64 (h : CellIs (.int .i64) v) : ∃ n, v = .int .i64 n ∧ -9223372036854775808 ≤ n ∧ n ≤ 9223372036854775807 := by
  obtain ⟨n, rfl, h⟩ := h
  simp only [Lit.wf, IntKind.min, IntKind.max, IntKind.signed, IntKind.bits, Bool.and_eq_true, decide_eq_true_eq, if_true] at h
  exact ⟨n, rfl, by omega, by omega⟩
theorem is_u64 (h : CellIs (.int .u64) v) : ∃ x, v = w64 x := by
  obtain ⟨n, rfl, h⟩ := h
  obtain ⟨x, hx⟩ := w64_of h
  exact ⟨x, hx⟩
theorem is_bool (h : CellIs .bool v) : ∃ b, v = .bool b := h
theorem log_i64 (h : LogIs H (.one (.int .i64)) v) : ∃ n, v = .int .i64 n ∧ -9223372036854775808 ≤ n ∧ n ≤ 9223372036854775807 := is_i64 h
theorem log_u64 (h : LogIs H (.one (.int .u64)) v) : ∃ x, v = w64 x := is_u64 h
theorem log_bool (h : LogIs H (.one .bool) v) : ∃ b, v = .bool b := h
theorem log_str (h : LogIs H .str v) : ∃ s, v = .string s ∧ s.size ≤ maxLen := h
theorem rows_of {β : Type} {f : β → List Value} {P : β → Prop} {kk : List CK} (hf : ∀ r, Row2 CellIs kk r → ∃ x, r = f x ∧ P x) : ∀ {rows : List (List Value)}, (∀ r ∈ rows, Row2 CellIs kk r) → ∃ l : List β, rows = l.map f ∧ ∀ x ∈ l, P x
  | [], _ => ⟨[], rfl, by simp⟩
  | r :: rows, h => by
    obtain ⟨x, rfl, hx⟩ := hf r (h r (by simp))
    obtain ⟨l, rfl, hl⟩ := rows_of hf (rows := rows) fun r hr => h r (by simp [hr])
    exact ⟨x :: l, rfl, by simpa using ⟨hx, hl⟩⟩
theorem log_rows {β : Type} (f : β → List Value) (P : β → Prop) {kk : List CK} (hf : ∀ r, Row2 CellIs kk r → ∃ x, r = f x ∧ P x) (h : LogIs H (.slice kk) v) :
    ∃ (a : Option Addr) (l : List β), v = .slice a l.length l.length ∧ Sl kk.length H a (l.flatMap f) ∧ ∀ x ∈ l, P x := by
  obtain ⟨a, rows, rfl, h1, h2, _⟩ := h
  obtain ⟨l, rfl, hl⟩ := rows_of hf h1
  exact ⟨a, l, by simp, by simpa [List.flatMap] using h2, hl⟩
/-- The same, with how many there may be. -/
theorem log_rowsL {β : Type} (f : β → List Value) (P : β → Prop) {kk : List CK} (hf : ∀ r, Row2 CellIs kk r → ∃ x, r = f x ∧ P x) (h : LogIs H (.slice kk) v) :
    ∃ (a : Option Addr) (l : List β), v = .slice a l.length l.length ∧ Sl kk.length H a (l.flatMap f) ∧ (∀ x ∈ l, P x) ∧ l.length ≤ 9223372036854775807 := by
  obtain ⟨a, rows, rfl, h1, h2, h4⟩ := h
  obtain ⟨l, rfl, hl⟩ := rows_of hf h1
  exact ⟨a, l, by simp, by simpa [List.flatMap] using h2, hl, by rw [List.length_map] at h4; exact h4⟩
theorem flatMap_one {β γ : Type} (f : β → γ) : ∀ l : List β, l.flatMap (fun x => [f x]) = l.map f
  | [] => rfl
  | x :: l => by rw [List.flatMap_cons, flatMap_one f l]; rfl
theorem log_words (h : LogIs H (.slice [.int .u64]) v) : ∃ (a : Option Addr) (l : List (BitVec 64)), v = .slice a l.length l.length ∧ Sl 1 H a (l.map w64) := by
  obtain ⟨a, l, h1, h2, _⟩ := log_rows (fun x : BitVec 64 => [w64 x]) (fun _ => True) (fun r hr => by
    obtain ⟨v, vs, rfl, h1, h2⟩ := row_cons hr
    obtain rfl := row_nil h2
    obtain ⟨x, rfl⟩ := is_u64 h1
    exact ⟨x, rfl, trivial⟩) h
  exact ⟨a, l, h1, by rw [flatMap_one] at h2; exact h2⟩
theorem log_ints (h : LogIs H (.slice [.int .i64]) v) : ∃ (a : Option Addr) (l : List Int), v = .slice a l.length l.length ∧ Sl 1 H a (l.map (Value.int .i64)) ∧ ∀ n ∈ l, -9223372036854775808 ≤ n ∧ n ≤ 9223372036854775807 := by
  obtain ⟨a, l, h1, h2, h3⟩ := log_rows (fun x : Int => [Value.int .i64 x]) (fun n => -9223372036854775808 ≤ n ∧ n ≤ 9223372036854775807) (fun r hr => by
    obtain ⟨v, vs, rfl, h1, h2⟩ := row_cons hr
    obtain rfl := row_nil h2
    obtain ⟨x, rfl, hx⟩ := is_i64 h1
    exact ⟨x, rfl, hx⟩) h
  exact ⟨a, l, h1, by rw [flatMap_one] at h2; exact h2, h3⟩
end
end Go.LK
