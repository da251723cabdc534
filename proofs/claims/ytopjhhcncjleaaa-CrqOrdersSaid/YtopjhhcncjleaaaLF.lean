/- Each operation that touches no memory: the whole, by the model's operation. -/
import Derived.Test.YtopjhhcncjleaaaLE
namespace Go.LK
open Go Go.RowKit
set_option linter.unusedVariables false
set_option linter.unusedSimpArgs false

section
variable {P : Program} {i : Inj} {w : World}

theorem partsS_parts {fs : Array Field} {pl : Nat → Option (Nat × Nat)} {r r' : Operand → Value} (hpl : ∀ (k : Nat) (f : Field) (n : Nat), fs[k]? = some f → sizeT P f.type = some n → pl k = some (f.offset, n)) :
    ∀ {ps : List (Nat × Operand)} {q : List (Nat × Nat × Operand)}, (∀ x ∈ ps, VR i (r x.2) (r' x.2)) → partsS P fs ps = some q →
    Parts i (q.map fun p => (p.1, p.2.1, r p.2.2)) (ps.map fun p => (p.1, r' p.2)) pl
  | [], q, _, h => by cases h; exact .nil pl
  | p :: ps, q, hr, h => by
    unfold partsS at h
    split at h
    · rename_i f hf
      split at h
      · rename_i n hn
        obtain ⟨q', h1, rfl⟩ := Option.map_eq_some_iff.1 h
        exact .cons (hpl _ _ _ hf hn) (hr p (by simp)) (partsS_parts hpl (fun x hx => hr x (by simp [hx])) h1)
      · cases h
    · cases h
theorem partsA_parts {size : Nat} {r r' : Operand → Value} : ∀ {ps : List (Nat × Operand)}, (∀ x ∈ ps, VR i (r x.2) (r' x.2)) →
    Parts i ((partsA size ps).map fun p => (p.1, p.2.1, r p.2.2)) (ps.map fun p => (p.1, r' p.2)) (fun i => some (i * size, size))
  | [], _ => .nil _
  | p :: ps, hr => .cons rfl (hr p (by simp)) (partsA_parts fun x hx => hr x (by simp [hx]))

theorem run_zero {t : TypeId} {z : List Value} (h : zeroT P t = some z) (w : World) : ∃ v, (zeroValue t).run P w = .ok v w ∧ v.cells.toList = z ∧ z.all scalar = true ∧ noTuple v = true := by
  unfold zeroT at h
  split at h
  · rename_i v hv
    split at h
    · rename_i hs
      cases h
      simp only [Bool.and_eq_true] at hs
      refine ⟨v, ?_, rfl, hs.1, hs.2⟩
      cases hi : P.info? t with
      | none => simp [hi] at hv
      | some q =>
        simp [hi] at hv
        simp [zeroValue, typeInfo, hi, hv]
    · cases h
  · cases h

theorem sim_pick {r r' : Operand → Value} {c a b : Operand} (hc : VR i (r c) (r' c)) (ha : VR i (r a) (r' a)) (hb : VR i (r b) (r' b)) {v : Value} (hl : lpure r (.pick c a b) = some v) :
    ∃ v', (do pure (Go.Next.value (if ← asBool (r' c) then r' a else r' b)) : Sem Go.Next).run P w = .ok (.value v') w ∧ VR i v v' := by
  simp only [lpure] at hl
  cases hq : r c with
  | bool t =>
    rw [hq] at hl hc
    simp only at hl
    cases hl
    rw [bool_inv hc]
    cases t
    · exact ⟨r' b, by simp [asBool], by simpa using hb⟩
    · exact ⟨r' a, by simp [asBool], by simpa using ha⟩
  | _ => rw [hq] at hl; simp at hl

theorem run_places {fs : Array Field} (hall : ∀ f : Field, f ∈ fs.toList → ∃ n, sizeT P f.type = some n) (w : World) :
    ∃ pl : Array (Nat × Nat), (fs.mapM (fun (f : Field) => do pure (f.offset, ← sizeOf f.type)) : Sem (Array (Nat × Nat))).run P w = .ok pl w ∧ ∀ (k : Nat) (f : Field) (n : Nat), fs[k]? = some f → sizeT P f.type = some n → pl[k]? = some (f.offset, n) := by
  obtain ⟨l⟩ := fs
  simp only at hall
  rw [List.mapM_toArray]
  have : ∀ (l : List Field), (∀ f : Field, f ∈ l → ∃ n, sizeT P f.type = some n) → ∃ pl : List (Nat × Nat), (l.mapM (fun (f : Field) => do pure (f.offset, ← sizeOf f.type)) : Sem (List (Nat × Nat))).run P w = .ok pl w ∧
      ∀ (k : Nat) (f : Field) (n : Nat), l[k]? = some f → sizeT P f.type = some n → pl[k]? = some (f.offset, n) := by
    intro l
    induction l with
    | nil => intro _; exact ⟨[], by simp, by simp⟩
    | cons g l ih =>
      intro h
      obtain ⟨n, hn⟩ := h g (by simp)
      obtain ⟨pl, h1, h2⟩ := ih fun f hf => h f (by simp [hf])
      refine ⟨(g.offset, n) :: pl, ?_, ?_⟩
      · rw [List.mapM_cons]
        simp only [Sem.run_bind, run_sizeOf hn w, Result.andThen_ok, Sem.run_pure, h1]
      · intro k f n' hk hs
        cases k with
        | zero => simp at hk; subst hk; rw [hn] at hs; cases hs; simp
        | succ k => simp only [List.getElem?_cons_succ] at hk ⊢; exact h2 k f n' hk hs
  obtain ⟨pl, h1, h2⟩ := this l hall
  exact ⟨pl.toArray, by rw [Sem.run_map, h1]; rfl, by simpa using h2⟩
theorem ptrAny_inv {a : Addr} {v' : Value} (h : VR i (.pointer (some a)) v') : ∃ a', v' = .pointer (some a') := by
  cases h with
  | ptr _ _ p h => exact ⟨_, rfl⟩
theorem run_eqGuard {bop : BinOp} {t : TypeId} {x y : Operand} {a b : Value} (h : (∃ k n, a = .int k n) ∨ (∃ q, a = .bool q) ∨ (∃ s, a = .string s) ∨ (∃ p, a = .pointer p) ∨ (∃ p l c, a = .slice p l c) ∨ (∃ p, a = .map p) ∨
    ((∃ p q, a = .agg p ∧ b = .agg q) ∧ P.eqGuardType P.depth t = false)) : (eqGuard bop t x y a b).run P w = .ok () w := by
  unfold eqGuard
  rcases h with ⟨_, _, rfl⟩ | ⟨_, rfl⟩ | ⟨_, rfl⟩ | ⟨_, rfl⟩ | ⟨_, _, _, rfl⟩ | ⟨_, rfl⟩ | ⟨⟨p, q, rfl, rfl⟩, hg⟩
  case inr.inr.inr.inr.inr.inr =>
    cases bop <;> simp [hg]
  all_goals
    cases bop <;> rfl
theorem run_bin_v {bop : BinOp} {t : TypeId} {x y : Operand} {a b v : Value} (h1 : (eqGuard bop t x y a b).run P w = .ok () w) (h2 : (binOp bop t a b).run P w = .ok v w) :
    (do pure (Go.Next.value (← (do eqGuard bop t x y a b; binOp bop t a b))) : Sem Go.Next).run P w = .ok (.value v) w := by
  simp [h1, h2]
theorem sim_eqNil {bop : BinOp} {k : NilK} {neg : Bool} (hb : bop = if neg then .neq else .eql) {t : TypeId} {d : TypeDesc} (hu : P.underlying t = some d) (hd : nilTy k d = true) {x y : Operand} {r r' : Operand → Value}
    (hx : VR i (r x) (r' x)) (hy : VR i (r y) (r' y)) {v : Value} (hl : lpure r (.eqNil k neg x y) = some v) :
    ∃ v', (do pure (Go.Next.value (← (do eqGuard bop t x y (r' x) (r' y); binOp bop t (r' x) (r' y)))) : Sem Go.Next).run P w = .ok (.value v') w ∧ VR i v v' := by
  simp only [lpure] at hl
  split at hl
  · rename_i a b ha hb'
    split at hl
    · rename_i hab
      cases hl
      have ha' := isNil_inv hx ha
      have hb'' := isNil_inv hy hb'
      have he := run_equalNil (w := w) hu hd ha' hb'' hab 9999
      have hsh : (∃ p, r' x = .pointer p) ∨ (∃ p l c, r' x = .slice p l c) ∨ (∃ p, r' x = .map p) := by
        cases k
        · rcases isNil_p ha' with ⟨h, _⟩ | ⟨p, h, _⟩ <;> exact .inl ⟨_, h⟩
        · rcases isNil_s ha' with ⟨h, _⟩ | ⟨p, l, c, h, _⟩ <;> exact .inr (.inl ⟨_, _, _, h⟩)
        · rcases isNil_m ha' with ⟨h, _⟩ | ⟨p, h, _⟩ <;> exact .inr (.inr ⟨_, h⟩)
      refine ⟨_, run_bin_v (run_eqGuard ?_) ?_, .bool _⟩
      · rcases hsh with h | h | h
        · exact .inr (.inr (.inr (.inl h)))
        · exact .inr (.inr (.inr (.inr (.inl h))))
        · exact .inr (.inr (.inr (.inr (.inr (.inl h)))))
      · rw [hb]
        exact eql_of_equal he neg (fun _ _ e => by rcases hsh with ⟨_, h⟩ | ⟨_, _, _, h⟩ | ⟨_, h⟩ <;> rw [h] at e <;> cases e) (fun _ _ e => by rcases hsh with ⟨_, h⟩ | ⟨_, _, _, h⟩ | ⟨_, h⟩ <;> rw [h] at e <;> cases e)
          (fun _ _ _ e => by rcases hsh with ⟨_, h⟩ | ⟨_, _, _, h⟩ | ⟨_, h⟩ <;> rw [h] at e <;> cases e) (fun _ e => by rcases hsh with ⟨_, h⟩ | ⟨_, _, _, h⟩ | ⟨_, h⟩ <;> rw [h] at e <;> cases e)
    · cases hl
  · cases hl
theorem sim_eqAgg {bop : BinOp} {ts : List Bool} {neg : Bool} (hb : bop = if neg then .neq else .eql) {t : TypeId} (hg : P.eqGuardType P.depth t = false)
    (he : ∀ {xs ys : Array Value} {q : Bool}, leqCells ts xs.toList ys.toList = some q → (Op.equal t (.agg xs) (.agg ys)).run P w = .ok q w) {x y : Operand} {r r' : Operand → Value}
    (hx : VR i (r x) (r' x)) (hy : VR i (r y) (r' y)) {v : Value} (hl : lpure r (.eqAgg ts neg x y) = some v) :
    ∃ v', (do pure (Go.Next.value (← (do eqGuard bop t x y (r' x) (r' y); binOp bop t (r' x) (r' y)))) : Sem Go.Next).run P w = .ok (.value v') w ∧ VR i v v' := by
  simp only [lpure] at hl
  split at hl
  · rename_i a b ha hb'
    obtain ⟨q, hq, rfl⟩ := Option.map_eq_some_iff.1 hl
    rw [ha] at hx
    rw [hb'] at hy
    obtain ⟨a', ea, hra⟩ := agg_inv hx
    obtain ⟨b', eb, hrb⟩ := agg_inv hy
    obtain ⟨sa, sb⟩ := leqCells_scal hq
    have e1 : a' = a := by have := hra.scal_eq sa; exact Array.toList_inj.1 this
    have e2 : b' = b := by have := hrb.scal_eq sb; exact Array.toList_inj.1 this
    subst e1 e2
    refine ⟨_, run_bin_v (run_eqGuard (.inr (.inr (.inr (.inr (.inr (.inr ⟨⟨_, _, ea, eb⟩, hg⟩))))))) ?_, .bool _⟩
    rw [hb, ea, eb]
    exact eql_of_equal (he hq) neg (fun _ _ e => by cases e) (fun _ _ e => by cases e) (fun _ _ _ e => by cases e) (fun _ e => by cases e)
  · cases hl
theorem sim_binOp {bop : BinOp} {t : TypeId} {x y : Operand} {q : PureOp} (hq : compBin P bop t x y = some q) {r r' : Operand → Value} (hx : VR i (r x) (r' x)) (hy : VR i (r y) (r' y)) {v : Value} (hl : lpure r q = some v) :
    ∃ v', (do pure (Go.Next.value (← (do eqGuard bop t x y (r' x) (r' y); binOp bop t (r' x) (r' y)))) : Sem Go.Next).run P w = .ok (.value v') w ∧ VR i v v' := by
  unfold compBin at hq
  split at hq
  · cases hq
    simp only [lpure] at hl
    have hint : ∃ k n, r' x = .int k n := by
      cases hrx : r x with
      | int k n => rw [hrx] at hx; exact ⟨k, n, int_inv hx⟩
      | _ => rw [hrx] at hl; simp [lbin] at hl
    obtain ⟨h1, h2⟩ := sim_bin (P := P) (w := w) hx hy hl t
    exact ⟨v, run_bin_v (run_eqGuard (.inl hint)) h1, h2⟩
  · rename_i hu
    have main : ∀ neg, bop = (if neg then .neq else .eql) → q = .eqB neg x y → ∃ v', (do pure (Go.Next.value (← (do eqGuard bop t x y (r' x) (r' y); binOp bop t (r' x) (r' y)))) : Sem Go.Next).run P w = .ok (.value v') w ∧ VR i v v' := by
      intro neg hb hq'
      subst hq'
      simp only [lpure] at hl
      split at hl
      · rename_i a b ha hb'
        cases hl
        rw [ha] at hx
        rw [hb'] at hy
        refine ⟨_, run_bin_v (run_eqGuard (.inr (.inl ⟨a, bool_inv hx⟩))) ?_, .bool _⟩
        rw [hb, bool_inv hx, bool_inv hy]
        have he : (Op.equal t (.bool a) (.bool b)).run P w = .ok (a == b) w := run_equalIn_bool' w 9999 t a b hu
        exact eql_of_equal he neg (fun _ _ e => by cases e) (fun _ _ e => by cases e) (fun _ _ _ e => by cases e) (fun _ e => by cases e)
      · cases hl
    split at hq
    · cases hq; exact main false rfl rfl
    · cases hq; exact main true rfl rfl
    · cases hq
  · have main : q = .strOp bop x y → ∃ v', (do pure (Go.Next.value (← (do eqGuard bop t x y (r' x) (r' y); binOp bop t (r' x) (r' y)))) : Sem Go.Next).run P w = .ok (.value v') w ∧ VR i v v' := by
      intro hq'
      subst hq'
      simp only [lpure] at hl
      have hint : ∃ s, r' x = .string s := by
        cases hrx : r x with
        | string s => rw [hrx] at hx; exact ⟨s, string_inv hx⟩
        | _ => rw [hrx] at hl; simp [lstr] at hl
      obtain ⟨h1, h2⟩ := sim_str (P := P) (w := w) hx hy hl t
      exact ⟨v, run_bin_v (run_eqGuard (.inr (.inr (.inl hint)))) h1, h2⟩
    split at hq <;> first | (cases hq; exact main rfl) | cases hq
  · rename_i e hu
    split at hq
    · cases hq; exact sim_eqNil (neg := false) rfl hu rfl hx hy hl
    · cases hq; exact sim_eqNil (neg := true) rfl hu rfl hx hy hl
    · cases hq
  · rename_i e hu
    split at hq
    · cases hq; exact sim_eqNil (neg := false) rfl hu rfl hx hy hl
    · cases hq; exact sim_eqNil (neg := true) rfl hu rfl hx hy hl
    · cases hq
  · rename_i e hu
    split at hq
    · cases hq; exact sim_eqNil (neg := false) rfl hu rfl hx hy hl
    · cases hq; exact sim_eqNil (neg := true) rfl hu rfl hx hy hl
    · cases hq
  · rename_i fs hu
    split at hq
    · rename_i hk
      split at hq
      · rename_i ts hts
        split at hq
        · cases hq; exact sim_eqAgg (neg := false) rfl hk.2 (fun h => run_equal_flat hu hk.1 hts h) hx hy hl
        · cases hq; exact sim_eqAgg (neg := true) rfl hk.2 (fun h => run_equal_flat hu hk.1 hts h) hx hy hl
        · cases hq
      · cases hq
    · cases hq
  · rename_i n e hu
    split at hq
    · rename_i hk
      obtain ⟨hg, hi, hs, hn⟩ := hk
      subst hn
      have : ∃ kk, P.underlying e = some (.int kk) := by
        unfold isIntTy at hi
        split at hi
        · rename_i kk h; exact ⟨kk, h⟩
        · cases hi
      obtain ⟨kk, hue⟩ := this
      split at hq
      · cases hq; exact sim_eqAgg (neg := false) rfl hg (fun h => run_equal_arr2 hu hue hs h) hx hy hl
      · cases hq; exact sim_eqAgg (neg := true) rfl hg (fun h => run_equal_arr2 hu hue hs h) hx hy hl
      · cases hq
    · cases hq
  · cases hq
theorem run_builtin {b : Builtin} {args : Array Operand} {ts : Array TypeId} {r' : Operand → Value} {x : Value} {w w' : World} (dst : Option Tmp) (ty : TypeId) (pos : String) (after : Array Edge) (guard : Option (Nat × Bool))
    (h : (builtin b ts ty (args.map fun | .const _ => true | _ => false) (args.map r')).run P w = .ok (.value x) w') :
    (execOp r' ⟨dst, .call { callee := .builtin b, args, argTypes := ts }, ty, pos, after, guard⟩).run P w = .ok (.value x) w' := by
  simp only [execOp, resolve, Sem.run_bind, Sem.run_pure, Result.andThen_ok, invoke]
  exact h
theorem sim_mm (isMax : Bool) {xs : List Operand} {ts : Array TypeId} {r r' : Operand → Value} (hv : ∀ x, x ∈ xs → VR i (r x) (r' x)) {v : Value} (hl : lpure r (.minmax isMax xs) = some v)
    (dst : Option Tmp) (ty : TypeId) (pos : String) (after : Array Edge) (guard : Option (Nat × Bool)) :
    ∃ v', (execOp r' ⟨dst, .call { callee := .builtin (if isMax then .max else .min), args := ⟨xs⟩, argTypes := ts }, ty, pos, after, guard⟩).run P w = .ok (.value v') w ∧ VR i v v' := by
  simp only [lpure] at hl
  have hall : VRs i (xs.map r) (xs.map r') := by
    have : ∀ l : List Operand, (∀ x ∈ l, VR i (r x) (r' x)) → VRs i (l.map r) (l.map r') := by
      intro l
      induction l with
      | nil => intro _; exact .nil
      | cons a l ih => intro h; exact .cons (h a (by simp)) (ih fun x hx => h x (by simp [hx]))
    exact this _ hv
  split at hl
  · rename_i v0 vs hvs
    split at hl
    · rename_i k n
      rw [hvs] at hall
      generalize hq : xs.map r' = ys at hall
      cases hall with
      | cons h0 t =>
        obtain ⟨h1, k', m, rfl⟩ := sim_minmax (P := P) (w := w) t hl
        refine ⟨.int k' m, run_builtin dst ty pos after guard ?_, .int _ _⟩
        cases isMax
        · simp only [builtin, Bool.false_eq_true, if_false, List.map_toArray, hq]
          refine run_val ?_
          simp only [Builtin.min_, int_inv h0]
          simpa using h1
        · simp only [builtin, if_true, List.map_toArray, hq]
          refine run_val ?_
          simp only [Builtin.max_, int_inv h0]
          simpa using h1
    · cases hl
  · cases hl
theorem sim_builtin {b : Builtin} {args : Array Operand} {ts : Array TypeId} {p : PureOp} (hc : compCall P b args.toList ts.toList = some (.pure p)) {r r' : Operand → Value} (hv : ∀ x, x ∈ args.toList → VR i (r x) (r' x)) {v : Value} (hl : lpure r p = some v)
    (dst : Option Tmp) (ty : TypeId) (pos : String) (after : Array Edge) (guard : Option (Nat × Bool)) :
    ∃ v', (execOp r' ⟨dst, .call { callee := .builtin b, args, argTypes := ts }, ty, pos, after, guard⟩).run P w = .ok (.value v') w ∧ VR i v v' := by
  obtain ⟨args⟩ := args
  obtain ⟨ts⟩ := ts
  simp only at hc hv
  unfold compCall at hc
  split at hc
  · rename_i x t
    have hx := hv x (by simp)
    split at hc
    · rename_i hu
      cases hc
      simp only [lpure] at hl
      split at hl
      · cases hl
      · rename_i s hb
        cases hl
        rw [hb] at hx
        refine ⟨_, run_builtin dst ty pos after guard ?_, .int _ _⟩
        simp only [builtin, List.map_toArray, List.map_cons, List.map_nil]
        refine run_val ?_
        simp only [Builtin.len_, string_inv hx]
        simp [run_underlying hu, goInt]
      · cases hl
    · rename_i e hu
      cases hc
      simp only [lpure] at hl
      split at hl
      · rename_i a n c hb
        cases hl
        rw [hb] at hx
        refine ⟨_, run_builtin dst ty pos after guard ?_, .int _ _⟩
        simp only [builtin, List.map_toArray, List.map_cons, List.map_nil]
        refine run_val ?_
        have : ∃ a' c', r' x = .slice a' n c' := by
          generalize r' x = y at hx
          cases hx with
          | snil => exact ⟨_, _, rfl⟩
          | slice => exact ⟨_, _, rfl⟩
        obtain ⟨a', c', e1⟩ := this
        simp only [Builtin.len_, e1]
        simp [run_underlying hu, goInt]
      · cases hl
      · cases hl
    · rename_i n e hu
      cases hc
      cases hl
      refine ⟨_, run_builtin dst ty pos after guard ?_, .int _ _⟩
      simp only [builtin, List.map_toArray, List.map_cons, List.map_nil]
      refine run_val ?_
      simp only [Builtin.len_]
      simp [run_underlying hu, goInt]
    all_goals cases hc
  · split at hc
    · split at hc
      · split at hc <;> cases hc
      · cases hc
    · split at hc
      · split at hc <;> cases hc
      · cases hc
    · cases hc
  · split at hc
    · obtain ⟨n, hn, he⟩ := Option.map_eq_some_iff.1 hc
      cases he
    · cases hc
  · split at hc
    · split at hc
      · split at hc <;> cases hc
      · cases hc
    · cases hc
  · split at hc
    · split at hc <;> cases hc
    · cases hc
  case h_6 xs =>
    cases hc
    exact sim_mm true hv hl dst ty pos after guard
  case h_7 xs =>
    cases hc
    exact sim_mm false hv hl dst ty pos after guard
  · cases hc
def anyOf (o : Option Operand) : List Operand := o.toList
theorem sim_pure {op : Op} {p : PureOp} (hc : compOp P op = some (.pure p)) {r r' : Operand → Value} (hr : ∀ x, x ∈ op.operands.toList → opndOk x = true → VR i (r x) (r' x)) {v : Value} (hl : lpure r p = some v)
    (dst : Option Tmp) (ty : TypeId) (pos : String) (after : Array Edge) (guard : Option (Nat × Bool)) :
    ∃ v', (execOp r' ⟨dst, op, ty, pos, after, guard⟩).run P w = .ok (.value v') w ∧ VR i v v' := by
  unfold compOp at hc
  split at hc
  case isFalse => cases hc
  rename_i hall
  have hv : ∀ x, x ∈ op.operands.toList → VR i (r x) (r' x) := fun x hx => hr x hx (List.all_eq_true.1 hall x hx)
  clear hr hall
  unfold compOp' at hc
  split at hc
  -- move, assign
  case h_1 x => cases hc; cases hl; exact ⟨_, rfl, hv x (by simp [Op.operands])⟩
  case h_2 x => cases hc; cases hl; exact ⟨_, rfl, hv x (by simp [Op.operands])⟩
  case h_3 c a b =>
    cases hc
    exact sim_pick (hv c (by simp [Op.operands])) (hv a (by simp [Op.operands])) (hv b (by simp [Op.operands])) hl
  case h_6 t ps =>
    have hps : ∀ x ∈ ps.toList, VR i (r x.2) (r' x.2) := fun x hx => hv x.2 (by simp only [Op.operands]; exact List.mem_map.2 ⟨x, hx, rfl⟩)
    have hmap : (ps.map fun (i, x) => (i, r' x)).toList = ps.toList.map fun p => (p.1, r' p.2) := by simp
    split at hc
    · rename_i fs z hu hz
      split at hc
      · rename_i hsz
        obtain ⟨q, hq, he⟩ := Option.map_eq_some_iff.1 hc
        cases he
        obtain ⟨c, hc1, rfl⟩ := Option.map_eq_some_iff.1 hl
        obtain ⟨zv, hz1, hz2, hz3, _⟩ := run_zero hz w
        obtain ⟨pl, hp1, hp2⟩ := run_places (P := P) (fs := fs) (fun f hf => by
          have := List.all_eq_true.1 hsz f hf
          exact Option.isSome_iff_exists.1 this) w
        obtain ⟨c', hf, hcc⟩ := sim_fill (c' := zv.cells) (partsS_parts (pl := (pl[·]?)) hp2 hps hq) (by rw [hz2]; exact VRs.of_scalars i hz3) hc1
        refine ⟨.agg c', run_val ?_, .agg _ _ (by simpa using hcc)⟩
        unfold Instr.build
        simp only [Sem.run_bind, hz1, Result.andThen_ok, run_underlying hu, hp1, hmap, hf, Sem.run_pure]
      · cases hc
    · rename_i n e z hu hz
      obtain ⟨q, hq, he⟩ := Option.map_eq_some_iff.1 hc
      cases he
      obtain ⟨c, hc1, rfl⟩ := Option.map_eq_some_iff.1 hl
      obtain ⟨zv, hz1, hz2, hz3, _⟩ := run_zero hz w
      obtain ⟨c', hf, hcc⟩ := sim_fill (c' := zv.cells) (partsA_parts (size := q) hps) (by rw [hz2]; exact VRs.of_scalars i hz3) hc1
      refine ⟨.agg c', run_val ?_, .agg _ _ (by simpa using hcc)⟩
      unfold Instr.build
      simp only [Sem.run_bind, hz1, Result.andThen_ok, run_underlying hu, run_sizeOf hq w, hmap, hf, Sem.run_pure]
    · cases hc
  case h_10 x =>
    cases hc
    have hx := hv x (by simp [Op.operands])
    simp only [lpure] at hl
    split at hl
    · rename_i a ha
      cases hl
      rw [ha] at hx
      obtain ⟨a', e⟩ := ptrAny_inv hx
      rw [e] at hx
      refine ⟨_, ?_, hx⟩
      simp only [execOp, e]; rfl
    · cases hl
  case h_11 bop t x y yt =>
    have hx := hv x (by simp [Op.operands])
    have hy := hv y (by simp [Op.operands])
    obtain ⟨q, hq, he⟩ := Option.map_eq_some_iff.1 hc
    cases he
    exact sim_binOp hq hx hy hl
  case h_12 t x =>
    cases hc
    have hx := hv x (by simp [Op.operands])
    simp only [lpure] at hl
    split at hl
    · rename_i b hb; cases hl
      rw [hb] at hx
      exact ⟨_, run_val (by simp only [bool_inv hx]; rfl), .bool _⟩
    · cases hl
  case h_13 t x =>
    cases hc
    have hx := hv x (by simp [Op.operands])
    simp only [lpure] at hl
    split at hl
    · rename_i k n hb; cases hl
      rw [hb] at hx
      exact ⟨_, run_val (by simp only [int_inv hx]; rfl), .int _ _⟩
    · cases hl
  case h_14 t x =>
    cases hc
    have hx := hv x (by simp [Op.operands])
    simp only [lpure] at hl
    split at hl
    · rename_i k n hb; cases hl
      rw [hb] at hx
      exact ⟨_, run_val (by simp only [int_inv hx]; rfl), .int _ _⟩
    · cases hl
  case h_15 s d x =>
    have hx := hv x (by simp [Op.operands])
    split at hc
    · rename_i k1 k hu1 hu2
      cases hc
      simp only [lpure] at hl
      split at hl
      · rename_i k' n hb; cases hl
        rw [hb] at hx
        refine ⟨_, run_val ?_, .int _ _⟩
        simp only [int_inv hx, convert, Sem.run_bind, run_underlying hu1, run_underlying hu2, Result.andThen_ok]; rfl
      · cases hl
    · split at hc <;> cases hc
    · split at hc <;> cases hc
    · cases hc
  case h_16 t x =>
    have hx := hv x (by simp [Op.operands])
    split at hc
    · rename_i n e hu
      cases hc
      simp only [lpure] at hl
      split at hl
      · rename_i b o len cap hb
        split at hl
        · rename_i hn
          cases hl
          rw [hb] at hx
          obtain ⟨p, o', c', hp, e', _, _, ho, _⟩ := slice_inv hx
          have ho' : o' = p.sh + o := by
            rcases ho with h | h
            · exact h
            · omega
          subst ho'
          refine ⟨.pointer (some ⟨p.pb, p.sh + o, none⟩), run_val ?_, .ptr b o p hp⟩
          simp only [e', Instr.arrayAt, Sem.run_bind, run_underlying hu, Result.andThen_ok]
          rw [if_neg (by omega)]; rfl
        · cases hl
      · cases hl
    · cases hc
  case h_17 f first cap =>
    cases hc
    cases hl
    have this : ∀ l : List Operand, (∀ x ∈ l, VR i (r x) (r' x)) → VRs i (l.map r) (l.map r') := by
      intro l
      induction l with
      | nil => intro _; exact .nil
      | cons a l ih => intro h; exact .cons (h a (by simp)) (ih fun x hx => h x (by simp [hx]))
    have hcs : VRs i (cap.toList.map r) (cap.toList.map r') := this _ fun x hx => hv x (by simp only [Op.operands, Array.toList_append]; exact List.mem_append_right _ hx)
    have hfs : VRs i (first.toList.map r) (first.toList.map r') := this _ fun x hx => hv x (by simp only [Op.operands, Array.toList_append]; exact List.mem_append_left _ hx)
    refine ⟨.func (.func f) (first.map r') (cap.map r'), run_val (by simp [Instr.makeFunc]), .func _ _ _ _ _ ?_ ?_⟩
    · simpa using hfs
    · simpa using hcs
  case h_20 t x lo hi mx =>
    have hx := hv x (by simp [Op.operands])
    split at hc
    · cases hc
    · rename_i hpair
      split at hc
      · rename_i hu
        split at hc
        · rename_i hmx
          cases hc
          have hmx' : mx = none := by cases mx <;> simp at hmx ⊢
          subst hmx'
          simp only [lpure] at hl
          split at hl
          · rename_i s hb
            rw [hb] at hx
            split at hl
            · cases hl
            · rename_i h hh
              split at hl
              · cases hl
              · rename_i l hlo
                cases hl
                refine ⟨_, run_val ?_, .string _⟩
                have hrb := run_bounds (P := P) (w := w) (i := i) (r := r) (r' := r') (lo := lo) (hi := hi) (mx := none) (fun y hy => hv y (by simp [Op.operands, hy])) (fun y hy => hv y (by simp [Op.operands, hy])) (fun y hy => by cases hy)
                  (Nat.le_refl s.size) rfl hh hlo (by simp) false
                simp only [string_inv hx, Instr.sliceAt, Sem.run_bind, run_underlying hu, Result.andThen_ok, Instr.slice]
                simp only [Option.map_none] at hrb ⊢
                simp only [Option.isSome_none, Bool.false_eq_true, if_false] at hrb ⊢
                rw [Sem.run_bind, hrb]; rfl
          · cases hl
        · cases hc
      · obtain ⟨n, hn, he⟩ := Option.map_eq_some_iff.1 hc
        cases he
      · cases hc
  case h_21 s x f =>
    have hx := hv x (by simp [Op.operands])
    split at hc
    · rename_i fs hu
      split at hc
      · rename_i fd hf
        split at hc
        · rename_i n hs
          split at hc
          · rename_i hn
            cases hc
            simp only [lpure] at hl
            split at hl
            · rename_i b o hb
              cases hl
              rw [hb] at hx
              obtain ⟨p, hp, e⟩ := ptr_inv hx
              have := VR.ptr (i := i) b (o + fd.offset) p hp
              rw [← Nat.add_assoc] at this
              refine ⟨_, run_val ?_, this⟩
              simp only [e, Instr.fieldAt, Sem.run_bind, run_underlying hu, Result.andThen_ok, hf, Instr.sureAddr, Sem.run_pure, fieldPlace, run_sizeOf hs w]
              rw [if_neg (by omega)]
              simp [add_lit]
            · cases hl
          · cases hc
        · cases hc
      · cases hc
    · cases hc
  case h_22 s x f =>
    have hx := hv x (by simp [Op.operands])
    split at hc
    · rename_i fs hu
      split at hc
      · rename_i fd hf
        split at hc
        · rename_i g n hg hn
          cases hc
          simp only [lpure] at hl
          split at hl
          · rename_i cs hb
            rw [hb] at hx
            obtain ⟨cs', e, hcs⟩ := agg_inv hx
            obtain ⟨v', h1, h2⟩ := sim_part (w := w) hg hn hcs hl
            refine ⟨v', run_val ?_, h2⟩
            simp only [e, Instr.field, Sem.run_bind, run_underlying hu, Result.andThen_ok, hf, asAgg, Sem.run_pure, h1]
          · cases hl
        · cases hc
      · cases hc
    · cases hc
  case h_23 t x ix =>
    have hx := hv x (by simp [Op.operands])
    have hi := hv ix (by simp [Op.operands])
    split at hc
    · rename_i len e hu
      obtain ⟨n, hn, he⟩ := Option.map_eq_some_iff.1 hc
      cases he
      simp only [lpure] at hl
      split at hl
      · rename_i b o k m hb hm
        rw [hb] at hx
        rw [hm] at hi
        obtain ⟨p, hp, e1⟩ := ptr_inv hx
        obtain ⟨h0, h1, h2⟩ := lidx_sim hp hl
        refine ⟨_, run_val ?_, h2⟩
        simp only [e1, int_inv hi, Instr.indexAt, Sem.run_bind, asIntOf, Sem.run_pure, Result.andThen_ok, run_underlying hu, Instr.sureAddr]
        simp [h0, h1, run_sizeOf hn w, add_lit]
      · cases hl
    · rename_i e hu
      obtain ⟨n, hn, he⟩ := Option.map_eq_some_iff.1 hc
      cases he
      simp only [lpure] at hl
      split at hl
      · rename_i b o len cap k m hb hm
        rw [hb] at hx
        rw [hm] at hi
        obtain ⟨p, o', c', hp, e1, _, _, ho, _⟩ := slice_inv hx
        obtain ⟨h0, h1, h2⟩ := lidx_sim hp hl
        have ho' : o' = p.sh + o := by
          rcases ho with h | h
          · exact h
          · omega
        subst ho'
        refine ⟨_, run_val ?_, h2⟩
        simp only [e1, int_inv hi, Instr.indexAt, Sem.run_bind, asIntOf, Sem.run_pure, Result.andThen_ok, run_underlying hu, Instr.sureAddr]
        simp [h0, h1, run_sizeOf hn w, add_lit]
      · cases hl
    · cases hc
  case h_24 t x ix =>
    have hx := hv x (by simp [Op.operands])
    have hi := hv ix (by simp [Op.operands])
    split at hc
    · rename_i len e hu
      split at hc
      · rename_i g n hg hn
        cases hc
        simp only [lpure] at hl
        split at hl
        · rename_i cs k m hb hm
          split at hl
          · rename_i hlt
            rw [hb] at hx
            rw [hm] at hi
            obtain ⟨cs', e1, hcs⟩ := agg_inv hx
            obtain ⟨v', h1, h2⟩ := sim_part (w := w) hg hn hcs hl
            refine ⟨v', run_val ?_, h2⟩
            simp only [e1, int_inv hi, Instr.index, Sem.run_bind, asIntOf, Sem.run_pure, Result.andThen_ok, run_underlying hu]
            rw [if_pos hlt]
            simp only [Sem.run_bind, run_sizeOf hn w, Result.andThen_ok, h1]
          · cases hl
        · cases hl
      · cases hc
    · rename_i hu
      cases hc
      simp only [lpure] at hl
      split at hl
      · rename_i s k m hb hm
        split at hl
        · rename_i h0
          rw [hb] at hx
          rw [hm] at hi
          obtain ⟨bb, h1, rfl⟩ := Option.map_eq_some_iff.1 hl
          refine ⟨.int .u8 bb.toNat, run_val ?_, .int _ _⟩
          simp only [string_inv hx, int_inv hi, Instr.index, Sem.run_bind, asIntOf, Sem.run_pure, Result.andThen_ok, run_underlying hu]
          rw [if_pos h0, h1]; rfl
        · cases hl
      · cases hl
    · cases hc
  case h_27 x k =>
    cases hc
    have hx := hv x (by simp [Op.operands])
    simp only [lpure] at hl
    split at hl
    · rename_i vs hb
      rw [hb] at hx
      split at hl
      · rename_i hne
        obtain ⟨cs', e, hcs⟩ := tuple_inv hne hx
        obtain ⟨v', h1, h2⟩ := hcs.get hl
        refine ⟨v', run_val ?_, h2⟩
        have h1' : cs'[k]? = some v' := by simpa using h1
        simp only [e, Instr.extract, h1']; rfl
      · cases hl
    · cases hl
  case h_28 b args ts => exact sim_builtin hc (fun x hx => hv x (by simpa [Op.operands, Call.operands] using hx)) hl dst ty pos after guard
  all_goals (first | (cases hc; done) | (exfalso; revert hc; (repeat' split) <;> simp))
end
end Go.LK
