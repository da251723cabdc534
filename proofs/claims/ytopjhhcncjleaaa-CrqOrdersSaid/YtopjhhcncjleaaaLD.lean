/- Each operation that touches no memory, continued: the whole. -/
import Derived.Test.YtopjhhcncjleaaaLC
namespace Go.LK
open Go Go.RowKit
set_option linter.unusedVariables false
set_option linter.unusedSimpArgs false

section
variable {P : Program} {i : Inj} {w : World}

theorem sim_str {op : BinOp} {x y v x' y' : Value} (hx : VR i x x') (hy : VR i y y') (hl : lstr op x y = some v) (t : TypeId) :
    (binOp op t x' y').run P w = .ok v w ∧ VR i v v := by
  unfold lstr at hl
  split at hl
  · rename_i a b
    obtain rfl := string_inv hx
    obtain rfl := string_inv hy
    cases op <;> simp only at hl
    case eql => cases hl; exact ⟨by simp only [binOp, Op.stringOp]; rfl, .bool _⟩
    case neq => cases hl; exact ⟨by simp only [binOp, Op.stringOp]; rfl, .bool _⟩
    case add =>
      split at hl
      · cases hl
        rename_i h
        have : ¬ ((a.size + b.size : Nat) : Int) > IntKind.i64.max := by
          have e : IntKind.i64.max = 9223372036854775807 := by decide
          rw [e]; omega
        exact ⟨by simp only [binOp, Op.stringOp]; rw [if_neg this]; rfl, .string _⟩
      · cases hl
    all_goals cases hl
  · cases hl

theorem leqCells_int {ts : List Bool} {xs ys : List Value} {r : Bool} (h : leqCells (false :: ts) xs ys = some r) :
    ∃ k a xs' b ys' r', xs = .int k a :: xs' ∧ ys = .int k b :: ys' ∧ leqCells ts xs' ys' = some r' ∧ r = ((a == b) && r') := by
  cases xs with
  | nil => simp [leqCells] at h
  | cons x xs =>
    cases ys with
    | nil => cases x <;> simp [leqCells] at h
    | cons y ys =>
      cases x <;> try (simp [leqCells] at h; done)
      cases y <;> try (simp [leqCells] at h; done)
      simp only [leqCells] at h
      split at h
      · rename_i hk; subst hk
        obtain ⟨r', h1, h2⟩ := Option.map_eq_some_iff.1 h
        exact ⟨_, _, _, _, _, r', rfl, rfl, h1, h2.symm⟩
      · cases h
theorem leqCells_bool {ts : List Bool} {xs ys : List Value} {r : Bool} (h : leqCells (true :: ts) xs ys = some r) :
    ∃ a xs' b ys' r', xs = .bool a :: xs' ∧ ys = .bool b :: ys' ∧ leqCells ts xs' ys' = some r' ∧ r = ((a == b) && r') := by
  cases xs with
  | nil => simp [leqCells] at h
  | cons x xs =>
    cases ys with
    | nil => cases x <;> simp [leqCells] at h
    | cons y ys =>
      cases x <;> try (simp [leqCells] at h; done)
      cases y <;> try (simp [leqCells] at h; done)
      simp only [leqCells] at h
      obtain ⟨r', h1, h2⟩ := Option.map_eq_some_iff.1 h
      exact ⟨_, _, _, _, r', rfl, rfl, h1, h2.symm⟩
theorem leqCells_scal : ∀ {ts : List Bool} {xs ys : List Value} {r : Bool}, leqCells ts xs ys = some r → xs.all scalar = true ∧ ys.all scalar = true
  | [], xs, ys, r, h => by cases xs <;> cases ys <;> simp [leqCells] at h ⊢
  | false :: ts, xs, ys, r, h => by
    obtain ⟨k, a, xs', b, ys', r', rfl, rfl, h1, _⟩ := leqCells_int h
    obtain ⟨p, q⟩ := leqCells_scal h1
    exact ⟨by simpa [scalar] using p, by simpa [scalar] using q⟩
  | true :: ts, xs, ys, r, h => by
    obtain ⟨a, xs', b, ys', r', rfl, rfl, h1, _⟩ := leqCells_bool h
    obtain ⟨p, q⟩ := leqCells_scal h1
    exact ⟨by simpa [scalar] using p, by simpa [scalar] using q⟩
theorem VRs.scal_eq : ∀ {l l' : List Value}, VRs i l l' → l.all scalar = true → l' = l
  | _, _, .nil, _ => rfl
  | _, _, .cons h t, hs => by
    simp only [List.all_cons, Bool.and_eq_true] at hs
    rw [h.scalar_eq hs.1, t.scal_eq hs.2]

theorem run_part1 {t : TypeId} {cs : Array Value} {off : Nat} {v : Value} (hg : aggTy P t = some false) (h : cs.toList[off]? = some v) : (part t cs off).run P w = .ok v w := by
  unfold part
  rw [Sem.run_bind, run_isAgg hg w, Result.andThen_ok]
  have : cs[off]? = some v := by simpa using h
  simp [this]
theorem drop_cons {l : List Value} {k : Nat} {x : Value} {t : List Value} (h : l.drop k = x :: t) : l[k]? = some x ∧ l.drop (k + 1) = t := by
  have hk : k < l.length := by
    have := congrArg List.length h
    simp only [List.length_drop, List.length_cons] at this; omega
  have := List.drop_eq_getElem_cons hk
  rw [h] at this
  injection this with p q
  exact ⟨by rw [List.getElem?_eq_getElem hk, p], q.symm⟩
theorem eqFields_flat {d : Nat} {xs ys : Array Value} : ∀ {fs : List Field} {ts : List Bool} {k : Nat} {r : Bool}, flatFields P k fs = some ts →
    leqCells ts (xs.toList.drop k) (ys.toList.drop k) = some r → (Op.eqFields (d + 1) xs ys fs).run P w = .ok r w
  | [], ts, k, r, hf, h => by
    cases hf
    cases hx : xs.toList.drop k <;> cases hy : ys.toList.drop k <;> simp [leqCells, hx, hy] at h
    subst h; rfl
  | f :: fs, ts, k, r, hf, h => by
    unfold flatFields at hf
    split at hf
    · rename_i hon
      obtain ⟨hoff, hname⟩ := hon
      split at hf
      · rename_i kk hu
        obtain ⟨ts', hf', rfl⟩ := Option.map_eq_some_iff.1 hf
        obtain ⟨k', a, xs', b, ys', r', ex, ey, h1, hr⟩ := leqCells_int h
        obtain ⟨hx, ex'⟩ := drop_cons ex
        obtain ⟨hy, ey'⟩ := drop_cons ey
        have hg : aggTy P f.type = some false := by simp [aggTy, hu]
        have ih := eqFields_flat (d := d) (xs := xs) (ys := ys) hf' (by rw [ex', ey']; exact h1)
        have he : (Op.equalIn (d + 1) f.type (.int k' a) (.int k' b)).run P w = .ok (a == b) w := run_equalIn_int w d f.type k' kk a b hu
        simp only [Op.eqFields, hname, ne_eq, not_false_eq_true, if_true]
        rw [Sem.run_bind, hoff, run_part1 hg hx, Result.andThen_ok, Sem.run_bind, run_part1 hg hy, Result.andThen_ok, Sem.run_bind, he, Result.andThen_ok]
        cases hq : (a == b)
        · rw [hq] at hr; simp [hr]
        · rw [hq] at hr; simp only [Bool.not_true, Bool.false_eq_true, if_false]; rw [ih, hr]; simp
      · rename_i hu
        obtain ⟨ts', hf', rfl⟩ := Option.map_eq_some_iff.1 hf
        obtain ⟨a, xs', b, ys', r', ex, ey, h1, hr⟩ := leqCells_bool h
        obtain ⟨hx, ex'⟩ := drop_cons ex
        obtain ⟨hy, ey'⟩ := drop_cons ey
        have hg : aggTy P f.type = some false := by simp [aggTy, hu]
        have ih := eqFields_flat (d := d) (xs := xs) (ys := ys) hf' (by rw [ex', ey']; exact h1)
        have he : (Op.equalIn (d + 1) f.type (.bool a) (.bool b)).run P w = .ok (a == b) w := run_equalIn_bool' w d f.type a b hu
        simp only [Op.eqFields, hname, ne_eq, not_false_eq_true, if_true]
        rw [Sem.run_bind, hoff, run_part1 hg hx, Result.andThen_ok, Sem.run_bind, run_part1 hg hy, Result.andThen_ok, Sem.run_bind, he, Result.andThen_ok]
        cases hq : (a == b)
        · rw [hq] at hr; simp [hr]
        · rw [hq] at hr; simp only [Bool.not_true, Bool.false_eq_true, if_false]; rw [ih, hr]; simp
      · cases hf
    · cases hf
theorem run_equal_flat {t : TypeId} {fs : Array Field} {ts : List Bool} {xs ys : Array Value} {r : Bool} (hu : P.underlying t = some (.struct fs)) (hp : P.stoodInHeld t = false) (hf : flatFields P 0 fs.toList = some ts)
    (h : leqCells ts xs.toList ys.toList = some r) : (Op.equal t (.agg xs) (.agg ys)).run P w = .ok r w := by
  have hfo : P.fieldsOf t = fs := by simp [Program.fieldsOf, hu]
  have := run_equalIn_struct (P := P) w 9999 t xs ys (by rw [hfo]; exact hu) hp
  refine Eq.trans (show _ = _ from this) ?_
  rw [hfo]
  exact eqFields_flat (d := 9998) hf (by simpa using h)
theorem run_equal_arr2 {t e : TypeId} {kk : IntKind} {xs ys : Array Value} {r : Bool} (hu : P.underlying t = some (.array 2 e)) (hue : P.underlying e = some (.int kk)) (hs : sizeT P e = some 1)
    (h : leqCells [false, false] xs.toList ys.toList = some r) : (Op.equal t (.agg xs) (.agg ys)).run P w = .ok r w := by
  obtain ⟨k1, a1, xs1, b1, ys1, r1, ex, ey, h1, hr⟩ := leqCells_int h
  obtain ⟨k2, a2, xs2, b2, ys2, r2, rfl, rfl, h2, hr1⟩ := leqCells_int h1
  have : xs2 = [] ∧ ys2 = [] ∧ r2 = true := by
    cases xs2 <;> cases ys2 <;> simp [leqCells] at h2
    exact ⟨rfl, rfl, h2⟩
  obtain ⟨rfl, rfl, rfl⟩ := this
  obtain ⟨xs⟩ := xs
  obtain ⟨ys⟩ := ys
  simp only at ex ey
  subst ex ey
  have hg : aggTy P e = some false := by simp [aggTy, hue]
  show (Op.equalIn (9998 + 1 + 1) t _ _).run P w = _
  generalize 9998 = d
  have he : ∀ k a b, (Op.equalIn (d + 1) e (.int k a) (.int k b)).run P w = .ok (a == b) w := fun k a b => run_equalIn_int w d e k kk a b hue
  have p0 : ∀ (x y : Value), (part e #[x, y] 0).run P w = .ok x w := fun x y => run_part1 hg rfl
  have p1 : ∀ (x y : Value), (part e #[x, y] 1).run P w = .ok y w := fun x y => run_part1 hg rfl
  unfold Op.equalIn
  rw [Sem.run_bind, run_underlying hu, Result.andThen_ok]
  simp only [Sem.run_bind, run_sizeOf hs w, Result.andThen_ok]
  rw [Std.Legacy.Range.forIn_eq_forIn_range']
  have er : List.range' (Std.Legacy.Range.mk 0 2 1 (by decide)).start (Std.Legacy.Range.mk 0 2 1 (by decide)).size (Std.Legacy.Range.mk 0 2 1 (by decide)).step = [0, 1] := by decide
  simp only [er, List.forIn_cons, List.forIn_nil, Sem.run_bind, Nat.zero_mul, Nat.one_mul, p0, p1, he, Result.andThen_ok, Sem.run_ite, Sem.run_pure]
  rw [hr, hr1]
  cases (a1 == b1) <;> cases hq : (a2 == b2) <;> simp [p1, he, hq]

theorem toList_foldl_set (f : Nat → Nat) : ∀ (l : List (Value × Nat)) (cs : Array Value), (l.foldl (fun cs (x : Value × Nat) => cs.setIfInBounds (f x.2) x.1) cs).toList = l.foldl (fun c (x : Value × Nat) => c.set (f x.2) x.1) cs.toList
  | [], _ => rfl
  | x :: l, cs => by
    simp only [List.foldl_cons]
    rw [toList_foldl_set f l]
    simp
theorem foldl_set_many (o : Nat) : ∀ (vs : List Value) (k : Nat) (c : List Value), ((vs.zipIdx k).foldl (fun c (x : Value × Nat) => c.set (o + x.2) x.1) c) = setMany c (o + k) vs
  | [], _, _ => rfl
  | v :: vs, k, c => by
    simp only [List.zipIdx_cons, List.foldl_cons, setMany]
    rw [foldl_set_many o vs (k + 1), Nat.add_assoc]
theorem setMany_length : ∀ (vs : List Value) (c : List Value) (o : Nat), (setMany c o vs).length = c.length
  | [], _, _ => rfl
  | v :: vs, c, o => by simp [setMany, setMany_length vs]
theorem VRs.setMany {i : Inj} : ∀ {vs vs' : List Value}, VRs i vs vs' → ∀ {c c' : List Value} (o : Nat), VRs i c c' → VRs i (LK.setMany c o vs) (LK.setMany c' o vs')
  | _, _, .nil, _, _, _, h => h
  | _, _, .cons h t, _, _, o, g => t.setMany (o + 1) (g.set o h)
theorem fill_step (off size : Nat) (v : Value) (cells : Array Value) : (v.cells.zipIdx.foldl (fun cs (x : Value × Nat) => cs.setIfInBounds (off + x.2) x.1) cells).toList = setMany cells.toList off v.cells.toList := by
  rw [← Array.foldl_toList, toList_foldl_set (fun k => off + k)]
  have := foldl_set_many off v.cells.toList 0 cells.toList
  simpa using this
inductive Parts (i : Inj) : List (Nat × Nat × Value) → List (Nat × Value) → (Nat → Option (Nat × Nat)) → Prop
  | nil (pl) : Parts i [] [] pl
  | cons {pl} {k off n : Nat} {v v' : Value} {l l'} (hp : pl k = some (off, n)) (hv : VR i v v') (t : Parts i l l' pl) : Parts i ((off, n, v) :: l) ((k, v') :: l') pl
theorem sim_fill {pl : Nat → Option (Nat × Nat)} : ∀ {ps : List (Nat × Nat × Value)} {ps' : List (Nat × Value)} {c r : List Value} {c' : Array Value}, Parts i ps ps' pl → VRs i c c'.toList → lfill c ps = some r →
    ∃ r', Instr.fill pl c' ps' = some r' ∧ VRs i r r'.toList
  | _, _, _, _, _, .nil _, hc, h => by cases h; exact ⟨_, rfl, hc⟩
  | _, _, _, _, c', .cons (k := k) (off := off) (n := n) (v := v) (v' := v') hp hv t, hc, h => by
    simp only [lfill] at h
    split at h
    · rename_i hk
      obtain ⟨h1, h2, h3⟩ := hk
      have hcells := hv.cells h3
      have hl := hcells.length
      have hlc := hc.length
      obtain ⟨r', hr', hrr⟩ := sim_fill (c' := v'.cells.zipIdx.foldl (fun cs (x : Value × Nat) => cs.setIfInBounds (off + x.2) x.1) c') t (by rw [fill_step off n]; exact hcells.setMany off hc) h
      refine ⟨r', ?_, hrr⟩
      simp only [Instr.fill, hp]
      have e1 : v'.cells.size = n := by rw [← Array.length_toList]; omega
      have e2 : ¬ (off + v'.cells.size > c'.size) := by rw [e1, ← Array.length_toList]; omega
      simp only [e1, ne_eq, not_true_eq_false, false_or] at e2 ⊢
      simp only [e2, decide_false, Bool.false_eq_true, if_false, Bool.or_self]
      simpa [e1] using hr'
    · cases h
end
end Go.LK
