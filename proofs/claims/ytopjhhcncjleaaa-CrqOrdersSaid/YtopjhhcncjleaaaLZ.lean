/- The logical machine told backwards: what must hold ahead of code so that its run ends, and ends as wanted. -/
import Derived.Test.YtopjhhcncjleaaaLY
namespace Go.LK
open Go Go.RowKit
set_option linter.unusedVariables false
set_option linter.unusedSimpArgs false

/-! ### more fuel does no harm -/
def CallF.le (f g : CallF) : Prop := ∀ k lim args H r, f k lim args H = some r → g k lim args H = some r
theorem actL_mono {f g : CallF} (h : f.le g) {lim e H a r} (q : actL f lim e H a = some r) : actL g lim e H a = some r := by
  cases a with
  | op o => exact q
  | call x xs =>
    simp only [actL, lcall] at q ⊢
    split at q
    · exact h _ _ _ _ _ q
    · cases q
theorem stepL_mono {f g : CallF} (h : f.le g) {lim e H s r} (q : stepL f lim e H s = some r) : stepL g lim e H s = some r := by
  cases s with
  | act d a gd =>
    simp only [stepL] at q ⊢
    cases hg : wantG e gd with
    | none => rw [hg] at q; cases q
    | some t =>
      rw [hg] at q
      cases t with
      | false => exact q
      | true =>
        simp only [Option.map_eq_some_iff] at q ⊢
        obtain ⟨x, hx, hr⟩ := q
        exact ⟨x, actL_mono h hx, hr⟩
  | again d rd gd => exact q
theorem stepsL_mono {f g : CallF} (h : f.le g) {lim} : ∀ {l e H r}, stepsL f lim e H l = some r → stepsL g lim e H l = some r
  | [], _, _, _, q => q
  | s :: l, e, H, r, q => by
    simp only [stepsL, Option.bind_eq_some_iff] at q ⊢
    obtain ⟨x, hx, hr⟩ := q
    exact ⟨x, stepL_mono h hx, stepsL_mono h hr⟩
theorem loopL_mono {b b' : List Value → LHeap → Option (LExit × List Value × LHeap)} (h : ∀ e H r, b e H = some r → b' e H = some r) {keep : List Tmp} :
    ∀ {n m e H r}, n ≤ m → loopL b keep n e H = some r → loopL b' keep m e H = some r
  | 0, _, _, _, _, _, q => by simp [loopL] at q
  | n + 1, 0, _, _, _, hn, _ => absurd hn (by omega)
  | n + 1, m + 1, e, H, r, hn, q => by
    simp only [loopL, Option.bind_eq_some_iff] at q ⊢
    obtain ⟨x, hx, hr⟩ := q
    refine ⟨x, h _ _ _ hx, ?_⟩
    obtain ⟨x1, x2, x3⟩ := x
    cases x1 with
    | normal => exact loopL_mono h (Nat.le_of_succ_le_succ hn) hr
    | exit id => exact hr
    | ret => exact hr
theorem execL_mono {f g : CallF} (h : f.le g) {n m lim : Nat} (hn : n ≤ m) : ∀ {c e H r}, execL f n lim c e H = some r → execL g m lim c e H = some r
  | .skip, _, _, _, q => q
  | .steps l, e, H, r, q => by
    simp only [execL, Option.map_eq_some_iff] at q ⊢
    obtain ⟨x, hx, hr⟩ := q
    exact ⟨x, stepsL_mono h hx, hr⟩
  | .seq a b, e, H, r, q => by
    simp only [execL, Option.bind_eq_some_iff] at q ⊢
    obtain ⟨x, hx, hr⟩ := q
    refine ⟨x, execL_mono h hn hx, ?_⟩
    obtain ⟨x1, x2, x3⟩ := x
    cases x1 with
    | normal => exact execL_mono h hn hr
    | exit id => exact hr
    | ret => exact hr
  | .cond c a b, e, H, r, q => by
    simp only [execL] at q ⊢
    split at q
    · rename_i t ht
      cases t with
      | true => exact execL_mono h hn q
      | false => exact execL_mono h hn q
    · cases q
  | .block id a, e, H, r, q => by
    simp only [execL, Option.map_eq_some_iff] at q ⊢
    obtain ⟨x, hx, hr⟩ := q
    exact ⟨x, execL_mono h hn hx, hr⟩
  | .loop keep a, e, H, r, q => by
    simp only [execL] at q ⊢
    exact loopL_mono (fun e H r => execL_mono h hn) hn q
  | .exit id, _, _, _, q => q
  | .ret, _, _, _, q => q
theorem runL_mono {f g : CallF} (h : f.le g) {n m : Nat} (hn : n ≤ m) {fn : LFun} {lim args H r} (q : runL f n fn lim args H = some r) : runL g m fn lim args H = some r := by
  simp only [runL, Option.bind_eq_some_iff] at q ⊢
  obtain ⟨x, hx, hr⟩ := q
  exact ⟨x, execL_mono h hn hx, hr⟩
theorem callL_succ_le (T : FuncId → Option LFun) : ∀ n, (callL T n).le (callL T (n + 1))
  | 0 => fun k lim args H r q => by simp [callL] at q
  | n + 1 => fun k lim args H r q => by
    rw [callL] at q ⊢
    cases hk : T k with
    | none => rw [hk] at q; cases q
    | some f =>
      rw [hk] at q
      simp only at q ⊢
      split at q
      · rename_i hi
        rw [if_pos hi]
        split at q
        · rename_i hs
          rw [if_pos hs]
          obtain ⟨x, hx, hr⟩ := Option.bind_eq_some_iff.1 q
          exact Option.bind_eq_some_iff.2 ⟨x, runL_mono (callL_succ_le T n) (Nat.le_succ n) hx, hr⟩
        · cases q
      · rename_i hi
        rw [if_neg hi]
        exact runL_mono (callL_succ_le T n) (Nat.le_succ n) q
theorem callL_le (T : FuncId → Option LFun) {n m : Nat} (h : n ≤ m) : (callL T n).le (callL T m) := by
  induction h with
  | refl => exact fun k lim args H r q => q
  | step _ ih => exact fun k lim args H r q => callL_succ_le T _ k lim args H r (ih k lim args H r q)

/-! ### told backwards -/
abbrev Env := List (Nat × Value)
def look : Env → Nat → Value
  | [], _ => undef
  | (k, v) :: l, j => if k = j then v else look l j
def lev (e : Env) : Operand → Value
  | .tmp t => look e t
  | .const v => v
  | .func f => .func (.func f) #[] #[]
  | .global _ => undef
def put (e : Env) : Option Tmp → Value → Env
  | some d, v => (d, v) :: e
  | none, _ => e
def restrict (keep : List Tmp) (e : Env) : Env := keep.map fun k => (k, look e k)
abbrev CallW := FuncId → Nat → List Value → LHeap → (Value → LHeap → Prop) → Prop
def OB {α : Type} (o : Option α) (Q : α → Prop) : Prop := ∃ v, o = some v ∧ Q v
/-- Of a guard, or a condition. -/
def BB (v : Value) (x y : Prop) : Prop := (v = .bool true ∧ x) ∨ (v = .bool false ∧ y)
def GB (v : Value) (b : Bool) (x y : Prop) : Prop := (v = .bool b ∧ x) ∨ ((v = .bool (!b) ∨ v = skipv) ∧ y)
def AW (C : CallW) (lim : Nat) : LAct → Env → LHeap → (Value → LHeap → Prop) → Prop
  | .op (.pure p), e, H, Q => OB (lpure (lev e) p) fun v => Q v H
  | .op (.new n), e, H, Q => OB (lnew (lev e) n) fun q => Q (q.2 H.length) (H ++ [q.1])
  | .op (.read n), e, H, Q => OB (lread H (lev e) n) fun v => Q v H
  | .op (.eff x), e, H, Q => OB (leff lim H (lev e) x) fun r => Q r.1 r.2
  | .call f args, e, H, Q => match lev e f with
    | .func (.func k) first captured => C k lim (first.toList ++ args.map (lev e) ++ captured.toList) H Q
    | _ => False
def SW (C : CallW) (lim : Nat) : List LStep → Env → LHeap → (Env → LHeap → Prop) → Prop
  | [], e, H, Q => Q e H
  | .act d a none :: l, e, H, Q => AW C lim a e H fun v H' => SW C lim l (put e d v) H' Q
  | .act d a (some (g, b)) :: l, e, H, Q => GB (look e g) b (AW C lim a e H fun v H' => SW C lim l (put e d v) H' Q) (SW C lim l (put e d skipv) H Q)
  | .again d r none :: l, e, H, Q => OB (lread H (lev e) r) fun v => sameV v (look e d) = true ∧ SW C lim l e H Q
  | .again d r (some (g, b)) :: l, e, H, Q => GB (look e g) b (OB (lread H (lev e) r) fun v => sameV v (look e d) = true ∧ SW C lim l e H Q) (SW C lim l e H Q)
def LW (body : Env → LHeap → (LExit → Env → LHeap → Prop) → Prop) (keep : List Tmp) (Q : LExit → Env → LHeap → Prop) : Nat → Env → LHeap → Prop
  | 0, _, _ => False
  | n + 1, e, H => body e H fun x e' H' => match x with
    | .normal => LW body keep Q n (restrict keep e') H'
    | x => Q x e' H'
def XW (C : CallW) (lim : Nat) : LCode → Env → LHeap → (LExit → Env → LHeap → Prop) → Prop
  | .skip, e, H, Q => Q .normal e H
  | .steps l, e, H, Q => SW C lim l e H (Q .normal)
  | .seq a b, e, H, Q => XW C lim a e H fun x e' H' => match x with
    | .normal => XW C lim b e' H' Q
    | x => Q x e' H'
  | .cond c a b, e, H, Q => BB (lev e c) (XW C lim a e H Q) (XW C lim b e H Q)
  | .block id a, e, H, Q => XW C lim a e H fun x e' H' => match x with
    | .exit j => if j = id then Q .normal e' H' else Q (.exit j) e' H'
    | x => Q x e' H'
  | .loop keep a, e, H, Q => ∃ n, LW (XW C lim a) keep Q n (restrict keep e) H
  | .exit id, e, H, Q => Q (.exit id) e H
  | .ret, e, H, Q => Q .ret e H
/-- A call of a turned function ends, and ends as wanted. -/
def callE (T : FuncId → Option LFun) : CallW := fun k lim args H Q => ∃ n v H', callL T n k lim args H = some (v, H') ∧ Q v H'
theorem callE.mono {T : FuncId → Option LFun} {k lim args H} {Q Q' : Value → LHeap → Prop} (h : callE T k lim args H Q) (g : ∀ v H', Q v H' → Q' v H') : callE T k lim args H Q' :=
  let ⟨n, v, H', a, b⟩ := h
  ⟨n, v, H', a, g _ _ b⟩

/-! ### why it may be told so -/
def EnvOk (e : Env) (l : List Value) : Prop := ∀ k, l.getD k undef = look e k
theorem EnvOk.leval {e : Env} {l : List Value} (h : EnvOk e l) : leval l = lev e := by
  funext o
  cases o with
  | tmp t => exact h t
  | const v => rfl
  | func f => rfl
  | global g => rfl
def dstBelow (n : Nat) : LStep → Bool
  | .act (some d) _ _ => d < n
  | .act none _ _ => true
  | .again d _ _ => d < n
def dstsBelow (n : Nat) : LCode → Bool
  | .steps l => l.all (dstBelow n)
  | .seq a b => dstsBelow n a && dstsBelow n b
  | .cond _ a b => dstsBelow n a && dstsBelow n b
  | .block _ a => dstsBelow n a
  | .loop _ a => dstsBelow n a
  | _ => true
theorem EnvOk.put {e : Env} {l : List Value} (h : EnvOk e l) {d : Option Tmp} {v : Value} (hd : ∀ t, d = some t → t < l.length) : EnvOk (put e d v) (putL l d v) := by
  cases d with
  | none => exact h
  | some t =>
    intro k
    have ht := hd t rfl
    simp only [LK.put, putL, look]
    by_cases hk : t = k
    · subst hk
      rw [if_pos rfl]
      simp [List.getD, ht]
    · rw [if_neg hk, ← h k]
      simp [List.getD, List.getElem?_set, hk]
theorem GB.get {e : Env} {l : List Value} (he : EnvOk e l) {g : Nat} {b : Bool} {x y : Prop} (h : GB (look e g) b x y) : (wantG l (some (g, b)) = some true ∧ x) ∨ (wantG l (some (g, b)) = some false ∧ y) := by
  rcases h with ⟨h1, h2⟩ | ⟨h1 | h1, h2⟩
  · left; refine ⟨?_, h2⟩; simp only [wantG, he g, h1]; cases b <;> rfl
  · right; refine ⟨?_, h2⟩; simp only [wantG, he g, h1]; cases b <;> rfl
  · right; refine ⟨?_, h2⟩; simp only [wantG, he g, h1, skipv]
section
variable {T : FuncId → Option LFun}
theorem AW.sound {lim : Nat} {a : LAct} {e : Env} {H : LHeap} {Q : Value → LHeap → Prop} {l : List Value} (he : EnvOk e l) (h : AW (callE T) lim a e H Q) :
    ∃ n v H', actL (callL T n) lim l H a = some (v, H') ∧ Q v H' := by
  cases a with
  | op o =>
    cases o with
    | pure p =>
      obtain ⟨v, h1, h2⟩ := h
      exact ⟨0, v, H, by simp [actL, lop, he.leval, h1], h2⟩
    | new p =>
      obtain ⟨v, h1, h2⟩ := h
      exact ⟨0, v.2 H.length, H ++ [v.1], by simp [actL, lop, he.leval, h1], h2⟩
    | read p =>
      obtain ⟨v, h1, h2⟩ := h
      exact ⟨0, v, H, by simp [actL, lop, he.leval, h1], h2⟩
    | eff p =>
      obtain ⟨v, h1, h2⟩ := h
      exact ⟨0, v.1, v.2, by simp [actL, lop, he.leval, h1], h2⟩
  | call f args =>
    simp only [AW] at h
    split at h
    · rename_i k first captured hf
      obtain ⟨n, v, H', h1, h2⟩ := h
      refine ⟨n, v, H', ?_, h2⟩
      simp only [actL, he.leval, hf, lcall]
      exact h1
    · exact h.elim
theorem SW.sound {lim : Nat} : ∀ {s : List LStep} {e : Env} {H : LHeap} {Q : Env → LHeap → Prop} {l : List Value}, EnvOk e l → s.all (dstBelow l.length) = true → SW (callE T) lim s e H Q →
    ∃ n e' l' H', stepsL (callL T n) lim l H s = some (l', H') ∧ EnvOk e' l' ∧ l'.length = l.length ∧ Q e' H'
  | [], e, H, Q, l, he, hd, h => ⟨0, e, l, H, rfl, he, rfl, h⟩
  | .act d a g :: s, e, H, Q, l, he, hd, h => by
    simp only [List.all_cons, Bool.and_eq_true] at hd
    have hdt : ∀ t, d = some t → t < l.length := fun t ht => by subst ht; simpa [dstBelow] using hd.1
    have main : ∀ x : Prop, x → (x → AW (callE T) lim a e H fun v H' => SW (callE T) lim s (put e d v) H' Q) → wantG l g = some true →
        ∃ n e' l' H', stepsL (callL T n) lim l H (.act d a g :: s) = some (l', H') ∧ EnvOk e' l' ∧ l'.length = l.length ∧ Q e' H' := by
      intro x hx hax hw
      obtain ⟨n, v, H', h1, h2⟩ := AW.sound he (hax hx)
      obtain ⟨m, e', l', H'', g1, g2, g3, g4⟩ := SW.sound (he.put hdt (v := v)) (by rw [putL_length]; exact hd.2) h2
      rw [putL_length] at g3
      refine ⟨max n m, e', l', H'', ?_, g2, g3, g4⟩
      simp only [stepsL, stepL, hw, actL_mono (callL_le T (Nat.le_max_left n m)) h1, Option.map_some, Option.bind_some]
      exact stepsL_mono (callL_le T (Nat.le_max_right n m)) g1
    have other : SW (callE T) lim s (put e d skipv) H Q → wantG l g = some false →
        ∃ n e' l' H', stepsL (callL T n) lim l H (.act d a g :: s) = some (l', H') ∧ EnvOk e' l' ∧ l'.length = l.length ∧ Q e' H' := by
      intro hx hw
      obtain ⟨m, e', l', H'', g1, g2, g3, g4⟩ := SW.sound (he.put hdt (v := skipv)) (by rw [putL_length]; exact hd.2) hx
      rw [putL_length] at g3
      refine ⟨m, e', l', H'', ?_, g2, g3, g4⟩
      simp only [stepsL, stepL, hw, Option.bind_some]
      exact g1
    cases g with
    | none => exact main _ h id rfl
    | some gb =>
      obtain ⟨g, b⟩ := gb
      rcases GB.get he h with ⟨h1, h2⟩ | ⟨h1, h2⟩
      · exact main _ h2 id h1
      · exact other h2 h1
  | .again d r g :: s, e, H, Q, l, he, hd, h => by
    simp only [List.all_cons, Bool.and_eq_true] at hd
    have hdt : d < l.length := by simpa [dstBelow] using hd.1
    have main : (OB (lread H (lev e) r) fun v => sameV v (look e d) = true ∧ SW (callE T) lim s e H Q) → wantG l g = some true →
        ∃ n e' l' H', stepsL (callL T n) lim l H (.again d r g :: s) = some (l', H') ∧ EnvOk e' l' ∧ l'.length = l.length ∧ Q e' H' := by
      rintro ⟨v, h1, h2, h3⟩ hw
      obtain ⟨m, e', l', H'', g1, g2, g3, g4⟩ := SW.sound he hd.2 h3
      refine ⟨m, e', l', H'', ?_, g2, g3, g4⟩
      have h2' : sameV v (l.getD d undef) = true := by rw [he d]; exact h2
      simp only [stepsL, stepL, hw, he.leval, h1, h2', hdt, and_self, if_true, Option.bind_some]
      exact g1
    have other : SW (callE T) lim s e H Q → wantG l g = some false →
        ∃ n e' l' H', stepsL (callL T n) lim l H (.again d r g :: s) = some (l', H') ∧ EnvOk e' l' ∧ l'.length = l.length ∧ Q e' H' := by
      intro hx hw
      obtain ⟨m, e', l', H'', g1, g2, g3, g4⟩ := SW.sound he hd.2 hx
      refine ⟨m, e', l', H'', ?_, g2, g3, g4⟩
      simp only [stepsL, stepL, hw, Option.bind_some]
      exact g1
    cases g with
    | none => exact main h rfl
    | some gb =>
      obtain ⟨g, b⟩ := gb
      rcases GB.get he h with ⟨h1, h2⟩ | ⟨h1, h2⟩
      · exact main h2 h1
      · exact other h2 h1
theorem eraseL_getD (keep : List Tmp) : ∀ (l : List Value) (j k : Nat), (eraseL keep j l).getD k undef = if j + k ∈ keep then l.getD k undef else undef
  | [], j, k => by simp [eraseL]
  | v :: l, j, 0 => by simp [eraseL]
  | v :: l, j, k + 1 => by
    have := eraseL_getD keep l (j + 1) k
    simp only [eraseL, List.getD_cons_succ, this]
    rw [show j + 1 + k = j + (k + 1) by omega]
theorem eraseL_length (keep : List Tmp) : ∀ (l : List Value) (j : Nat), (eraseL keep j l).length = l.length
  | [], j => rfl
  | v :: l, j => by simp [eraseL, eraseL_length keep l]
theorem look_restrict (e : Env) (k : Nat) : ∀ (keep : List Tmp), look (restrict keep e) k = if k ∈ keep then look e k else undef
  | [] => by simp [restrict, look]
  | t :: keep => by
    have := look_restrict e k keep
    simp only [restrict] at this
    simp only [restrict, List.map_cons, look, this, List.mem_cons]
    by_cases h : t = k
    · subst h; simp
    · rw [if_neg h]
      have : k ≠ t := fun q => h q.symm
      simp [this]
theorem EnvOk.restrict {e : Env} {l : List Value} (h : EnvOk e l) (keep : List Tmp) : EnvOk (restrict keep e) (eraseL keep 0 l) := by
  intro k
  rw [eraseL_getD, look_restrict, h k, Nat.zero_add]
theorem XW.sound {lim : Nat} : ∀ {c : LCode} {e : Env} {H : LHeap} {Q : LExit → Env → LHeap → Prop} {l : List Value}, EnvOk e l → dstsBelow l.length c = true → XW (callE T) lim c e H Q →
    ∃ n x e' l' H', execL (callL T n) n lim c l H = some (x, l', H') ∧ EnvOk e' l' ∧ l'.length = l.length ∧ Q x e' H'
  | .skip, e, H, Q, l, he, hd, h => ⟨0, .normal, e, l, H, rfl, he, rfl, h⟩
  | .steps s, e, H, Q, l, he, hd, h => by
    obtain ⟨n, e', l', H', h1, h2, h3, h4⟩ := SW.sound he hd h
    exact ⟨n, .normal, e', l', H', by simp [execL, h1], h2, h3, h4⟩
  | .seq a b, e, H, Q, l, he, hd, h => by
    simp only [dstsBelow, Bool.and_eq_true] at hd
    obtain ⟨n, x, e', l', H', h1, h2, h3, h4⟩ := XW.sound (c := a) he hd.1 h
    cases x with
    | normal =>
      obtain ⟨m, x', e'', l'', H'', g1, g2, g3, g4⟩ := XW.sound (c := b) h2 (by rw [h3]; exact hd.2) h4
      refine ⟨max n m, x', e'', l'', H'', ?_, g2, g3.trans h3, g4⟩
      simp only [execL, execL_mono (callL_le T (Nat.le_max_left n m)) (Nat.le_max_left n m) h1, Option.bind_some]
      exact execL_mono (callL_le T (Nat.le_max_right n m)) (Nat.le_max_right n m) g1
    | exit id => exact ⟨n, .exit id, e', l', H', by simp [execL, h1], h2, h3, h4⟩
    | ret => exact ⟨n, .ret, e', l', H', by simp [execL, h1], h2, h3, h4⟩
  | .cond c a b, e, H, Q, l, he, hd, h => by
    simp only [dstsBelow, Bool.and_eq_true] at hd
    rcases h with ⟨hc, h⟩ | ⟨hc, h⟩
    · obtain ⟨n, x, e', l', H', h1, h2, h3, h4⟩ := XW.sound (c := a) he hd.1 h
      exact ⟨n, x, e', l', H', by simp [execL, he.leval, hc, h1], h2, h3, h4⟩
    · obtain ⟨n, x, e', l', H', h1, h2, h3, h4⟩ := XW.sound (c := b) he hd.2 h
      exact ⟨n, x, e', l', H', by simp [execL, he.leval, hc, h1], h2, h3, h4⟩
  | .block id a, e, H, Q, l, he, hd, h => by
    simp only [dstsBelow] at hd
    obtain ⟨n, x, e', l', H', h1, h2, h3, h4⟩ := XW.sound (c := a) he hd h
    cases x with
    | normal => exact ⟨n, .normal, e', l', H', by simp [execL, h1], h2, h3, h4⟩
    | ret => exact ⟨n, .ret, e', l', H', by simp [execL, h1], h2, h3, h4⟩
    | exit j =>
      simp only at h4
      by_cases hj : j = id
      · rw [if_pos hj] at h4
        exact ⟨n, .normal, e', l', H', by simp [execL, h1, hj], h2, h3, h4⟩
      · rw [if_neg hj] at h4
        exact ⟨n, .exit j, e', l', H', by simp [execL, h1, hj], h2, h3, h4⟩
  | .loop keep a, e, H, Q, l, he, hd, h => by
    simp only [dstsBelow] at hd
    obtain ⟨k, h⟩ := h
    have main : ∀ (k : Nat) (e : Env) (H : LHeap) (l0 : List Value), EnvOk e (eraseL keep 0 l0) → l0.length = l.length → LW (XW (callE T) lim a) keep Q k e H →
        ∃ n x e' l' H', loopL (execL (callL T n) n lim a) keep n l0 H = some (x, l', H') ∧ EnvOk e' l' ∧ l'.length = l.length ∧ Q x e' H' := by
      intro k
      induction k with
      | zero => intro e H l0 _ _ h; exact h.elim
      | succ k ih =>
        intro e H l0 he hl h
        obtain ⟨n, x, e', l', H', h1, h2, h3, h4⟩ := XW.sound (c := a) he (by rw [eraseL_length, hl]; exact hd) h
        rw [eraseL_length, hl] at h3
        have up : ∀ n m : Nat, n ≤ m → execL (callL T n) n lim a (eraseL keep 0 l0) H = some (x, l', H') → execL (callL T m) m lim a (eraseL keep 0 l0) H = some (x, l', H') := fun n m hnm q => execL_mono (callL_le T hnm) hnm q
        cases x with
        | normal =>
          obtain ⟨m, x', e'', l'', H'', g1, g2, g3, g4⟩ := ih _ _ l' (h2.restrict keep) h3 h4
          refine ⟨max n m + 1, x', e'', l'', H'', ?_, g2, g3, g4⟩
          simp only [loopL, up n (max n m + 1) (by omega) h1, Option.bind_some]
          exact loopL_mono (fun e H r => execL_mono (callL_le T (by omega)) (by omega)) (by omega) g1
        | exit id => exact ⟨n + 1, .exit id, e', l', H', by simp only [loopL, up n (n + 1) (by omega) h1, Option.bind_some], h2, h3, h4⟩
        | ret => exact ⟨n + 1, .ret, e', l', H', by simp only [loopL, up n (n + 1) (by omega) h1, Option.bind_some], h2, h3, h4⟩
    exact main k _ H l (he.restrict keep) rfl h
  | .exit id, e, H, Q, l, he, hd, h => ⟨0, .exit id, e, l, H, rfl, he, rfl, h⟩
  | .ret, e, H, Q, l, he, hd, h => ⟨0, .ret, e, l, H, rfl, he, rfl, h⟩
end
def resW (e : Env) (H : LHeap) : LRes → Option Value
  | .tmp t => some (look e t)
  | .load1 t => lread H (lev e) (.load1 (.tmp t))
  | .loadN n t => lread H (lev e) (.loadN n (.tmp t))
def resWs (e : Env) (H : LHeap) : List LRes → Option (List Value)
  | [] => some []
  | r :: l => (resW e H r).bind fun v => (resWs e H l).map (v :: ·)
theorem resLs_eq {e : Env} {l : List Value} (h : EnvOk e l) (H : LHeap) : ∀ rs, resLs l H rs = resWs e H rs
  | [] => rfl
  | r :: rs => by
    have : resL l H r = resW e H r := by
      cases r with
      | tmp t => simp only [resL, resW, h t]
      | load1 t => simp [resL, resW, h.leval]
      | loadN n t => simp [resL, resW, h.leval]
    simp only [resLs, resWs, this, resLs_eq h H rs]
/-- What a function's end must bring. -/
def endW (f : LFun) (n : Nat) (Q : Value → LHeap → Prop) (x : LExit) (e : Env) (H : LHeap) : Prop :=
  match x with
  | .exit _ => False
  | _ => OB (resWs e H f.res) fun vs => if f.pop then scalarR (resV vs) = true ∧ Q (resV vs) (H.take n) else Q (resV vs) H
def argEnv (k : Nat) : List Value → Env
  | [] => []
  | v :: l => (k, v) :: argEnv (k + 1) l
theorem look_argEnv : ∀ (l : List Value) (j k : Nat), look (argEnv j l) k = if j ≤ k then l.getD (k - j) undef else undef
  | [], j, k => by simp [argEnv, look]
  | v :: l, j, k => by
    rw [argEnv, look, look_argEnv l (j + 1) k]
    by_cases h : j = k
    · subst h; simp
    · rw [if_neg h]
      by_cases h1 : j + 1 ≤ k
      · rw [if_pos h1, if_pos (by omega), show k - j = (k - (j + 1)) + 1 by omega, List.getD_cons_succ]
      · rw [if_neg h1, if_neg (by omega)]
theorem callE_intro {T : FuncId → Option LFun} {k : FuncId} {f : LFun} (hk : T k = some f) (hi : f.iso = false) {lim : Nat} {args : List Value} {H : LHeap} {Q : Value → LHeap → Prop}
    (hn : args.length ≤ f.n) (hd : dstsBelow f.n f.code = true)
    (h : XW (callE T) (if f.pop then H.length else lim) f.code (argEnv 0 args) H (endW f H.length Q)) : callE T k lim args H Q := by
  have hlen : (args ++ List.replicate (f.n - args.length) undef).length = f.n := by simp; omega
  have henv : EnvOk (argEnv 0 args) (args ++ List.replicate (f.n - args.length) undef) := by
    intro j
    rw [look_argEnv]
    simp only [Nat.zero_le, if_true, Nat.sub_zero, List.getD]
    rw [List.getElem?_append]
    split
    · rfl
    · rename_i hj
      rw [List.getElem?_eq_none (Nat.le_of_not_lt hj), List.getElem?_replicate]
      split <;> rfl
  obtain ⟨n, x, e', l', H', h1, h2, h3, h4⟩ := XW.sound henv (by rw [hlen]; exact hd) h
  have key : ∀ y, x = y → (∀ id, y ≠ .exit id) → callE T k lim args H Q := by
    intro y hy hne
    have h5 : OB (resWs e' H' f.res) fun vs => if f.pop then scalarR (resV vs) = true ∧ Q (resV vs) (H'.take H.length) else Q (resV vs) H' := by
      cases x with
      | exit id => exact absurd hy.symm (hne id)
      | normal => exact h4
      | ret => exact h4
    obtain ⟨vs, g1, g2⟩ := h5
    rw [← resLs_eq h2] at g1
    cases hp : f.pop with
    | true =>
      rw [hp] at g2 h1
      simp only [if_true] at g2 h1
      refine ⟨n + 1, resV vs, H'.take H.length, ?_, g2.2⟩
      rw [callL, hk]
      simp only [hi, Bool.false_eq_true, if_false, runL, hp, if_true, h1, Option.bind_some]
      cases x with
      | exit id => exact absurd hy.symm (hne id)
      | normal => simp [g1, g2.1]
      | ret => simp [g1, g2.1]
    | false =>
      rw [hp] at g2 h1
      simp only [Bool.false_eq_true, if_false] at g2 h1
      refine ⟨n + 1, resV vs, H', ?_, g2⟩
      rw [callL, hk]
      simp only [hi, runL, hp, Bool.false_eq_true, if_false, h1, Option.bind_some]
      cases x with
      | exit id => exact absurd hy.symm (hne id)
      | normal => simp [g1]
      | ret => simp [g1]
  cases x with
  | exit id => exact h4.elim
  | normal => exact key _ rfl (fun id q => by cases q)
  | ret => exact key _ rfl (fun id q => by cases q)
/-- A loop goes on from one told state to the next, each less than the one before. -/
theorem XW_loop {C : CallW} {lim : Nat} {keep : List Tmp} {a : LCode} {e : Env} {H : LHeap} {Q : LExit → Env → LHeap → Prop} {σ : Type} (E : σ → Env) (G : σ → LHeap) (I : σ → Prop) (μ : σ → Nat) (s0 : σ)
    (he : restrict keep e = E s0) (hH : H = G s0) (hI : I s0)
    (mono : ∀ {e H} {Q Q' : LExit → Env → LHeap → Prop}, XW C lim a e H Q → (∀ x e' H', Q x e' H' → Q' x e' H') → XW C lim a e H Q')
    (step : ∀ s, I s → XW C lim a (E s) (G s) fun x e' H' => match x with
      | .normal => ∃ s', restrict keep e' = E s' ∧ H' = G s' ∧ I s' ∧ μ s' < μ s
      | x => Q x e' H') : XW C lim (.loop keep a) e H Q := by
  have main : ∀ n s, μ s < n → I s → LW (XW C lim a) keep Q n (E s) (G s) := by
    intro n
    induction n with
    | zero => intro s h; exact absurd h (Nat.not_lt_zero _)
    | succ n ih =>
      intro s hs hI
      refine mono (step s hI) ?_
      intro x e' H' h
      cases x with
      | normal =>
        obtain ⟨s', h1, h2, h3, h4⟩ := h
        simp only
        rw [h1, h2]
        exact ih s' (by omega) h3
      | exit id => exact h
      | ret => exact h
  exact ⟨μ s0 + 1, by rw [he, hH]; exact main _ s0 (Nat.lt_succ_self _) hI⟩
/-- A function that stands alone: run once and for all. -/
theorem callE_iso {T : FuncId → Option LFun} {k : FuncId} {f : LFun} (hk : T k = some f) (hi : f.iso = true) {lim n : Nat} {args : List Value} {H : LHeap} {v : Value} {K : LHeap}
    (ha : args.all scalar = true) (h : runL (callL T n) n f 0 args [] = some (v, K)) (hs : scalarR v = true) : callE T k lim args H fun v' H' => v' = v ∧ H' = H :=
  ⟨n + 1, v, H, by rw [callL, hk]; simp only [hi, if_true, ha, h, Option.bind_some, hs], rfl, rfl⟩
end Go.LK
