/- How the logical machine's runs, told backwards, are worked out by simp: one operation after the other, nothing ahead of its turn. -/
import Derived.Test.YtopjhhcncjleaaaLZ
namespace Go.LK
open Go Go.RowKit
set_option linter.unusedVariables false
set_option linter.unusedSimpArgs false
universe u

theorem OB.imp {α : Type} {o : Option α} {Q Q' : α → Prop} (h : OB o Q) (g : ∀ v, Q v → Q' v) : OB o Q' := let ⟨v, a, b⟩ := h; ⟨v, a, g v b⟩
theorem BB.imp {v : Value} {x y x' y' : Prop} (h : BB v x y) (g : x → x') (g' : y → y') : BB v x' y' := Or.imp (And.imp_right g) (And.imp_right g') h
theorem GB.imp {v : Value} {b : Bool} {x y x' y' : Prop} (h : GB v b x y) (g : x → x') (g' : y → y') : GB v b x' y' := Or.imp (And.imp_right g) (And.imp_right g') h
def CallW.Mono (C : CallW) : Prop := ∀ (k : FuncId) (lim : Nat) (args : List Value) (H : LHeap) (Q Q' : Value → LHeap → Prop), C k lim args H Q → (∀ v H', Q v H' → Q' v H') → C k lim args H Q'
theorem callE_mono (T : FuncId → Option LFun) : CallW.Mono (callE T) := fun _ _ _ _ _ _ h g => h.mono g
section
variable {C : CallW} (hC : CallW.Mono C)
include hC
theorem AW.mono {lim : Nat} {a : LAct} {e : Env} {H : LHeap} {Q Q' : Value → LHeap → Prop} (h : AW C lim a e H Q) (g : ∀ v H', Q v H' → Q' v H') : AW C lim a e H Q' := by
  cases a with
  | op o =>
    cases o with
    | pure p => exact OB.imp h fun v => g v _
    | new p => exact OB.imp h fun v => g _ _
    | read p => exact OB.imp h fun v => g v _
    | eff p => exact OB.imp h fun v => g _ _
  | call f args =>
    simp only [AW] at h ⊢
    split at h
    · rename_i hf; exact hC _ _ _ _ _ _ h g
    · exact h.elim
theorem SW.mono {lim : Nat} : ∀ {s : List LStep} {e : Env} {H : LHeap} {Q Q' : Env → LHeap → Prop}, SW C lim s e H Q → (∀ e' H', Q e' H' → Q' e' H') → SW C lim s e H Q'
  | [], _, _, _, _, h, g => g _ _ h
  | .act d a none :: l, e, H, Q, Q', h, g => AW.mono hC (Q := fun v H' => SW C lim l (put e d v) H' Q) h fun v H' h' => SW.mono h' g
  | .act d a (some (gd, b)) :: l, e, H, Q, Q', h, g => GB.imp h (fun h => AW.mono hC (Q := fun v H' => SW C lim l (put e d v) H' Q) h fun v H' h' => SW.mono h' g) (fun h => SW.mono h g)
  | .again d r none :: l, e, H, Q, Q', h, g => OB.imp h fun v => And.imp_right fun h => SW.mono h g
  | .again d r (some (gd, b)) :: l, e, H, Q, Q', h, g => GB.imp h (fun h => OB.imp h fun v => And.imp_right fun h => SW.mono h g) (fun h => SW.mono h g)
omit hC in
theorem LW.mono {body : Env → LHeap → (LExit → Env → LHeap → Prop) → Prop} {keep : List Tmp}
    (hb : ∀ (e : Env) (H : LHeap) (Q Q' : LExit → Env → LHeap → Prop), body e H Q → (∀ x e' H', Q x e' H' → Q' x e' H') → body e H Q') {Q Q' : LExit → Env → LHeap → Prop} (g : ∀ x e' H', Q x e' H' → Q' x e' H') :
    ∀ {n e H}, LW body keep Q n e H → LW body keep Q' n e H
  | 0, _, _, h => h.elim
  | n + 1, e, H, h => hb _ _ _ _ h fun x e' H' h' => by
    cases x with
    | normal => exact LW.mono hb g h'
    | exit id => exact g _ _ _ h'
    | ret => exact g _ _ _ h'
theorem XW.mono {lim : Nat} : ∀ {c : LCode} {e : Env} {H : LHeap} {Q Q' : LExit → Env → LHeap → Prop}, XW C lim c e H Q → (∀ x e' H', Q x e' H' → Q' x e' H') → XW C lim c e H Q'
  | .skip, _, _, _, _, h, g => g _ _ _ h
  | .steps l, _, _, _, _, h, g => SW.mono hC h fun e' H' => g _ e' H'
  | .seq a b, e, H, Q, Q', h, g => XW.mono (c := a) h fun x e' H' h' => by
    cases x with
    | normal => exact XW.mono (c := b) h' g
    | exit id => exact g _ _ _ h'
    | ret => exact g _ _ _ h'
  | .cond c a b, e, H, Q, Q', h, g => BB.imp h (fun h => XW.mono (c := a) h g) (fun h => XW.mono (c := b) h g)
  | .block id a, e, H, Q, Q', h, g => XW.mono (c := a) h fun x e' H' h' => by
    cases x with
    | normal => exact g _ _ _ h'
    | ret => exact g _ _ _ h'
    | exit j =>
      simp only at h' ⊢
      split at h'
      · rename_i hj; rw [if_pos hj]; exact g _ _ _ h'
      · rename_i hj; rw [if_neg hj]; exact g _ _ _ h'
  | .loop keep a, e, H, Q, Q', h, g => let ⟨n, h⟩ := h; ⟨n, LW.mono (body := XW C lim a) (fun _ _ _ _ h g => XW.mono (c := a) h g) g h⟩
  | .exit id, _, _, _, _, h, g => g _ _ _ h
  | .ret, _, _, _, _, h, g => g _ _ _ h
end
/-- A loop goes on from one told state to the next, each less than the one before. -/
theorem loopE {T : FuncId → Option LFun} {lim : Nat} {keep : List Tmp} {a : LCode} {e : Env} {H : LHeap} {Q : LExit → Env → LHeap → Prop} {σ : Type} (E : σ → Env) (G : σ → LHeap) (I : σ → Prop) (μ : σ → Nat) (s0 : σ)
    (he : restrict keep e = E s0) (hH : H = G s0) (hI : I s0)
    (step : ∀ s, I s → XW (callE T) lim a (E s) (G s) fun x e' H' => match x with
      | .normal => ∃ s', restrict keep e' = E s' ∧ H' = G s' ∧ I s' ∧ μ s' < μ s
      | x => Q x e' H') : XW (callE T) lim (.loop keep a) e H Q :=
  XW_loop E G I μ s0 he hH hI (fun h g => XW.mono (callE_mono T) h g) step

/-! ### nothing ahead of its turn -/
/-- A mark upon which what stands behind it hangs, so that simp lets it be. -/
structure Hold {α : Sort u} (a : α) : Type where
def OT {α : Type} (o : Option α) (Q : α → Prop) (_ : Hold Q) : Prop := OB o Q
def BT (v : Value) (x y : Prop) (_ : Hold x) (_ : Hold y) : Prop := BB v x y
def GT (v : Value) (b : Bool) (x y : Prop) (_ : Hold x) (_ : Hold y) : Prop := GB v b x y
def CT (C : CallW) (k lim : Nat) (args : List Value) (H : LHeap) (Q : Value → LHeap → Prop) (_ : Hold Q) : Prop := C k lim args H Q
def LT (C : CallW) (lim : Nat) (keep : List Tmp) (a : LCode) (e : Env) (H : LHeap) (Q : LExit → Env → LHeap → Prop) (_ : Hold Q) (_ : Hold a) : Prop := ∃ n, LW (XW C lim a) keep Q n e H
def PT {α β : Type} (o : Option (α × β)) (Q : α → β → Prop) (_ : Hold Q) : Prop := OB o fun r => Q r.1 r.2
def CV (C : CallW) (lim : Nat) (f : Value) (args : List Value) (H : LHeap) (Q : Value → LHeap → Prop) (_ : Hold Q) : Prop := match f with
  | .func (.func k) first captured => C k lim (first.toList ++ args ++ captured.toList) H Q
  | _ => False
@[congr] theorem CV_congr {C : CallW} {lim lim' : Nat} {f f' : Value} {args args' : List Value} {H H' : LHeap} {Q : Value → LHeap → Prop} {t : Hold Q} (q : f = f') (h : args = args') (g : H = H') (l : lim = lim') : CV C lim f args H Q t = CV C lim' f' args' H' Q t := by rw [q, h, g, l]
theorem CV_func (C : CallW) (lim : Nat) (k : FuncId) (first captured : Array Value) (args : List Value) (H : LHeap) (Q : Value → LHeap → Prop) (t : Hold Q) :
    CV C lim (.func (.func k) first captured) args H Q t = CT C k lim (first.toList ++ args ++ captured.toList) H Q ⟨⟩ := propext Iff.rfl
@[congr] theorem PT_congr {α β : Type} {o o' : Option (α × β)} {Q : α → β → Prop} {t : Hold Q} (h : o = o') : PT o Q t = PT o' Q t := by rw [h]
@[congr] theorem OT_congr {α : Type} {o o' : Option α} {Q : α → Prop} {t : Hold Q} (h : o = o') : OT o Q t = OT o' Q t := by rw [h]
@[congr] theorem BT_congr {v v' : Value} {x y : Prop} {t : Hold x} {t' : Hold y} (h : v = v') : BT v x y t t' = BT v' x y t t' := by rw [h]
@[congr] theorem GT_congr {v v' : Value} {b : Bool} {x y : Prop} {t : Hold x} {t' : Hold y} (h : v = v') : GT v b x y t t' = GT v' b x y t t' := by rw [h]
@[congr] theorem CT_congr {C : CallW} {k lim lim' : Nat} {args args' : List Value} {H H' : LHeap} {Q : Value → LHeap → Prop} {t : Hold Q} (h : args = args') (g : H = H') (l : lim = lim') : CT C k lim args H Q t = CT C k lim' args' H' Q t := by rw [h, g, l]
@[congr] theorem LT_congr {C : CallW} {lim lim' : Nat} {keep : List Tmp} {a : LCode} {e e' : Env} {H H' : LHeap} {Q : LExit → Env → LHeap → Prop} {t : Hold Q} {t' : Hold a} (h : e = e') (g : H = H') (l : lim = lim') : LT C lim keep a e H Q t t' = LT C lim' keep a e' H' Q t t' := by rw [h, g, l]
theorem OT_some {α : Type} (v : α) (Q : α → Prop) (t : Hold Q) : OT (some v) Q t = Q v := propext ⟨fun ⟨u, a, b⟩ => by cases a; exact b, fun h => ⟨v, rfl, h⟩⟩
theorem OT_none {α : Type} (Q : α → Prop) (t : Hold Q) : OT none Q t = False := propext ⟨fun ⟨u, a, b⟩ => (by cases a), fun h => h.elim⟩
theorem OT_ite {α : Type} {c : Prop} [Decidable c] (a : Option α) (Q : α → Prop) (t : Hold Q) : OT (if c then a else none) Q t = (c ∧ OT a Q t) := by
  by_cases h : c
  · simp [h]
  · simp [h, OT_none]
theorem OT_map {α β : Type} (o : Option α) (f : α → β) (Q : β → Prop) (t : Hold Q) : OT (o.map f) Q t = OT o (fun v => Q (f v)) ⟨⟩ :=
  propext ⟨fun ⟨u, a, b⟩ => by
    obtain ⟨w, h1, h2⟩ := Option.map_eq_some_iff.1 a
    exact ⟨w, h1, by show Q (f w); rw [h2]; exact b⟩, fun ⟨u, a, b⟩ => ⟨f u, by rw [a]; rfl, b⟩⟩
theorem PT_some {α β : Type} (v : α) (u : β) (Q : α → β → Prop) (t : Hold Q) : PT (some (v, u)) Q t = Q v u := OT_some (v, u) (fun r => Q r.1 r.2) ⟨⟩
theorem PT_none {α β : Type} (Q : α → β → Prop) (t : Hold Q) : PT none Q t = False := OT_none _ ⟨⟩
theorem PT_ite {α β : Type} {c : Prop} [Decidable c] (a : Option (α × β)) (Q : α → β → Prop) (t : Hold Q) : PT (if c then a else none) Q t = (c ∧ PT a Q t) := by
  by_cases h : c
  · simp [h]
  · simp [h, PT_none]
theorem ite_map {α β : Type} {c : Prop} [Decidable c] (a : Option α) (f : α → β) : (if c then a else none).map f = if c then a.map f else none := by
  by_cases h : c <;> simp [h]
theorem BT_true (x y : Prop) (t : Hold x) (t' : Hold y) : BT (.bool true) x y t t' = x := by simp [BT, BB]
theorem BT_false (x y : Prop) (t : Hold x) (t' : Hold y) : BT (.bool false) x y t t' = y := by simp [BT, BB]
theorem GT_skip (b : Bool) (x y : Prop) (t : Hold x) (t' : Hold y) : GT skipv b x y t t' = y := by simp [GT, GB, skipv]
theorem GT_tt (x y : Prop) (t : Hold x) (t' : Hold y) : GT (.bool true) true x y t t' = x := by simp [GT, GB, skipv]
theorem GT_ft (x y : Prop) (t : Hold x) (t' : Hold y) : GT (.bool false) true x y t t' = y := by simp [GT, GB, skipv]
theorem GT_ff (x y : Prop) (t : Hold x) (t' : Hold y) : GT (.bool false) false x y t t' = x := by simp [GT, GB, skipv]
theorem GT_tf (x y : Prop) (t : Hold x) (t' : Hold y) : GT (.bool true) false x y t t' = y := by simp [GT, GB, skipv]
/-- To tell by cases. -/
theorem BT_intro {b : Bool} {x y : Prop} {t : Hold x} {t' : Hold y} (h : b = true → x) (g : b = false → y) : BT (.bool b) x y t t' := by
  cases b
  · exact Or.inr ⟨rfl, g rfl⟩
  · exact Or.inl ⟨rfl, h rfl⟩
theorem GT_introT {b : Bool} {x y : Prop} {t : Hold x} {t' : Hold y} (h : b = true → x) (g : b = false → y) : GT (.bool b) true x y t t' := by
  cases b
  · exact Or.inr ⟨Or.inl rfl, g rfl⟩
  · exact Or.inl ⟨rfl, h rfl⟩
theorem GT_introF {b : Bool} {x y : Prop} {t : Hold x} {t' : Hold y} (h : b = false → x) (g : b = true → y) : GT (.bool b) false x y t t' := by
  cases b
  · exact Or.inl ⟨rfl, h rfl⟩
  · exact Or.inr ⟨Or.inl rfl, g rfl⟩
/-! by cases, each told as a fact and as a bool -/
section
variable {x y : Prop} {t : Hold x} {t' : Hold y}
theorem BT_dec {p : Prop} [Decidable p] (h : p → x) (g : ¬ p → y) : BT (.bool (decide p)) x y t t' :=
  BT_intro (fun q => h (of_decide_eq_true q)) (fun q => g (of_decide_eq_false q))
theorem GT_decT {p : Prop} [Decidable p] (h : p → x) (g : ¬ p → y) : GT (.bool (decide p)) true x y t t' :=
  GT_introT (fun q => h (of_decide_eq_true q)) (fun q => g (of_decide_eq_false q))
theorem GT_decF {p : Prop} [Decidable p] (h : ¬ p → x) (g : p → y) : GT (.bool (decide p)) false x y t t' :=
  GT_introF (fun q => h (of_decide_eq_false q)) (fun q => g (of_decide_eq_true q))
theorem BT_beq {α : Type} [BEq α] [LawfulBEq α] {a b : α} (h : a = b → x) (g : (a == b) = false → ¬ a = b → y) : BT (.bool (a == b)) x y t t' :=
  BT_intro (fun q => h (eq_of_beq q)) (fun q => g q (fun e => by subst e; simp at q))
theorem GT_beqT {α : Type} [BEq α] [LawfulBEq α] {a b : α} (h : a = b → x) (g : (a == b) = false → ¬ a = b → y) : GT (.bool (a == b)) true x y t t' :=
  GT_introT (fun q => h (eq_of_beq q)) (fun q => g q (fun e => by subst e; simp at q))
theorem GT_beqF {α : Type} [BEq α] [LawfulBEq α] {a b : α} (h : (a == b) = false → ¬ a = b → x) (g : a = b → y) : GT (.bool (a == b)) false x y t t' :=
  GT_introF (fun q => h q (fun e => by subst e; simp at q)) (fun q => g (eq_of_beq q))
theorem bne_true {α : Type} [BEq α] [LawfulBEq α] {a b : α} (q : (a != b) = true) : (a == b) = false ∧ ¬ a = b := by
  have e : (a == b) = false := by simpa [bne] using q
  exact ⟨e, fun e' => by subst e'; simp at e⟩
theorem bne_false {α : Type} [BEq α] [LawfulBEq α] {a b : α} (q : (a != b) = false) : a = b := by
  have e : (a == b) = true := by simpa [bne] using q
  exact eq_of_beq e
theorem BT_bne {α : Type} [BEq α] [LawfulBEq α] {a b : α} (h : (a == b) = false → (a != b) = true → ¬ a = b → x) (g : a = b → y) : BT (.bool (a != b)) x y t t' :=
  BT_intro (fun q => h (bne_true q).1 q (bne_true q).2) (fun q => g (bne_false q))
theorem GT_bneT {α : Type} [BEq α] [LawfulBEq α] {a b : α} (h : (a == b) = false → (a != b) = true → ¬ a = b → x) (g : a = b → y) : GT (.bool (a != b)) true x y t t' :=
  GT_introT (fun q => h (bne_true q).1 q (bne_true q).2) (fun q => g (bne_false q))
theorem GT_bneF {α : Type} [BEq α] [LawfulBEq α] {a b : α} (h : a = b → x) (g : (a == b) = false → (a != b) = true → ¬ a = b → y) : GT (.bool (a != b)) false x y t t' :=
  GT_introF (fun q => h (bne_false q)) (fun q => g (bne_true q).1 q (bne_true q).2)
theorem BT_not {b : Bool} (h : b = false → x) (g : b = true → y) : BT (.bool (!b)) x y t t' :=
  BT_intro (fun q => h (by simpa using q)) (fun q => g (by simpa using q))
theorem GT_notT {b : Bool} (h : b = false → x) (g : b = true → y) : GT (.bool (!b)) true x y t t' :=
  GT_introT (fun q => h (by simpa using q)) (fun q => g (by simpa using q))
theorem GT_notF {b : Bool} (h : b = true → x) (g : b = false → y) : GT (.bool (!b)) false x y t t' :=
  GT_introF (fun q => h (by simpa using q)) (fun q => g (by simpa using q))
end
theorem CT_of {T : FuncId → Option LFun} {k lim : Nat} {args : List Value} {H : LHeap} {Q Q0 : Value → LHeap → Prop} {t : Hold Q} (h : callE T k lim args H Q0) (g : ∀ v H', Q0 v H' → Q v H') : CT (callE T) k lim args H Q t := h.mono g
theorem CT_val {T : FuncId → Option LFun} {k lim : Nat} {args : List Value} {H H0 : LHeap} {v0 : Value} {Q : Value → LHeap → Prop} {t : Hold Q} (h : callE T k lim args H fun v H' => v = v0 ∧ H' = H0) (g : Q v0 H0) : CT (callE T) k lim args H Q t :=
  h.mono fun v H' e => by rw [e.1, e.2]; exact g
theorem CT_heap {T : FuncId → Option LFun} {k lim : Nat} {args : List Value} {H H0 : LHeap} {Q : Value → LHeap → Prop} {t : Hold Q} (h : callE T k lim args H fun v H' => H' = H0) (g : ∀ v, Q v H0) : CT (callE T) k lim args H Q t :=
  h.mono fun v H' e => by rw [e]; exact g v
/-- A loop goes on from one told state to the next, each less than the one before. -/
theorem LT_of {T : FuncId → Option LFun} {lim : Nat} {keep : List Tmp} {a : LCode} {e : Env} {H : LHeap} {Q : LExit → Env → LHeap → Prop} {t : Hold Q} {t' : Hold a} {σ : Type} (E : σ → Env) (G : σ → LHeap) (I : σ → Prop) (μ : σ → Nat) (s0 : σ)
    (he : e = E s0) (hH : H = G s0) (hI : I s0)
    (step : ∀ s, I s → XW (callE T) lim a (E s) (G s) fun x e' H' => match x with
      | .normal => ∃ s', restrict keep e' = E s' ∧ H' = G s' ∧ I s' ∧ μ s' < μ s
      | x => Q x e' H') : LT (callE T) lim keep a e H Q t t' := by
  have main : ∀ n s, μ s < n → I s → LW (XW (callE T) lim a) keep Q n (E s) (G s) := by
    intro n
    induction n with
    | zero => intro s h; exact absurd h (Nat.not_lt_zero _)
    | succ n ih =>
      intro s hs hI
      refine XW.mono (callE_mono T) (step s hI) ?_
      intro x e' H' h
      cases x with
      | normal =>
        obtain ⟨s', h1, h2, h3, h4⟩ := h
        simp only
        rw [h1, h2]
        exact ih s' (by omega) h3
      | exit id => exact h
      | ret => exact h
  exact ⟨μ s0 + 1, by rw [he, hH]; exact main _ s0 (Nat.lt_succ_self _) hI⟩
def seqK (f : Env → LHeap → Prop) (Q : LExit → Env → LHeap → Prop) : LExit → Env → LHeap → Prop
  | .normal, e, H => f e H
  | .exit id, e, H => Q (.exit id) e H
  | .ret, e, H => Q .ret e H
def blockK (id : Nat) (Q : LExit → Env → LHeap → Prop) : LExit → Env → LHeap → Prop
  | .normal, e, H => Q .normal e H
  | .exit j, e, H => if j = id then Q .normal e H else Q (.exit j) e H
  | .ret, e, H => Q .ret e H
section
variable (C : CallW) (lim : Nat) (e : Env) (H : LHeap)
theorem seqK_n (f : Env → LHeap → Prop) (Q : LExit → Env → LHeap → Prop) : seqK f Q .normal e H = f e H := propext Iff.rfl
theorem seqK_e (f : Env → LHeap → Prop) (Q : LExit → Env → LHeap → Prop) (id : Nat) : seqK f Q (.exit id) e H = Q (.exit id) e H := propext Iff.rfl
theorem seqK_r (f : Env → LHeap → Prop) (Q : LExit → Env → LHeap → Prop) : seqK f Q .ret e H = Q .ret e H := propext Iff.rfl
theorem blockK_n (id : Nat) (Q : LExit → Env → LHeap → Prop) : blockK id Q .normal e H = Q .normal e H := propext Iff.rfl
theorem blockK_r (id : Nat) (Q : LExit → Env → LHeap → Prop) : blockK id Q .ret e H = Q .ret e H := propext Iff.rfl
theorem blockK_here (id : Nat) (Q : LExit → Env → LHeap → Prop) : blockK id Q (.exit id) e H = Q .normal e H := by simp [blockK]
theorem blockK_there {id j : Nat} (Q : LExit → Env → LHeap → Prop) (h : j ≠ id) : blockK id Q (.exit j) e H = Q (.exit j) e H := by simp [blockK, h]
theorem SW_nil (Q : Env → LHeap → Prop) : SW C lim [] e H Q = Q e H := propext Iff.rfl
theorem SW_act (d : Tmp) (a : LAct) (l : List LStep) (Q : Env → LHeap → Prop) : SW C lim (.act (some d) a none :: l) e H Q = AW C lim a e H fun v H' => SW C lim l ((d, v) :: e) H' Q := propext Iff.rfl
theorem SW_actn (a : LAct) (l : List LStep) (Q : Env → LHeap → Prop) : SW C lim (.act none a none :: l) e H Q = AW C lim a e H fun v H' => SW C lim l e H' Q := propext Iff.rfl
theorem SW_actg (d : Tmp) (a : LAct) (g : Nat) (b : Bool) (l : List LStep) (Q : Env → LHeap → Prop) : SW C lim (.act (some d) a (some (g, b)) :: l) e H Q = GT (look e g) b (AW C lim a e H fun v H' => SW C lim l ((d, v) :: e) H' Q) (SW C lim l ((d, skipv) :: e) H Q) ⟨⟩ ⟨⟩ := propext Iff.rfl
theorem SW_actgn (a : LAct) (g : Nat) (b : Bool) (l : List LStep) (Q : Env → LHeap → Prop) : SW C lim (.act none a (some (g, b)) :: l) e H Q = GT (look e g) b (AW C lim a e H fun v H' => SW C lim l e H' Q) (SW C lim l e H Q) ⟨⟩ ⟨⟩ := propext Iff.rfl
theorem SW_again (d : Tmp) (r : ReadOp) (l : List LStep) (Q : Env → LHeap → Prop) : SW C lim (.again d r none :: l) e H Q = OT (lread H (lev e) r) (fun v => sameV v (look e d) = true ∧ SW C lim l e H Q) ⟨⟩ := propext Iff.rfl
theorem SW_againg (d : Tmp) (r : ReadOp) (g : Nat) (b : Bool) (l : List LStep) (Q : Env → LHeap → Prop) : SW C lim (.again d r (some (g, b)) :: l) e H Q = GT (look e g) b (OT (lread H (lev e) r) (fun v => sameV v (look e d) = true ∧ SW C lim l e H Q) ⟨⟩) (SW C lim l e H Q) ⟨⟩ ⟨⟩ := propext Iff.rfl
theorem AW_pure (p : PureOp) (Q : Value → LHeap → Prop) : AW C lim (.op (.pure p)) e H Q = OT (lpure (lev e) p) (fun v => Q v H) ⟨⟩ := propext Iff.rfl
theorem AW_new (p : NewOp) (Q : Value → LHeap → Prop) : AW C lim (.op (.new p)) e H Q = PT ((lnew (lev e) p).map fun q => (q.2 H.length, H ++ [q.1])) Q ⟨⟩ := (OT_map (lnew (lev e) p) (fun q => (q.2 H.length, H ++ [q.1])) (fun r => Q r.1 r.2) ⟨⟩).symm
theorem AW_read (p : ReadOp) (Q : Value → LHeap → Prop) : AW C lim (.op (.read p)) e H Q = OT (lread H (lev e) p) (fun v => Q v H) ⟨⟩ := propext Iff.rfl
theorem AW_eff (p : EffOp) (Q : Value → LHeap → Prop) : AW C lim (.op (.eff p)) e H Q = PT (leff lim H (lev e) p) Q ⟨⟩ := propext Iff.rfl
theorem AW_call (f : FuncId) (args : List Operand) (Q : Value → LHeap → Prop) : AW C lim (.call (.func f) args) e H Q = CT C f lim (args.map (lev e)) H Q ⟨⟩ := by simp [AW, lev, CT]
theorem AW_callt (f : Tmp) (args : List Operand) (Q : Value → LHeap → Prop) : AW C lim (.call (.tmp f) args) e H Q = CV C lim (look e f) (args.map (lev e)) H Q ⟨⟩ := by
  simp only [AW, lev, CV]
  generalize look e f = v
  cases v with
  | func fn a b => cases fn <;> rfl
  | _ => rfl
theorem XW_skip (Q : LExit → Env → LHeap → Prop) : XW C lim .skip e H Q = Q .normal e H := propext Iff.rfl
theorem XW_steps (l : List LStep) (Q : LExit → Env → LHeap → Prop) : XW C lim (.steps l) e H Q = SW C lim l e H (Q .normal) := propext Iff.rfl
theorem XW_seq (a b : LCode) (Q : LExit → Env → LHeap → Prop) : XW C lim (.seq a b) e H Q = XW C lim a e H (seqK (fun e' H' => XW C lim b e' H' Q) Q) := by
  rw [XW]; congr 1; funext x e' H'; cases x <;> rfl
theorem XW_cond (c : Operand) (a b : LCode) (Q : LExit → Env → LHeap → Prop) : XW C lim (.cond c a b) e H Q = BT (lev e c) (XW C lim a e H Q) (XW C lim b e H Q) ⟨⟩ ⟨⟩ := propext Iff.rfl
theorem XW_block (id : Nat) (a : LCode) (Q : LExit → Env → LHeap → Prop) : XW C lim (.block id a) e H Q = XW C lim a e H (blockK id Q) := by
  rw [XW]; congr 1; funext x e' H'; cases x <;> rfl
theorem XW_exit (id : Nat) (Q : LExit → Env → LHeap → Prop) : XW C lim (.exit id) e H Q = Q (.exit id) e H := propext Iff.rfl
theorem XW_ret (Q : LExit → Env → LHeap → Prop) : XW C lim .ret e H Q = Q .ret e H := propext Iff.rfl
theorem XW_loop' (keep : List Tmp) (a : LCode) (Q : LExit → Env → LHeap → Prop) : XW C lim (.loop keep a) e H Q = LT C lim keep a (restrict keep e) H Q ⟨⟩ ⟨⟩ := propext Iff.rfl
end
/-- What a function's end must bring. -/
def endX (rs : List LRes) (pop : Bool) (m : Nat) (Q : Value → LHeap → Prop) (e : Env) (H : LHeap) : Prop :=
  OT (resWs e H rs) (fun vs => if pop = true then scalarR (resV vs) = true ∧ Q (resV vs) (H.take m) else Q (resV vs) H) ⟨⟩
def endK (rs : List LRes) (pop : Bool) (m : Nat) (Q : Value → LHeap → Prop) : LExit → Env → LHeap → Prop
  | .exit _, _, _ => False
  | _, e, H => endX rs pop m Q e H
theorem endK_n (rs : List LRes) (pop : Bool) (m : Nat) (Q : Value → LHeap → Prop) (e : Env) (H : LHeap) : endK rs pop m Q .normal e H = endX rs pop m Q e H := propext Iff.rfl
theorem endK_r (rs : List LRes) (pop : Bool) (m : Nat) (Q : Value → LHeap → Prop) (e : Env) (H : LHeap) : endK rs pop m Q .ret e H = endX rs pop m Q e H := propext Iff.rfl
theorem endX_pop (rs : List LRes) (m : Nat) (Q : Value → LHeap → Prop) (e : Env) (H : LHeap) : endX rs true m Q e H = OT ((resWs e H rs).map resV) (fun v => scalarR v = true ∧ Q v (H.take m)) ⟨⟩ := by
  rw [OT_map]; simp [endX]
theorem endX_stay (rs : List LRes) (m : Nat) (Q : Value → LHeap → Prop) (e : Env) (H : LHeap) : endX rs false m Q e H = OT ((resWs e H rs).map resV) (fun v => Q v H) ⟨⟩ := by
  rw [OT_map]; simp [endX]
theorem callE_pop {T : FuncId → Option LFun} {k : FuncId} {n : Nat} {code : LCode} {rs : List LRes} (hk : T k = some ⟨n, code, rs, true, false⟩) {lim : Nat} {args : List Value} {H : LHeap} {Q : Value → LHeap → Prop}
    (hn : args.length ≤ n) (hd : dstsBelow n code = true)
    (h : XW (callE T) H.length code (argEnv 0 args) H (endK rs true H.length Q)) : callE T k lim args H Q := by
  refine callE_intro hk rfl hn hd ?_
  refine XW.mono (callE_mono T) h fun x e' H' h' => ?_
  cases x with
  | exit id => exact h'
  | normal => exact h'
  | ret => exact h'
theorem callE_stay {T : FuncId → Option LFun} {k : FuncId} {n : Nat} {code : LCode} {rs : List LRes} (hk : T k = some ⟨n, code, rs, false, false⟩) {lim : Nat} {args : List Value} {H : LHeap} {Q : Value → LHeap → Prop}
    (hn : args.length ≤ n) (hd : dstsBelow n code = true)
    (h : XW (callE T) lim code (argEnv 0 args) H (endK rs false H.length Q)) : callE T k lim args H Q := by
  refine callE_intro hk rfl hn hd ?_
  refine XW.mono (callE_mono T) h fun x e' H' h' => ?_
  cases x with
  | exit id => exact h'
  | normal => exact h'
  | ret => exact h'
theorem resWs_one (e : Env) (H : LHeap) (r : LRes) : resWs e H [r] = (resW e H r).map fun v => [v] := by
  simp only [resWs]; cases resW e H r <;> rfl
theorem look_here (k : Nat) (v : Value) (l : Env) : look ((k, v) :: l) k = v := by simp [look]
theorem look_there {k j : Nat} (v : Value) (l : Env) (h : k ≠ j) : look ((k, v) :: l) j = look l j := by simp [look, h]
theorem lev_tmp (e : Env) (t : Nat) : lev e (.tmp t) = look e t := rfl
theorem lev_const (e : Env) (v : Value) : lev e (.const v) = v := rfl
theorem lev_func (e : Env) (f : FuncId) : lev e (.func f) = .func (.func f) #[] #[] := rfl
theorem get_app {α : Type} (H l : List α) (k : Nat) : (H ++ l)[H.length + k]? = l[k]? := by rw [List.getElem?_append_right (by omega), Nat.add_sub_cancel_left]
theorem get_app0 {α : Type} (H l : List α) : (H ++ l)[H.length]? = l[0]? := get_app H l 0
theorem set_app {α : Type} (H l : List α) (k : Nat) (v : α) : (H ++ l).set (H.length + k) v = H ++ l.set k v := by rw [List.set_append_right _ _ (by omega), Nat.add_sub_cancel_left]
theorem set_app0 {α : Type} (H l : List α) (v : α) : (H ++ l).set H.length v = H ++ l.set 0 v := set_app H l 0 v
theorem take_app {α : Type} (H l : List α) : (H ++ l).take H.length = H := by simp
theorem get_old {α : Type} {H : List α} {b : Nat} {v : α} (h : H[b]? = some v) (l : List α) : (H ++ l)[b]? = some v := by
  obtain ⟨hb, rfl⟩ := List.getElem?_eq_some_iff.1 h
  rw [List.getElem?_append_left hb]; exact h
attribute [go_sem ↓] XW_seq XW_steps XW_cond XW_block XW_exit XW_ret XW_skip XW_loop' SW_nil SW_act SW_actn SW_actg SW_actgn SW_again SW_againg AW_pure AW_new AW_read AW_eff AW_call AW_callt lev_tmp lev_const lev_func look_here look_there endK_n endK_r endX_pop endX_stay seqK_n seqK_e seqK_r blockK_n blockK_r blockK_here blockK_there
/-- What stands at a place. -/
def lget (H : LHeap) (b o : Nat) : Option Value :=
  match H[b]? with
  | some (.row _ _ c) => c[o]?
  | _ => none
def lgetV (H : LHeap) : Value → Option Value
  | .pointer (some ⟨b, o, none⟩) => lget H b o
  | _ => none
def lcellsV (H : LHeap) (n : Nat) : Value → Option Value
  | .pointer (some ⟨b, o, none⟩) => (lcells H b o n).map fun l => .agg l.toArray
  | _ => none
theorem lread_load1 (H : LHeap) (r : Operand → Value) (x : Operand) : lread H r (.load1 x) = lgetV H (r x) := rfl
theorem lread_loadN (H : LHeap) (r : Operand → Value) (n : Nat) (x : Operand) : lread H r (.loadN n x) = lcellsV H n (r x) := rfl
theorem lread_b2s (H : LHeap) (r : Operand → Value) (x : Operand) : lread H r (.b2s x) = match r x with
    | .slice none _ _ => some (.string .empty)
    | .slice (some ⟨b, o, none⟩) len _ => (lcells H b o len).bind fun l => (bytesOf l).map fun bs => .string ⟨bs.toArray⟩
    | _ => none := rfl
theorem lread_lenMap (H : LHeap) (r : Operand → Value) (x : Operand) : lread H r (.lenMap x) = (lmap H (r x)).map fun es => .int .i64 es.length := rfl
theorem lread_lookup (H : LHeap) (r : Operand → Value) (ks : Bool) (zero : Value) (ok : Bool) (m k : Operand) : lread H r (.lookup ks zero ok m k) = match lmap H (r m) with
    | some es => match lfind ks (r k) es with
      | some q => some (if ok then .tuple #[(q.map (·.2)).getD zero, .bool q.isSome] else (q.map (·.2)).getD zero)
      | none => none
    | none => none := rfl
/-- A slice of a slice. -/
def lslice (H : LHeap) (size : Nat) (v : Value) (lo hi mx : Option Value) : Option Value :=
    match v with
    | .slice a len cap =>
      match lbound mx cap cap with
      | none => none
      | some m => match lbound hi m len with
        | none => none
        | some h => match lbound lo h 0 with
          | none => none
          | some l =>
            match a with
            | none => if len = 0 ∧ cap = 0 then some (.slice none 0 0) else none
            | some ⟨b, o, none⟩ => match H[b]? with
              | some (.row ro es _) => if h ≤ len ∧ h ≤ m ∧ (ro = true ∨ es = size) then some (.slice (some ⟨b, if l = m ∧ (ro = true ∨ mx.isSome = true) then o else o + l * size, none⟩) (h - l) (m - l)) else none
              | _ => none
            | _ => none
    | _ => none
theorem lread_slSl (H : LHeap) (r : Operand → Value) (size : Nat) (x : Operand) (lo hi mx : Option Operand) : lread H r (.slSl size x lo hi mx) = lslice H size (r x) (lo.map r) (hi.map r) (mx.map r) := by
  cases mx <;> rfl
theorem lget_app (H l : LHeap) (k o : Nat) : lget (H ++ l) (H.length + k) o = lget l k o := by simp only [lget, get_app]
theorem lget_app0 (H l : LHeap) (o : Nat) : lget (H ++ l) H.length o = lget l 0 o := by simp only [lget, get_app0]
theorem lget_cons (x : LObj) (l : LHeap) (k o : Nat) : lget (x :: l) (k + 1) o = lget l k o := by simp only [lget, List.getElem?_cons_succ]
theorem lget_row (ro : Bool) (es : Nat) (c : List Value) (l : LHeap) (o : Nat) : lget (.row ro es c :: l) 0 o = c[o]? := by simp only [lget, List.getElem?_cons_zero]
theorem lcells_app (H l : LHeap) (k o n : Nat) : lcells (H ++ l) (H.length + k) o n = lcells l k o n := by simp only [lcells, get_app]
theorem lcells_app0 (H l : LHeap) (o n : Nat) : lcells (H ++ l) H.length o n = lcells l 0 o n := by simp only [lcells, get_app0]
theorem lcells_cons (x : LObj) (l : LHeap) (k o n : Nat) : lcells (x :: l) (k + 1) o n = lcells l k o n := by simp only [lcells, List.getElem?_cons_succ]
theorem lcells_row (ro : Bool) (es : Nat) (c : List Value) (l : LHeap) (o n : Nat) : lcells (.row ro es c :: l) 0 o n = if o + n ≤ c.length then some ((c.drop o).take n) else none := by simp only [lcells, List.getElem?_cons_zero]
attribute [go_sem] lget_app lget_app0 lget_cons lget_row lcells_app lcells_app0 lcells_cons lcells_row lread_load1 lread_loadN lread_lenMap lread_lookup lread_slSl lgetV lcellsV
/-- A value's cells. -/
def cellsL (v : Value) : List Value := v.cells.toList
section
variable (k : IntKind) (n : Int) (b : Bool) (s : ByteArray) (p : Option Addr) (l c : Nat) (cs : Array Value) (q : Option Nat)
theorem cellsL_int : cellsL (.int k n) = [.int k n] := rfl
theorem cellsL_bool : cellsL (.bool b) = [.bool b] := rfl
theorem cellsL_str : cellsL (.string s) = [.string s] := rfl
theorem cellsL_ptr : cellsL (.pointer p) = [.pointer p] := rfl
theorem cellsL_slice : cellsL (.slice p l c) = [.slice p l c] := rfl
theorem cellsL_map : cellsL (.map q) = [.map q] := rfl
theorem cellsL_func (f : Fn) (x y : Array Value) : cellsL (.func f x y) = [.func f x y] := rfl
theorem cellsL_fnil : cellsL .nilFunc = [.nilFunc] := rfl
theorem cellsL_agg : cellsL (.agg cs) = cs.toList := rfl
end
theorem lfill_nil (cells : List Value) : lfill cells [] = some cells := rfl
theorem lfill_cons (cells : List Value) (off size : Nat) (v : Value) (rest : List (Nat × Nat × Value)) : lfill cells ((off, size, v) :: rest) =
    if (cellsL v).length = size ∧ off + size ≤ cells.length ∧ noTuple v = true then lfill (setMany cells off (cellsL v)) rest else none := rfl
theorem lnew_box (r : Operand → Value) (x : Operand) : lnew r (.box x) = if noTuple (r x) = true ∧ (cellsL (r x)).all noTuple = true then some (.row false 0 (cellsL (r x)), fun b => .pointer (some ⟨b, 0, none⟩)) else none := rfl
theorem lnew_alloc (r : Operand → Value) (zero : List Value) : lnew r (.alloc zero) = some (.row false 0 zero, fun b => .pointer (some ⟨b, 0, none⟩)) := rfl
theorem lnew_mkSlice (r : Operand → Value) (size len : Nat) (zeros : List Value) (parts : List (Nat × Nat × Operand)) : lnew r (.mkSlice size len zeros parts) =
    (lfill zeros (parts.map fun p => (p.1, p.2.1, r p.2.2))).map fun c => (.row false size c, fun b => .slice (some ⟨b, 0, none⟩) len len) := rfl
theorem lnew_makeSlice (r : Operand → Value) (size bytes : Nat) (zero : List Value) (l c : Operand) : lnew r (.makeSlice size bytes zero l c) =
    match r l, r c with
    | .int _ n, .int _ m => if 0 ≤ n ∧ n ≤ m ∧ bytes * m ≤ 281474976710656 ∧ m ≤ 281474976710656 then
        some (.row false size ((List.range (m.toNat * size)).map fun i => zero.getD (i % size) undef), fun b => .slice (some ⟨b, 0, none⟩) n.toNat m.toNat) else none
    | _, _ => none := rfl
theorem lnew_makeMap (r : Operand → Value) : lnew r .makeMap = some (.map [], fun b => .map (some b)) := rfl
theorem lnew_s2b (r : Operand → Value) (x : Operand) : lnew r (.s2b x) = match r x with
    | .string s => if s.size ≤ 4611686018427387904 then some (.row false 1 (s.toList.map fun b => .int .u8 b.toNat), fun b => .slice (some ⟨b, 0, none⟩) s.size s.size) else none
    | _ => none := rfl
theorem leff_store (lim : Nat) (H : LHeap) (r : Operand → Value) (n : Nat) (x v : Operand) : leff lim H r (.store n x v) = match r x with
    | .pointer (some ⟨b, o, none⟩) => if (cellsL (r v)).length = n ∧ noTuple (r v) = true then (lput lim H b o (cellsL (r v))).map fun H' => (undef, H') else none
    | _ => none := rfl
theorem leff_append (lim : Nat) (H : LHeap) (r : Operand → Value) (size bytes : Nat) (s x : Operand) : leff lim H r (.append size bytes s x) = match lsrc H size (r x) with
    | some (news, n) => if news.all Value.oneCell' = true then lappend lim H size bytes (r s) news n else none
    | none => none := rfl
theorem leff_copy (lim : Nat) (H : LHeap) (r : Operand → Value) (size : Nat) (d s : Operand) : leff lim H r (.copy size d s) = match r d, lsrc H size (r s) with
    | .slice none l _, some (_, _) => if l = 0 then some (.int .i64 0, H) else none
    | .slice (some ⟨b, o, none⟩) l _, some (news, n) => (lput lim H b o (news.take (min n l * size))).map fun H' => (.int .i64 (min n l : Nat), H')
    | _, _ => none := rfl
theorem leff_clear (lim : Nat) (H : LHeap) (r : Operand → Value) (size : Nat) (zero : List Value) (x : Operand) : leff lim H r (.clear size zero x) = match r x with
    | .slice none _ _ => some (.tuple #[], H)
    | .slice (some ⟨b, o, none⟩) l _ => if l = 0 then some (.tuple #[], H) else (lput lim H b o ((List.range (l * size)).map fun i => zero.getD (i % size) undef)).map fun H' => (.tuple #[], H')
    | _ => none := rfl
theorem leff_mapUpdate (lim : Nat) (H : LHeap) (r : Operand → Value) (ks : Bool) (m k v : Operand) : leff lim H r (.mapUpdate ks m k v) = match r m with
    | .map (some b) => match H[b]? with
      | some (.map es) => if lim ≤ b ∧ scalar (r k) = true ∧ noTuple (r v) = true then match lfind ks (r k) es with
        | some (some (i, _)) => some (undef, H.set b (.map (es.set i (r k, r v))))
        | some none => some (undef, H.set b (.map (es ++ [(r k, r v)])))
        | none => none
        else none
      | _ => none
    | _ => none := rfl
theorem leff_delete (lim : Nat) (H : LHeap) (r : Operand → Value) (ks : Bool) (m k : Operand) : leff lim H r (.delete ks m k) = ldelete lim H ks (r m) (r k) := rfl
theorem lappend_nil (lim : Nat) (H : LHeap) (size bytes : Nat) (news : List Value) (n : Nat) : lappend lim H size bytes (.slice none 0 0) news n =
    if n = 0 then some (.slice none 0 0, H)
    else if n * bytes ≤ 140737488355328 ∧ n ≤ 140737488355328 ∧ 0 < size then some (.slice (some ⟨H.length, 0, none⟩) n n, H ++ [.row false size news]) else none := rfl
theorem lappend_some (lim : Nat) (H : LHeap) (size bytes : Nat) (b o l c : Nat) (news : List Value) (n : Nat) : lappend lim H size bytes (.slice (some ⟨b, o, none⟩) l c) news n =
    if l + n ≤ c ∧ 0 < c then (lput lim H b (o + l * size) news).map fun H' => (.slice (some ⟨b, o, none⟩) (l + n) c, H')
    else match H[b]? with
      | some (.row false es cs) =>
        if es = size ∧ o + c * size = cs.length ∧ l ≤ c ∧ (l + n) * bytes ≤ 140737488355328 ∧ l + n ≤ 140737488355328 ∧ 0 < size ∧ lim ≤ b then
          some (.slice (some ⟨H.length, 0, none⟩) (l + n) (l + n), H.set b .dead ++ [.row false size ((cs.drop o).take (l * size) ++ news)]) else none
      | _ => none := rfl
attribute [go_sem] lappend_nil lappend_some cellsL_int cellsL_bool cellsL_str cellsL_ptr cellsL_slice cellsL_map cellsL_func cellsL_fnil cellsL_agg lfill_nil lfill_cons lnew_box lnew_alloc lnew_mkSlice lnew_makeSlice lnew_makeMap leff_store leff_append leff_copy leff_clear leff_mapUpdate leff_delete ldelete
attribute [go_sem] lpure OT_some OT_none OT_ite OT_map PT_some PT_none PT_ite ite_map CV_func List.toList_toArray BT_true BT_false GT_skip GT_tt GT_ft GT_ff GT_tf get_app get_app0 set_app set_app0 take_app
theorem lbin_int (op : BinOp) (k k' : IntKind) (a b : Int) : lbin op (.int k a) (.int k' b) = match op with
    | .shl => if b < 0 then none else some (.int k (k.wrap (a * 2 ^ (min b.toNat k.bits))))
    | .shr => if b < 0 then none else some (.int k (a.fdiv (2 ^ (min b.toNat k.bits))))
    | .add => if k = k' then some (.int k (k.wrap (a + b))) else none
    | .sub => if k = k' then some (.int k (k.wrap (a - b))) else none
    | .mul => if k = k' then some (.int k (k.wrap (a * b))) else none
    | .quo => if k = k' then (if b = 0 then none else some (.int k (k.wrap (a.tdiv b)))) else none
    | .rem => if k = k' then (if b = 0 then none else some (.int k (a.tmod b))) else none
    | .and => if k = k' then some (.int k (k.wrap (BitVec.ofInt k.bits a &&& BitVec.ofInt k.bits b).toNat)) else none
    | .or => if k = k' then some (.int k (k.wrap (BitVec.ofInt k.bits a ||| BitVec.ofInt k.bits b).toNat)) else none
    | .xor => if k = k' then some (.int k (k.wrap (BitVec.ofInt k.bits a ^^^ BitVec.ofInt k.bits b).toNat)) else none
    | .andNot => if k = k' then some (.int k (k.wrap (BitVec.ofInt k.bits a &&& ~~~BitVec.ofInt k.bits b).toNat)) else none
    | .eql => if k = k' then some (.bool (a == b)) else none
    | .neq => if k = k' then some (.bool (a != b)) else none
    | .lss => if k = k' then some (.bool (decide (a < b))) else none
    | .leq => if k = k' then some (.bool (decide (a ≤ b))) else none
    | .gtr => if k = k' then some (.bool (decide (a > b))) else none
    | .geq => if k = k' then some (.bool (decide (a ≥ b))) else none := by cases op <;> rfl
section
variable (k : IntKind) (n : Int) (b : Bool) (s : ByteArray) (a : Addr) (l c : Nat) (cs : Array Value)
theorem scalar_int : scalar (.int k n) = true := rfl
theorem scalar_bool : scalar (.bool b) = true := rfl
theorem scalar_str : scalar (.string s) = true := rfl
theorem scalar_pnil : scalar (.pointer none) = true := rfl
theorem scalar_ptr : scalar (.pointer (some a)) = false := rfl
theorem scalar_snil : scalar (.slice none 0 0) = true := rfl
theorem scalar_slice : scalar (.slice (some a) l c) = false := rfl
theorem scalar_agg : scalar (.agg cs) = false := rfl
theorem scalar_tuple : scalar (.tuple cs) = false := rfl
theorem scalar_func (f : Fn) (x y : Array Value) : scalar (.func f x y) = false := rfl
theorem scalar_map (m : Nat) : scalar (.map (some m)) = false := rfl
theorem scalarA_int : scalarA (.int k n) = true := rfl
theorem scalarA_bool : scalarA (.bool b) = true := rfl
theorem scalarA_str : scalarA (.string s) = true := rfl
theorem scalarA_pnil : scalarA (.pointer none) = true := rfl
theorem scalarA_snil : scalarA (.slice none 0 0) = true := rfl
theorem scalarA_agg : scalarA (.agg cs) = cs.toList.all scalar := rfl
theorem scalarR_int : scalarR (.int k n) = true := rfl
theorem scalarR_bool : scalarR (.bool b) = true := rfl
theorem scalarR_str : scalarR (.string s) = true := rfl
theorem scalarR_pnil : scalarR (.pointer none) = true := rfl
theorem scalarR_snil : scalarR (.slice none 0 0) = true := rfl
theorem scalarR_agg : scalarR (.agg cs) = cs.toList.all scalar := rfl
theorem scalarR_tuple : scalarR (.tuple cs) = cs.toList.all scalarA := rfl
theorem noTuple_int : noTuple (.int k n) = true := rfl
theorem noTuple_bool : noTuple (.bool b) = true := rfl
theorem noTuple_str : noTuple (.string s) = true := rfl
theorem noTuple_ptr (p : Option Addr) : noTuple (.pointer p) = true := rfl
theorem noTuple_slice (p : Option Addr) : noTuple (.slice p l c) = true := rfl
theorem noTuple_agg : noTuple (.agg cs) = true := rfl
theorem noTuple_func (f : Fn) (x y : Array Value) : noTuple (.func f x y) = true := rfl
theorem noTuple_map (m : Option Nat) : noTuple (.map m) = true := rfl
theorem noTuple_tuple : noTuple (.tuple cs) = false := rfl
theorem oneCell_int : (Value.int k n).oneCell' = true := rfl
theorem oneCell_bool : (Value.bool b).oneCell' = true := rfl
theorem oneCell_str : (Value.string s).oneCell' = true := rfl
theorem oneCell_ptr (p : Option Addr) : (Value.pointer p).oneCell' = true := rfl
theorem oneCell_slice (p : Option Addr) : (Value.slice p l c).oneCell' = true := rfl
theorem oneCell_func (f : Fn) (x y : Array Value) : (Value.func f x y).oneCell' = true := rfl
theorem oneCell_map (m : Option Nat) : (Value.map m).oneCell' = true := rfl
theorem oneCell_fnil : Value.nilFunc.oneCell' = true := rfl
theorem noTuple_fnil : noTuple .nilFunc = true := rfl
theorem scalar_fnil : scalar .nilFunc = true := rfl
theorem scalar_mnil : scalar (.map none) = true := rfl
theorem sameC_int (k' : IntKind) (m : Int) : sameC (.int k n) (.int k' m) = (k == k' && n == m) := rfl
theorem sameC_bool (b' : Bool) : sameC (.bool b) (.bool b') = (b == b') := rfl
theorem sameC_str (s' : ByteArray) : sameC (.string s) (.string s') = (s == s') := rfl
theorem sameC_ptr (p q : Option Addr) : sameC (.pointer p) (.pointer q) = (p == q) := rfl
theorem sameC_slice (p q : Option Addr) (l' c' : Nat) : sameC (.slice p l c) (.slice q l' c') = (p == q && l == l' && c == c') := rfl
theorem sameC_map (p q : Option Nat) : sameC (.map p) (.map q) = (p == q) := rfl
theorem sameC_fnil : sameC .nilFunc .nilFunc = true := rfl
theorem sameV_agg (ds : Array Value) : sameV (.agg cs) (.agg ds) = sameL cs.toList ds.toList := rfl
theorem sameV_tuple (ds : Array Value) : sameV (.tuple cs) (.tuple ds) = sameL cs.toList ds.toList := rfl
theorem sameV_int (k' : IntKind) (m : Int) : sameV (.int k n) (.int k' m) = (k == k' && n == m) := rfl
theorem sameV_bool (b' : Bool) : sameV (.bool b) (.bool b') = (b == b') := rfl
theorem sameV_str (s' : ByteArray) : sameV (.string s) (.string s') = (s == s') := rfl
theorem sameV_ptr (p q : Option Addr) : sameV (.pointer p) (.pointer q) = (p == q) := rfl
theorem sameV_slice (p q : Option Addr) (l' c' : Nat) : sameV (.slice p l c) (.slice q l' c') = (p == q && l == l' && c == c') := rfl
theorem sameV_map (p q : Option Nat) : sameV (.map p) (.map q) = (p == q) := rfl
theorem sameV_fnil : sameV .nilFunc .nilFunc = true := rfl
end
attribute [go_sem] scalar_int scalar_bool scalar_str scalar_pnil scalar_ptr scalar_snil scalar_slice scalar_agg scalar_tuple scalar_func scalar_map scalarA_int scalarA_bool scalarA_str scalarA_pnil scalarA_snil scalarA_agg scalarR_int scalarR_bool scalarR_str scalarR_pnil scalarR_snil scalarR_agg scalarR_tuple noTuple_int noTuple_bool noTuple_str noTuple_ptr noTuple_slice noTuple_agg noTuple_func noTuple_map noTuple_tuple oneCell_int oneCell_bool oneCell_str oneCell_ptr oneCell_slice oneCell_func oneCell_map oneCell_fnil noTuple_fnil scalar_fnil scalar_mnil sameC_int sameC_bool sameC_str sameC_ptr sameC_slice sameC_map sameC_fnil sameV_agg sameV_tuple sameV_int sameV_bool sameV_str sameV_ptr sameV_slice sameV_map sameV_fnil
attribute [go_sem] restrict lpart lbin_int isNil leqCells lidx lbound lminmax lfold bytesOf lfind lmap lput sameL setMany resWs resWs_one resW resV argEnv
attribute [go_sem] Option.map_some Option.map_none Option.bind_some Option.bind_none List.map_cons List.map_nil List.length_append List.length_cons List.length_nil List.append_assoc List.cons_append List.nil_append List.getElem?_cons_succ List.getElem?_cons_zero List.getElem?_nil List.set_cons_succ List.set_cons_zero List.all_cons List.all_nil List.drop_succ_cons List.drop_zero List.take_succ_cons List.take_zero
theorem pos_succ (n : Nat) : (0 < n + 1) = True := by simp
theorem bne_of_beq {α : Type} [BEq α] (a b : α) : (a != b) = !(a == b) := rfl
theorem bne_self {α : Type} [BEq α] [LawfulBEq α] (a : α) : (a != a) = false := by simp
attribute [go_sem] bne_self pos_succ Nat.le_refl Nat.lt_irrefl Nat.zero_mul Nat.mul_zero Nat.le_add_right_of_le
attribute [go_sem] Bool.and_true Bool.true_and Bool.and_false Bool.false_and Bool.or_true Bool.true_or Bool.or_false Bool.false_or Bool.not_true Bool.not_false and_self true_and and_true false_and and_false or_true true_or or_false false_or not_true_eq_false not_false_eq_true ne_eq if_true if_false decide_true decide_false decide_eq_true_eq decide_eq_false_iff_not gt_iff_lt ge_iff_le Nat.zero_add Nat.add_zero Nat.sub_zero beq_self_eq_true bne_self_eq_false reduceCtorEq Bool.false_eq_true eq_self
end Go.LK
