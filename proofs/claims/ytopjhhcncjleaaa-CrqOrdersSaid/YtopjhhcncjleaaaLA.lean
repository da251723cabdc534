/- The logical machine: a heap of numbered blocks, values as the model has them, operations as plain functions that fail instead of panicking; and how a logical state stands to a world. -/
import Derived.WalkKit
import Derived.Orders
import Derived.LoopN
import Derived.Below
namespace Go.LK
open Go Go.RowKit
set_option linter.unusedVariables false
set_option linter.unusedSimpArgs false

/-! ### the logical heap -/
inductive LObj where
  | row (ro : Bool) (es : Nat) (c : List Value)
  | map (es : List (Value × Value))
  | dead
  deriving Inhabited
abbrev LHeap := List LObj

def scalar : Value → Bool
  | .bool _ | .int _ _ | .string _ | .pointer none | .nilFunc | .nilIface | .map none => true
  | .slice none 0 0 => true
  | _ => false
def scalarA : Value → Bool
  | .agg cs => cs.toList.all scalar
  | v => scalar v
def scalarR : Value → Bool
  | .tuple cs => cs.toList.all scalarA
  | v => scalarA v

/-- What stands in the slot of an operation that was passed over. -/
def skipv : Value := .tuple #[.nilIface]
def leval (e : List Value) : Operand → Value
  | .tmp t => e.getD t undef
  | .const v => v
  | .func f => .func (.func f) #[] #[]
  | .global _ => undef

/-! ### places -/
structure Place where
  pb : Nat
  sh : Nat
  ext : Nat
  es : Nat
  ro : Bool
abbrev Inj := Nat → Option Place
def Inj.le (i j : Inj) : Prop := ∀ b p, i b = some p → j b = some p
def Inj.cut (l : Nat) (i : Inj) : Inj := fun b => if b < l then i b else none
def Inj.upd (i : Inj) (b : Nat) (p : Place) : Inj := fun k => if k = b then some p else i k
theorem Inj.le_refl (i : Inj) : i.le i := fun _ _ h => h
theorem Inj.le_trans {i j k : Inj} (h : i.le j) (g : j.le k) : i.le k := fun b p e => g b p (h b p e)
theorem Inj.cut_le (l : Nat) (i : Inj) : (i.cut l).le i := fun b p h => by
  unfold Inj.cut at h; split at h
  · exact h
  · cases h
theorem Inj.cut_mono {i j : Inj} (l : Nat) (h : i.le j) : (i.cut l).le (j.cut l) := fun b p e => by
  unfold Inj.cut at e ⊢
  by_cases hb : b < l
  · rw [if_pos hb] at e ⊢; exact h b p e
  · rw [if_neg hb] at e; cases e
theorem Inj.le_upd {i : Inj} {b : Nat} {p : Place} (h : i b = none) : i.le (i.upd b p) := fun k q e => by
  unfold Inj.upd
  split
  · rename_i hk; subst hk; rw [h] at e; cases e
  · exact e
theorem Inj.upd_self (i : Inj) (b : Nat) (p : Place) : i.upd b p b = some p := by simp [Inj.upd]
theorem Inj.upd_ne (i : Inj) {b k : Nat} (p : Place) (h : k ≠ b) : i.upd b p k = i k := by simp [Inj.upd, h]

/-! ### how values stand to values -/
mutual
inductive VR (i : Inj) : Value → Value → Prop
  | undef (v : Value) : VR i (.tuple #[]) v
  | skip : VR i (.tuple #[.nilIface]) (.tuple #[])
  | bool (b : Bool) : VR i (.bool b) (.bool b)
  | int (k : IntKind) (n : Int) : VR i (.int k n) (.int k n)
  | string (s : ByteArray) : VR i (.string s) (.string s)
  | pnil : VR i (.pointer none) (.pointer none)
  | ptr (b o : Nat) (p : Place) (h : i b = some p) : VR i (.pointer (some ⟨b, o, none⟩)) (.pointer (some ⟨p.pb, p.sh + o, none⟩))
  | snil : VR i (.slice none 0 0) (.slice none 0 0)
  | slice (b o l c o' c' : Nat) (p : Place) (h : i b = some p) (hl : l ≤ c) (hc : c ≤ c') (ho : o' = p.sh + o ∨ (l = 0 ∧ (p.ro = true ∨ c' = 0)))
      (he : p.ro = false → p.es = 0 ∨ o' + c' * p.es ≤ p.sh + p.ext) : VR i (.slice (some ⟨b, o, none⟩) l c) (.slice (some ⟨p.pb, o', none⟩) l c')
  | mnil : VR i (.map none) (.map none)
  | map (b : Nat) (p : Place) (h : i b = some p) : VR i (.map (some b)) (.map (some p.pb))
  | func (f : Fn) (a c a' c' : Array Value) (ha : VRs i a.toList a'.toList) (hc : VRs i c.toList c'.toList) : VR i (.func f a c) (.func f a' c')
  | fnil : VR i .nilFunc .nilFunc
  | inil : VR i .nilIface .nilIface
  | agg (c c' : Array Value) (h : VRs i c.toList c'.toList) : VR i (.agg c) (.agg c')
  | tuple (c c' : Array Value) (h : VRs i c.toList c'.toList) : VR i (.tuple c) (.tuple c')
inductive VRs (i : Inj) : List Value → List Value → Prop
  | nil : VRs i [] []
  | cons {v v' : Value} {l l' : List Value} (h : VR i v v') (t : VRs i l l') : VRs i (v :: l) (v' :: l')
end

mutual
theorem VR.mono {i j : Inj} (hij : i.le j) : ∀ {v v' : Value}, VR i v v' → VR j v v'
  | _, _, .undef v => .undef v
  | _, _, .skip => .skip
  | _, _, .bool b => .bool b
  | _, _, .int k n => .int k n
  | _, _, .string s => .string s
  | _, _, .pnil => .pnil
  | _, _, .ptr b o p h => .ptr b o p (hij _ _ h)
  | _, _, .snil => .snil
  | _, _, .slice b o l c o' c' p h hl hc ho he => .slice b o l c o' c' p (hij _ _ h) hl hc ho he
  | _, _, .mnil => .mnil
  | _, _, .map b p h => .map b p (hij _ _ h)
  | _, _, .func f a c a' c' ha hc => .func f a c a' c' (VRs.mono hij ha) (VRs.mono hij hc)
  | _, _, .fnil => .fnil
  | _, _, .inil => .inil
  | _, _, .agg c c' h => .agg c c' (VRs.mono hij h)
  | _, _, .tuple c c' h => .tuple c c' (VRs.mono hij h)
theorem VRs.mono {i j : Inj} (hij : i.le j) : ∀ {l l' : List Value}, VRs i l l' → VRs j l l'
  | _, _, .nil => .nil
  | _, _, .cons h t => .cons (VR.mono hij h) (VRs.mono hij t)
end

theorem VRs.length {i : Inj} : ∀ {l l' : List Value}, VRs i l l' → l.length = l'.length
  | _, _, .nil => rfl
  | _, _, .cons _ t => by simp [t.length]
theorem VRs.get {i : Inj} : ∀ {l l' : List Value}, VRs i l l' → ∀ {k : Nat} {v : Value}, l[k]? = some v → ∃ v', l'[k]? = some v' ∧ VR i v v'
  | _, _, .nil, k, v, h => by simp at h
  | _, _, .cons (v' := v') h t, 0, v, e => by simp at e; subst e; exact ⟨v', by simp, h⟩
  | _, _, .cons h t, k + 1, v, e => by
    simp only [List.getElem?_cons_succ] at e
    obtain ⟨u, hu, r⟩ := t.get e
    exact ⟨u, by simpa using hu, r⟩
theorem VRs.of_get {i : Inj} : ∀ {l l' : List Value}, l.length = l'.length → (∀ (k : Nat) v v', l[k]? = some v → l'[k]? = some v' → VR i v v') → VRs i l l'
  | [], [], _, _ => .nil
  | [], _ :: _, h, _ => by simp at h
  | _ :: _, [], h, _ => by simp at h
  | a :: l, b :: l', hl, h => .cons (h 0 a b (by simp) (by simp)) (VRs.of_get (by simpa using hl) fun k v v' hv hv' => h (k + 1) v v' (by simpa using hv) (by simpa using hv'))
theorem VRs.append {i : Inj} : ∀ {l l' : List Value}, VRs i l l' → ∀ {m m' : List Value}, VRs i m m' → VRs i (l ++ m) (l' ++ m')
  | _, _, .nil, _, _, h => by simpa using h
  | _, _, .cons h t, _, _, g => .cons h (t.append g)
theorem VRs.getD {i : Inj} {l l' : List Value} (h : VRs i l l') (k : Nat) : VR i (l.getD k undef) (l'.getD k undef) := by
  by_cases hk : k < l.length
  · have hv : l[k]? = some (l.getD k undef) := by simp [List.getD, hk]
    obtain ⟨v', hv', r⟩ := h.get hv
    have : l'.getD k undef = v' := by simp [List.getD, hv']
    rw [this]; exact r
  · have e1 : l.getD k undef = undef := by simp [List.getD, List.getElem?_eq_none (Nat.le_of_not_lt hk)]
    rw [e1]; exact .undef _
theorem VRs.set {i : Inj} : ∀ {l l' : List Value}, VRs i l l' → ∀ (k : Nat) {v v' : Value}, VR i v v' → VRs i (l.set k v) (l'.set k v')
  | _, _, .nil, _, _, _, _ => by simpa using VRs.nil
  | _, _, .cons _ t, 0, _, _, g => by simpa using VRs.cons g t
  | _, _, .cons h t, k + 1, _, _, g => by simpa using VRs.cons h (t.set k g)
theorem VRs.replicate {i : Inj} {v v' : Value} (h : VR i v v') : ∀ n, VRs i (List.replicate n v) (List.replicate n v')
  | 0 => .nil
  | n + 1 => by simpa [List.replicate_succ] using VRs.cons h (VRs.replicate h n)
theorem VRs.take {i : Inj} : ∀ {l l' : List Value}, VRs i l l' → ∀ n, VRs i (l.take n) (l'.take n)
  | _, _, .nil, _ => by simpa using VRs.nil
  | _, _, .cons _ _, 0 => by simpa using VRs.nil
  | _, _, .cons h t, n + 1 => by simpa using VRs.cons h (t.take n)
theorem VRs.drop {i : Inj} : ∀ {l l' : List Value}, VRs i l l' → ∀ n, VRs i (l.drop n) (l'.drop n)
  | _, _, .nil, _ => by simpa using VRs.nil
  | _, _, .cons h t, 0 => by simpa using VRs.cons h t
  | _, _, .cons h t, n + 1 => by simpa using t.drop n

theorem VR.scalar_eq {i : Inj} {v v' : Value} (h : VR i v v') (hs : scalar v = true) : v' = v := by
  cases h <;> simp [scalar] at hs <;> rfl
theorem VR.of_scalar (i : Inj) {v : Value} (hs : scalar v = true) : VR i v v := by
  unfold scalar at hs
  split at hs <;> first | exact .bool _ | exact .int _ _ | exact .string _ | exact .pnil | exact .fnil | exact .inil | exact .mnil | exact .snil | cases hs
theorem VRs.of_scalars (i : Inj) : ∀ {l : List Value}, l.all scalar = true → VRs i l l
  | [], _ => .nil
  | v :: l, h => by
    simp only [List.all_cons, Bool.and_eq_true] at h
    exact .cons (VR.of_scalar i h.1) (VRs.of_scalars i h.2)
theorem VRs.scalars {i j : Inj} : ∀ {l l' : List Value}, VRs i l l' → l.all scalar = true → VRs j l l'
  | _, _, .nil, _ => .nil
  | _, _, .cons h t, hs => by
    simp only [List.all_cons, Bool.and_eq_true] at hs
    exact .cons (by rw [h.scalar_eq hs.1]; exact VR.of_scalar j hs.1) (t.scalars hs.2)
theorem VR.scalarA {i j : Inj} {v v' : Value} (h : VR i v v') (hs : scalarA v = true) : VR j v v' := by
  cases h with
  | agg c c' h => exact .agg _ _ (h.scalars hs)
  | undef => exact .undef _
  | skip => exact .skip
  | bool b => exact .bool b
  | int k n => exact .int k n
  | string s => exact .string s
  | pnil => exact .pnil
  | snil => exact .snil
  | mnil => exact .mnil
  | fnil => exact .fnil
  | inil => exact .inil
  | ptr => simp [LK.scalarA, scalar] at hs
  | slice => simp [LK.scalarA, scalar] at hs
  | map => simp [LK.scalarA, scalar] at hs
  | func => simp [LK.scalarA, scalar] at hs
  | tuple => simp [LK.scalarA, scalar] at hs
theorem VRs.scalarsA {i j : Inj} : ∀ {l l' : List Value}, VRs i l l' → l.all LK.scalarA = true → VRs j l l'
  | _, _, .nil, _ => .nil
  | _, _, .cons h t, hs => by
    simp only [List.all_cons, Bool.and_eq_true] at hs
    exact .cons (h.scalarA hs.1) (t.scalarsA hs.2)
theorem VR.scalarR {i j : Inj} {v v' : Value} (h : VR i v v') (hs : scalarR v = true) : VR j v v' := by
  cases h with
  | tuple c c' h => exact .tuple _ _ (h.scalarsA hs)
  | undef => exact .undef _
  | skip => exact .skip
  | agg c c' h => exact VR.scalarA (.agg c c' h) hs
  | bool b => exact .bool b
  | int k n => exact .int k n
  | string s => exact .string s
  | pnil => exact .pnil
  | snil => exact .snil
  | mnil => exact .mnil
  | fnil => exact .fnil
  | inil => exact .inil
  | ptr => simp [LK.scalarR, LK.scalarA, scalar] at hs
  | slice => simp [LK.scalarR, LK.scalarA, scalar] at hs
  | map => simp [LK.scalarR, LK.scalarA, scalar] at hs
  | func => simp [LK.scalarR, LK.scalarA, scalar] at hs
theorem VR.oneCell {i : Inj} {v v' : Value} (h : VR i v v') (ho : v.oneCell' = true) : v'.oneCell' = true := by
  cases h <;> simp [Value.oneCell'] at ho ⊢
/-- No tuple (and so nothing that stands for whatever it may be). -/
def noTuple : Value → Bool
  | .tuple _ => false
  | _ => true
theorem VR.cells {i : Inj} {v v' : Value} (h : VR i v v') (hn : noTuple v = true) : VRs i v.cells.toList v'.cells.toList := by
  cases h with
  | undef => simp [noTuple] at hn
  | skip => simp [noTuple] at hn
  | tuple => simp [noTuple] at hn
  | agg c c' h => exact h
  | bool b => exact .cons (.bool b) .nil
  | int k n => exact .cons (.int k n) .nil
  | string s => exact .cons (.string s) .nil
  | pnil => exact .cons .pnil .nil
  | ptr b o p h => exact .cons (.ptr b o p h) .nil
  | snil => exact .cons .snil .nil
  | slice b o l c o' c' p h hl hc ho he => exact .cons (.slice b o l c o' c' p h hl hc ho he) .nil
  | mnil => exact .cons .mnil .nil
  | map b p h => exact .cons (.map b p h) .nil
  | func f a c a' c' ha hc => exact .cons (.func f a c a' c' ha hc) .nil
  | fnil => exact .cons .fnil .nil
  | inil => exact .cons .inil .nil

/-! ### how heaps stand to worlds -/
def unfrozen (cs : Array Value) (fz : Nat × Nat) : Prop := ∀ j, j < cs.size → ¬ (fz.1 ≤ j ∧ j < fz.2)
def Holds (i : Inj) (p : Place) (w : World) : LObj → Prop
  | .row ro es c => p.ro = ro ∧ p.es = es ∧ ∃ cs e fz, w.heap[p.pb]? = some (.cells cs e fz) ∧ p.sh + p.ext ≤ cs.size ∧ c.length ≤ p.ext ∧
      (∀ k v, c[k]? = some v → ∃ v', cs[p.sh + k]? = some v' ∧ VR i v v') ∧ (ro = false → unfrozen cs fz)
  | .map es => p.ro = false ∧ (p.sh = 0 ∧ p.ext = 1) ∧ ∃ ms cl, w.heap[p.pb]? = some (.map ms cl) ∧ VRs i (es.map (·.1)) (ms.toList.map (·.key)) ∧ VRs i (es.map (·.2)) (ms.toList.map (·.val))
  | .dead => True
def LObj.live : LObj → Bool
  | .dead => false
  | _ => true
/-- By which of the injections a block's content is told: no block below a limit holds an address from that limit on. -/
def cutAt (L : List Nat) (b : Nat) (i : Inj) : Inj := L.foldr (fun l j => if b < l then j.cut l else j) i
def lmax (L : List Nat) : Nat := L.foldr max 0
structure Rel (B : Nat) (L : List Nat) (i : Inj) (H : LHeap) (w : World) : Prop where
  bound : ∀ b p, i b = some p → b < H.length
  lim_le : lmax L ≤ H.length
  base : B ≤ w.heap.size
  holds : ∀ b p o, i b = some p → H[b]? = some o → Holds (cutAt L b i) p w o
  above : ∀ b p o, i b = some p → H[b]? = some o → o.live = true → p.ro = false → B ≤ p.pb
  apart : ∀ b b' p p' o o', b ≠ b' → i b = some p → i b' = some p' → H[b]? = some o → H[b']? = some o' → o.live = true → o'.live = true → p.ro = false →
    p.pb ≠ p'.pb ∨ p.sh + p.ext ≤ p'.sh ∨ p'.sh + p'.ext ≤ p.sh ∨ p.ext = 0 ∨ p'.ext = 0

/-- What a step of the logical machine, and the steps of the world beside it, keep. -/
structure Next (B : Nat) (i : Inj) (H : LHeap) (w : World) (i' : Inj) (H' : LHeap) (w' : World) : Prop where
  le : i.le i'
  len : H.length ≤ H'.length
  pend : ∀ b, b < H.length → i b = none → i' b = none ∧ H'[b]? = H[b]?
  below : Below B w w'
theorem Next.refl (B : Nat) (i : Inj) (H : LHeap) (w : World) : Next B i H w i H w := ⟨Inj.le_refl i, Nat.le_refl _, fun _ _ h => ⟨h, rfl⟩, Below.refl B w⟩
theorem Next.trans {B : Nat} {i i' i'' : Inj} {H H' H'' : LHeap} {w w' w'' : World} (h : Next B i H w i' H' w') (g : Next B i' H' w' i'' H'' w'') : Next B i H w i'' H'' w'' :=
  ⟨Inj.le_trans h.le g.le, Nat.le_trans h.len g.len, fun b hb hn => by
    obtain ⟨h1, h2⟩ := h.pend b hb hn
    obtain ⟨g1, g2⟩ := g.pend b (Nat.lt_of_lt_of_le hb h.len) h1
    exact ⟨g1, g2.trans h2⟩, h.below.trans g.below⟩

end Go.LK
