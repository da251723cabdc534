/- Slices of rows; slices that a function makes itself and lets grow. -/
import Derived.Test.YtopjhhcncjleaaaLH
namespace Go.LK
open Go Go.RowKit
set_option linter.unusedVariables false
set_option linter.unusedSimpArgs false

theorem flat_len {α : Type} {f : α → List Value} {m : Nat} (hf : ∀ a, (f a).length = m) : ∀ (l : List α), (l.flatMap f).length = l.length * m
  | [] => by simp
  | a :: l => by rw [List.flatMap_cons, List.length_append, hf, flat_len hf l, List.length_cons, Nat.succ_mul]; omega
theorem flat_at {α : Type} {f : α → List Value} {m : Nat} (hf : ∀ a, (f a).length = m) : ∀ (l : List α) (i : Nat) (a : α), l[i]? = some a → ((l.flatMap f).drop (i * m)).take m = f a
  | [], i, a, h => by simp at h
  | x :: l, 0, a, h => by
    simp at h; subst h
    rw [List.flatMap_cons, Nat.zero_mul, List.drop_zero, ← hf x, List.take_left]
  | x :: l, i + 1, a, h => by
    simp at h
    rw [List.flatMap_cons, Nat.succ_mul, Nat.add_comm, ← List.drop_drop, show List.drop m (f x ++ l.flatMap f) = l.flatMap f by rw [← hf x, List.drop_left]]
    exact flat_at hf l i a h
theorem Sl.rows {α : Type} {f : α → List Value} {m : Nat} (hf : ∀ a, (f a).length = m) (hm : 0 < m) {H : LHeap} {a : Option Addr} {l : List α} (h : Sl m H a (l.flatMap f)) (hl : 0 < l.length) :
    ∃ b o, a = some ⟨b, o, none⟩ ∧ b < H.length ∧ ∀ t i x, l[i]? = some x → lcells (H ++ t) b (o + i * m) m = some (f x) := by
  have hlen := flat_len hf l
  rcases h with ⟨rfl, h⟩ | ⟨b, o, ro, es, cc, rfl, h2, h3, h4, h5⟩
  · rw [h] at hlen
    have : 0 < l.length * m := Nat.mul_pos hl hm
    simp at hlen; omega
  · refine ⟨b, o, rfl, (List.getElem?_eq_some_iff.1 h2).1, fun t i x hx => ?_⟩
    have hi : i < l.length := (List.getElem?_eq_some_iff.1 hx).1
    have hle : (i + 1) * m ≤ l.length * m := Nat.mul_le_mul_right _ hi
    rw [Nat.succ_mul] at hle
    simp only [lcells, get_old h2 t]
    rw [if_pos (by omega)]
    have e := flat_at hf l i x hx
    rw [← h4, List.drop_take, List.take_take, List.drop_drop, Nat.min_eq_left (by omega)] at e
    rw [e]

theorem lget_of_lcells {H : LHeap} {b o n j : Nat} {c : List Value} (h : lcells H b o n = some c) (hj : j < n) : lget H b (o + j) = c[j]? := by
  simp only [lcells] at h
  split at h
  · rename_i q
    split at h
    · cases h
      simp only [lget, q]
      rw [List.getElem?_take_of_lt hj, List.getElem?_drop]
    · cases h
  · cases h
theorem Sl.rowsAt {α : Type} {f : α → List Value} {m : Nat} (hf : ∀ a, (f a).length = m) (hm : 0 < m) {H : LHeap} {a : Option Addr} {l : List α} (h : Sl m H a (l.flatMap f)) (hl : 0 < l.length) :
    ∃ b o, a = some ⟨b, o, none⟩ ∧ b < H.length ∧ (∀ t i x, l[i]? = some x → lcells (H ++ t) b (o + i * m) m = some (f x)) ∧ ∀ t i x j, l[i]? = some x → j < m → lget (H ++ t) b (o + i * m + j) = (f x)[j]? := by
  obtain ⟨b, o, h1, h2, h3⟩ := h.rows hf hm hl
  exact ⟨b, o, h1, h2, h3, fun t i x j hx hj => lget_of_lcells (h3 t i x hx) hj⟩
/-- A slice that the function made itself, from a block number on; it is full. -/
def Own (m : Nat) (H : LHeap) (n : Nat) (a : Option Addr) (c : List Value) : Prop :=
  (a = none ∧ c = []) ∨ ∃ b, a = some ⟨b, 0, none⟩ ∧ n ≤ b ∧ H[b]? = some (.row false m c)
theorem Own.nil (m : Nat) (H : LHeap) (n : Nat) : Own m H n none [] := .inl ⟨rfl, rfl⟩
theorem Own.app {m : Nat} {H : LHeap} {n : Nat} {a : Option Addr} {c : List Value} (h : Own m H n a c) (t : LHeap) : Own m (H ++ t) n a c := by
  rcases h with h | ⟨b, h1, h2, h3⟩
  · exact .inl h
  · exact .inr ⟨b, h1, h2, get_old h3 t⟩
theorem Own.sl {m : Nat} {H : LHeap} {n : Nat} {a : Option Addr} {c : List Value} (h : Own m H n a c) : Sl m H a c := by
  rcases h with ⟨rfl, rfl⟩ | ⟨b, rfl, h2, h3⟩
  · exact Sl.nil _ _
  · exact Sl.row h3
theorem Own.fresh {m : Nat} {H : LHeap} {n : Nat} {a : Option Addr} {c : List Value} (h : Own m H n a c) : Fresh n a := by
  rcases h with ⟨rfl, rfl⟩ | ⟨b, rfl, h2, h3⟩
  · exact Fresh.nil _
  · exact Fresh.mk h2
theorem Own.has {m : Nat} {H : LHeap} {n : Nat} {a : Option Addr} {c : List Value} (h : Own m H n a c) (hc : 0 < c.length) : ∃ b, a = some ⟨b, 0, none⟩ ∧ n ≤ b ∧ b < H.length ∧ H[b]? = some (.row false m c) := by
  rcases h with ⟨_, rfl⟩ | ⟨b, h1, h2, h3⟩
  · simp at hc
  · exact ⟨b, h1, h2, (List.getElem?_eq_some_iff.1 h3).1, h3⟩
def killT (n : Nat) (t : LHeap) (a : Option Addr) : LHeap :=
  match a with
  | none => t
  | some x => t.set (x.block - n) .dead
theorem killT_len (n : Nat) (t : LHeap) (a : Option Addr) : (killT n t a).length = t.length := by
  cases a <;> simp [killT]
theorem killT_app {m n : Nat} {H t u : LHeap} {a : Option Addr} {c : List Value} (h : Own m (H ++ t) n a c) (hn : n = H.length) : killT n (t ++ u) a = killT n t a ++ u := by
  subst hn
  rcases h with ⟨rfl, rfl⟩ | ⟨b, rfl, h2, h3⟩
  · rfl
  · have := (List.getElem?_eq_some_iff.1 h3).1
    rw [List.length_append] at this
    simp only [killT]
    rw [List.set_append_left _ _ (by omega)]
theorem Own.grow {m k lim bytes : Nat} {H t : LHeap} {a : Option Addr} {c : List Value} (h : Own m (H ++ t) H.length a c) (hk : c.length = k * m) (hm : 0 < m) (hlim : lim ≤ H.length)
    (hb : (k + 1) * bytes ≤ 140737488355328) (hb2 : k + 1 ≤ 140737488355328) :
    ∀ u news, lappend lim (H ++ (t ++ u)) m bytes (.slice a k k) news 1 =
      some (.slice (some ⟨H.length + (t.length + u.length), 0, none⟩) (k + 1) (k + 1), H ++ (killT H.length t a ++ (u ++ [.row false m (c ++ news)]))) := by
  intro u news
  rcases h with ⟨rfl, rfl⟩ | ⟨b, rfl, h2, h3⟩
  · have hk0 : k = 0 := by
      rcases Nat.mul_eq_zero.1 hk.symm with h | h
      · exact h
      · omega
    subst hk0
    have e1 : (1 : Nat) * bytes ≤ 140737488355328 := by omega
    simp [lappend, killT, e1, hm]
    omega
  · have hb1 : (H ++ (t ++ u))[b]? = some (.row false m c) := by rw [← List.append_assoc]; exact get_old h3 u
    have hbl := (List.getElem?_eq_some_iff.1 h3).1
    rw [List.length_append] at hbl
    have hset : (H ++ (t ++ u)).set b .dead = H ++ (t.set (b - H.length) .dead ++ u) := by
      rw [List.set_append_right _ _ h2, List.set_append_left _ _ (by omega)]
    have hno : ¬ (k + 1 ≤ k ∧ 0 < k) := by omega
    have htk : c.take (k * m) = c := List.take_of_length_le (by omega)
    simp only [lappend, hno, if_false, hb1, hset]
    rw [if_pos ⟨trivial, by omega, by omega, hb, by omega, hm, by omega⟩]
    simp [killT, htk]
theorem Own.grown {m n : Nat} {H t u : LHeap} {c : List Value} (hn : n = H.length) (hu : n ≤ H.length + (t.length + u.length)) (a : Option Addr) :
    Own m (H ++ (killT n t a ++ (u ++ [.row false m c]))) n (some ⟨H.length + (t.length + u.length), 0, none⟩) c := by
  refine .inr ⟨_, rfl, hu, ?_⟩
  rw [get_app]
  rw [List.getElem?_append_right (by rw [killT_len]; omega), killT_len, Nat.add_sub_cancel_left, List.getElem?_append_right (Nat.le_refl _)]
  simp
/-- What stands in another block stands there behind it, too. -/
theorem killT_get {m n : Nat} {H t : LHeap} {a : Option Addr} {c : List Value} {j : Nat} {o : LObj} (h : Own m (H ++ t) n a c) (hn : n = H.length) (hj : t[j]? = some o) (hne : Off (n + j) a) : (killT n t a)[j]? = some o := by
  subst hn
  rcases h with ⟨rfl, rfl⟩ | ⟨b, rfl, h2, h3⟩
  · exact hj
  · simp only [killT]
    have := hne _ rfl
    simp only at this
    rw [List.getElem?_set_ne (by omega)]
    exact hj
theorem Sl.killed {m k n : Nat} {H t u : LHeap} {a b : Option Addr} {c d : List Value} (h : Sl k (H ++ t) b d) (ho : Own m (H ++ t) n a c) (hn : n = H.length) (hoff : ∀ x, a = some x → Off x.block b) : Sl k (H ++ (killT n t a ++ u)) b d := by
  subst hn
  rw [← List.append_assoc]
  refine Sl.app ?_ _
  rcases ho with ⟨rfl, rfl⟩ | ⟨q, rfl, h2, h3⟩
  · exact h
  · simp only [killT]
    have e : H ++ t.set (q - H.length) .dead = (H ++ t).set q .dead := by rw [List.set_append_right _ _ h2]
    rw [e]
    exact h.set_off (hoff _ rfl) _
/-! ### blocks of an older part -/
theorem lget_at {H : LHeap} {b : Nat} {ro : Bool} {es : Nat} {c : List Value} (h : H[b]? = some (.row ro es c)) (o : Nat) : lget H b o = c[o]? := by simp only [lget, h]
theorem get_left {H : LHeap} {b : Nat} (hb : b < H.length) (t : LHeap) : (H ++ t)[b]? = H[b]? := List.getElem?_append_left hb
theorem lget_left {H : LHeap} {b : Nat} (hb : b < H.length) (t : LHeap) (o : Nat) : lget (H ++ t) b o = lget H b o := by simp only [lget, get_left hb]
theorem lcells_left {H : LHeap} {b : Nat} (hb : b < H.length) (t : LHeap) (o n : Nat) : lcells (H ++ t) b o n = lcells H b o n := by simp only [lcells, get_left hb]
theorem set_left {H : LHeap} {b : Nat} (hb : b < H.length) (t : LHeap) (x : LObj) : (H ++ t).set b x = H.set b x ++ t := List.set_append_left _ _ hb
theorem get_set_eq {H : LHeap} {b : Nat} (hb : b < H.length) (x : LObj) : (H.set b x)[b]? = some x := List.getElem?_set_self hb
theorem get_set_ne {H : LHeap} {b c : Nat} (h : b ≠ c) (x : LObj) : (H.set b x)[c]? = H[c]? := List.getElem?_set_ne h
theorem lget_set_eq {H : LHeap} {b : Nat} (hb : b < H.length) (ro : Bool) (es : Nat) (c : List Value) (o : Nat) : lget (H.set b (.row ro es c)) b o = c[o]? := by simp only [lget, get_set_eq hb]
theorem lget_set_ne {H : LHeap} {b c : Nat} (h : b ≠ c) (x : LObj) (o : Nat) : lget (H.set b x) c o = lget H c o := by simp only [lget, get_set_ne h]
theorem lcells_set_ne {H : LHeap} {b c : Nat} (h : b ≠ c) (x : LObj) (o n : Nat) : lcells (H.set b x) c o n = lcells H c o n := by simp only [lcells, get_set_ne h]
theorem set_same {H : LHeap} {b : Nat} {x : LObj} (h : H[b]? = some x) : H.set b x = H := by
  apply List.ext_getElem?
  intro j
  by_cases e : b = j
  · subst e
    rw [List.getElem?_set_self (List.getElem?_eq_some_iff.1 h).1, h]
  · rw [List.getElem?_set_ne e]
/-- What stands in one block says nothing on the others. -/
theorem box_ne {H t : LHeap} {b : Nat} (h : b ≠ H.length) (x y : LObj) : (H ++ x :: t)[b]? = (H ++ y :: t)[b]? := by
  have e : (H ++ x :: t).set H.length y = H ++ y :: t := by simp
  rw [← e, get_set_ne (fun q => h q.symm)]
theorem take_left {H : LHeap} {n : Nat} (hn : n = H.length) (t : LHeap) : (H ++ t).take n = H := by subst hn; simp
def rowsOf (H : LHeap) (b : Nat) : Option Nat :=
  match H[b]? with
  | some (.row false e _) => some e
  | _ => none
theorem lslice_row {H : LHeap} {b o es n cap : Nat} {k k' : IntKind} {lo hi : Int} (hb : rowsOf H b = some es) (h0 : 0 ≤ lo) (h1 : lo ≤ hi) (h2 : hi ≤ n) (h3 : n ≤ cap) :
    lslice H es (.slice (some ⟨b, o, none⟩) n cap) (some (.int k lo)) (some (.int k' hi)) none = some (.slice (some ⟨b, o + lo.toNat * es, none⟩) (hi.toNat - lo.toNat) (cap - lo.toNat)) := by
  have e1 : 0 ≤ hi ∧ hi ≤ (cap : Int) := by omega
  have e2 : 0 ≤ lo ∧ lo ≤ ((hi.toNat : Nat) : Int) := by omega
  have e3 : hi.toNat ≤ n ∧ hi.toNat ≤ cap := by omega
  unfold rowsOf at hb
  split at hb
  · rename_i e c hb'
    cases hb
    simp only [lslice, lbound, e1, e2, and_self, if_true, hb', e3, or_true, Option.isSome_none, Bool.false_eq_true, or_self, and_false, if_false]
  · cases hb
/-! behind an older part that was turned -/
section
variable {X l : LHeap} {n : Nat} (h : X.length = n)
include h
theorem get_app_n (k : Nat) : (X ++ l)[n + k]? = l[k]? := by subst h; exact get_app X l k
theorem get_app_n0 : (X ++ l)[n]? = l[0]? := by subst h; exact get_app0 X l
theorem set_app_n (k : Nat) (x : LObj) : (X ++ l).set (n + k) x = X ++ l.set k x := by subst h; exact set_app X l k x
theorem set_app_n0 (x : LObj) : (X ++ l).set n x = X ++ l.set 0 x := by subst h; exact set_app0 X l x
theorem lget_app_n (k o : Nat) : lget (X ++ l) (n + k) o = lget l k o := by subst h; exact lget_app X l k o
theorem lget_app_n0 (o : Nat) : lget (X ++ l) n o = lget l 0 o := by subst h; exact lget_app0 X l o
theorem lcells_app_n (k o m : Nat) : lcells (X ++ l) (n + k) o m = lcells l k o m := by subst h; exact lcells_app X l k o m
theorem take_app_n : (X ++ l).take n = X := by subst h; exact take_app X l
theorem lcells_app_n0 (o m : Nat) : lcells (X ++ l) n o m = lcells l 0 o m := by subst h; exact lcells_app0 X l o m
end
/-! ### texts as lists of bytes -/
def strV (l : List UInt8) : Value := .string ⟨l.toArray⟩
theorem str_of (s : ByteArray) : Value.string s = strV s.data.toList := by
  cases s with
  | mk d => simp [strV]
theorem str_toList (l : List UInt8) : (⟨l.toArray⟩ : ByteArray).toList = l := by
  rw [ByteArray.toList_eq]
theorem lstr_eql (l m : List UInt8) : lstr .eql (strV l) (strV m) = some (.bool (l == m)) := by
  simp only [strV, lstr, str_toList]
theorem lstr_neq (l m : List UInt8) : lstr .neq (strV l) (strV m) = some (.bool (!(l == m))) := by
  simp only [strV, lstr, str_toList]
theorem str_size (l : List UInt8) : (⟨l.toArray⟩ : ByteArray).size = l.length := by simp [ByteArray.size]
theorem lstr_add {l m : List UInt8} (h : l.length + m.length ≤ 4611686018427387904) : lstr .add (strV l) (strV m) = some (strV (l ++ m)) := by
  simp only [strV, lstr, str_size, h, if_true]
  congr 2
theorem scalar_sv (l : List UInt8) : scalar (strV l) = true := rfl
theorem scalarA_sv (l : List UInt8) : scalarA (strV l) = true := rfl
theorem scalarR_sv (l : List UInt8) : scalarR (strV l) = true := rfl
theorem noTuple_sv (l : List UInt8) : noTuple (strV l) = true := rfl
theorem oneCell_sv (l : List UInt8) : (strV l).oneCell' = true := rfl
theorem cells_sv (l : List UInt8) : cellsL (strV l) = [strV l] := rfl
/-- A byte as a value. -/
def b8 (x : UInt8) : Value := .int .u8 (x.toNat : Int)
theorem bytesOf_b8 : ∀ l : List UInt8, bytesOf (l.map b8) = some l
  | [] => rfl
  | x :: l => by
    show (bytesOf (l.map b8)).map (fun r => UInt8.ofNat ((x.toNat : Int)).toNat :: r) = _
    rw [bytesOf_b8 l, Int.toNat_natCast, UInt8.ofNat_toNat]; rfl
theorem lcells_of {H : LHeap} {b n : Nat} {ro : Bool} {es : Nat} {c : List Value} (h : H[b]? = some (.row ro es c)) (hn : c.length = n) : lcells H b 0 n = some c := by
  subst hn
  simp only [lcells, h, Nat.zero_add, Nat.le_refl, if_true, List.drop_zero, List.take_length]
theorem b8_scalar (l : List UInt8) : (l.map b8).all scalar = true := by simp [b8, scalar]
theorem b8_one (l : List UInt8) : (l.map b8).all Value.oneCell' = true := by simp [b8, Value.oneCell']
theorem lconv_u8_w (x : BitVec 64) : lconv .u8 (w64 x) = some (b8 (UInt8.ofNat x.toNat)) := by
  rw [lconv_w64_u8, b8, UInt8.toNat_ofNat']
theorem scalar_b8 (x : UInt8) : scalar (b8 x) = true := rfl
theorem scalarA_b8 (x : UInt8) : scalarA (b8 x) = true := rfl
theorem scalarR_b8 (x : UInt8) : scalarR (b8 x) = true := rfl
theorem noTuple_b8 (x : UInt8) : noTuple (b8 x) = true := rfl
theorem oneCell_b8 (x : UInt8) : (b8 x).oneCell' = true := rfl
theorem cells_b8 (x : UInt8) : cellsL (b8 x) = [b8 x] := rfl
theorem lconv_b8 (x : UInt8) : lconv .u64 (b8 x) = some (w64 (BitVec.ofNat 64 x.toNat)) := by
  rw [b8, lconv_u64, BitVec.ofInt_natCast]
def llen (str : Bool) : Value → Option Value
  | .slice _ n _ => if str then none else some (.int .i64 n)
  | .string s => if str then some (.int .i64 s.size) else none
  | _ => none
theorem lpure_len (r : Operand → Value) (str : Bool) (x : Operand) : lpure r (.len str x) = llen str (r x) := by
  simp only [lpure]; cases r x <;> rfl
theorem llen_slice (a : Option Addr) (n c : Nat) : llen false (.slice a n c) = some (.int .i64 n) := rfl
theorem llen_str (l : List UInt8) : llen true (strV l) = some (.int .i64 l.length) := by
  show some (Value.int .i64 ((⟨l.toArray⟩ : ByteArray).size : Int)) = _
  rw [str_size]
def lidxs : Value → Value → Option Value
  | .string s, .int _ n => if 0 ≤ n then (s[n.toNat]?).map fun b => .int .u8 b.toNat else none
  | _, _ => none
theorem lpure_idxStr (r : Operand → Value) (x i : Operand) : lpure r (.idxStr x i) = lidxs (r x) (r i) := by
  simp only [lpure]; cases r x <;> rfl
theorem str_get (l : List UInt8) (n : Nat) : (⟨l.toArray⟩ : ByteArray)[n]? = l[n]? := by
  show (if h : _ then _ else _) = _
  split
  · rename_i h
    have h' : n < l.length := by simpa [str_size] using h
    rw [List.getElem?_eq_getElem h']
    rfl
  · rename_i h
    have h' : ¬ n < l.length := by simpa [str_size] using h
    rw [List.getElem?_eq_none (by omega)]
theorem lidxs_str (l : List UInt8) {k : IntKind} {n : Int} (h : 0 ≤ n) : lidxs (strV l) (.int k n) = (l[n.toNat]?).map b8 := by
  show (if 0 ≤ n then ((⟨l.toArray⟩ : ByteArray)[n.toNat]?).map _ else none) = _
  rw [if_pos h, str_get]; rfl
theorem lread_b2s' (H : LHeap) (r : Operand → Value) (x : Operand) : lread H r (.b2s x) = match r x with
    | .slice none _ _ => some (strV [])
    | .slice (some ⟨b, o, none⟩) len _ => (lcells H b o len).bind fun l => (bytesOf l).map fun bs => strV bs
    | _ => none := rfl
def ls2b : Value → Option (LObj × (Nat → Value))
  | .string s => if s.size ≤ 4611686018427387904 then some (.row false 1 (s.toList.map fun b => .int .u8 b.toNat), fun b => .slice (some ⟨b, 0, none⟩) s.size s.size) else none
  | _ => none
theorem lnew_s2b' (r : Operand → Value) (x : Operand) : lnew r (.s2b x) = ls2b (r x) := by
  simp only [lnew]; cases r x <;> rfl
theorem ls2b_str {l : List UInt8} (h : l.length ≤ 4611686018427387904) : ls2b (strV l) = some (.row false 1 (l.map b8), fun b => .slice (some ⟨b, 0, none⟩) l.length l.length) := by
  simp only [ls2b, strV, str_size, str_toList, h, if_true]; rfl
def lsls (v : Value) (lo hi : Option Value) : Option Value :=
  match v with
    | .string s => match lbound hi s.size s.size with
      | none => none
      | some h => match lbound lo h 0 with
        | none => none
        | some l => some (.string (s.extract l h))
    | _ => none
theorem lpure_slStr (r : Operand → Value) (x : Operand) (lo hi : Option Operand) : lpure r (.slStr x lo hi) = lsls (r x) (lo.map r) (hi.map r) := by
  simp only [lpure, lsls]; cases r x <;> rfl
theorem lsls_str (l : List UInt8) (lo hi : Option Value) : lsls (strV l) lo hi = match lbound hi l.length l.length with
      | none => none
      | some h => match lbound lo h 0 with
        | none => none
        | some k => some (strV ((l.drop k).take (h - k))) := by
  simp only [lsls, strV, str_size]
  cases lbound hi l.length l.length with
  | none => rfl
  | some h =>
    simp only
    cases lbound lo h 0 with
    | none => rfl
    | some k =>
      simp only
      congr 2
      apply ByteArray.ext
      simp [ByteArray.data_extract, List.extract_eq_take_drop]
theorem lsrc_str (H : LHeap) (l : List UInt8) : lsrc H 1 (strV l) = some (l.map b8, l.length) := by
  simp only [lsrc, strV, str_size, str_toList, if_true]; rfl
theorem sameKey_int (a b : Int) (k : IntKind) : sameKey false (.int k a) (.int k b) = some (a == b) := by simp [sameKey]
theorem sameKey_w (x y : BitVec 64) : sameKey false (w64 x) (w64 y) = some (x == y) := by
  have : ((x.toNat : Int) == y.toNat) = (x == y) := by
    rw [Bool.eq_iff_iff, beq_iff_eq, beq_iff_eq]
    exact ⟨fun h => BitVec.eq_of_toNat_eq (by omega), fun h => by rw [h]⟩
  simp [sameKey, w64, this]
theorem str_beq (l m : List UInt8) : ((⟨l.toArray⟩ : ByteArray) == ⟨m.toArray⟩) = (l == m) := by
  show (l.toArray == m.toArray) = _
  simp
theorem sameKey_sv (l m : List UInt8) : sameKey true (strV l) (strV m) = some (l == m) := by
  show some ((⟨l.toArray⟩ : ByteArray) == ⟨m.toArray⟩) = _
  rw [str_beq]
theorem sameC_sv (l m : List UInt8) : sameC (strV l) (strV m) = (l == m) := str_beq l m
theorem sameV_sv (l m : List UInt8) : sameV (strV l) (strV m) = (l == m) := str_beq l m
theorem sameC_b8 (x y : UInt8) : sameC (b8 x) (b8 y) = (x == y) := by
  show (IntKind.u8 == IntKind.u8 && ((x.toNat : Int) == y.toNat)) = _
  rw [Bool.eq_iff_iff]
  simp only [BEq.rfl, Bool.true_and, beq_iff_eq]
  exact ⟨fun h => UInt8.toNat_inj.1 (by omega), fun h => by rw [h]⟩
attribute [go_sem ↓] lpure_len lpure_idxStr lread_b2s' lnew_s2b' lpure_slStr
attribute [go_sem] llen_slice llen_str lsls_str lsrc_str sameKey_int sameKey_w sameKey_sv sameC_sv sameV_sv sameC_b8
attribute [go_sem] lstr_eql lstr_neq scalar_sv scalarA_sv scalarR_sv noTuple_sv oneCell_sv cells_sv lconv_u8_w scalar_b8 scalarA_b8 scalarR_b8 noTuple_b8 oneCell_b8 cells_b8 lconv_b8 b8_scalar b8_one bytesOf_b8
end Go.LK
