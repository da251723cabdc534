/- The logical machine's operations, and which operation of the model each stands for. -/
import Derived.Test.YtopjhhcncjleaaaLA
namespace Go.LK
open Go Go.RowKit
set_option linter.unusedVariables false
set_option linter.unusedSimpArgs false

inductive NilK where
  | p | s | m
inductive PureOp where
  | move (x : Operand)
  | pick (c a b : Operand)
  | build (zero : List Value) (parts : List (Nat × Nat × Operand))
  | nilCheck (x : Operand)
  | fieldAddr (off : Nat) (x : Operand)
  | field (agg : Bool) (off n : Nat) (x : Operand)
  | idxArr (len size : Nat) (x i : Operand)
  | idxSl (size : Nat) (x i : Operand)
  | idxStr (x i : Operand)
  | idxAgg (agg : Bool) (len size : Nat) (x i : Operand)
  | bin (op : BinOp) (x y : Operand)
  | eqB (neg : Bool) (x y : Operand)
  | eqNil (k : NilK) (neg : Bool) (x y : Operand)
  | strOp (op : BinOp) (x y : Operand)
  | eqAgg (ts : List Bool) (neg : Bool) (x y : Operand)
  | not (x : Operand)
  | neg (x : Operand)
  | cpl (x : Operand)
  | conv (k : IntKind) (x : Operand)
  | mkFunc (f : FuncId) (first captured : List Operand)
  | slStr (x : Operand) (lo hi : Option Operand)
  | len (str : Bool) (x : Operand)
  | lenC (n : Nat)
  | minmax (isMax : Bool) (xs : List Operand)
  | extract (x : Operand) (i : Nat)
  | arrPtr (n : Nat) (x : Operand)
inductive NewOp where
  | box (x : Operand)
  | alloc (zero : List Value)
  | mkSlice (size len : Nat) (zeros : List Value) (parts : List (Nat × Nat × Operand))
  | makeSlice (size bytes : Nat) (zero : List Value) (l c : Operand)
  | makeMap
  | s2b (x : Operand)
inductive ReadOp where
  | load1 (x : Operand)
  | loadN (n : Nat) (x : Operand)
  | b2s (x : Operand)
  | lenMap (x : Operand)
  | lookup (ks : Bool) (zero : Value) (ok : Bool) (m k : Operand)
  | slSl (size : Nat) (x : Operand) (lo hi mx : Option Operand)
inductive EffOp where
  | store (n : Nat) (x v : Operand)
  | append (size bytes : Nat) (s x : Operand)
  | copy (size : Nat) (d s : Operand)
  | clear (size : Nat) (zero : List Value) (x : Operand)
  | mapUpdate (ks : Bool) (m k v : Operand)
  | delete (ks : Bool) (m k : Operand)
inductive LOp where
  | pure (p : PureOp)
  | new (n : NewOp)
  | read (r : ReadOp)
  | eff (e : EffOp)

/-! ### what they do -/
def setMany (c : List Value) (o : Nat) : List Value → List Value
  | [] => c
  | v :: vs => setMany (c.set o v) (o + 1) vs
def lfill (cells : List Value) : List (Nat × Nat × Value) → Option (List Value)
  | [] => some cells
  | (off, size, v) :: rest =>
    if v.cells.toList.length = size ∧ off + size ≤ cells.length ∧ noTuple v = true then lfill (setMany cells off v.cells.toList) rest else none
def lpart (agg : Bool) (cs : List Value) (off n : Nat) : Option Value :=
  if agg then (if off + n ≤ cs.length then some (.agg ((cs.drop off).take n).toArray) else none) else cs[off]?
def lbin (op : BinOp) : Value → Value → Option Value
  | .int k a, .int k' b =>
    match op with
    | .shl => if b < 0 then none else some (.int k (k.wrap (a * 2 ^ (min b.toNat k.bits))))
    | .shr => if b < 0 then none else some (.int k (a.fdiv (2 ^ (min b.toNat k.bits))))
    | .add => if k = k' then some (.int k (k.wrap (a + b))) else none
    | .sub => if k = k' then some (.int k (k.wrap (a - b))) else none
    | .mul => if k = k' then some (.int k (k.wrap (a * b))) else none
    | .quo => if k = k' then (if b = 0 then none else some (.int k (k.wrap (a.tdiv b)))) else none
    | .rem => if k = k' then (if b = 0 then none else some (.int k (a.tmod b))) else none
    | .and => if k = k' then some (.int k (k.wrap (BitVec.ofInt k.bits a &&& BitVec.ofInt k.bits b).toNat)) else none
    | .or => if k = k' then some (.int k (k.wrap (BitVec.ofInt k.bits a ||| BitVec.ofInt k.bits b).toNat)) else none
    | .xor => if k = k' then some (.int k (k.wrap (BitVec.ofInt k.bits a ^^^ BitVec.ofInt k.bits b).toNat)) else none
    | .andNot => if k = k' then some (.int k (k.wrap (BitVec.ofInt k.bits a &&& ~~~BitVec.ofInt k.bits b).toNat)) else none
    | .eql => if k = k' then some (.bool (a == b)) else none
    | .neq => if k = k' then some (.bool (a != b)) else none
    | .lss => if k = k' then some (.bool (decide (a < b))) else none
    | .leq => if k = k' then some (.bool (decide (a ≤ b))) else none
    | .gtr => if k = k' then some (.bool (decide (a > b))) else none
    | .geq => if k = k' then some (.bool (decide (a ≥ b))) else none
  | _, _ => none
def isNil : NilK → Value → Option Bool
  | .p, .pointer none => some true
  | .p, .pointer (some _) => some false
  | .s, .slice none 0 0 => some true
  | .s, .slice (some _) _ _ => some false
  | .m, .map none => some true
  | .m, .map (some _) => some false
  | _, _ => none
/-- Are cells alike? For each cell: is it a bool (else it is a number). -/
def leqCells : List Bool → List Value → List Value → Option Bool
  | [], [], [] => some true
  | false :: ts, .int k a :: xs, .int k' b :: ys => if k = k' then (leqCells ts xs ys).map fun r => (a == b) && r else none
  | true :: ts, .bool a :: xs, .bool b :: ys => (leqCells ts xs ys).map fun r => (a == b) && r
  | _, _, _ => none
def lstr (op : BinOp) : Value → Value → Option Value
  | .string a, .string b =>
    match op with
    | .eql => some (.bool (a.toList == b.toList))
    | .neq => some (.bool (!(a.toList == b.toList)))
    | .add => if a.size + b.size ≤ 4611686018427387904 then some (.string (a ++ b)) else none
    | _ => none
  | _, _ => none
def lidx (size len : Nat) (b o : Nat) (i : Int) : Option Value :=
  if 0 ≤ i ∧ i < len then some (.pointer (some ⟨b, o + i.toNat * size, none⟩)) else none
def lbound (v : Option Value) (top dflt : Nat) : Option Nat :=
  match v with
  | none => some dflt
  | some (.int _ i) => if 0 ≤ i ∧ i ≤ top then some i.toNat else none
  | some _ => none
def lminmax (isMax : Bool) (k : IntKind) (x y : Int) : Value := .int k (if isMax then (if y > x then y else x) else (if y < x then y else x))
def lfold (isMax : Bool) : Value → List Value → Option Value
  | v, [] => some v
  | .int k x, .int _ y :: r => lfold isMax (lminmax isMax k x y) r
  | _, _ => none

def lpure (r : Operand → Value) : PureOp → Option Value
  | .move x => some (r x)
  | .pick c a b => match r c with | .bool t => some (if t then r a else r b) | _ => none
  | .build zero parts => (lfill zero (parts.map fun p => (p.1, p.2.1, r p.2.2))).map fun c => .agg c.toArray
  | .nilCheck x => match r x with | .pointer (some a) => some (.pointer (some a)) | _ => none
  | .fieldAddr off x => match r x with | .pointer (some ⟨b, o, none⟩) => some (.pointer (some ⟨b, o + off, none⟩)) | _ => none
  | .field agg off n x => match r x with | .agg cs => lpart agg cs.toList off n | _ => none
  | .idxArr len size x i => match r x, r i with | .pointer (some ⟨b, o, none⟩), .int _ n => lidx size len b o n | _, _ => none
  | .idxSl size x i => match r x, r i with | .slice (some ⟨b, o, none⟩) len _, .int _ n => lidx size len b o n | _, _ => none
  | .idxStr x i => match r x, r i with | .string s, .int _ n => if 0 ≤ n then (s[n.toNat]?).map fun b => .int .u8 b.toNat else none | _, _ => none
  | .idxAgg agg len size x i => match r x, r i with | .agg cs, .int _ n => if 0 ≤ n ∧ n < len then lpart agg cs.toList (n.toNat * size) size else none | _, _ => none
  | .bin op x y => lbin op (r x) (r y)
  | .eqB neg x y => match r x, r y with | .bool a, .bool b => some (.bool (if neg then !(a == b) else a == b)) | _, _ => none
  | .eqNil k neg x y => match isNil k (r x), isNil k (r y) with | some a, some b => if a || b then some (.bool (if neg then !(a && b) else a && b)) else none | _, _ => none
  | .strOp op x y => lstr op (r x) (r y)
  | .eqAgg ts neg x y => match r x, r y with | .agg a, .agg b => (leqCells ts a.toList b.toList).map fun t => .bool (if neg then !t else t) | _, _ => none
  | .not x => match r x with | .bool b => some (.bool (!b)) | _ => none
  | .neg x => match r x with | .int k n => some (.int k (k.wrap (0 - n))) | _ => none
  | .cpl x => match r x with | .int k n => some (.int k (k.wrap (BitVec.ofInt k.bits (if k.signed then -1 else k.max) ^^^ BitVec.ofInt k.bits n).toNat)) | _ => none
  | .conv k x => match r x with | .int _ n => some (.int k (k.wrap n)) | _ => none
  | .mkFunc f first captured => some (.func (.func f) (first.map r).toArray (captured.map r).toArray)
  | .slStr x lo hi =>
    match r x with
    | .string s => match lbound (hi.map r) s.size s.size with
      | none => none
      | some h => match lbound (lo.map r) h 0 with
        | none => none
        | some l => some (.string (s.extract l h))
    | _ => none
  | .len str x => match r x with | .slice _ n _ => if str then none else some (.int .i64 n) | .string s => if str then some (.int .i64 s.size) else none | _ => none
  | .lenC n => some (.int .i64 n)
  | .minmax isMax xs => match xs.map r with | v :: vs => (match v with | .int k n => lfold isMax (.int k n) vs | _ => none) | [] => none
  | .extract x i => match r x with | .tuple vs => if 2 ≤ vs.toList.length then vs.toList[i]? else none | _ => none
  | .arrPtr n x => match r x with | .slice (some ⟨b, o, none⟩) len _ => if n ≤ len ∧ 0 < n then some (.pointer (some ⟨b, o, none⟩)) else none | _ => none

/-- What a new block holds, and the value that names it. -/
def lnew (r : Operand → Value) : NewOp → Option (LObj × (Nat → Value))
  | .box x => if noTuple (r x) = true ∧ (r x).cells.toList.all noTuple = true then some (.row false 0 (r x).cells.toList, fun b => .pointer (some ⟨b, 0, none⟩)) else none
  | .alloc zero => some (.row false 0 zero, fun b => .pointer (some ⟨b, 0, none⟩))
  | .mkSlice size len zeros parts => (lfill zeros (parts.map fun p => (p.1, p.2.1, r p.2.2))).map fun c => (.row false size c, fun b => .slice (some ⟨b, 0, none⟩) len len)
  | .makeSlice size bytes zero l c =>
    match r l, r c with
    | .int _ n, .int _ m => if 0 ≤ n ∧ n ≤ m ∧ bytes * m ≤ 281474976710656 ∧ m ≤ 281474976710656 then
        some (.row false size ((List.range (m.toNat * size)).map fun i => zero.getD (i % size) undef), fun b => .slice (some ⟨b, 0, none⟩) n.toNat m.toNat) else none
    | _, _ => none
  | .makeMap => some (.map [], fun b => .map (some b))
  | .s2b x => match r x with
    | .string s => if s.size ≤ 4611686018427387904 then some (.row false 1 (s.toList.map fun b => .int .u8 b.toNat), fun b => .slice (some ⟨b, 0, none⟩) s.size s.size) else none
    | _ => none

def lcells (H : LHeap) (b o n : Nat) : Option (List Value) :=
  match H[b]? with
  | some (.row _ _ c) => if o + n ≤ c.length then some ((c.drop o).take n) else none
  | _ => none
def bytesOf : List Value → Option (List UInt8)
  | [] => some []
  | .int .u8 n :: r => (bytesOf r).map fun l => UInt8.ofNat n.toNat :: l
  | _ => none
def sameKey : Bool → Value → Value → Option Bool
  | false, .int k a, .int k' b => if k = k' then some (a == b) else none
  | true, .string a, .string b => some (a == b)
  | _, _, _ => none
def lfind (ks : Bool) (k : Value) : List (Value × Value) → Option (Option (Nat × Value))
  | [] => some none
  | (x, v) :: r =>
    match sameKey ks k x with
    | some true => some (some (0, v))
    | some false => (lfind ks k r).map fun q => q.map fun p => (p.1 + 1, p.2)
    | none => none
def lmap (H : LHeap) : Value → Option (List (Value × Value))
  | .map none => some []
  | .map (some b) => match H[b]? with | some (.map es) => some es | _ => none
  | _ => none
def lread (H : LHeap) (r : Operand → Value) : ReadOp → Option Value
  | .load1 x => match r x with
    | .pointer (some ⟨b, o, none⟩) => (match H[b]? with | some (.row _ _ c) => c[o]? | _ => none)
    | _ => none
  | .loadN n x => match r x with
    | .pointer (some ⟨b, o, none⟩) => (lcells H b o n).map fun l => .agg l.toArray
    | _ => none
  | .b2s x => match r x with
    | .slice none _ _ => some (.string .empty)
    | .slice (some ⟨b, o, none⟩) len _ => (lcells H b o len).bind fun l => (bytesOf l).map fun bs => .string ⟨bs.toArray⟩
    | _ => none
  | .lenMap x => (lmap H (r x)).map fun es => .int .i64 es.length
  | .lookup ks zero ok m k => match lmap H (r m) with
    | some es => match lfind ks (r k) es with
      | some q => some (if ok then .tuple #[(q.map (·.2)).getD zero, .bool q.isSome] else (q.map (·.2)).getD zero)
      | none => none
    | none => none
  | .slSl size x lo hi mx =>
    match r x with
    | .slice a len cap =>
      match lbound (mx.map r) cap cap with
      | none => none
      | some m => match lbound (hi.map r) m len with
        | none => none
        | some h => match lbound (lo.map r) h 0 with
          | none => none
          | some l =>
            match a with
            | none => if len = 0 ∧ cap = 0 then some (.slice none 0 0) else none
            | some ⟨b, o, none⟩ => match H[b]? with
              | some (.row ro es _) => if h ≤ len ∧ h ≤ m ∧ (ro = true ∨ es = size) then some (.slice (some ⟨b, if l = m ∧ (ro = true ∨ mx.isSome = true) then o else o + l * size, none⟩) (h - l) (m - l)) else none
              | _ => none
            | _ => none
    | _ => none

def lput (lim : Nat) (H : LHeap) (b o : Nat) (vs : List Value) : Option LHeap :=
  match H[b]? with
  | some (.row false es c) => if o + vs.length ≤ c.length ∧ (lim ≤ b ∨ vs.all scalar = true) ∧ vs.all Value.oneCell' = true then some (H.set b (.row false es (setMany c o vs))) else none
  | _ => none
def lsrc (H : LHeap) (size : Nat) : Value → Option (List Value × Nat)
  | .slice none n _ => if n = 0 then some ([], 0) else none
  | .slice (some ⟨b, o, none⟩) n _ => (lcells H b o (n * size)).map fun l => (l, n)
  | .string s => if size = 1 then some (s.toList.map fun b => .int .u8 b.toNat, s.size) else none
  | _ => none
def lappend (lim : Nat) (H : LHeap) (size bytes : Nat) (s : Value) (news : List Value) (n : Nat) : Option (Value × LHeap) :=
  match s with
  | .slice none l c => if l = 0 ∧ c = 0 then
      if n = 0 then some (.slice none 0 0, H)
      else if n * bytes ≤ 140737488355328 ∧ n ≤ 140737488355328 ∧ 0 < size then some (.slice (some ⟨H.length, 0, none⟩) n n, H ++ [.row false size news]) else none
    else none
  | .slice (some ⟨b, o, none⟩) l c =>
    if l + n ≤ c ∧ 0 < c then (lput lim H b (o + l * size) news).map fun H' => (.slice (some ⟨b, o, none⟩) (l + n) c, H')
    else match H[b]? with
      | some (.row false es cs) =>
        if es = size ∧ o + c * size = cs.length ∧ l ≤ c ∧ (l + n) * bytes ≤ 140737488355328 ∧ l + n ≤ 140737488355328 ∧ 0 < size ∧ lim ≤ b then
          some (.slice (some ⟨H.length, 0, none⟩) (l + n) (l + n), H.set b .dead ++ [.row false size ((cs.drop o).take (l * size) ++ news)]) else none
      | _ => none
  | _ => none
def ldelete (lim : Nat) (H : LHeap) (ks : Bool) (m k : Value) : Option (Value × LHeap) :=
  match m with
  | .map none => some (.tuple #[], H)
  | .map (some b) => match H[b]? with
    | some (.map es) => if lim ≤ b then match lfind ks k es with
      | some (some (i, _)) => some (.tuple #[], H.set b (.map (es.eraseIdx i)))
      | some none => some (.tuple #[], H)
      | none => none
      else none
    | _ => none
  | _ => none
def leff (lim : Nat) (H : LHeap) (r : Operand → Value) : EffOp → Option (Value × LHeap)
  | .store n x v => match r x with
    | .pointer (some ⟨b, o, none⟩) => if (r v).cells.toList.length = n ∧ noTuple (r v) = true then (lput lim H b o (r v).cells.toList).map fun H' => (undef, H') else none
    | _ => none
  | .append size bytes s x => match lsrc H size (r x) with
    | some (news, n) => if news.all Value.oneCell' = true then lappend lim H size bytes (r s) news n else none
    | none => none
  | .copy size d s => match r d, lsrc H size (r s) with
    | .slice none l _, some (_, _) => if l = 0 then some (.int .i64 0, H) else none
    | .slice (some ⟨b, o, none⟩) l _, some (news, n) => (lput lim H b o (news.take (min n l * size))).map fun H' => (.int .i64 (min n l : Nat), H')
    | _, _ => none
  | .clear size zero x => match r x with
    | .slice none _ _ => some (.tuple #[], H)
    | .slice (some ⟨b, o, none⟩) l _ => if l = 0 then some (.tuple #[], H) else (lput lim H b o ((List.range (l * size)).map fun i => zero.getD (i % size) undef)).map fun H' => (.tuple #[], H')
    | _ => none
  | .mapUpdate ks m k v => match r m with
    | .map (some b) => match H[b]? with
      | some (.map es) => if lim ≤ b ∧ scalar (r k) = true ∧ noTuple (r v) = true then match lfind ks (r k) es with
        | some (some (i, _)) => some (undef, H.set b (.map (es.set i (r k, r v))))
        | some none => some (undef, H.set b (.map (es ++ [(r k, r v)])))
        | none => none
        else none
      | _ => none
    | _ => none
  | .delete ks m k => ldelete lim H ks (r m) (r k)

def lop (lim : Nat) (H : LHeap) (r : Operand → Value) : LOp → Option (Value × LHeap)
  | .pure p => (lpure r p).map fun v => (v, H)
  | .new n => (lnew r n).map fun q => (q.2 H.length, H ++ [q.1])
  | .read n => (lread H r n).map fun v => (v, H)
  | .eff e => leff lim H r e

/-! ### which operation of the model -/
def opndOk : Operand → Bool
  | .const v => scalarA v
  | .global _ => false
  | _ => true
def isInt : TypeDesc → Bool
  | .int _ => true
  | _ => false
def aggTy (P : Program) (t : TypeId) : Option Bool :=
  match P.underlying t with
  | some (.struct _) => some true
  | some (.array _ _) => some true
  | some _ => some false
  | none => none
def sizeT (P : Program) (t : TypeId) : Option Nat := (P.info? t).map (·.size)
def zeroT (P : Program) (t : TypeId) : Option (List Value) :=
  match (P.info? t).bind (·.zero) with
  | some z => if z.cells.toList.all scalar && noTuple z then some z.cells.toList else none
  | none => none
def partsS (P : Program) (fs : Array Field) : List (Nat × Operand) → Option (List (Nat × Nat × Operand))
  | [] => some []
  | p :: r => match fs[p.1]? with
    | some f => match sizeT P f.type with
      | some n => (partsS P fs r).map ((f.offset, n, p.2) :: ·)
      | none => none
    | none => none
def partsA (size : Nat) (ps : List (Nat × Operand)) : List (Nat × Nat × Operand) := ps.map fun p => (p.1 * size, size, p.2)
/-- A struct all of whose fields are numbers or bools, one behind the other: which are bools. -/
def flatFields (P : Program) (k : Nat) : List Field → Option (List Bool)
  | [] => some []
  | f :: r => if f.offset = k ∧ f.name ≠ "_" then
      match P.underlying f.type with
      | some (.int _) => (flatFields P (k + 1) r).map (false :: ·)
      | some .bool => (flatFields P (k + 1) r).map (true :: ·)
      | _ => none
    else none
def isIntTy (P : Program) (e : TypeId) : Bool :=
  match P.underlying e with
  | some (.int _) => true
  | _ => false
def compBin (P : Program) (op : BinOp) (t : TypeId) (x y : Operand) : Option PureOp :=
  match P.underlying t with
  | some (.int _) => some (.bin op x y)
  | some .bool => match op with | .eql => some (.eqB false x y) | .neq => some (.eqB true x y) | _ => none
  | some .string => match op with | .eql => some (.strOp .eql x y) | .neq => some (.strOp .neq x y) | .add => some (.strOp .add x y) | _ => none
  | some (.pointer _) => match op with | .eql => some (.eqNil .p false x y) | .neq => some (.eqNil .p true x y) | _ => none
  | some (.slice _) => match op with | .eql => some (.eqNil .s false x y) | .neq => some (.eqNil .s true x y) | _ => none
  | some (.map _ _) => match op with | .eql => some (.eqNil .m false x y) | .neq => some (.eqNil .m true x y) | _ => none
  | some (.struct fs) => if P.stoodInHeld t = false ∧ P.eqGuardType P.depth t = false then
      (match flatFields P 0 fs.toList with
       | some ts => (match op with | .eql => some (.eqAgg ts false x y) | .neq => some (.eqAgg ts true x y) | _ => none)
       | none => none) else none
  | some (.array n e) => if P.eqGuardType P.depth t = false ∧ isIntTy P e = true ∧ sizeT P e = some 1 ∧ n = 2 then
      (match op with | .eql => some (.eqAgg [false, false] false x y) | .neq => some (.eqAgg [false, false] true x y) | _ => none) else none
  | _ => none
def compCall (P : Program) (b : Builtin) (args : List Operand) (ts : List TypeId) : Option LOp :=
  match b, args, ts with
  | .len, [x], [t] => match P.underlying t with
    | some .string => some (.pure (.len true x))
    | some (.slice _) => some (.pure (.len false x))
    | some (.array n _) => some (.pure (.lenC n))
    | some (.map _ _) => some (.read (.lenMap x))
    | _ => none
  | .append, [s, x], [t, u] => match P.underlying t, P.underlying u with
    | some (.slice e), some (.slice e') => match sizeT P e, sizeT P e', (P.info? e).map (·.bytes), zeroT P e with
      | some n, some n', some bt, some z => if n = n' ∧ z.length = n then some (.eff (.append n bt s x)) else none
      | _, _, _, _ => none
    | some (.slice e), some .string => match sizeT P e, (P.info? e).map (·.bytes), zeroT P e with
      | some n, some bt, some z => if n = 1 ∧ z.length = 1 then some (.eff (.append n bt s x)) else none
      | _, _, _ => none
    | _, _ => none
  | .copy, [d, s], [t, _] => match P.underlying t with
    | some (.slice e) => (sizeT P e).map fun n => .eff (.copy n d s)
    | _ => none
  | .clear, [x], [t] => match P.underlying t with
    | some (.slice e) => match sizeT P e, zeroT P e with
      | some n, some z => if z.length = n ∧ 0 < n then some (.eff (.clear n z x)) else none
      | _, _ => none
    | _ => none
  | .delete, [m, k], [t, _] => match P.underlying t with
    | some (.map kt _) => match P.underlying kt with
      | some (.int _) => some (.eff (.delete false m k))
      | some .string => some (.eff (.delete true m k))
      | _ => none
    | _ => none
  | .max, xs, _ => some (.pure (.minmax true xs))
  | .min, xs, _ => some (.pure (.minmax false xs))
  | _, _, _ => none
def compOp' (P : Program) : Op → Option LOp
  | .move x => some (.pure (.move x))
  | .assign x => some (.pure (.move x))
  | .pick c a b => some (.pure (.pick c a b))
  | .alloc e => (zeroT P e).map fun z => .new (.alloc z)
  | .box _ x => some (.new (.box x))
  | .build t ps => match P.underlying t, zeroT P t with
    | some (.struct fs), some z => if fs.toList.all (fun f => (sizeT P f.type).isSome) then (partsS P fs ps.toList).map fun q => .pure (.build z q) else none
    | some (.array _ e), some z => (sizeT P e).map fun n => .pure (.build z (partsA n ps.toList))
    | _, _ => none
  | .buildSlice t len ps => match P.underlying t with
    | some (.slice e) => match sizeT P e, zeroT P e with
      | some n, some z => if z.length = n ∧ 0 < n ∧ len * n ≤ 16777216 then
          some (.new (.mkSlice n len ((List.range (len * n)).map fun i => z.getD (i % n) undef) (partsA n ps.toList))) else none
      | _, _ => none
    | _ => none
  | .load t x => match aggTy P t, sizeT P t with
    | some true, some n => some (.read (.loadN n x))
    | some false, _ => some (.read (.load1 x))
    | _, _ => none
  | .store t x v => (sizeT P t).map fun n => .eff (.store n x v)
  | .nilCheck x => some (.pure (.nilCheck x))
  | .binOp op t x y _ => (compBin P op t x y).map .pure
  | .unOp .not _ x => some (.pure (.not x))
  | .unOp .neg _ x => some (.pure (.neg x))
  | .unOp .xor _ x => some (.pure (.cpl x))
  | .convert s d x => match P.underlying s, P.underlying d with
    | some (.int _), some (.int k) => some (.pure (.conv k x))
    | some .string, some (.slice e) => match P.underlying e with
      | some (.int .u8) => some (.new (.s2b x))
      | _ => none
    | some (.slice e), some .string => match P.underlying e with
      | some (.int .u8) => some (.read (.b2s x))
      | _ => none
    | _, _ => none
  | .sliceToArrayPointer t x => match P.underlying t with
    | some (.array n _) => some (.pure (.arrPtr n x))
    | _ => none
  | .makeFunc (.func f) first captured => some (.pure (.mkFunc f first.toList captured.toList))
  | .makeMap t none => match P.underlying t with
    | some (.map _ _) => some (.new .makeMap)
    | _ => none
  | .makeSlice t l c => match P.underlying t with
    | some (.slice e) => match sizeT P e, zeroT P e, (P.info? e).map (·.bytes) with
      | some n, some z, some bt => if z.length = n ∧ 0 < n then some (.new (.makeSlice n bt z l c)) else none
      | _, _, _ => none
    | _ => none
  | .slice t x lo hi mx => if mx.isSome && hi.isNone then none else match P.underlying t with
    | some .string => if mx.isNone then some (.pure (.slStr x lo hi)) else none
    | some (.slice e) => (sizeT P e).map fun n => .read (.slSl n x lo hi mx)
    | _ => none
  | .fieldAddr s x f => match P.underlying s with
    | some (.struct fs) => match fs[f]? with
      | some fd => match sizeT P fd.type with
        | some n => if 0 < n then some (.pure (.fieldAddr fd.offset x)) else none
        | none => none
      | none => none
    | _ => none
  | .field s x f => match P.underlying s with
    | some (.struct fs) => match fs[f]? with
      | some fd => match aggTy P fd.type, sizeT P fd.type with
        | some g, some n => some (.pure (.field g fd.offset n x))
        | _, _ => none
      | none => none
    | _ => none
  | .indexAddr t x i => match P.underlying t with
    | some (.array len e) => (sizeT P e).map fun n => .pure (.idxArr len n x i)
    | some (.slice e) => (sizeT P e).map fun n => .pure (.idxSl n x i)
    | _ => none
  | .index t x i => match P.underlying t with
    | some (.array len e) => match aggTy P e, sizeT P e with
      | some g, some n => some (.pure (.idxAgg g len n x i))
      | _, _ => none
    | some .string => some (.pure (.idxStr x i))
    | _ => none
  | .lookup t m k ok => match P.underlying t with
    | some (.map kt e) => match P.underlying kt, (P.info? e).bind (·.zero) with
      | some (.int _), some z => if scalarA z then some (.read (.lookup false z ok m k)) else none
      | some .string, some z => if scalarA z then some (.read (.lookup true z ok m k)) else none
      | _, _ => none
    | _ => none
  | .mapUpdate t m k v => match P.underlying t with
    | some (.map kt _) => match P.underlying kt with
      | some (.int _) => some (.eff (.mapUpdate false m k v))
      | some .string => some (.eff (.mapUpdate true m k v))
      | _ => none
    | _ => none
  | .extract x i => some (.pure (.extract x i))
  | .call { callee := .builtin b, args, argTypes } => compCall P b args.toList argTypes.toList
  | _ => none
def compOp (P : Program) (op : Op) : Option LOp := if op.operands.toList.all opndOk then compOp' P op else none

end Go.LK
