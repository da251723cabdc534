/- The logical machine's code, calls and loops, and how the model's code is turned into it. -/
import Derived.Test.YtopjhhcncjleaaaLN
namespace Go.LK
open Go Go.RowKit
set_option linter.unusedVariables false
set_option linter.unusedSimpArgs false

inductive LAct where
  | op (o : LOp)
  | call (f : Operand) (args : List Operand)
inductive LStep where
  | act (dst : Option Tmp) (a : LAct) (guard : Option (Tmp × Bool))
  | again (d : Tmp) (r : ReadOp) (guard : Option (Tmp × Bool))
inductive LCode where
  | skip
  | steps (l : List LStep)
  | seq (a b : LCode)
  | cond (c : Operand) (a b : LCode)
  | block (id : Nat) (a : LCode)
  | loop (keep : List Tmp) (a : LCode)
  | exit (id : Nat)
  | ret
inductive LExit where
  | normal
  | exit (id : Nat)
  | ret
inductive LRes where
  | tmp (t : Tmp)
  | load1 (t : Tmp)
  | loadN (n : Nat) (t : Tmp)
structure LFun where
  n : Nat
  code : LCode
  res : List LRes
  pop : Bool
  iso : Bool := false
abbrev CallF := FuncId → Nat → List Value → LHeap → Option (Value × LHeap)

def sameC : Value → Value → Bool
  | .int k a, .int k' b => k == k' && a == b
  | .bool a, .bool b => a == b
  | .string a, .string b => a == b
  | .pointer a, .pointer b => a == b
  | .slice a l c, .slice b l' c' => a == b && l == l' && c == c'
  | .map a, .map b => a == b
  | .nilFunc, .nilFunc => true
  | _, _ => false
def sameL : List Value → List Value → Bool
  | [], [] => true
  | a :: l, b :: m => sameC a b && sameL l m
  | _, _ => false
def sameV : Value → Value → Bool
  | .agg a, .agg b => sameL a.toList b.toList
  | .tuple a, .tuple b => sameL a.toList b.toList
  | a, b => sameC a b

def putL (e : List Value) : Option Tmp → Value → List Value
  | some d, v => e.set d v
  | none, _ => e
def wantG (e : List Value) : Option (Tmp × Bool) → Option Bool
  | none => some true
  | some (g, b) => match e.getD g undef with
    | .bool t => some (t == b)
    | .tuple a => (match a.toList with
      | [.nilIface] => some false
      | _ => none)
    | _ => none
def lcall (cf : CallF) (lim : Nat) (H : LHeap) (f : Value) (args : List Value) : Option (Value × LHeap) :=
  match f with
  | .func (.func k) first captured => cf k lim (first.toList ++ args ++ captured.toList) H
  | _ => none
def actL (cf : CallF) (lim : Nat) (e : List Value) (H : LHeap) : LAct → Option (Value × LHeap)
  | .op o => lop lim H (leval e) o
  | .call f args => lcall cf lim H (leval e f) (args.map (leval e))
def stepL (cf : CallF) (lim : Nat) (e : List Value) (H : LHeap) : LStep → Option (List Value × LHeap)
  | .act d a g => match wantG e g with
    | some true => (actL cf lim e H a).map fun r => (putL e d r.1, r.2)
    | some false => some (putL e d skipv, H)
    | none => none
  | .again d r g => match wantG e g with
    | some true => match lread H (leval e) r with
      | some v => if d < e.length ∧ sameV v (e.getD d undef) = true then some (e, H) else none
      | none => none
    | some false => some (e, H)
    | none => none
def stepsL (cf : CallF) (lim : Nat) (e : List Value) (H : LHeap) : List LStep → Option (List Value × LHeap)
  | [] => some (e, H)
  | s :: l => (stepL cf lim e H s).bind fun r => stepsL cf lim r.1 r.2 l
def eraseL (keep : List Tmp) (k : Nat) : List Value → List Value
  | [] => []
  | v :: l => (if k ∈ keep then v else undef) :: eraseL keep (k + 1) l
def loopL (body : List Value → LHeap → Option (LExit × List Value × LHeap)) (keep : List Tmp) : Nat → List Value → LHeap → Option (LExit × List Value × LHeap)
  | 0, _, _ => none
  | n + 1, e, H => (body (eraseL keep 0 e) H).bind fun r => match r.1 with
    | .normal => loopL body keep n r.2.1 r.2.2
    | x => some (x, r.2.1, r.2.2)
def execL (cf : CallF) (n : Nat) (lim : Nat) : LCode → List Value → LHeap → Option (LExit × List Value × LHeap)
  | .skip, e, H => some (.normal, e, H)
  | .steps l, e, H => (stepsL cf lim e H l).map fun r => (.normal, r.1, r.2)
  | .seq a b, e, H => (execL cf n lim a e H).bind fun r => match r.1 with
    | .normal => execL cf n lim b r.2.1 r.2.2
    | x => some (x, r.2.1, r.2.2)
  | .cond c a b, e, H => match leval e c with
    | .bool t => if t then execL cf n lim a e H else execL cf n lim b e H
    | _ => none
  | .block id a, e, H => (execL cf n lim a e H).map fun r => match r.1 with
    | .exit j => if j = id then (.normal, r.2.1, r.2.2) else (.exit j, r.2.1, r.2.2)
    | x => (x, r.2.1, r.2.2)
  | .loop keep a, e, H => loopL (execL cf n lim a) keep n e H
  | .exit id, e, H => some (.exit id, e, H)
  | .ret, e, H => some (.ret, e, H)
def resL (e : List Value) (H : LHeap) : LRes → Option Value
  | .tmp t => some (e.getD t undef)
  | .load1 t => lread H (leval e) (.load1 (.tmp t))
  | .loadN n t => lread H (leval e) (.loadN n (.tmp t))
def resLs (e : List Value) (H : LHeap) : List LRes → Option (List Value)
  | [] => some []
  | r :: l => (resL e H r).bind fun v => (resLs e H l).map (v :: ·)
def resV : List Value → Value
  | [v] => v
  | vs => .tuple vs.toArray
def runL (cf : CallF) (n : Nat) (f : LFun) (lim : Nat) (args : List Value) (H : LHeap) : Option (Value × LHeap) :=
  (execL cf n (if f.pop then H.length else lim) f.code (args ++ List.replicate (f.n - args.length) undef) H).bind fun r => match r.1 with
    | .exit _ => none
    | _ => (resLs r.2.1 r.2.2 f.res).bind fun vs =>
      if f.pop then (if scalarR (resV vs) then some (resV vs, r.2.2.take H.length) else none) else some (resV vs, r.2.2)
/-- A function that is said to stand alone (iso) is run in a memory of its own. -/
def callL (T : FuncId → Option LFun) : Nat → CallF
  | 0, _, _, _, _ => none
  | n + 1, k, lim, args, H => match T k with
    | none => none
    | some f => if f.iso then (if args.all scalar then (runL (callL T n) n f 0 args []).bind fun r => if scalarR r.1 then some (r.1, H) else none else none)
      else runL (callL T n) n f lim args H

/-! ### from the model's code -/
def compGuard (ops : Array Oper) : Option (Nat × Bool) → Option (Option (Tmp × Bool))
  | none => some none
  | some (j, b) => match (ops[j]?).bind (·.dst) with
    | some g => some (some (g, b))
    | none => none
def compAct (P : Program) : Op → Option LAct
  | .call { callee := .value f, args, .. } => if opndOk f && args.toList.all opndOk then some (.call f args.toList) else none
  | op => (compOp P op).map .op
def compStep (P : Program) (ops : Array Oper) (o : Oper) : Option LStep :=
  match compAct P o.op, compGuard ops o.guard with
  | some a, some g => some (.act o.dst a g)
  | _, _ => none
def compList (P : Program) (ops : Array Oper) : List Oper → Option (List LStep)
  | [] => some []
  | o :: l => match compStep P ops o, compList P ops l with
    | some s, some r => some (s :: r)
    | _, _ => none

/-- An order of a region's operations that stands for all: the operations, and where a read is read again. -/
inductive Item where
  | act (i : Nat)
  | again (i : Nat)
structure Plan where
  items : List Item
  anc : List (List Nat)
def Plan.ancOf (p : Plan) (i : Nat) : List Nat := p.anc.getD i []
def posOf (l : List Item) (i : Nat) : Nat := l.findIdx fun | .act j => j == i | _ => false
def isEff : LAct → Bool
  | .op (.eff _) => true
  | .call _ _ => true
  | _ => false
def isRead : LAct → Option ReadOp
  | .op (.read r) => some r
  | _ => none
def opndTmp : Operand → List Tmp
  | .tmp t => [t]
  | _ => []
def looks (ops : Array Oper) (o : Oper) : List Tmp :=
  (o.op.operands.toList.flatMap opndTmp) ++ (match o.guard with
    | some (j, _) => ((ops[j]?).bind (·.dst)).toList
    | none => [])
def ReadOp.opnds : ReadOp → List Operand
  | .load1 x => [x]
  | .loadN _ x => [x]
  | .b2s x => [x]
  | .lenMap x => [x]
  | .lookup _ _ _ m k => [m, k]
  | .slSl _ x lo hi mx => x :: (lo.toList ++ hi.toList ++ mx.toList)
def dstOf (ops : Array Oper) (i : Nat) : Option Tmp := (ops[i]?).bind (·.dst)
def stepOf (P : Program) (ops : Array Oper) (i : Nat) : Option LStep := (ops[i]?).bind (compStep P ops)
def isEffS : LStep → Bool
  | .act _ a _ => isEff a
  | _ => false
def effAt (P : Program) (ops : Array Oper) (i : Nat) : Bool := (stepOf P ops i).any isEffS
def rdS : LStep → Bool
  | .act _ (.op (.read _)) _ => true
  | _ => false
def rdAt (P : Program) (ops : Array Oper) (i : Nat) : Bool := (stepOf P ops i).any rdS
def againSlots : LStep → List Tmp
  | .act _ (.op (.read r)) g => r.opnds.flatMap opndTmp ++ (g.map (·.1)).toList
  | _ => []
def isAgain (i : Nat) : Option Item → Bool
  | some (.again k) => k == i
  | _ => false
def itemOk (P : Program) (ops : Array Oper) (p : Plan) (q : Nat) : Option Item → Bool
  | some (.act i) => i < ops.size && posOf p.items i == q
  | some (.again i) => i < ops.size && rdAt P ops i && posOf p.items i < q &&
      (List.range ops.size).all fun j => match dstOf ops j with
        | some t => !((stepOf P ops i).map againSlots).any (·.contains t) || ((p.ancOf i).contains j && posOf p.items j < posOf p.items i)
        | none => true
  | none => true
def planOk (P : Program) (ops : Array Oper) (p : Plan) : Bool :=
  let R := List.range ops.size
  let pos := posOf p.items
  -- each operation once
  (R.all fun i => pos i < p.items.length) &&
  ((List.range p.items.length).all fun q => itemOk P ops p q p.items[q]?) &&
  -- the named ones do stand ahead
  (R.all fun i => (p.ancOf i).all fun j => ((ops[i]?).map (·.after.toList)).any fun l => l.any fun e => Region.binds .any e && (e.on == j || (p.ancOf e.on).contains j)) &&
  (R.all fun i => ((ops[i]?).map (·.after.toList)).any fun l => l.all fun e => !Region.binds .any e || e.on < i) &&
  -- slots
  (R.all fun i => R.all fun j => i == j || dstOf ops i == none || dstOf ops i != dstOf ops j) &&
  (R.all fun i => ((ops[i]?).map (looks ops)).any fun l => R.all fun j => match dstOf ops j with
    | some t => !l.contains t || (i != j && (((p.ancOf i).contains j && pos j < pos i) || ((p.ancOf j).contains i && pos i < pos j)))
    | none => true) &&
  -- those that write stand in one order; what stands behind one hangs on it
  (R.all fun i => R.all fun j => !effAt P ops i || !(pos i < pos j) || (p.ancOf j).contains i) &&
  -- what may be read behind one that writes is read again
  (R.all fun i => !rdAt P ops i || R.all fun j => !effAt P ops j || !(pos i < pos j) || (p.ancOf j).contains i ||
    ((List.range p.items.length).any fun q => pos j < q && isAgain i p.items[q]? && (R.all fun k => !effAt P ops k || !(pos j < pos k && pos k < q))))
def compItem (P : Program) (ops : Array Oper) : Item → Option LStep
  | .act i => match ops[i]? with
    | some o => compStep P ops o
    | none => none
  | .again i => match ops[i]? with
    | some o => match compStep P ops o with
      | some (.act (some d) (.op (.read r)) g) => some (.again d r g)
      | _ => none
    | none => none
def compItems (P : Program) (ops : Array Oper) : List Item → Option (List LStep)
  | [] => some []
  | o :: l => match compItem P ops o, compItems P ops l with
    | some s, some r => some (s :: r)
    | _, _ => none
/-- The first region in code: the name of a loop. -/
def firstR : Code → Option Nat
  | .region id _ _ => some id
  | .seq a b => (firstR a).orElse fun _ => firstR b
  | .cond _ a b => (firstR a).orElse fun _ => firstR b
  | .block _ a => firstR a
  | .loop a => firstR a
  | .scope a => firstR a
  | _ => none
def keepOf (ks : List (Nat × List Tmp)) (c : Code) : List Tmp :=
  match ks with
  | [] => []
  | (i, l) :: r => if firstR c = some i then l else keepOf r c
def compCode (P : Program) (pl : Array Oper → Plan) (ks : List (Nat × List Tmp)) : Code → Option LCode
  | .skip => some .skip
  | .region _ ops false => (compList P ops ops.toList).map .steps
  | .region _ ops true => if P.follows .mixedOrders && planOk P ops (pl ops) then (compItems P ops (pl ops).items).map .steps else none
  | .seq a b => match compCode P pl ks a, compCode P pl ks b with
    | some x, some y => some (.seq x y)
    | _, _ => none
  | .cond c a b => if opndOk c then match compCode P pl ks a, compCode P pl ks b with
    | some x, some y => some (.cond c x y)
    | _, _ => none else none
  | .block id a => (compCode P pl ks a).map (.block id)
  | .loop a => (compCode P pl ks a).map (.loop (keepOf ks a))
  | .exit id => some (.exit id)
  | .ret => some .ret
  | .scope a => compCode P pl ks a
  | .label _ => some .skip
  | _ => none
def compRes (P : Program) : List ResultVar → Option (List LRes)
  | [] => some []
  | .tmp t :: l => (compRes P l).map (.tmp t :: ·)
  | .cell a t :: l => match aggTy P t, sizeT P t, compRes P l with
    | some true, some n, some r => some (.loadN n a :: r)
    | some false, _, some r => some (.load1 a :: r)
    | _, _, _ => none
def compFn (P : Program) (pl : Array Oper → Plan) (ks : List (Nat × List Tmp)) (pop : Bool) (k : FuncId) : Option LFun :=
  match P.funcs[k]? with
  | some fn => match fn.body with
    | some c => if fn.name == "runtime.NumGoroutine" then none else match compCode P pl ks c, compRes P fn.results.toList with
      | some lc, some r => some { n := fn.ntmps, code := lc, res := r, pop }
      | _, _ => none
    | none => none
  | none => none
/-- A table of turned functions, each one as it is turned. -/
def TableOk (P : Program) (T : FuncId → Option LFun) : Prop := ∀ k f, T k = some f → ∃ pl ks, compFn P pl ks f.pop k = some { f with iso := false }

/-! ### a plan: what writes nothing as early as it may -/
def ancAll (ops : Array Oper) : Nat → List (List Nat) → List (List Nat)
  | 0, acc => acc
  | n + 1, acc =>
    let i := acc.length
    let direct := match ops[i]? with
      | some o => (o.after.toList.filter fun e => Region.binds .any e).map Edge.on
      | none => []
    ancAll ops n (acc ++ [((direct ++ direct.flatMap fun j => acc.getD j []).eraseDups)])
def planGo (eff rd : List Bool) (anc : List (List Nat)) (n : Nat) : Nat → List Nat → List Item → List Nat → List Nat → List Item
  | 0, _, out, old, _ => out.reverse ++ old.map .again
  | fuel + 1, done, out, old, new =>
    let free := (List.range n).filter fun i => !done.contains i && (anc.getD i []).all done.contains
    match free.find? fun i => !eff.getD i false with
    | some i => planGo eff rd anc n fuel (i :: done) (.act i :: out) old (if rd.getD i false then i :: new else new)
    | none => match free.find? fun i => eff.getD i false with
      | some e =>
        let keep := (old ++ new).filter fun i => !(anc.getD e []).contains i
        planGo eff rd anc n fuel (e :: done) (.act e :: ((old.map .again).reverse ++ out)) keep []
      | none => out.reverse ++ old.map .again
def mkPlan (P : Program) (ops : Array Oper) : Plan :=
  let n := ops.size
  let anc := ancAll ops n []
  let R := List.range n
  { items := planGo (R.map (effAt P ops)) (R.map (rdAt P ops)) anc n n [] [] [] [], anc }
end Go.LK
