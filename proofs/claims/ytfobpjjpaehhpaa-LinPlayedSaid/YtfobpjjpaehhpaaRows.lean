/-
  No cell of these rows narrows 'for every input' (looked for: loops, veiled, ifaces, maps, wideKeys, modest, calm, conditions, laid).
  DERIVED. THE GIVEN ROWS OF THIS SEAT. 5 by the template 'for every input the law returns true; each argument reads behind the call as it read before'; 0 by the template 'total and deterministic' (their statements: YtfobpjjpaehhpaaTotals.lean).
  GIVEN WITH THE SEED: the statements are not yours to turn. If you find one false, say at which input.
  Laid BY PROGRAM, IN A SANDBOX (cutbox-rows.mjs): the forced cells as the released guide's own fill.sh prints them over the translation 815f80fe56aafeb0… (all of the seat's roots in one cut). By AI agents, Wed Nov 11 2026. No macro, syntax, notation, axiom, sorry.
-/
import Derived.Test.YtfobpjjpaehhpaaChecked
import GoSem.Claim
import GoSem.ClaimJoined
import GoSem.ClaimMapViews
import Derived.JoinedTies
import Derived.KernelRfl
namespace Go.Proofs.Ytfobpjjpaehhpaa
/- THE CELL 'sum', in the pinned program and in every row, IS THE sha256 OF THE DUMP (.gsa) THAT YtfobpjjpaehhpaaProg.lean LOADS. Nothing in Lean hashes anything: it is a label: what it is worth is what the hold of that sum in a sandbox is worth. -/
noncomputable def Try.pinned : Pinned := { name := "ytfobpjjpaehhpaa", sum := "815f80fe56aafeb0d0ad84a32bffd5fce126fd7f4feb0db8a268fb19565f2dc1", checked := Try.checked }
namespace Rows
def none {H : Type} : Left H := { results := [], args := [] }

/-- 'sluicewaylaw06.LinFinds': WHATEVER THE INPUT: true; the input reads as it did. -/
def linFindsSpec : ChangeSpec := { name := "linFinds", fn := fun _ => fun
  | [d1, d2, d3] => { results := [.lit (.bool true)], args := [d1, d2, d3] }
  | _ => none }
def linFindsRow : OpenClaim := { program := "ytfobpjjpaehhpaa", sum := "815f80fe56aafeb0d0ad84a32bffd5fce126fd7f4feb0db8a268fb19565f2dc1", func := "sluiceway/sluicewaylaw06.LinFinds", spec := "linFinds", unfollowed := true, recurses := true, apart := false }
def LinFindsSaid : Prop := linFindsRow.holds Try.pinned (OpenSpec.ofChange linFindsSpec)

/-- ITS FALSE NEIGHBOUR: 'it returns false'. Refute it at one input. -/
def linFindsWrong : ChangeSpec := { name := "linFinds", fn := fun _ => fun
  | [d1, d2, d3] => { results := [.lit (.bool false)], args := [d1, d2, d3] }
  | _ => none }
def LinFindsWrongFalsely : Prop := linFindsRow.holds Try.pinned (OpenSpec.ofChange linFindsWrong)

/-- 'sluicewaylaw06.LinPrefix': WHATEVER THE INPUT: true; the input reads as it did. -/
def linPrefixSpec : ChangeSpec := { name := "linPrefix", fn := fun _ => fun
  | [d1, d2, d3] => { results := [.lit (.bool true)], args := [d1, d2, d3] }
  | _ => none }
def linPrefixRow : OpenClaim := { program := "ytfobpjjpaehhpaa", sum := "815f80fe56aafeb0d0ad84a32bffd5fce126fd7f4feb0db8a268fb19565f2dc1", func := "sluiceway/sluicewaylaw06.LinPrefix", spec := "linPrefix", unfollowed := true, recurses := true, apart := false }
def LinPrefixSaid : Prop := linPrefixRow.holds Try.pinned (OpenSpec.ofChange linPrefixSpec)

/-- ITS FALSE NEIGHBOUR: 'it returns false'. Refute it at one input. -/
def linPrefixWrong : ChangeSpec := { name := "linPrefix", fn := fun _ => fun
  | [d1, d2, d3] => { results := [.lit (.bool false)], args := [d1, d2, d3] }
  | _ => none }
def LinPrefixWrongFalsely : Prop := linPrefixRow.holds Try.pinned (OpenSpec.ofChange linPrefixWrong)

/-- 'sluicewaylaw06.LinModes': WHATEVER THE INPUT: true; the input reads as it did. -/
def linModesSpec : ChangeSpec := { name := "linModes", fn := fun _ => fun
  | [d1, d2] => { results := [.lit (.bool true)], args := [d1, d2] }
  | _ => none }
def linModesRow : OpenClaim := { program := "ytfobpjjpaehhpaa", sum := "815f80fe56aafeb0d0ad84a32bffd5fce126fd7f4feb0db8a268fb19565f2dc1", func := "sluiceway/sluicewaylaw06.LinModes", spec := "linModes", unfollowed := true, recurses := true, apart := false }
def LinModesSaid : Prop := linModesRow.holds Try.pinned (OpenSpec.ofChange linModesSpec)

/-- ITS FALSE NEIGHBOUR: 'it returns false'. Refute it at one input. -/
def linModesWrong : ChangeSpec := { name := "linModes", fn := fun _ => fun
  | [d1, d2] => { results := [.lit (.bool false)], args := [d1, d2] }
  | _ => none }
def LinModesWrongFalsely : Prop := linModesRow.holds Try.pinned (OpenSpec.ofChange linModesWrong)

/-- 'sluicewaylaw06.LinSearch': WHATEVER THE INPUT: true; the input reads as it did. -/
def linSearchSpec : ChangeSpec := { name := "linSearch", fn := fun _ => fun
  | [d1, d2] => { results := [.lit (.bool true)], args := [d1, d2] }
  | _ => none }
def linSearchRow : OpenClaim := { program := "ytfobpjjpaehhpaa", sum := "815f80fe56aafeb0d0ad84a32bffd5fce126fd7f4feb0db8a268fb19565f2dc1", func := "sluiceway/sluicewaylaw06.LinSearch", spec := "linSearch", unfollowed := true, recurses := true, apart := false }
def LinSearchSaid : Prop := linSearchRow.holds Try.pinned (OpenSpec.ofChange linSearchSpec)

/-- ITS FALSE NEIGHBOUR: 'it returns false'. Refute it at one input. -/
def linSearchWrong : ChangeSpec := { name := "linSearch", fn := fun _ => fun
  | [d1, d2] => { results := [.lit (.bool false)], args := [d1, d2] }
  | _ => none }
def LinSearchWrongFalsely : Prop := linSearchRow.holds Try.pinned (OpenSpec.ofChange linSearchWrong)

/-- 'sluicewaylaw06.LinPlayed': WHATEVER THE INPUT: true; the input reads as it did. -/
def linPlayedSpec : ChangeSpec := { name := "linPlayed", fn := fun _ => fun
  | [d1, d2, d3] => { results := [.lit (.bool true)], args := [d1, d2, d3] }
  | _ => none }
def linPlayedRow : OpenClaim := { program := "ytfobpjjpaehhpaa", sum := "815f80fe56aafeb0d0ad84a32bffd5fce126fd7f4feb0db8a268fb19565f2dc1", func := "sluiceway/sluicewaylaw06.LinPlayed", spec := "linPlayed", unfollowed := true, recurses := true, apart := false }
def LinPlayedSaid : Prop := linPlayedRow.holds Try.pinned (OpenSpec.ofChange linPlayedSpec)

/-- ITS FALSE NEIGHBOUR: 'it returns false'. Refute it at one input. -/
def linPlayedWrong : ChangeSpec := { name := "linPlayed", fn := fun _ => fun
  | [d1, d2, d3] => { results := [.lit (.bool false)], args := [d1, d2, d3] }
  | _ => none }
def LinPlayedWrongFalsely : Prop := linPlayedRow.holds Try.pinned (OpenSpec.ofChange linPlayedWrong)

/- THE SECOND FORM. 'bulk': how many values and letters a reading holds, each counted each time it is reached (what is shared counts as often as it is met; a slice's spare places count too). A statement '..UptoSaid' is the law's where the arguments, and the package variables that the reading takes, are together of bulk at most 1048576: NARROWER than '..Said'. Prove '..Said' where nothing that the law and all that it calls make is longer than what came in: it says more and counts as full. Else prove '..UptoSaid'. A law counts once. -/
mutual
def uptoBulk {H : Type} : DataW H → Nat
  | .lit (.string bytes) => bytes.length + 1
  | .lit _ => 1
  | .nil => 1
  | .ptr d => uptoBulk d + 1
  | .slice elems spare => uptoBulkAll elems + uptoBulkAll spare + 1
  | .agg parts => uptoBulkAll parts + 1
  | .iface _ d => uptoBulk d + 1
  | .map entries => uptoBulkEntries entries + 1
  | .held _ => 1
def uptoBulkAll {H : Type} : List (DataW H) → Nat
  | [] => 0
  | d :: r => uptoBulk d + uptoBulkAll r
def uptoBulkEntries {H : Type} : List (Lit × DataW H) → Nat
  | [] => 0
  | x :: r => uptoBulkEntry x + uptoBulkEntries r
def uptoBulkEntry {H : Type} : Lit × DataW H → Nat
  | (.string bytes, d) => bytes.length + uptoBulk d + 1
  | (_, d) => uptoBulk d + 1
 end
def uptoSmall : (H : Type) → List (DataW H) → Bool := fun _ ds => decide (uptoBulkAll ds ≤ 1048576)
def OpenSpec.upto (s : _root_.Go.ChangeSpec) : _root_.Go.OpenSpec := { _root_.Go.OpenSpec.ofChange s with cond := some uptoSmall }

/-- 'sluicewaylaw06.LinFinds', WHERE WHAT IT READS IS OF BULK AT MOST 1048576: true; the input reads as it did. -/
def linFindsUptoRow : OpenClaim := { program := "ytfobpjjpaehhpaa", sum := "815f80fe56aafeb0d0ad84a32bffd5fce126fd7f4feb0db8a268fb19565f2dc1", func := "sluiceway/sluicewaylaw06.LinFinds", spec := "linFinds", unfollowed := true, recurses := true, apart := false, narrowed := true }
def LinFindsUptoSaid : Prop := linFindsUptoRow.holds Try.pinned (OpenSpec.upto linFindsSpec)

/-- 'sluicewaylaw06.LinPrefix', WHERE WHAT IT READS IS OF BULK AT MOST 1048576: true; the input reads as it did. -/
def linPrefixUptoRow : OpenClaim := { program := "ytfobpjjpaehhpaa", sum := "815f80fe56aafeb0d0ad84a32bffd5fce126fd7f4feb0db8a268fb19565f2dc1", func := "sluiceway/sluicewaylaw06.LinPrefix", spec := "linPrefix", unfollowed := true, recurses := true, apart := false, narrowed := true }
def LinPrefixUptoSaid : Prop := linPrefixUptoRow.holds Try.pinned (OpenSpec.upto linPrefixSpec)

/-- 'sluicewaylaw06.LinModes', WHERE WHAT IT READS IS OF BULK AT MOST 1048576: true; the input reads as it did. -/
def linModesUptoRow : OpenClaim := { program := "ytfobpjjpaehhpaa", sum := "815f80fe56aafeb0d0ad84a32bffd5fce126fd7f4feb0db8a268fb19565f2dc1", func := "sluiceway/sluicewaylaw06.LinModes", spec := "linModes", unfollowed := true, recurses := true, apart := false, narrowed := true }
def LinModesUptoSaid : Prop := linModesUptoRow.holds Try.pinned (OpenSpec.upto linModesSpec)

/-- 'sluicewaylaw06.LinSearch', WHERE WHAT IT READS IS OF BULK AT MOST 1048576: true; the input reads as it did. -/
def linSearchUptoRow : OpenClaim := { program := "ytfobpjjpaehhpaa", sum := "815f80fe56aafeb0d0ad84a32bffd5fce126fd7f4feb0db8a268fb19565f2dc1", func := "sluiceway/sluicewaylaw06.LinSearch", spec := "linSearch", unfollowed := true, recurses := true, apart := false, narrowed := true }
def LinSearchUptoSaid : Prop := linSearchUptoRow.holds Try.pinned (OpenSpec.upto linSearchSpec)

/-- 'sluicewaylaw06.LinPlayed', WHERE WHAT IT READS IS OF BULK AT MOST 1048576: true; the input reads as it did. -/
def linPlayedUptoRow : OpenClaim := { program := "ytfobpjjpaehhpaa", sum := "815f80fe56aafeb0d0ad84a32bffd5fce126fd7f4feb0db8a268fb19565f2dc1", func := "sluiceway/sluicewaylaw06.LinPlayed", spec := "linPlayed", unfollowed := true, recurses := true, apart := false, narrowed := true }
def LinPlayedUptoSaid : Prop := linPlayedUptoRow.holds Try.pinned (OpenSpec.upto linPlayedSpec)

end Rows
end Go.Proofs.Ytfobpjjpaehhpaa
