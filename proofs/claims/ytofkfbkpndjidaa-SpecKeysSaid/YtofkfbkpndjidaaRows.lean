/-
  No cell of these rows narrows 'for every input' (looked for: loops, veiled, ifaces, maps, wideKeys, modest, calm, conditions, laid).
  DERIVED. THE GIVEN ROWS OF THIS SEAT. 4 by the template 'for every input the law returns true; each argument reads behind the call as it read before'; 0 by the template 'total and deterministic' (their statements: YtofkfbkpndjidaaTotals.lean).
  GIVEN WITH THE SEED: the statements are not yours to turn. If you find one false, say at which input.
  Laid BY PROGRAM, IN A SANDBOX (cutbox-rows.mjs): the forced cells as the released guide's own fill.sh prints them over the translation fa8d9e405c4cfff4… (all of the seat's roots in one cut). By AI agents, Wed Nov 11 2026. No macro, syntax, notation, axiom, sorry.
-/
import Derived.Test.YtofkfbkpndjidaaChecked
import GoSem.Claim
import GoSem.ClaimJoined
import GoSem.ClaimMapViews
import Derived.JoinedTies
import Derived.KernelRfl
namespace Go.Proofs.Ytofkfbkpndjidaa
/- THE CELL 'sum', in the pinned program and in every row, IS THE sha256 OF THE DUMP (.gsa) THAT YtofkfbkpndjidaaProg.lean LOADS. Nothing in Lean hashes anything: it is a label: what it is worth is what the hold of that sum in a sandbox is worth. -/
noncomputable def Try.pinned : Pinned := { name := "ytofkfbkpndjidaa", sum := "fa8d9e405c4cfff4a41cbb350048b60bc60386d64fa1bce875daba97ea501c4c", checked := Try.checked }
namespace Rows
def none {H : Type} : Left H := { results := [], args := [] }

/-- 'sluicewaylaw05.SpecOrder': WHATEVER THE INPUT: true; the input reads as it did. -/
def specOrderSpec : ChangeSpec := { name := "specOrder", fn := fun _ => fun
  | [d1, d2] => { results := [.lit (.bool true)], args := [d1, d2] }
  | _ => none }
def specOrderRow : OpenClaim := { program := "ytofkfbkpndjidaa", sum := "fa8d9e405c4cfff4a41cbb350048b60bc60386d64fa1bce875daba97ea501c4c", func := "sluiceway/sluicewaylaw05.SpecOrder", spec := "specOrder", apart := false }
def SpecOrderSaid : Prop := specOrderRow.holds Try.pinned (OpenSpec.ofChange specOrderSpec)

/-- ITS FALSE NEIGHBOUR: 'it returns false'. Refute it at one input. -/
def specOrderWrong : ChangeSpec := { name := "specOrder", fn := fun _ => fun
  | [d1, d2] => { results := [.lit (.bool false)], args := [d1, d2] }
  | _ => none }
def SpecOrderWrongFalsely : Prop := specOrderRow.holds Try.pinned (OpenSpec.ofChange specOrderWrong)

/-- 'sluicewaylaw05.SpecDoes': WHATEVER THE INPUT: true; the input reads as it did. -/
def specDoesSpec : ChangeSpec := { name := "specDoes", fn := fun _ => fun
  | [d1, d2, d3] => { results := [.lit (.bool true)], args := [d1, d2, d3] }
  | _ => none }
def specDoesRow : OpenClaim := { program := "ytofkfbkpndjidaa", sum := "fa8d9e405c4cfff4a41cbb350048b60bc60386d64fa1bce875daba97ea501c4c", func := "sluiceway/sluicewaylaw05.SpecDoes", spec := "specDoes", apart := false }
def SpecDoesSaid : Prop := specDoesRow.holds Try.pinned (OpenSpec.ofChange specDoesSpec)

/-- ITS FALSE NEIGHBOUR: 'it returns false'. Refute it at one input. -/
def specDoesWrong : ChangeSpec := { name := "specDoes", fn := fun _ => fun
  | [d1, d2, d3] => { results := [.lit (.bool false)], args := [d1, d2, d3] }
  | _ => none }
def SpecDoesWrongFalsely : Prop := specDoesRow.holds Try.pinned (OpenSpec.ofChange specDoesWrong)

/-- 'sluicewaylaw05.SpecKeys': WHATEVER THE INPUT: true; the input reads as it did. -/
def specKeysSpec : ChangeSpec := { name := "specKeys", fn := fun _ => fun
  | [d1, d2] => { results := [.lit (.bool true)], args := [d1, d2] }
  | _ => none }
def specKeysRow : OpenClaim := { program := "ytofkfbkpndjidaa", sum := "fa8d9e405c4cfff4a41cbb350048b60bc60386d64fa1bce875daba97ea501c4c", func := "sluiceway/sluicewaylaw05.SpecKeys", spec := "specKeys", apart := false }
def SpecKeysSaid : Prop := specKeysRow.holds Try.pinned (OpenSpec.ofChange specKeysSpec)

/-- ITS FALSE NEIGHBOUR: 'it returns false'. Refute it at one input. -/
def specKeysWrong : ChangeSpec := { name := "specKeys", fn := fun _ => fun
  | [d1, d2] => { results := [.lit (.bool false)], args := [d1, d2] }
  | _ => none }
def SpecKeysWrongFalsely : Prop := specKeysRow.holds Try.pinned (OpenSpec.ofChange specKeysWrong)

/-- 'sluicewaylaw05.SpecModes': WHATEVER THE INPUT: true; the input reads as it did. -/
def specModesSpec : ChangeSpec := { name := "specModes", fn := fun _ => fun
  | [d1, d2, d3] => { results := [.lit (.bool true)], args := [d1, d2, d3] }
  | _ => none }
def specModesRow : OpenClaim := { program := "ytofkfbkpndjidaa", sum := "fa8d9e405c4cfff4a41cbb350048b60bc60386d64fa1bce875daba97ea501c4c", func := "sluiceway/sluicewaylaw05.SpecModes", spec := "specModes", apart := false }
def SpecModesSaid : Prop := specModesRow.holds Try.pinned (OpenSpec.ofChange specModesSpec)

/-- ITS FALSE NEIGHBOUR: 'it returns false'. Refute it at one input. -/
def specModesWrong : ChangeSpec := { name := "specModes", fn := fun _ => fun
  | [d1, d2, d3] => { results := [.lit (.bool false)], args := [d1, d2, d3] }
  | _ => none }
def SpecModesWrongFalsely : Prop := specModesRow.holds Try.pinned (OpenSpec.ofChange specModesWrong)

/- THE SECOND FORM. 'bulk': how many values and letters a reading holds, each counted each time it is reached (what is shared counts as often as it is met; a slice's spare places count too). A statement '..UptoSaid' is the law's where the arguments, and the package variables that the reading takes, are together of bulk at most 1048576: NARROWER than '..Said'. Prove '..Said' where nothing that the law and all that it calls make is longer than what came in: it says more and counts as full. Else prove '..UptoSaid'. A law counts once. -/
mutual
def uptoBulk {H : Type} : DataW H → Nat
  | .lit (.string bytes) => bytes.length + 1
  | .lit _ => 1
  | .nil => 1
  | .ptr d => uptoBulk d + 1
  | .slice elems spare => uptoBulkAll elems + uptoBulkAll spare + 1
  | .agg parts => uptoBulkAll parts + 1
  | .iface _ d => uptoBulk d + 1
  | .map entries => uptoBulkEntries entries + 1
  | .held _ => 1
def uptoBulkAll {H : Type} : List (DataW H) → Nat
  | [] => 0
  | d :: r => uptoBulk d + uptoBulkAll r
def uptoBulkEntries {H : Type} : List (Lit × DataW H) → Nat
  | [] => 0
  | x :: r => uptoBulkEntry x + uptoBulkEntries r
def uptoBulkEntry {H : Type} : Lit × DataW H → Nat
  | (.string bytes, d) => bytes.length + uptoBulk d + 1
  | (_, d) => uptoBulk d + 1
 end
def uptoSmall : (H : Type) → List (DataW H) → Bool := fun _ ds => decide (uptoBulkAll ds ≤ 1048576)
def OpenSpec.upto (s : _root_.Go.ChangeSpec) : _root_.Go.OpenSpec := { _root_.Go.OpenSpec.ofChange s with cond := some uptoSmall }

/-- 'sluicewaylaw05.SpecOrder', WHERE WHAT IT READS IS OF BULK AT MOST 1048576: true; the input reads as it did. -/
def specOrderUptoRow : OpenClaim := { program := "ytofkfbkpndjidaa", sum := "fa8d9e405c4cfff4a41cbb350048b60bc60386d64fa1bce875daba97ea501c4c", func := "sluiceway/sluicewaylaw05.SpecOrder", spec := "specOrder", apart := false, narrowed := true }
def SpecOrderUptoSaid : Prop := specOrderUptoRow.holds Try.pinned (OpenSpec.upto specOrderSpec)

/-- 'sluicewaylaw05.SpecDoes', WHERE WHAT IT READS IS OF BULK AT MOST 1048576: true; the input reads as it did. -/
def specDoesUptoRow : OpenClaim := { program := "ytofkfbkpndjidaa", sum := "fa8d9e405c4cfff4a41cbb350048b60bc60386d64fa1bce875daba97ea501c4c", func := "sluiceway/sluicewaylaw05.SpecDoes", spec := "specDoes", apart := false, narrowed := true }
def SpecDoesUptoSaid : Prop := specDoesUptoRow.holds Try.pinned (OpenSpec.upto specDoesSpec)

/-- 'sluicewaylaw05.SpecKeys', WHERE WHAT IT READS IS OF BULK AT MOST 1048576: true; the input reads as it did. -/
def specKeysUptoRow : OpenClaim := { program := "ytofkfbkpndjidaa", sum := "fa8d9e405c4cfff4a41cbb350048b60bc60386d64fa1bce875daba97ea501c4c", func := "sluiceway/sluicewaylaw05.SpecKeys", spec := "specKeys", apart := false, narrowed := true }
def SpecKeysUptoSaid : Prop := specKeysUptoRow.holds Try.pinned (OpenSpec.upto specKeysSpec)

/-- 'sluicewaylaw05.SpecModes', WHERE WHAT IT READS IS OF BULK AT MOST 1048576: true; the input reads as it did. -/
def specModesUptoRow : OpenClaim := { program := "ytofkfbkpndjidaa", sum := "fa8d9e405c4cfff4a41cbb350048b60bc60386d64fa1bce875daba97ea501c4c", func := "sluiceway/sluicewaylaw05.SpecModes", spec := "specModes", apart := false, narrowed := true }
def SpecModesUptoSaid : Prop := specModesUptoRow.holds Try.pinned (OpenSpec.upto specModesSpec)

end Rows
end Go.Proofs.Ytofkfbkpndjidaa
