/-
  No cell of these rows narrows 'for every input' (looked for: loops, veiled, ifaces, maps, wideKeys, modest, calm, conditions, laid).
  DERIVED. THE GIVEN ROWS OF THIS SEAT. 4 by the template 'for every input the law returns true; each argument reads behind the call as it read before'; 0 by the template 'total and deterministic' (their statements: YtcogpinognopcaaTotals.lean).
  GIVEN WITH THE SEED: the statements are not yours to turn. If you find one false, say at which input.
  Laid BY PROGRAM, IN A SANDBOX (cutbox-rows.mjs): the forced cells as the released guide's own fill.sh prints them over the translation 54ccaa097bfb8a14… (all of the seat's roots in one cut). By AI agents, Wed Nov 11 2026. No macro, syntax, notation, axiom, sorry.
-/
import Derived.Test.YtcogpinognopcaaChecked
import GoSem.Claim
import GoSem.ClaimJoined
import GoSem.ClaimMapViews
import Derived.JoinedTies
import Derived.KernelRfl
namespace Go.Proofs.Ytcogpinognopcaa
/- THE CELL 'sum', in the pinned program and in every row, IS THE sha256 OF THE DUMP (.gsa) THAT YtcogpinognopcaaProg.lean LOADS. Nothing in Lean hashes anything: it is a label: what it is worth is what the hold of that sum in a sandbox is worth. -/
noncomputable def Try.pinned : Pinned := { name := "ytcogpinognopcaa", sum := "54ccaa097bfb8a143ff8e294c109f53761f2357285e61654a5ad0a84a9b5280c", checked := Try.checked }
namespace Rows
def none {H : Type} : Left H := { results := [], args := [] }

/-- 'sluicewaylaw10.HpSteps': WHATEVER THE INPUT: true; the input reads as it did. -/
def hpStepsSpec : ChangeSpec := { name := "hpSteps", fn := fun _ => fun
  | [d1, d2, d3] => { results := [.lit (.bool true)], args := [d1, d2, d3] }
  | _ => none }
def hpStepsRow : OpenClaim := { program := "ytcogpinognopcaa", sum := "54ccaa097bfb8a143ff8e294c109f53761f2357285e61654a5ad0a84a9b5280c", func := "sluiceway/sluicewaylaw10.HpSteps", spec := "hpSteps", unfollowed := true, recurses := true, apart := false }
def HpStepsSaid : Prop := hpStepsRow.holds Try.pinned (OpenSpec.ofChange hpStepsSpec)

/-- ITS FALSE NEIGHBOUR: 'it returns false'. Refute it at one input. -/
def hpStepsWrong : ChangeSpec := { name := "hpSteps", fn := fun _ => fun
  | [d1, d2, d3] => { results := [.lit (.bool false)], args := [d1, d2, d3] }
  | _ => none }
def HpStepsWrongFalsely : Prop := hpStepsRow.holds Try.pinned (OpenSpec.ofChange hpStepsWrong)

/-- 'sluicewaylaw10.HpMeets': WHATEVER THE INPUT: true; the input reads as it did. -/
def hpMeetsSpec : ChangeSpec := { name := "hpMeets", fn := fun _ => fun
  | [d1, d2, d3] => { results := [.lit (.bool true)], args := [d1, d2, d3] }
  | _ => none }
def hpMeetsRow : OpenClaim := { program := "ytcogpinognopcaa", sum := "54ccaa097bfb8a143ff8e294c109f53761f2357285e61654a5ad0a84a9b5280c", func := "sluiceway/sluicewaylaw10.HpMeets", spec := "hpMeets", unfollowed := true, recurses := true, apart := false }
def HpMeetsSaid : Prop := hpMeetsRow.holds Try.pinned (OpenSpec.ofChange hpMeetsSpec)

/-- ITS FALSE NEIGHBOUR: 'it returns false'. Refute it at one input. -/
def hpMeetsWrong : ChangeSpec := { name := "hpMeets", fn := fun _ => fun
  | [d1, d2, d3] => { results := [.lit (.bool false)], args := [d1, d2, d3] }
  | _ => none }
def HpMeetsWrongFalsely : Prop := hpMeetsRow.holds Try.pinned (OpenSpec.ofChange hpMeetsWrong)

/-- 'sluicewaylaw10.HpClears': WHATEVER THE INPUT: true; the input reads as it did. -/
def hpClearsSpec : ChangeSpec := { name := "hpClears", fn := fun _ => fun
  | [d1, d2, d3] => { results := [.lit (.bool true)], args := [d1, d2, d3] }
  | _ => none }
def hpClearsRow : OpenClaim := { program := "ytcogpinognopcaa", sum := "54ccaa097bfb8a143ff8e294c109f53761f2357285e61654a5ad0a84a9b5280c", func := "sluiceway/sluicewaylaw10.HpClears", spec := "hpClears", unfollowed := true, recurses := true, apart := false }
def HpClearsSaid : Prop := hpClearsRow.holds Try.pinned (OpenSpec.ofChange hpClearsSpec)

/-- ITS FALSE NEIGHBOUR: 'it returns false'. Refute it at one input. -/
def hpClearsWrong : ChangeSpec := { name := "hpClears", fn := fun _ => fun
  | [d1, d2, d3] => { results := [.lit (.bool false)], args := [d1, d2, d3] }
  | _ => none }
def HpClearsWrongFalsely : Prop := hpClearsRow.holds Try.pinned (OpenSpec.ofChange hpClearsWrong)

/-- 'sluicewaylaw10.HpNobody': WHATEVER THE INPUT: true; the input reads as it did. -/
def hpNobodySpec : ChangeSpec := { name := "hpNobody", fn := fun _ => fun
  | [d1, d2, d3] => { results := [.lit (.bool true)], args := [d1, d2, d3] }
  | _ => none }
def hpNobodyRow : OpenClaim := { program := "ytcogpinognopcaa", sum := "54ccaa097bfb8a143ff8e294c109f53761f2357285e61654a5ad0a84a9b5280c", func := "sluiceway/sluicewaylaw10.HpNobody", spec := "hpNobody", unfollowed := true, recurses := true, apart := false }
def HpNobodySaid : Prop := hpNobodyRow.holds Try.pinned (OpenSpec.ofChange hpNobodySpec)

/-- ITS FALSE NEIGHBOUR: 'it returns false'. Refute it at one input. -/
def hpNobodyWrong : ChangeSpec := { name := "hpNobody", fn := fun _ => fun
  | [d1, d2, d3] => { results := [.lit (.bool false)], args := [d1, d2, d3] }
  | _ => none }
def HpNobodyWrongFalsely : Prop := hpNobodyRow.holds Try.pinned (OpenSpec.ofChange hpNobodyWrong)

/- THE SECOND FORM. 'bulk': how many values and letters a reading holds, each counted each time it is reached (what is shared counts as often as it is met; a slice's spare places count too). A statement '..UptoSaid' is the law's where the arguments, and the package variables that the reading takes, are together of bulk at most 1048576: NARROWER than '..Said'. Prove '..Said' where nothing that the law and all that it calls make is longer than what came in: it says more and counts as full. Else prove '..UptoSaid'. A law counts once. -/
mutual
def uptoBulk {H : Type} : DataW H → Nat
  | .lit (.string bytes) => bytes.length + 1
  | .lit _ => 1
  | .nil => 1
  | .ptr d => uptoBulk d + 1
  | .slice elems spare => uptoBulkAll elems + uptoBulkAll spare + 1
  | .agg parts => uptoBulkAll parts + 1
  | .iface _ d => uptoBulk d + 1
  | .map entries => uptoBulkEntries entries + 1
  | .held _ => 1
def uptoBulkAll {H : Type} : List (DataW H) → Nat
  | [] => 0
  | d :: r => uptoBulk d + uptoBulkAll r
def uptoBulkEntries {H : Type} : List (Lit × DataW H) → Nat
  | [] => 0
  | x :: r => uptoBulkEntry x + uptoBulkEntries r
def uptoBulkEntry {H : Type} : Lit × DataW H → Nat
  | (.string bytes, d) => bytes.length + uptoBulk d + 1
  | (_, d) => uptoBulk d + 1
 end
def uptoSmall : (H : Type) → List (DataW H) → Bool := fun _ ds => decide (uptoBulkAll ds ≤ 1048576)
def OpenSpec.upto (s : _root_.Go.ChangeSpec) : _root_.Go.OpenSpec := { _root_.Go.OpenSpec.ofChange s with cond := some uptoSmall }

/-- 'sluicewaylaw10.HpSteps', WHERE WHAT IT READS IS OF BULK AT MOST 1048576: true; the input reads as it did. -/
def hpStepsUptoRow : OpenClaim := { program := "ytcogpinognopcaa", sum := "54ccaa097bfb8a143ff8e294c109f53761f2357285e61654a5ad0a84a9b5280c", func := "sluiceway/sluicewaylaw10.HpSteps", spec := "hpSteps", unfollowed := true, recurses := true, apart := false, narrowed := true }
def HpStepsUptoSaid : Prop := hpStepsUptoRow.holds Try.pinned (OpenSpec.upto hpStepsSpec)

/-- 'sluicewaylaw10.HpMeets', WHERE WHAT IT READS IS OF BULK AT MOST 1048576: true; the input reads as it did. -/
def hpMeetsUptoRow : OpenClaim := { program := "ytcogpinognopcaa", sum := "54ccaa097bfb8a143ff8e294c109f53761f2357285e61654a5ad0a84a9b5280c", func := "sluiceway/sluicewaylaw10.HpMeets", spec := "hpMeets", unfollowed := true, recurses := true, apart := false, narrowed := true }
def HpMeetsUptoSaid : Prop := hpMeetsUptoRow.holds Try.pinned (OpenSpec.upto hpMeetsSpec)

/-- 'sluicewaylaw10.HpClears', WHERE WHAT IT READS IS OF BULK AT MOST 1048576: true; the input reads as it did. -/
def hpClearsUptoRow : OpenClaim := { program := "ytcogpinognopcaa", sum := "54ccaa097bfb8a143ff8e294c109f53761f2357285e61654a5ad0a84a9b5280c", func := "sluiceway/sluicewaylaw10.HpClears", spec := "hpClears", unfollowed := true, recurses := true, apart := false, narrowed := true }
def HpClearsUptoSaid : Prop := hpClearsUptoRow.holds Try.pinned (OpenSpec.upto hpClearsSpec)

/-- 'sluicewaylaw10.HpNobody', WHERE WHAT IT READS IS OF BULK AT MOST 1048576: true; the input reads as it did. -/
def hpNobodyUptoRow : OpenClaim := { program := "ytcogpinognopcaa", sum := "54ccaa097bfb8a143ff8e294c109f53761f2357285e61654a5ad0a84a9b5280c", func := "sluiceway/sluicewaylaw10.HpNobody", spec := "hpNobody", unfollowed := true, recurses := true, apart := false, narrowed := true }
def HpNobodyUptoSaid : Prop := hpNobodyUptoRow.holds Try.pinned (OpenSpec.upto hpNobodySpec)

end Rows
end Go.Proofs.Ytcogpinognopcaa
