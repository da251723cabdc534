/-
  No cell of these rows narrows 'for every input' (looked for: loops, veiled, ifaces, maps, wideKeys, modest, calm, conditions, laid).
  DERIVED. THE GIVEN ROWS OF THIS SEAT. 5 by the template 'for every input the law returns true; each argument reads behind the call as it read before'; 0 by the template 'total and deterministic' (their statements: YtgipbamdefjenaaTotals.lean).
  GIVEN WITH THE SEED: the statements are not yours to turn. If you find one false, say at which input.
  Laid BY PROGRAM, IN A SANDBOX (cutbox-rows.mjs): the forced cells as the released guide's own fill.sh prints them over the translation 69317aa6076f3949… (all of the seat's roots in one cut). By AI agents, Wed Nov 11 2026. No macro, syntax, notation, axiom, sorry.
-/
import Derived.Test.YtgipbamdefjenaaChecked
import GoSem.Claim
import GoSem.ClaimJoined
import GoSem.ClaimMapViews
import Derived.JoinedTies
import Derived.KernelRfl
namespace Go.Proofs.Ytgipbamdefjenaa
/- THE CELL 'sum', in the pinned program and in every row, IS THE sha256 OF THE DUMP (.gsa) THAT YtgipbamdefjenaaProg.lean LOADS. Nothing in Lean hashes anything: it is a label: what it is worth is what the hold of that sum in a sandbox is worth. -/
noncomputable def Try.pinned : Pinned := { name := "ytgipbamdefjenaa", sum := "69317aa6076f39498804411b9f3c7e8ac5fe50d6e801ab555bba2f385420d49d", checked := Try.checked }
namespace Rows
def none {H : Type} : Left H := { results := [], args := [] }

/-- 'sluicewaylaw07.VyWhole': WHATEVER THE INPUT: true; the input reads as it did. -/
def vyWholeSpec : ChangeSpec := { name := "vyWhole", fn := fun _ => fun
  | [d1, d2] => { results := [.lit (.bool true)], args := [d1, d2] }
  | _ => none }
def vyWholeRow : OpenClaim := { program := "ytgipbamdefjenaa", sum := "69317aa6076f39498804411b9f3c7e8ac5fe50d6e801ab555bba2f385420d49d", func := "sluiceway/sluicewaylaw07.VyWhole", spec := "vyWhole", unfollowed := true, recurses := true, apart := false }
def VyWholeSaid : Prop := vyWholeRow.holds Try.pinned (OpenSpec.ofChange vyWholeSpec)

/-- ITS FALSE NEIGHBOUR: 'it returns false'. Refute it at one input. -/
def vyWholeWrong : ChangeSpec := { name := "vyWhole", fn := fun _ => fun
  | [d1, d2] => { results := [.lit (.bool false)], args := [d1, d2] }
  | _ => none }
def VyWholeWrongFalsely : Prop := vyWholeRow.holds Try.pinned (OpenSpec.ofChange vyWholeWrong)

/-- 'sluicewaylaw07.VyNobody': WHATEVER THE INPUT: true; the input reads as it did. -/
def vyNobodySpec : ChangeSpec := { name := "vyNobody", fn := fun _ => fun
  | [d1, d2] => { results := [.lit (.bool true)], args := [d1, d2] }
  | _ => none }
def vyNobodyRow : OpenClaim := { program := "ytgipbamdefjenaa", sum := "69317aa6076f39498804411b9f3c7e8ac5fe50d6e801ab555bba2f385420d49d", func := "sluiceway/sluicewaylaw07.VyNobody", spec := "vyNobody", unfollowed := true, recurses := true, apart := false }
def VyNobodySaid : Prop := vyNobodyRow.holds Try.pinned (OpenSpec.ofChange vyNobodySpec)

/-- ITS FALSE NEIGHBOUR: 'it returns false'. Refute it at one input. -/
def vyNobodyWrong : ChangeSpec := { name := "vyNobody", fn := fun _ => fun
  | [d1, d2] => { results := [.lit (.bool false)], args := [d1, d2] }
  | _ => none }
def VyNobodyWrongFalsely : Prop := vyNobodyRow.holds Try.pinned (OpenSpec.ofChange vyNobodyWrong)

/-- 'sluicewaylaw07.VySteps': WHATEVER THE INPUT: true; the input reads as it did. -/
def vyStepsSpec : ChangeSpec := { name := "vySteps", fn := fun _ => fun
  | [d1, d2, d3] => { results := [.lit (.bool true)], args := [d1, d2, d3] }
  | _ => none }
def vyStepsRow : OpenClaim := { program := "ytgipbamdefjenaa", sum := "69317aa6076f39498804411b9f3c7e8ac5fe50d6e801ab555bba2f385420d49d", func := "sluiceway/sluicewaylaw07.VySteps", spec := "vySteps", unfollowed := true, recurses := true, apart := false }
def VyStepsSaid : Prop := vyStepsRow.holds Try.pinned (OpenSpec.ofChange vyStepsSpec)

/-- ITS FALSE NEIGHBOUR: 'it returns false'. Refute it at one input. -/
def vyStepsWrong : ChangeSpec := { name := "vySteps", fn := fun _ => fun
  | [d1, d2, d3] => { results := [.lit (.bool false)], args := [d1, d2, d3] }
  | _ => none }
def VyStepsWrongFalsely : Prop := vyStepsRow.holds Try.pinned (OpenSpec.ofChange vyStepsWrong)

/-- 'sluicewaylaw07.VyAlone': WHATEVER THE INPUT: true; the input reads as it did. -/
def vyAloneSpec : ChangeSpec := { name := "vyAlone", fn := fun _ => fun
  | [d1, d2] => { results := [.lit (.bool true)], args := [d1, d2] }
  | _ => none }
def vyAloneRow : OpenClaim := { program := "ytgipbamdefjenaa", sum := "69317aa6076f39498804411b9f3c7e8ac5fe50d6e801ab555bba2f385420d49d", func := "sluiceway/sluicewaylaw07.VyAlone", spec := "vyAlone", unfollowed := true, recurses := true, apart := false }
def VyAloneSaid : Prop := vyAloneRow.holds Try.pinned (OpenSpec.ofChange vyAloneSpec)

/-- ITS FALSE NEIGHBOUR: 'it returns false'. Refute it at one input. -/
def vyAloneWrong : ChangeSpec := { name := "vyAlone", fn := fun _ => fun
  | [d1, d2] => { results := [.lit (.bool false)], args := [d1, d2] }
  | _ => none }
def VyAloneWrongFalsely : Prop := vyAloneRow.holds Try.pinned (OpenSpec.ofChange vyAloneWrong)

/-- 'sluicewaylaw07.VyOrders': WHATEVER THE INPUT: true; the input reads as it did. -/
def vyOrdersSpec : ChangeSpec := { name := "vyOrders", fn := fun _ => fun
  | [d1, d2, d3] => { results := [.lit (.bool true)], args := [d1, d2, d3] }
  | _ => none }
def vyOrdersRow : OpenClaim := { program := "ytgipbamdefjenaa", sum := "69317aa6076f39498804411b9f3c7e8ac5fe50d6e801ab555bba2f385420d49d", func := "sluiceway/sluicewaylaw07.VyOrders", spec := "vyOrders", unfollowed := true, recurses := true, apart := false }
def VyOrdersSaid : Prop := vyOrdersRow.holds Try.pinned (OpenSpec.ofChange vyOrdersSpec)

/-- ITS FALSE NEIGHBOUR: 'it returns false'. Refute it at one input. -/
def vyOrdersWrong : ChangeSpec := { name := "vyOrders", fn := fun _ => fun
  | [d1, d2, d3] => { results := [.lit (.bool false)], args := [d1, d2, d3] }
  | _ => none }
def VyOrdersWrongFalsely : Prop := vyOrdersRow.holds Try.pinned (OpenSpec.ofChange vyOrdersWrong)

/- THE SECOND FORM. 'bulk': how many values and letters a reading holds, each counted each time it is reached (what is shared counts as often as it is met; a slice's spare places count too). A statement '..UptoSaid' is the law's where the arguments, and the package variables that the reading takes, are together of bulk at most 1048576: NARROWER than '..Said'. Prove '..Said' where nothing that the law and all that it calls make is longer than what came in: it says more and counts as full. Else prove '..UptoSaid'. A law counts once. -/
mutual
def uptoBulk {H : Type} : DataW H → Nat
  | .lit (.string bytes) => bytes.length + 1
  | .lit _ => 1
  | .nil => 1
  | .ptr d => uptoBulk d + 1
  | .slice elems spare => uptoBulkAll elems + uptoBulkAll spare + 1
  | .agg parts => uptoBulkAll parts + 1
  | .iface _ d => uptoBulk d + 1
  | .map entries => uptoBulkEntries entries + 1
  | .held _ => 1
def uptoBulkAll {H : Type} : List (DataW H) → Nat
  | [] => 0
  | d :: r => uptoBulk d + uptoBulkAll r
def uptoBulkEntries {H : Type} : List (Lit × DataW H) → Nat
  | [] => 0
  | x :: r => uptoBulkEntry x + uptoBulkEntries r
def uptoBulkEntry {H : Type} : Lit × DataW H → Nat
  | (.string bytes, d) => bytes.length + uptoBulk d + 1
  | (_, d) => uptoBulk d + 1
 end
def uptoSmall : (H : Type) → List (DataW H) → Bool := fun _ ds => decide (uptoBulkAll ds ≤ 1048576)
def OpenSpec.upto (s : _root_.Go.ChangeSpec) : _root_.Go.OpenSpec := { _root_.Go.OpenSpec.ofChange s with cond := some uptoSmall }

/-- 'sluicewaylaw07.VyWhole', WHERE WHAT IT READS IS OF BULK AT MOST 1048576: true; the input reads as it did. -/
def vyWholeUptoRow : OpenClaim := { program := "ytgipbamdefjenaa", sum := "69317aa6076f39498804411b9f3c7e8ac5fe50d6e801ab555bba2f385420d49d", func := "sluiceway/sluicewaylaw07.VyWhole", spec := "vyWhole", unfollowed := true, recurses := true, apart := false, narrowed := true }
def VyWholeUptoSaid : Prop := vyWholeUptoRow.holds Try.pinned (OpenSpec.upto vyWholeSpec)

/-- 'sluicewaylaw07.VyNobody', WHERE WHAT IT READS IS OF BULK AT MOST 1048576: true; the input reads as it did. -/
def vyNobodyUptoRow : OpenClaim := { program := "ytgipbamdefjenaa", sum := "69317aa6076f39498804411b9f3c7e8ac5fe50d6e801ab555bba2f385420d49d", func := "sluiceway/sluicewaylaw07.VyNobody", spec := "vyNobody", unfollowed := true, recurses := true, apart := false, narrowed := true }
def VyNobodyUptoSaid : Prop := vyNobodyUptoRow.holds Try.pinned (OpenSpec.upto vyNobodySpec)

/-- 'sluicewaylaw07.VySteps', WHERE WHAT IT READS IS OF BULK AT MOST 1048576: true; the input reads as it did. -/
def vyStepsUptoRow : OpenClaim := { program := "ytgipbamdefjenaa", sum := "69317aa6076f39498804411b9f3c7e8ac5fe50d6e801ab555bba2f385420d49d", func := "sluiceway/sluicewaylaw07.VySteps", spec := "vySteps", unfollowed := true, recurses := true, apart := false, narrowed := true }
def VyStepsUptoSaid : Prop := vyStepsUptoRow.holds Try.pinned (OpenSpec.upto vyStepsSpec)

/-- 'sluicewaylaw07.VyAlone', WHERE WHAT IT READS IS OF BULK AT MOST 1048576: true; the input reads as it did. -/
def vyAloneUptoRow : OpenClaim := { program := "ytgipbamdefjenaa", sum := "69317aa6076f39498804411b9f3c7e8ac5fe50d6e801ab555bba2f385420d49d", func := "sluiceway/sluicewaylaw07.VyAlone", spec := "vyAlone", unfollowed := true, recurses := true, apart := false, narrowed := true }
def VyAloneUptoSaid : Prop := vyAloneUptoRow.holds Try.pinned (OpenSpec.upto vyAloneSpec)

/-- 'sluicewaylaw07.VyOrders', WHERE WHAT IT READS IS OF BULK AT MOST 1048576: true; the input reads as it did. -/
def vyOrdersUptoRow : OpenClaim := { program := "ytgipbamdefjenaa", sum := "69317aa6076f39498804411b9f3c7e8ac5fe50d6e801ab555bba2f385420d49d", func := "sluiceway/sluicewaylaw07.VyOrders", spec := "vyOrders", unfollowed := true, recurses := true, apart := false, narrowed := true }
def VyOrdersUptoSaid : Prop := vyOrdersUptoRow.holds Try.pinned (OpenSpec.upto vyOrdersSpec)

end Rows
end Go.Proofs.Ytgipbamdefjenaa
