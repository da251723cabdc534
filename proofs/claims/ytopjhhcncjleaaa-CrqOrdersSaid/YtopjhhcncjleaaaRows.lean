/-
  No cell of these rows narrows 'for every input' (looked for: loops, veiled, ifaces, maps, wideKeys, modest, calm, conditions, laid).
  DERIVED. THE GIVEN ROWS OF THIS SEAT. 5 by the template 'for every input the law returns true; each argument reads behind the call as it read before'; 0 by the template 'total and deterministic' (their statements: YtopjhhcncjleaaaTotals.lean).
  GIVEN WITH THE SEED: the statements are not yours to turn. If you find one false, say at which input.
  Laid BY PROGRAM, IN A SANDBOX (cutbox-rows.mjs): the forced cells as the released guide's own fill.sh prints them over the translation 9b50fe59b845e668… (all of the seat's roots in one cut). By AI agents, Wed Nov 11 2026. No macro, syntax, notation, axiom, sorry.
-/
import Derived.Test.YtopjhhcncjleaaaChecked
import GoSem.Claim
import GoSem.ClaimJoined
import GoSem.ClaimMapViews
import Derived.JoinedTies
import Derived.KernelRfl
namespace Go.Proofs.Ytopjhhcncjleaaa
/- THE CELL 'sum', in the pinned program and in every row, IS THE sha256 OF THE DUMP (.gsa) THAT YtopjhhcncjleaaaProg.lean LOADS. Nothing in Lean hashes anything: it is a label: what it is worth is what the hold of that sum in a sandbox is worth. -/
noncomputable def Try.pinned : Pinned := { name := "ytopjhhcncjleaaa", sum := "9b50fe59b845e668041c9d6b8ad0d1c64e22c575d4c7e9620f070b57419ef383", checked := Try.checked }
namespace Rows
def none {H : Type} : Left H := { results := [], args := [] }

/-- 'sluicewaylaw14.CrqSteps': WHATEVER THE INPUT: true; the input reads as it did. -/
def crqStepsSpec : ChangeSpec := { name := "crqSteps", fn := fun _ => fun
  | [d1, d2, d3] => { results := [.lit (.bool true)], args := [d1, d2, d3] }
  | _ => none }
def crqStepsRow : OpenClaim := { program := "ytopjhhcncjleaaa", sum := "9b50fe59b845e668041c9d6b8ad0d1c64e22c575d4c7e9620f070b57419ef383", func := "sluiceway/sluicewaylaw14.CrqSteps", spec := "crqSteps", unfollowed := true, recurses := true, apart := false }
def CrqStepsSaid : Prop := crqStepsRow.holds Try.pinned (OpenSpec.ofChange crqStepsSpec)

/-- ITS FALSE NEIGHBOUR: 'it returns false'. Refute it at one input. -/
def crqStepsWrong : ChangeSpec := { name := "crqSteps", fn := fun _ => fun
  | [d1, d2, d3] => { results := [.lit (.bool false)], args := [d1, d2, d3] }
  | _ => none }
def CrqStepsWrongFalsely : Prop := crqStepsRow.holds Try.pinned (OpenSpec.ofChange crqStepsWrong)

/-- 'sluicewaylaw14.CrqDrains': WHATEVER THE INPUT: true; the input reads as it did. -/
def crqDrainsSpec : ChangeSpec := { name := "crqDrains", fn := fun _ => fun
  | [d1, d2, d3] => { results := [.lit (.bool true)], args := [d1, d2, d3] }
  | _ => none }
def crqDrainsRow : OpenClaim := { program := "ytopjhhcncjleaaa", sum := "9b50fe59b845e668041c9d6b8ad0d1c64e22c575d4c7e9620f070b57419ef383", func := "sluiceway/sluicewaylaw14.CrqDrains", spec := "crqDrains", unfollowed := true, recurses := true, apart := false }
def CrqDrainsSaid : Prop := crqDrainsRow.holds Try.pinned (OpenSpec.ofChange crqDrainsSpec)

/-- ITS FALSE NEIGHBOUR: 'it returns false'. Refute it at one input. -/
def crqDrainsWrong : ChangeSpec := { name := "crqDrains", fn := fun _ => fun
  | [d1, d2, d3] => { results := [.lit (.bool false)], args := [d1, d2, d3] }
  | _ => none }
def CrqDrainsWrongFalsely : Prop := crqDrainsRow.holds Try.pinned (OpenSpec.ofChange crqDrainsWrong)

/-- 'sluicewaylaw14.CrqNobody': WHATEVER THE INPUT: true; the input reads as it did. -/
def crqNobodySpec : ChangeSpec := { name := "crqNobody", fn := fun _ => fun
  | [d1, d2] => { results := [.lit (.bool true)], args := [d1, d2] }
  | _ => none }
def crqNobodyRow : OpenClaim := { program := "ytopjhhcncjleaaa", sum := "9b50fe59b845e668041c9d6b8ad0d1c64e22c575d4c7e9620f070b57419ef383", func := "sluiceway/sluicewaylaw14.CrqNobody", spec := "crqNobody", unfollowed := true, recurses := true, apart := false }
def CrqNobodySaid : Prop := crqNobodyRow.holds Try.pinned (OpenSpec.ofChange crqNobodySpec)

/-- ITS FALSE NEIGHBOUR: 'it returns false'. Refute it at one input. -/
def crqNobodyWrong : ChangeSpec := { name := "crqNobody", fn := fun _ => fun
  | [d1, d2] => { results := [.lit (.bool false)], args := [d1, d2] }
  | _ => none }
def CrqNobodyWrongFalsely : Prop := crqNobodyRow.holds Try.pinned (OpenSpec.ofChange crqNobodyWrong)

/-- 'sluicewaylaw14.CrqAlone': WHATEVER THE INPUT: true; the input reads as it did. -/
def crqAloneSpec : ChangeSpec := { name := "crqAlone", fn := fun _ => fun
  | [d1, d2, d3] => { results := [.lit (.bool true)], args := [d1, d2, d3] }
  | _ => none }
def crqAloneRow : OpenClaim := { program := "ytopjhhcncjleaaa", sum := "9b50fe59b845e668041c9d6b8ad0d1c64e22c575d4c7e9620f070b57419ef383", func := "sluiceway/sluicewaylaw14.CrqAlone", spec := "crqAlone", unfollowed := true, recurses := true, apart := false }
def CrqAloneSaid : Prop := crqAloneRow.holds Try.pinned (OpenSpec.ofChange crqAloneSpec)

/-- ITS FALSE NEIGHBOUR: 'it returns false'. Refute it at one input. -/
def crqAloneWrong : ChangeSpec := { name := "crqAlone", fn := fun _ => fun
  | [d1, d2, d3] => { results := [.lit (.bool false)], args := [d1, d2, d3] }
  | _ => none }
def CrqAloneWrongFalsely : Prop := crqAloneRow.holds Try.pinned (OpenSpec.ofChange crqAloneWrong)

/-- 'sluicewaylaw14.CrqOrders': WHATEVER THE INPUT: true; the input reads as it did. -/
def crqOrdersSpec : ChangeSpec := { name := "crqOrders", fn := fun _ => fun
  | [d1, d2, d3] => { results := [.lit (.bool true)], args := [d1, d2, d3] }
  | _ => none }
def crqOrdersRow : OpenClaim := { program := "ytopjhhcncjleaaa", sum := "9b50fe59b845e668041c9d6b8ad0d1c64e22c575d4c7e9620f070b57419ef383", func := "sluiceway/sluicewaylaw14.CrqOrders", spec := "crqOrders", unfollowed := true, recurses := true, apart := false }
def CrqOrdersSaid : Prop := crqOrdersRow.holds Try.pinned (OpenSpec.ofChange crqOrdersSpec)

/-- ITS FALSE NEIGHBOUR: 'it returns false'. Refute it at one input. -/
def crqOrdersWrong : ChangeSpec := { name := "crqOrders", fn := fun _ => fun
  | [d1, d2, d3] => { results := [.lit (.bool false)], args := [d1, d2, d3] }
  | _ => none }
def CrqOrdersWrongFalsely : Prop := crqOrdersRow.holds Try.pinned (OpenSpec.ofChange crqOrdersWrong)

/- THE SECOND FORM. 'bulk': how many values and letters a reading holds, each counted each time it is reached (what is shared counts as often as it is met; a slice's spare places count too). A statement '..UptoSaid' is the law's where the arguments, and the package variables that the reading takes, are together of bulk at most 1048576: NARROWER than '..Said'. Prove '..Said' where nothing that the law and all that it calls make is longer than what came in: it says more and counts as full. Else prove '..UptoSaid'. A law counts once. -/
mutual
def uptoBulk {H : Type} : DataW H → Nat
  | .lit (.string bytes) => bytes.length + 1
  | .lit _ => 1
  | .nil => 1
  | .ptr d => uptoBulk d + 1
  | .slice elems spare => uptoBulkAll elems + uptoBulkAll spare + 1
  | .agg parts => uptoBulkAll parts + 1
  | .iface _ d => uptoBulk d + 1
  | .map entries => uptoBulkEntries entries + 1
  | .held _ => 1
def uptoBulkAll {H : Type} : List (DataW H) → Nat
  | [] => 0
  | d :: r => uptoBulk d + uptoBulkAll r
def uptoBulkEntries {H : Type} : List (Lit × DataW H) → Nat
  | [] => 0
  | x :: r => uptoBulkEntry x + uptoBulkEntries r
def uptoBulkEntry {H : Type} : Lit × DataW H → Nat
  | (.string bytes, d) => bytes.length + uptoBulk d + 1
  | (_, d) => uptoBulk d + 1
 end
def uptoSmall : (H : Type) → List (DataW H) → Bool := fun _ ds => decide (uptoBulkAll ds ≤ 1048576)
def OpenSpec.upto (s : _root_.Go.ChangeSpec) : _root_.Go.OpenSpec := { _root_.Go.OpenSpec.ofChange s with cond := some uptoSmall }

/-- 'sluicewaylaw14.CrqSteps', WHERE WHAT IT READS IS OF BULK AT MOST 1048576: true; the input reads as it did. -/
def crqStepsUptoRow : OpenClaim := { program := "ytopjhhcncjleaaa", sum := "9b50fe59b845e668041c9d6b8ad0d1c64e22c575d4c7e9620f070b57419ef383", func := "sluiceway/sluicewaylaw14.CrqSteps", spec := "crqSteps", unfollowed := true, recurses := true, apart := false, narrowed := true }
def CrqStepsUptoSaid : Prop := crqStepsUptoRow.holds Try.pinned (OpenSpec.upto crqStepsSpec)

/-- 'sluicewaylaw14.CrqDrains', WHERE WHAT IT READS IS OF BULK AT MOST 1048576: true; the input reads as it did. -/
def crqDrainsUptoRow : OpenClaim := { program := "ytopjhhcncjleaaa", sum := "9b50fe59b845e668041c9d6b8ad0d1c64e22c575d4c7e9620f070b57419ef383", func := "sluiceway/sluicewaylaw14.CrqDrains", spec := "crqDrains", unfollowed := true, recurses := true, apart := false, narrowed := true }
def CrqDrainsUptoSaid : Prop := crqDrainsUptoRow.holds Try.pinned (OpenSpec.upto crqDrainsSpec)

/-- 'sluicewaylaw14.CrqNobody', WHERE WHAT IT READS IS OF BULK AT MOST 1048576: true; the input reads as it did. -/
def crqNobodyUptoRow : OpenClaim := { program := "ytopjhhcncjleaaa", sum := "9b50fe59b845e668041c9d6b8ad0d1c64e22c575d4c7e9620f070b57419ef383", func := "sluiceway/sluicewaylaw14.CrqNobody", spec := "crqNobody", unfollowed := true, recurses := true, apart := false, narrowed := true }
def CrqNobodyUptoSaid : Prop := crqNobodyUptoRow.holds Try.pinned (OpenSpec.upto crqNobodySpec)

/-- 'sluicewaylaw14.CrqAlone', WHERE WHAT IT READS IS OF BULK AT MOST 1048576: true; the input reads as it did. -/
def crqAloneUptoRow : OpenClaim := { program := "ytopjhhcncjleaaa", sum := "9b50fe59b845e668041c9d6b8ad0d1c64e22c575d4c7e9620f070b57419ef383", func := "sluiceway/sluicewaylaw14.CrqAlone", spec := "crqAlone", unfollowed := true, recurses := true, apart := false, narrowed := true }
def CrqAloneUptoSaid : Prop := crqAloneUptoRow.holds Try.pinned (OpenSpec.upto crqAloneSpec)

/-- 'sluicewaylaw14.CrqOrders', WHERE WHAT IT READS IS OF BULK AT MOST 1048576: true; the input reads as it did. -/
def crqOrdersUptoRow : OpenClaim := { program := "ytopjhhcncjleaaa", sum := "9b50fe59b845e668041c9d6b8ad0d1c64e22c575d4c7e9620f070b57419ef383", func := "sluiceway/sluicewaylaw14.CrqOrders", spec := "crqOrders", unfollowed := true, recurses := true, apart := false, narrowed := true }
def CrqOrdersUptoSaid : Prop := crqOrdersUptoRow.holds Try.pinned (OpenSpec.upto crqOrdersSpec)

end Rows
end Go.Proofs.Ytopjhhcncjleaaa
