/-
  No cell of these rows narrows 'for every input' (looked for: loops, veiled, ifaces, maps, wideKeys, modest, calm, conditions, laid).
  DERIVED. THE GIVEN ROWS OF THIS SEAT. 5 by the template 'for every input the law returns true; each argument reads behind the call as it read before'; 0 by the template 'total and deterministic' (their statements: YtlkfmeobkgglfaaTotals.lean).
  GIVEN WITH THE SEED: the statements are not yours to turn. If you find one false, say at which input.
  Laid BY PROGRAM, IN A SANDBOX (cutbox-rows.mjs): the forced cells as the released guide's own fill.sh prints them over the translation e462b72cd823feee… (all of the seat's roots in one cut). By AI agents, Wed Nov 11 2026. No macro, syntax, notation, axiom, sorry.
-/
import Derived.Test.YtlkfmeobkgglfaaChecked
import GoSem.Claim
import GoSem.ClaimJoined
import GoSem.ClaimMapViews
import Derived.JoinedTies
import Derived.KernelRfl
namespace Go.Proofs.Ytlkfmeobkgglfaa
/- THE CELL 'sum', in the pinned program and in every row, IS THE sha256 OF THE DUMP (.gsa) THAT YtlkfmeobkgglfaaProg.lean LOADS. Nothing in Lean hashes anything: it is a label: what it is worth is what the hold of that sum in a sandbox is worth. -/
noncomputable def Try.pinned : Pinned := { name := "ytlkfmeobkgglfaa", sum := "e462b72cd823feeeb859bde9fc0c8eaada719045577aad78020ca8b1b57384c7", checked := Try.checked }
namespace Rows
def none {H : Type} : Left H := { results := [], args := [] }

/-- 'sluicewaylaw04.HistRight': WHATEVER THE INPUT: true; the input reads as it did. -/
def histRightSpec : ChangeSpec := { name := "histRight", fn := fun _ => fun
  | [d] => { results := [.lit (.bool true)], args := [d] }
  | _ => none }
def histRightRow : OpenClaim := { program := "ytlkfmeobkgglfaa", sum := "e462b72cd823feeeb859bde9fc0c8eaada719045577aad78020ca8b1b57384c7", func := "sluiceway/sluicewaylaw04.HistRight", spec := "histRight", unfollowed := true, recurses := true, apart := false }
def HistRightSaid : Prop := histRightRow.holds Try.pinned (OpenSpec.ofChange histRightSpec)

/-- ITS FALSE NEIGHBOUR: 'it returns false'. Refute it at one input. -/
def histRightWrong : ChangeSpec := { name := "histRight", fn := fun _ => fun
  | [d] => { results := [.lit (.bool false)], args := [d] }
  | _ => none }
def HistRightWrongFalsely : Prop := histRightRow.holds Try.pinned (OpenSpec.ofChange histRightWrong)

/-- 'sluicewaylaw04.HistOrders': WHATEVER THE INPUT: true; the input reads as it did. -/
def histOrdersSpec : ChangeSpec := { name := "histOrders", fn := fun _ => fun
  | [d1, d2, d3] => { results := [.lit (.bool true)], args := [d1, d2, d3] }
  | _ => none }
def histOrdersRow : OpenClaim := { program := "ytlkfmeobkgglfaa", sum := "e462b72cd823feeeb859bde9fc0c8eaada719045577aad78020ca8b1b57384c7", func := "sluiceway/sluicewaylaw04.HistOrders", spec := "histOrders", unfollowed := true, recurses := true, apart := false }
def HistOrdersSaid : Prop := histOrdersRow.holds Try.pinned (OpenSpec.ofChange histOrdersSpec)

/-- ITS FALSE NEIGHBOUR: 'it returns false'. Refute it at one input. -/
def histOrdersWrong : ChangeSpec := { name := "histOrders", fn := fun _ => fun
  | [d1, d2, d3] => { results := [.lit (.bool false)], args := [d1, d2, d3] }
  | _ => none }
def HistOrdersWrongFalsely : Prop := histOrdersRow.holds Try.pinned (OpenSpec.ofChange histOrdersWrong)

/-- 'sluicewaylaw04.HistNotes': WHATEVER THE INPUT: true; the input reads as it did. -/
def histNotesSpec : ChangeSpec := { name := "histNotes", fn := fun _ => fun
  | [d] => { results := [.lit (.bool true)], args := [d] }
  | _ => none }
def histNotesRow : OpenClaim := { program := "ytlkfmeobkgglfaa", sum := "e462b72cd823feeeb859bde9fc0c8eaada719045577aad78020ca8b1b57384c7", func := "sluiceway/sluicewaylaw04.HistNotes", spec := "histNotes", unfollowed := true, recurses := true, apart := false }
def HistNotesSaid : Prop := histNotesRow.holds Try.pinned (OpenSpec.ofChange histNotesSpec)

/-- ITS FALSE NEIGHBOUR: 'it returns false'. Refute it at one input. -/
def histNotesWrong : ChangeSpec := { name := "histNotes", fn := fun _ => fun
  | [d] => { results := [.lit (.bool false)], args := [d] }
  | _ => none }
def HistNotesWrongFalsely : Prop := histNotesRow.holds Try.pinned (OpenSpec.ofChange histNotesWrong)

/-- 'sluicewaylaw04.HistNobody': WHATEVER THE INPUT: true; the input reads as it did. -/
def histNobodySpec : ChangeSpec := { name := "histNobody", fn := fun _ => fun
  | [d] => { results := [.lit (.bool true)], args := [d] }
  | _ => none }
def histNobodyRow : OpenClaim := { program := "ytlkfmeobkgglfaa", sum := "e462b72cd823feeeb859bde9fc0c8eaada719045577aad78020ca8b1b57384c7", func := "sluiceway/sluicewaylaw04.HistNobody", spec := "histNobody", unfollowed := true, recurses := true, apart := false }
def HistNobodySaid : Prop := histNobodyRow.holds Try.pinned (OpenSpec.ofChange histNobodySpec)

/-- ITS FALSE NEIGHBOUR: 'it returns false'. Refute it at one input. -/
def histNobodyWrong : ChangeSpec := { name := "histNobody", fn := fun _ => fun
  | [d] => { results := [.lit (.bool false)], args := [d] }
  | _ => none }
def HistNobodyWrongFalsely : Prop := histNobodyRow.holds Try.pinned (OpenSpec.ofChange histNobodyWrong)

/-- 'sluicewaylaw04.HistTells': WHATEVER THE INPUT: true; the input reads as it did. -/
def histTellsSpec : ChangeSpec := { name := "histTells", fn := fun _ => fun
  | [d1, d2, d3] => { results := [.lit (.bool true)], args := [d1, d2, d3] }
  | _ => none }
def histTellsRow : OpenClaim := { program := "ytlkfmeobkgglfaa", sum := "e462b72cd823feeeb859bde9fc0c8eaada719045577aad78020ca8b1b57384c7", func := "sluiceway/sluicewaylaw04.HistTells", spec := "histTells", unfollowed := true, recurses := true, apart := false }
def HistTellsSaid : Prop := histTellsRow.holds Try.pinned (OpenSpec.ofChange histTellsSpec)

/-- ITS FALSE NEIGHBOUR: 'it returns false'. Refute it at one input. -/
def histTellsWrong : ChangeSpec := { name := "histTells", fn := fun _ => fun
  | [d1, d2, d3] => { results := [.lit (.bool false)], args := [d1, d2, d3] }
  | _ => none }
def HistTellsWrongFalsely : Prop := histTellsRow.holds Try.pinned (OpenSpec.ofChange histTellsWrong)

/- THE SECOND FORM. 'bulk': how many values and letters a reading holds, each counted each time it is reached (what is shared counts as often as it is met; a slice's spare places count too). A statement '..UptoSaid' is the law's where the arguments, and the package variables that the reading takes, are together of bulk at most 1048576: NARROWER than '..Said'. Prove '..Said' where nothing that the law and all that it calls make is longer than what came in: it says more and counts as full. Else prove '..UptoSaid'. A law counts once. -/
mutual
def uptoBulk {H : Type} : DataW H → Nat
  | .lit (.string bytes) => bytes.length + 1
  | .lit _ => 1
  | .nil => 1
  | .ptr d => uptoBulk d + 1
  | .slice elems spare => uptoBulkAll elems + uptoBulkAll spare + 1
  | .agg parts => uptoBulkAll parts + 1
  | .iface _ d => uptoBulk d + 1
  | .map entries => uptoBulkEntries entries + 1
  | .held _ => 1
def uptoBulkAll {H : Type} : List (DataW H) → Nat
  | [] => 0
  | d :: r => uptoBulk d + uptoBulkAll r
def uptoBulkEntries {H : Type} : List (Lit × DataW H) → Nat
  | [] => 0
  | x :: r => uptoBulkEntry x + uptoBulkEntries r
def uptoBulkEntry {H : Type} : Lit × DataW H → Nat
  | (.string bytes, d) => bytes.length + uptoBulk d + 1
  | (_, d) => uptoBulk d + 1
 end
def uptoSmall : (H : Type) → List (DataW H) → Bool := fun _ ds => decide (uptoBulkAll ds ≤ 1048576)
def OpenSpec.upto (s : _root_.Go.ChangeSpec) : _root_.Go.OpenSpec := { _root_.Go.OpenSpec.ofChange s with cond := some uptoSmall }

/-- 'sluicewaylaw04.HistRight', WHERE WHAT IT READS IS OF BULK AT MOST 1048576: true; the input reads as it did. -/
def histRightUptoRow : OpenClaim := { program := "ytlkfmeobkgglfaa", sum := "e462b72cd823feeeb859bde9fc0c8eaada719045577aad78020ca8b1b57384c7", func := "sluiceway/sluicewaylaw04.HistRight", spec := "histRight", unfollowed := true, recurses := true, apart := false, narrowed := true }
def HistRightUptoSaid : Prop := histRightUptoRow.holds Try.pinned (OpenSpec.upto histRightSpec)

/-- 'sluicewaylaw04.HistOrders', WHERE WHAT IT READS IS OF BULK AT MOST 1048576: true; the input reads as it did. -/
def histOrdersUptoRow : OpenClaim := { program := "ytlkfmeobkgglfaa", sum := "e462b72cd823feeeb859bde9fc0c8eaada719045577aad78020ca8b1b57384c7", func := "sluiceway/sluicewaylaw04.HistOrders", spec := "histOrders", unfollowed := true, recurses := true, apart := false, narrowed := true }
def HistOrdersUptoSaid : Prop := histOrdersUptoRow.holds Try.pinned (OpenSpec.upto histOrdersSpec)

/-- 'sluicewaylaw04.HistNotes', WHERE WHAT IT READS IS OF BULK AT MOST 1048576: true; the input reads as it did. -/
def histNotesUptoRow : OpenClaim := { program := "ytlkfmeobkgglfaa", sum := "e462b72cd823feeeb859bde9fc0c8eaada719045577aad78020ca8b1b57384c7", func := "sluiceway/sluicewaylaw04.HistNotes", spec := "histNotes", unfollowed := true, recurses := true, apart := false, narrowed := true }
def HistNotesUptoSaid : Prop := histNotesUptoRow.holds Try.pinned (OpenSpec.upto histNotesSpec)

/-- 'sluicewaylaw04.HistNobody', WHERE WHAT IT READS IS OF BULK AT MOST 1048576: true; the input reads as it did. -/
def histNobodyUptoRow : OpenClaim := { program := "ytlkfmeobkgglfaa", sum := "e462b72cd823feeeb859bde9fc0c8eaada719045577aad78020ca8b1b57384c7", func := "sluiceway/sluicewaylaw04.HistNobody", spec := "histNobody", unfollowed := true, recurses := true, apart := false, narrowed := true }
def HistNobodyUptoSaid : Prop := histNobodyUptoRow.holds Try.pinned (OpenSpec.upto histNobodySpec)

/-- 'sluicewaylaw04.HistTells', WHERE WHAT IT READS IS OF BULK AT MOST 1048576: true; the input reads as it did. -/
def histTellsUptoRow : OpenClaim := { program := "ytlkfmeobkgglfaa", sum := "e462b72cd823feeeb859bde9fc0c8eaada719045577aad78020ca8b1b57384c7", func := "sluiceway/sluicewaylaw04.HistTells", spec := "histTells", unfollowed := true, recurses := true, apart := false, narrowed := true }
def HistTellsUptoSaid : Prop := histTellsUptoRow.holds Try.pinned (OpenSpec.upto histTellsSpec)

end Rows
end Go.Proofs.Ytlkfmeobkgglfaa
