/-
  No cell of these rows narrows 'for every input' (looked for: loops, veiled, ifaces, maps, wideKeys, modest, calm, conditions, laid).
  DERIVED. THE GIVEN ROWS OF THIS SEAT. 3 by the template 'for every input the law returns true; each argument reads behind the call as it read before'; 0 by the template 'total and deterministic' (their statements: YtagpbakgjglnhaaTotals.lean).
  GIVEN WITH THE SEED: the statements are not yours to turn. If you find one false, say at which input.
  Laid BY PROGRAM, IN A SANDBOX (cutbox-rows.mjs): the forced cells as the released guide's own fill.sh prints them over the translation b07a0581bb9b9ac6… (all of the seat's roots in one cut). By AI agents, Wed Nov 11 2026. No macro, syntax, notation, axiom, sorry.
-/
import Derived.Test.YtagpbakgjglnhaaChecked
import GoSem.Claim
import GoSem.ClaimJoined
import GoSem.ClaimMapViews
import Derived.JoinedTies
import Derived.KernelRfl
namespace Go.Proofs.Ytagpbakgjglnhaa
/- THE CELL 'sum', in the pinned program and in every row, IS THE sha256 OF THE DUMP (.gsa) THAT YtagpbakgjglnhaaProg.lean LOADS. Nothing in Lean hashes anything: it is a label: what it is worth is what the hold of that sum in a sandbox is worth. -/
noncomputable def Try.pinned : Pinned := { name := "ytagpbakgjglnhaa", sum := "b07a0581bb9b9ac67ba4d071240c901828067d4bf659fbbb517359e8b4ad504e", checked := Try.checked }
namespace Rows
def none {H : Type} : Left H := { results := [], args := [] }

/-- 'sluicewaylaw21.BufTexts': WHATEVER THE INPUT: true; the input reads as it did. -/
def bufTextsSpec : ChangeSpec := { name := "bufTexts", fn := fun _ => fun
  | [d1, d2] => { results := [.lit (.bool true)], args := [d1, d2] }
  | _ => none }
def bufTextsRow : OpenClaim := { program := "ytagpbakgjglnhaa", sum := "b07a0581bb9b9ac67ba4d071240c901828067d4bf659fbbb517359e8b4ad504e", func := "sluiceway/sluicewaylaw21.BufTexts", spec := "bufTexts", unfollowed := true, recurses := true, apart := false }
def BufTextsSaid : Prop := bufTextsRow.holds Try.pinned (OpenSpec.ofChange bufTextsSpec)

/-- ITS FALSE NEIGHBOUR: 'it returns false'. Refute it at one input. -/
def bufTextsWrong : ChangeSpec := { name := "bufTexts", fn := fun _ => fun
  | [d1, d2] => { results := [.lit (.bool false)], args := [d1, d2] }
  | _ => none }
def BufTextsWrongFalsely : Prop := bufTextsRow.holds Try.pinned (OpenSpec.ofChange bufTextsWrong)

/-- 'sluicewaylaw21.BufNobody': WHATEVER THE INPUT: true; the input reads as it did. -/
def bufNobodySpec : ChangeSpec := { name := "bufNobody", fn := fun _ => fun
  | [d1, d2] => { results := [.lit (.bool true)], args := [d1, d2] }
  | _ => none }
def bufNobodyRow : OpenClaim := { program := "ytagpbakgjglnhaa", sum := "b07a0581bb9b9ac67ba4d071240c901828067d4bf659fbbb517359e8b4ad504e", func := "sluiceway/sluicewaylaw21.BufNobody", spec := "bufNobody", unfollowed := true, recurses := true, apart := false }
def BufNobodySaid : Prop := bufNobodyRow.holds Try.pinned (OpenSpec.ofChange bufNobodySpec)

/-- ITS FALSE NEIGHBOUR: 'it returns false'. Refute it at one input. -/
def bufNobodyWrong : ChangeSpec := { name := "bufNobody", fn := fun _ => fun
  | [d1, d2] => { results := [.lit (.bool false)], args := [d1, d2] }
  | _ => none }
def BufNobodyWrongFalsely : Prop := bufNobodyRow.holds Try.pinned (OpenSpec.ofChange bufNobodyWrong)

/-- 'sluicewaylaw21.BufCopies': WHATEVER THE INPUT: true; the input reads as it did. -/
def bufCopiesSpec : ChangeSpec := { name := "bufCopies", fn := fun _ => fun
  | [d1, d2, d3] => { results := [.lit (.bool true)], args := [d1, d2, d3] }
  | _ => none }
def bufCopiesRow : OpenClaim := { program := "ytagpbakgjglnhaa", sum := "b07a0581bb9b9ac67ba4d071240c901828067d4bf659fbbb517359e8b4ad504e", func := "sluiceway/sluicewaylaw21.BufCopies", spec := "bufCopies", unfollowed := true, recurses := true, apart := false }
def BufCopiesSaid : Prop := bufCopiesRow.holds Try.pinned (OpenSpec.ofChange bufCopiesSpec)

/-- ITS FALSE NEIGHBOUR: 'it returns false'. Refute it at one input. -/
def bufCopiesWrong : ChangeSpec := { name := "bufCopies", fn := fun _ => fun
  | [d1, d2, d3] => { results := [.lit (.bool false)], args := [d1, d2, d3] }
  | _ => none }
def BufCopiesWrongFalsely : Prop := bufCopiesRow.holds Try.pinned (OpenSpec.ofChange bufCopiesWrong)

/- THE SECOND FORM. 'bulk': how many values and letters a reading holds, each counted each time it is reached (what is shared counts as often as it is met; a slice's spare places count too). A statement '..UptoSaid' is the law's where the arguments, and the package variables that the reading takes, are together of bulk at most 1048576: NARROWER than '..Said'. Prove '..Said' where nothing that the law and all that it calls make is longer than what came in: it says more and counts as full. Else prove '..UptoSaid'. A law counts once. -/
mutual
def uptoBulk {H : Type} : DataW H → Nat
  | .lit (.string bytes) => bytes.length + 1
  | .lit _ => 1
  | .nil => 1
  | .ptr d => uptoBulk d + 1
  | .slice elems spare => uptoBulkAll elems + uptoBulkAll spare + 1
  | .agg parts => uptoBulkAll parts + 1
  | .iface _ d => uptoBulk d + 1
  | .map entries => uptoBulkEntries entries + 1
  | .held _ => 1
def uptoBulkAll {H : Type} : List (DataW H) → Nat
  | [] => 0
  | d :: r => uptoBulk d + uptoBulkAll r
def uptoBulkEntries {H : Type} : List (Lit × DataW H) → Nat
  | [] => 0
  | x :: r => uptoBulkEntry x + uptoBulkEntries r
def uptoBulkEntry {H : Type} : Lit × DataW H → Nat
  | (.string bytes, d) => bytes.length + uptoBulk d + 1
  | (_, d) => uptoBulk d + 1
 end
def uptoSmall : (H : Type) → List (DataW H) → Bool := fun _ ds => decide (uptoBulkAll ds ≤ 1048576)
def OpenSpec.upto (s : _root_.Go.ChangeSpec) : _root_.Go.OpenSpec := { _root_.Go.OpenSpec.ofChange s with cond := some uptoSmall }

/-- 'sluicewaylaw21.BufTexts', WHERE WHAT IT READS IS OF BULK AT MOST 1048576: true; the input reads as it did. -/
def bufTextsUptoRow : OpenClaim := { program := "ytagpbakgjglnhaa", sum := "b07a0581bb9b9ac67ba4d071240c901828067d4bf659fbbb517359e8b4ad504e", func := "sluiceway/sluicewaylaw21.BufTexts", spec := "bufTexts", unfollowed := true, recurses := true, apart := false, narrowed := true }
def BufTextsUptoSaid : Prop := bufTextsUptoRow.holds Try.pinned (OpenSpec.upto bufTextsSpec)

/-- 'sluicewaylaw21.BufNobody', WHERE WHAT IT READS IS OF BULK AT MOST 1048576: true; the input reads as it did. -/
def bufNobodyUptoRow : OpenClaim := { program := "ytagpbakgjglnhaa", sum := "b07a0581bb9b9ac67ba4d071240c901828067d4bf659fbbb517359e8b4ad504e", func := "sluiceway/sluicewaylaw21.BufNobody", spec := "bufNobody", unfollowed := true, recurses := true, apart := false, narrowed := true }
def BufNobodyUptoSaid : Prop := bufNobodyUptoRow.holds Try.pinned (OpenSpec.upto bufNobodySpec)

/-- 'sluicewaylaw21.BufCopies', WHERE WHAT IT READS IS OF BULK AT MOST 1048576: true; the input reads as it did. -/
def bufCopiesUptoRow : OpenClaim := { program := "ytagpbakgjglnhaa", sum := "b07a0581bb9b9ac67ba4d071240c901828067d4bf659fbbb517359e8b4ad504e", func := "sluiceway/sluicewaylaw21.BufCopies", spec := "bufCopies", unfollowed := true, recurses := true, apart := false, narrowed := true }
def BufCopiesUptoSaid : Prop := bufCopiesUptoRow.holds Try.pinned (OpenSpec.upto bufCopiesSpec)

end Rows
end Go.Proofs.Ytagpbakgjglnhaa
