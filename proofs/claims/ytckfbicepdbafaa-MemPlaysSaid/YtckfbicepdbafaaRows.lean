/-
  No cell of these rows narrows 'for every input' (looked for: loops, veiled, ifaces, maps, wideKeys, modest, calm, conditions, laid).
  DERIVED. THE GIVEN ROWS OF THIS SEAT. 5 by the template 'for every input the law returns true; each argument reads behind the call as it read before'; 0 by the template 'total and deterministic' (their statements: YtckfbicepdbafaaTotals.lean).
  GIVEN WITH THE SEED: the statements are not yours to turn. If you find one false, say at which input.
  Laid BY PROGRAM, IN A SANDBOX (cutbox-rows.mjs): the forced cells as the released guide's own fill.sh prints them over the translation abbcb3676d561c36… (all of the seat's roots in one cut). By AI agents, Wed Nov 11 2026. No macro, syntax, notation, axiom, sorry.
-/
import Derived.Test.YtckfbicepdbafaaChecked
import GoSem.Claim
import GoSem.ClaimJoined
import GoSem.ClaimMapViews
import Derived.JoinedTies
import Derived.KernelRfl
namespace Go.Proofs.Ytckfbicepdbafaa
/- THE CELL 'sum', in the pinned program and in every row, IS THE sha256 OF THE DUMP (.gsa) THAT YtckfbicepdbafaaProg.lean LOADS. Nothing in Lean hashes anything: it is a label: what it is worth is what the hold of that sum in a sandbox is worth. -/
noncomputable def Try.pinned : Pinned := { name := "ytckfbicepdbafaa", sum := "abbcb3676d561c36d2a0ce66be25e4ff5aab0e14567767b967cfccd95be25851", checked := Try.checked }
namespace Rows
def none {H : Type} : Left H := { results := [], args := [] }

/-- 'sluicewaylaw02.MemSwaps': WHATEVER THE INPUT: true; the input reads as it did. -/
def memSwapsSpec : ChangeSpec := { name := "memSwaps", fn := fun _ => fun
  | [d1, d2] => { results := [.lit (.bool true)], args := [d1, d2] }
  | _ => none }
def memSwapsRow : OpenClaim := { program := "ytckfbicepdbafaa", sum := "abbcb3676d561c36d2a0ce66be25e4ff5aab0e14567767b967cfccd95be25851", func := "sluiceway/sluicewaylaw02.MemSwaps", spec := "memSwaps", unfollowed := true, recurses := true, apart := false }
def MemSwapsSaid : Prop := memSwapsRow.holds Try.pinned (OpenSpec.ofChange memSwapsSpec)

/-- ITS FALSE NEIGHBOUR: 'it returns false'. Refute it at one input. -/
def memSwapsWrong : ChangeSpec := { name := "memSwaps", fn := fun _ => fun
  | [d1, d2] => { results := [.lit (.bool false)], args := [d1, d2] }
  | _ => none }
def MemSwapsWrongFalsely : Prop := memSwapsRow.holds Try.pinned (OpenSpec.ofChange memSwapsWrong)

/-- 'sluicewaylaw02.MemApart': WHATEVER THE INPUT: true; the input reads as it did. -/
def memApartSpec : ChangeSpec := { name := "memApart", fn := fun _ => fun
  | [d1, d2] => { results := [.lit (.bool true)], args := [d1, d2] }
  | _ => none }
def memApartRow : OpenClaim := { program := "ytckfbicepdbafaa", sum := "abbcb3676d561c36d2a0ce66be25e4ff5aab0e14567767b967cfccd95be25851", func := "sluiceway/sluicewaylaw02.MemApart", spec := "memApart", unfollowed := true, recurses := true, apart := false }
def MemApartSaid : Prop := memApartRow.holds Try.pinned (OpenSpec.ofChange memApartSpec)

/-- ITS FALSE NEIGHBOUR: 'it returns false'. Refute it at one input. -/
def memApartWrong : ChangeSpec := { name := "memApart", fn := fun _ => fun
  | [d1, d2] => { results := [.lit (.bool false)], args := [d1, d2] }
  | _ => none }
def MemApartWrongFalsely : Prop := memApartRow.holds Try.pinned (OpenSpec.ofChange memApartWrong)

/-- 'sluicewaylaw02.MemPlays': WHATEVER THE INPUT: true; the input reads as it did. -/
def memPlaysSpec : ChangeSpec := { name := "memPlays", fn := fun _ => fun
  | [d1, d2] => { results := [.lit (.bool true)], args := [d1, d2] }
  | _ => none }
def memPlaysRow : OpenClaim := { program := "ytckfbicepdbafaa", sum := "abbcb3676d561c36d2a0ce66be25e4ff5aab0e14567767b967cfccd95be25851", func := "sluiceway/sluicewaylaw02.MemPlays", spec := "memPlays", unfollowed := true, recurses := true, apart := false }
def MemPlaysSaid : Prop := memPlaysRow.holds Try.pinned (OpenSpec.ofChange memPlaysSpec)

/-- ITS FALSE NEIGHBOUR: 'it returns false'. Refute it at one input. -/
def memPlaysWrong : ChangeSpec := { name := "memPlays", fn := fun _ => fun
  | [d1, d2] => { results := [.lit (.bool false)], args := [d1, d2] }
  | _ => none }
def MemPlaysWrongFalsely : Prop := memPlaysRow.holds Try.pinned (OpenSpec.ofChange memPlaysWrong)

/-- 'sluicewaylaw02.MemBars': WHATEVER THE INPUT: true; the input reads as it did. -/
def memBarsSpec : ChangeSpec := { name := "memBars", fn := fun _ => fun
  | [d1, d2] => { results := [.lit (.bool true)], args := [d1, d2] }
  | _ => none }
def memBarsRow : OpenClaim := { program := "ytckfbicepdbafaa", sum := "abbcb3676d561c36d2a0ce66be25e4ff5aab0e14567767b967cfccd95be25851", func := "sluiceway/sluicewaylaw02.MemBars", spec := "memBars", unfollowed := true, recurses := true, apart := false }
def MemBarsSaid : Prop := memBarsRow.holds Try.pinned (OpenSpec.ofChange memBarsSpec)

/-- ITS FALSE NEIGHBOUR: 'it returns false'. Refute it at one input. -/
def memBarsWrong : ChangeSpec := { name := "memBars", fn := fun _ => fun
  | [d1, d2] => { results := [.lit (.bool false)], args := [d1, d2] }
  | _ => none }
def MemBarsWrongFalsely : Prop := memBarsRow.holds Try.pinned (OpenSpec.ofChange memBarsWrong)

/-- 'sluicewaylaw02.MemNobody': WHATEVER THE INPUT: true; the input reads as it did. -/
def memNobodySpec : ChangeSpec := { name := "memNobody", fn := fun _ => fun
  | [d] => { results := [.lit (.bool true)], args := [d] }
  | _ => none }
def memNobodyRow : OpenClaim := { program := "ytckfbicepdbafaa", sum := "abbcb3676d561c36d2a0ce66be25e4ff5aab0e14567767b967cfccd95be25851", func := "sluiceway/sluicewaylaw02.MemNobody", spec := "memNobody", unfollowed := true, recurses := true, apart := false }
def MemNobodySaid : Prop := memNobodyRow.holds Try.pinned (OpenSpec.ofChange memNobodySpec)

/-- ITS FALSE NEIGHBOUR: 'it returns false'. Refute it at one input. -/
def memNobodyWrong : ChangeSpec := { name := "memNobody", fn := fun _ => fun
  | [d] => { results := [.lit (.bool false)], args := [d] }
  | _ => none }
def MemNobodyWrongFalsely : Prop := memNobodyRow.holds Try.pinned (OpenSpec.ofChange memNobodyWrong)

/- THE SECOND FORM. 'bulk': how many values and letters a reading holds, each counted each time it is reached (what is shared counts as often as it is met; a slice's spare places count too). A statement '..UptoSaid' is the law's where the arguments, and the package variables that the reading takes, are together of bulk at most 1048576: NARROWER than '..Said'. Prove '..Said' where nothing that the law and all that it calls make is longer than what came in: it says more and counts as full. Else prove '..UptoSaid'. A law counts once. -/
mutual
def uptoBulk {H : Type} : DataW H → Nat
  | .lit (.string bytes) => bytes.length + 1
  | .lit _ => 1
  | .nil => 1
  | .ptr d => uptoBulk d + 1
  | .slice elems spare => uptoBulkAll elems + uptoBulkAll spare + 1
  | .agg parts => uptoBulkAll parts + 1
  | .iface _ d => uptoBulk d + 1
  | .map entries => uptoBulkEntries entries + 1
  | .held _ => 1
def uptoBulkAll {H : Type} : List (DataW H) → Nat
  | [] => 0
  | d :: r => uptoBulk d + uptoBulkAll r
def uptoBulkEntries {H : Type} : List (Lit × DataW H) → Nat
  | [] => 0
  | x :: r => uptoBulkEntry x + uptoBulkEntries r
def uptoBulkEntry {H : Type} : Lit × DataW H → Nat
  | (.string bytes, d) => bytes.length + uptoBulk d + 1
  | (_, d) => uptoBulk d + 1
 end
def uptoSmall : (H : Type) → List (DataW H) → Bool := fun _ ds => decide (uptoBulkAll ds ≤ 1048576)
def OpenSpec.upto (s : _root_.Go.ChangeSpec) : _root_.Go.OpenSpec := { _root_.Go.OpenSpec.ofChange s with cond := some uptoSmall }

/-- 'sluicewaylaw02.MemSwaps', WHERE WHAT IT READS IS OF BULK AT MOST 1048576: true; the input reads as it did. -/
def memSwapsUptoRow : OpenClaim := { program := "ytckfbicepdbafaa", sum := "abbcb3676d561c36d2a0ce66be25e4ff5aab0e14567767b967cfccd95be25851", func := "sluiceway/sluicewaylaw02.MemSwaps", spec := "memSwaps", unfollowed := true, recurses := true, apart := false, narrowed := true }
def MemSwapsUptoSaid : Prop := memSwapsUptoRow.holds Try.pinned (OpenSpec.upto memSwapsSpec)

/-- 'sluicewaylaw02.MemApart', WHERE WHAT IT READS IS OF BULK AT MOST 1048576: true; the input reads as it did. -/
def memApartUptoRow : OpenClaim := { program := "ytckfbicepdbafaa", sum := "abbcb3676d561c36d2a0ce66be25e4ff5aab0e14567767b967cfccd95be25851", func := "sluiceway/sluicewaylaw02.MemApart", spec := "memApart", unfollowed := true, recurses := true, apart := false, narrowed := true }
def MemApartUptoSaid : Prop := memApartUptoRow.holds Try.pinned (OpenSpec.upto memApartSpec)

/-- 'sluicewaylaw02.MemPlays', WHERE WHAT IT READS IS OF BULK AT MOST 1048576: true; the input reads as it did. -/
def memPlaysUptoRow : OpenClaim := { program := "ytckfbicepdbafaa", sum := "abbcb3676d561c36d2a0ce66be25e4ff5aab0e14567767b967cfccd95be25851", func := "sluiceway/sluicewaylaw02.MemPlays", spec := "memPlays", unfollowed := true, recurses := true, apart := false, narrowed := true }
def MemPlaysUptoSaid : Prop := memPlaysUptoRow.holds Try.pinned (OpenSpec.upto memPlaysSpec)

/-- 'sluicewaylaw02.MemBars', WHERE WHAT IT READS IS OF BULK AT MOST 1048576: true; the input reads as it did. -/
def memBarsUptoRow : OpenClaim := { program := "ytckfbicepdbafaa", sum := "abbcb3676d561c36d2a0ce66be25e4ff5aab0e14567767b967cfccd95be25851", func := "sluiceway/sluicewaylaw02.MemBars", spec := "memBars", unfollowed := true, recurses := true, apart := false, narrowed := true }
def MemBarsUptoSaid : Prop := memBarsUptoRow.holds Try.pinned (OpenSpec.upto memBarsSpec)

/-- 'sluicewaylaw02.MemNobody', WHERE WHAT IT READS IS OF BULK AT MOST 1048576: true; the input reads as it did. -/
def memNobodyUptoRow : OpenClaim := { program := "ytckfbicepdbafaa", sum := "abbcb3676d561c36d2a0ce66be25e4ff5aab0e14567767b967cfccd95be25851", func := "sluiceway/sluicewaylaw02.MemNobody", spec := "memNobody", unfollowed := true, recurses := true, apart := false, narrowed := true }
def MemNobodyUptoSaid : Prop := memNobodyUptoRow.holds Try.pinned (OpenSpec.upto memNobodySpec)

end Rows
end Go.Proofs.Ytckfbicepdbafaa
