/-
  No cell of these rows narrows 'for every input' (looked for: loops, veiled, ifaces, maps, wideKeys, modest, calm, conditions, laid).
  DERIVED. THE GIVEN ROWS OF THIS SEAT. 5 by the template 'for every input the law returns true; each argument reads behind the call as it read before'; 0 by the template 'total and deterministic' (their statements: YtcoejlhlcpkmkaaTotals.lean).
  GIVEN WITH THE SEED: the statements are not yours to turn. If you find one false, say at which input.
  Laid BY PROGRAM, IN A SANDBOX (cutbox-rows.mjs): the forced cells as the released guide's own fill.sh prints them over the translation 3f74855c71a55b70… (all of the seat's roots in one cut). By AI agents, Wed Nov 11 2026. No macro, syntax, notation, axiom, sorry.
-/
import Derived.Test.YtcoejlhlcpkmkaaChecked
import GoSem.Claim
import GoSem.ClaimJoined
import GoSem.ClaimMapViews
import Derived.JoinedTies
import Derived.KernelRfl
namespace Go.Proofs.Ytcoejlhlcpkmkaa
/- THE CELL 'sum', in the pinned program and in every row, IS THE sha256 OF THE DUMP (.gsa) THAT YtcoejlhlcpkmkaaProg.lean LOADS. Nothing in Lean hashes anything: it is a label: what it is worth is what the hold of that sum in a sandbox is worth. -/
noncomputable def Try.pinned : Pinned := { name := "ytcoejlhlcpkmkaa", sum := "3f74855c71a55b702a1bd6e54e5bf909fee9fc129a2b555132f92a6f05b61a6b", checked := Try.checked }
namespace Rows
def none {H : Type} : Left H := { results := [], args := [] }

/-- 'sluicewaylaw22.TailPacks': WHATEVER THE INPUT: true; the input reads as it did. -/
def tailPacksSpec : ChangeSpec := { name := "tailPacks", fn := fun _ => fun
  | [d] => { results := [.lit (.bool true)], args := [d] }
  | _ => none }
def tailPacksRow : OpenClaim := { program := "ytcoejlhlcpkmkaa", sum := "3f74855c71a55b702a1bd6e54e5bf909fee9fc129a2b555132f92a6f05b61a6b", func := "sluiceway/sluicewaylaw22.TailPacks", spec := "tailPacks", unfollowed := true, recurses := true, apart := false }
def TailPacksSaid : Prop := tailPacksRow.holds Try.pinned (OpenSpec.ofChange tailPacksSpec)

/-- ITS FALSE NEIGHBOUR: 'it returns false'. Refute it at one input. -/
def tailPacksWrong : ChangeSpec := { name := "tailPacks", fn := fun _ => fun
  | [d] => { results := [.lit (.bool false)], args := [d] }
  | _ => none }
def TailPacksWrongFalsely : Prop := tailPacksRow.holds Try.pinned (OpenSpec.ofChange tailPacksWrong)

/-- 'sluicewaylaw22.TailWords': WHATEVER THE INPUT: true; the input reads as it did. -/
def tailWordsSpec : ChangeSpec := { name := "tailWords", fn := fun _ => fun
  | [d1, d2, d3] => { results := [.lit (.bool true)], args := [d1, d2, d3] }
  | _ => none }
def tailWordsRow : OpenClaim := { program := "ytcoejlhlcpkmkaa", sum := "3f74855c71a55b702a1bd6e54e5bf909fee9fc129a2b555132f92a6f05b61a6b", func := "sluiceway/sluicewaylaw22.TailWords", spec := "tailWords", unfollowed := true, recurses := true, apart := false }
def TailWordsSaid : Prop := tailWordsRow.holds Try.pinned (OpenSpec.ofChange tailWordsSpec)

/-- ITS FALSE NEIGHBOUR: 'it returns false'. Refute it at one input. -/
def tailWordsWrong : ChangeSpec := { name := "tailWords", fn := fun _ => fun
  | [d1, d2, d3] => { results := [.lit (.bool false)], args := [d1, d2, d3] }
  | _ => none }
def TailWordsWrongFalsely : Prop := tailWordsRow.holds Try.pinned (OpenSpec.ofChange tailWordsWrong)

/-- 'sluicewaylaw22.TailTurns': WHATEVER THE INPUT: true; the input reads as it did. -/
def tailTurnsSpec : ChangeSpec := { name := "tailTurns", fn := fun _ => fun
  | [d1, d2, d3] => { results := [.lit (.bool true)], args := [d1, d2, d3] }
  | _ => none }
def tailTurnsRow : OpenClaim := { program := "ytcoejlhlcpkmkaa", sum := "3f74855c71a55b702a1bd6e54e5bf909fee9fc129a2b555132f92a6f05b61a6b", func := "sluiceway/sluicewaylaw22.TailTurns", spec := "tailTurns", unfollowed := true, recurses := true, apart := false }
def TailTurnsSaid : Prop := tailTurnsRow.holds Try.pinned (OpenSpec.ofChange tailTurnsSpec)

/-- ITS FALSE NEIGHBOUR: 'it returns false'. Refute it at one input. -/
def tailTurnsWrong : ChangeSpec := { name := "tailTurns", fn := fun _ => fun
  | [d1, d2, d3] => { results := [.lit (.bool false)], args := [d1, d2, d3] }
  | _ => none }
def TailTurnsWrongFalsely : Prop := tailTurnsRow.holds Try.pinned (OpenSpec.ofChange tailTurnsWrong)

/-- 'sluicewaylaw22.TailNobody': WHATEVER THE INPUT: true; the input reads as it did. -/
def tailNobodySpec : ChangeSpec := { name := "tailNobody", fn := fun _ => fun
  | [d1, d2] => { results := [.lit (.bool true)], args := [d1, d2] }
  | _ => none }
def tailNobodyRow : OpenClaim := { program := "ytcoejlhlcpkmkaa", sum := "3f74855c71a55b702a1bd6e54e5bf909fee9fc129a2b555132f92a6f05b61a6b", func := "sluiceway/sluicewaylaw22.TailNobody", spec := "tailNobody", unfollowed := true, recurses := true, apart := false }
def TailNobodySaid : Prop := tailNobodyRow.holds Try.pinned (OpenSpec.ofChange tailNobodySpec)

/-- ITS FALSE NEIGHBOUR: 'it returns false'. Refute it at one input. -/
def tailNobodyWrong : ChangeSpec := { name := "tailNobody", fn := fun _ => fun
  | [d1, d2] => { results := [.lit (.bool false)], args := [d1, d2] }
  | _ => none }
def TailNobodyWrongFalsely : Prop := tailNobodyRow.holds Try.pinned (OpenSpec.ofChange tailNobodyWrong)

/-- 'sluicewaylaw22.TailPasses': WHATEVER THE INPUT: true; the input reads as it did. -/
def tailPassesSpec : ChangeSpec := { name := "tailPasses", fn := fun _ => fun
  | [d1, d2, d3] => { results := [.lit (.bool true)], args := [d1, d2, d3] }
  | _ => none }
def tailPassesRow : OpenClaim := { program := "ytcoejlhlcpkmkaa", sum := "3f74855c71a55b702a1bd6e54e5bf909fee9fc129a2b555132f92a6f05b61a6b", func := "sluiceway/sluicewaylaw22.TailPasses", spec := "tailPasses", unfollowed := true, recurses := true, apart := false }
def TailPassesSaid : Prop := tailPassesRow.holds Try.pinned (OpenSpec.ofChange tailPassesSpec)

/-- ITS FALSE NEIGHBOUR: 'it returns false'. Refute it at one input. -/
def tailPassesWrong : ChangeSpec := { name := "tailPasses", fn := fun _ => fun
  | [d1, d2, d3] => { results := [.lit (.bool false)], args := [d1, d2, d3] }
  | _ => none }
def TailPassesWrongFalsely : Prop := tailPassesRow.holds Try.pinned (OpenSpec.ofChange tailPassesWrong)

/- THE SECOND FORM. 'bulk': how many values and letters a reading holds, each counted each time it is reached (what is shared counts as often as it is met; a slice's spare places count too). A statement '..UptoSaid' is the law's where the arguments, and the package variables that the reading takes, are together of bulk at most 1048576: NARROWER than '..Said'. Prove '..Said' where nothing that the law and all that it calls make is longer than what came in: it says more and counts as full. Else prove '..UptoSaid'. A law counts once. -/
mutual
def uptoBulk {H : Type} : DataW H → Nat
  | .lit (.string bytes) => bytes.length + 1
  | .lit _ => 1
  | .nil => 1
  | .ptr d => uptoBulk d + 1
  | .slice elems spare => uptoBulkAll elems + uptoBulkAll spare + 1
  | .agg parts => uptoBulkAll parts + 1
  | .iface _ d => uptoBulk d + 1
  | .map entries => uptoBulkEntries entries + 1
  | .held _ => 1
def uptoBulkAll {H : Type} : List (DataW H) → Nat
  | [] => 0
  | d :: r => uptoBulk d + uptoBulkAll r
def uptoBulkEntries {H : Type} : List (Lit × DataW H) → Nat
  | [] => 0
  | x :: r => uptoBulkEntry x + uptoBulkEntries r
def uptoBulkEntry {H : Type} : Lit × DataW H → Nat
  | (.string bytes, d) => bytes.length + uptoBulk d + 1
  | (_, d) => uptoBulk d + 1
 end
def uptoSmall : (H : Type) → List (DataW H) → Bool := fun _ ds => decide (uptoBulkAll ds ≤ 1048576)
def OpenSpec.upto (s : _root_.Go.ChangeSpec) : _root_.Go.OpenSpec := { _root_.Go.OpenSpec.ofChange s with cond := some uptoSmall }

/-- 'sluicewaylaw22.TailPacks', WHERE WHAT IT READS IS OF BULK AT MOST 1048576: true; the input reads as it did. -/
def tailPacksUptoRow : OpenClaim := { program := "ytcoejlhlcpkmkaa", sum := "3f74855c71a55b702a1bd6e54e5bf909fee9fc129a2b555132f92a6f05b61a6b", func := "sluiceway/sluicewaylaw22.TailPacks", spec := "tailPacks", unfollowed := true, recurses := true, apart := false, narrowed := true }
def TailPacksUptoSaid : Prop := tailPacksUptoRow.holds Try.pinned (OpenSpec.upto tailPacksSpec)

/-- 'sluicewaylaw22.TailWords', WHERE WHAT IT READS IS OF BULK AT MOST 1048576: true; the input reads as it did. -/
def tailWordsUptoRow : OpenClaim := { program := "ytcoejlhlcpkmkaa", sum := "3f74855c71a55b702a1bd6e54e5bf909fee9fc129a2b555132f92a6f05b61a6b", func := "sluiceway/sluicewaylaw22.TailWords", spec := "tailWords", unfollowed := true, recurses := true, apart := false, narrowed := true }
def TailWordsUptoSaid : Prop := tailWordsUptoRow.holds Try.pinned (OpenSpec.upto tailWordsSpec)

/-- 'sluicewaylaw22.TailTurns', WHERE WHAT IT READS IS OF BULK AT MOST 1048576: true; the input reads as it did. -/
def tailTurnsUptoRow : OpenClaim := { program := "ytcoejlhlcpkmkaa", sum := "3f74855c71a55b702a1bd6e54e5bf909fee9fc129a2b555132f92a6f05b61a6b", func := "sluiceway/sluicewaylaw22.TailTurns", spec := "tailTurns", unfollowed := true, recurses := true, apart := false, narrowed := true }
def TailTurnsUptoSaid : Prop := tailTurnsUptoRow.holds Try.pinned (OpenSpec.upto tailTurnsSpec)

/-- 'sluicewaylaw22.TailNobody', WHERE WHAT IT READS IS OF BULK AT MOST 1048576: true; the input reads as it did. -/
def tailNobodyUptoRow : OpenClaim := { program := "ytcoejlhlcpkmkaa", sum := "3f74855c71a55b702a1bd6e54e5bf909fee9fc129a2b555132f92a6f05b61a6b", func := "sluiceway/sluicewaylaw22.TailNobody", spec := "tailNobody", unfollowed := true, recurses := true, apart := false, narrowed := true }
def TailNobodyUptoSaid : Prop := tailNobodyUptoRow.holds Try.pinned (OpenSpec.upto tailNobodySpec)

/-- 'sluicewaylaw22.TailPasses', WHERE WHAT IT READS IS OF BULK AT MOST 1048576: true; the input reads as it did. -/
def tailPassesUptoRow : OpenClaim := { program := "ytcoejlhlcpkmkaa", sum := "3f74855c71a55b702a1bd6e54e5bf909fee9fc129a2b555132f92a6f05b61a6b", func := "sluiceway/sluicewaylaw22.TailPasses", spec := "tailPasses", unfollowed := true, recurses := true, apart := false, narrowed := true }
def TailPassesUptoSaid : Prop := tailPassesUptoRow.holds Try.pinned (OpenSpec.upto tailPassesSpec)

end Rows
end Go.Proofs.Ytcoejlhlcpkmkaa
