/- The statement MemSwaps: its arguments taken apart. -/
import Derived.Test.YtckfbicepdbafaaE1
namespace Go.Proofs.Ytckfbicepdbafaa
open Go Go.LK
set_option linter.unusedSimpArgs false
set_option linter.unusedVariables false
def spMemSwaps : List (Bool × List Go.LK.AT) := [(false, [.one (.int .u64)]), (false, [.slice [.int .u64]])]
theorem swaps_law : ∀ lvs H, Row2 (ArgLog H) spMemSwaps lvs → callE T 3 0 lvs H fun v _ => v = .bool true := by
  intro lvs H h_0
  obtain ⟨v0, _, rfl, g0, h_1⟩ := row_cons h_0
  have k0 := arg_one g0
  obtain ⟨x0, rfl⟩ := log_u64 k0
  obtain ⟨v1, _, rfl, g1, h_2⟩ := row_cons h_1
  have k1 := arg_one g1
  obtain ⟨x1p, x1, rfl, x1a⟩ := log_words k1
  obtain rfl := row_nil h_2
  exact swaps_ev x1a
end Go.Proofs.Ytckfbicepdbafaa
