/- The statement HistNotes: its arguments taken apart. -/
import Derived.Test.YtlkfmeobkgglfaaH6
namespace Go.Proofs.Ytlkfmeobkgglfaa
open Go Go.LK
set_option linter.unusedSimpArgs false
set_option linter.unusedVariables false
def spHistNotes : List (Bool × List Go.LK.AT) := [(false, [.slice [.int .i64, .int .i64, .int .i64, .int .u64]])]
theorem notes_law : ∀ lvs H, Row2 (ArgLog H) spHistNotes lvs → callE T 5 0 lvs H fun v _ => v = .bool true := by
  intro lvs H h_0
  obtain ⟨v0, _, rfl, g0, h_1⟩ := row_cons h_0
  have k0 := arg_one g0
  obtain ⟨x0p, x0, rfl, x0a, x0b⟩ := log_rows ActD.cells ActD.Ok ActD.row k0
  obtain rfl := row_nil h_1
  exact notes_ev x0a
end Go.Proofs.Ytlkfmeobkgglfaa
