/- DROP The statement CrqOrders: its arguments taken apart. -/
import Derived.Test.YtopjhhcncjleaaaKI
namespace Go.Proofs.Ytopjhhcncjleaaa
open Go Go.LK
set_option linter.unusedSimpArgs false
set_option linter.unusedVariables false
def spCrqOrders : List (Bool × List Go.LK.AT) := [(false, [.one (.int .i64)]), (false, [.slice [.int .i64, .int .i64, .int .u64]]), (false, [.slice [.int .i64]])]
theorem orders_law : ∀ lvs H, Row2 (ArgLog H) spCrqOrders lvs → callE T 7 0 lvs H fun v _ => v = .bool true := by
  intro lvs H h_0
  obtain ⟨v0, _, rfl, g0, h_1⟩ := row_cons h_0
  have k0 := arg_one g0
  obtain ⟨x0, rfl, x0a, x0b⟩ := log_i64 k0
  obtain ⟨v1, _, rfl, g1, h_2⟩ := row_cons h_1
  have k1 := arg_one g1
  obtain ⟨x1p, x1, rfl, x1a, x1b⟩ := log_rows Ask.cells Ask.Ok Ask.row k1
  obtain ⟨v2, _, rfl, g2, h_3⟩ := row_cons h_2
  have k2 := arg_one g2
  obtain ⟨x2p, x2, rfl, x2a, x2b⟩ := log_ints k2
  obtain rfl := row_nil h_3
  exact orders_ev x1a x2a
end Go.Proofs.Ytopjhhcncjleaaa
