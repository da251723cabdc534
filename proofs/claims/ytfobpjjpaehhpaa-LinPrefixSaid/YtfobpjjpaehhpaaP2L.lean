/- The statement LinPrefix: its arguments taken apart. -/
import Derived.Test.YtfobpjjpaehhpaaP2
namespace Go.Proofs.Ytfobpjjpaehhpaa
open Go Go.LK
set_option linter.unusedSimpArgs false
set_option linter.unusedVariables false
def spLinPrefix : List (Bool × List Go.LK.AT) := [(false, [.slice [.int .i64, .int .i64, .int .u64, .int .i64, .int .i64, .bool, .int .i64, .int .u64]]), (false, [.one (.int .i64)]), (false, [.one (.int .i64)])]
theorem linprefix_law : ∀ lvs H, Row2 (ArgLog H) spLinPrefix lvs → callE T 4 0 lvs H fun v _ => v = .bool true := by
  intro lvs H h_0
  obtain ⟨v0, _, rfl, g0, h_1⟩ := row_cons h_0
  have k0 := arg_one g0
  obtain ⟨x0p, x0, rfl, x0a, x0b, x0c⟩ := log_rowsL CallD.cells CallD.Ok CallD.row k0
  obtain ⟨v1, _, rfl, g1, h_2⟩ := row_cons h_1
  have k1 := arg_one g1
  obtain ⟨x1, rfl, x1a, x1b⟩ := log_i64 k1
  obtain ⟨v2, _, rfl, g2, h_3⟩ := row_cons h_2
  have k2 := arg_one g2
  obtain ⟨x2, rfl, x2a, x2b⟩ := log_i64 k2
  obtain rfl := row_nil h_3
  exact linprefix_ev x0c x0a x1b
end Go.Proofs.Ytfobpjjpaehhpaa
