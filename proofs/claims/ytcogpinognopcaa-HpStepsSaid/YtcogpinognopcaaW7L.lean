/- The statement HpSteps: its arguments taken apart. -/
import Derived.Test.YtcogpinognopcaaW7
namespace Go.Proofs.Ytcogpinognopcaa
open Go Go.LK
set_option linter.unusedSimpArgs false
set_option linter.unusedVariables false
def spHpSteps : List (Bool × List Go.LK.AT) := [(true, [.one (.int .i64), .one (.int .i64)]), (false, [.slice [.int .i64, .int .i64, .int .i64, .int .i64, .int .u64]]), (false, [.slice [.int .i64]])]
theorem hpsteps_law : ∀ lvs H, Row2 (ArgLog H) spHpSteps lvs → callE T 3 0 lvs H fun v _ => v = .bool true := by
  intro lvs H h_0
  obtain ⟨v0, _, rfl, g0, h_1⟩ := row_cons h_0
  obtain ⟨_, rfl, g0_0⟩ := arg_agg g0
  obtain ⟨_, _, rfl, k0_0, g0_1⟩ := row_cons g0_0
  obtain ⟨x0_0, rfl, x0_0a, x0_0b⟩ := log_i64 k0_0
  obtain ⟨_, _, rfl, k0_1, g0_2⟩ := row_cons g0_1
  obtain ⟨x0_1, rfl, x0_1a, x0_1b⟩ := log_i64 k0_1
  obtain rfl := row_nil g0_2
  obtain ⟨v1, _, rfl, g1, h_2⟩ := row_cons h_1
  have k1 := arg_one g1
  obtain ⟨x1p, x1, rfl, x1a, x1b⟩ := log_rows AskH.cells AskH.Ok AskH.row k1
  obtain ⟨v2, _, rfl, g2, h_3⟩ := row_cons h_2
  have k2 := arg_one g2
  obtain ⟨x2p, x2, rfl, x2a, x2b⟩ := log_ints k2
  obtain rfl := row_nil h_3
  exact hpsteps_ev x1a x2a
end Go.Proofs.Ytcogpinognopcaa
