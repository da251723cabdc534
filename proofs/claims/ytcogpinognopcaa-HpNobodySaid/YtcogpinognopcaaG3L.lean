/- The statement HpNobody: its arguments taken apart. -/
import Derived.Test.YtcogpinognopcaaG3
namespace Go.Proofs.Ytcogpinognopcaa
open Go Go.LK
set_option linter.unusedSimpArgs false
set_option linter.unusedVariables false
def spHpNobody : List (Bool × List Go.LK.AT) := [(true, [.one (.int .i64), .one (.int .i64), .one (.int .i64)]), (false, [.one (.int .i64)]), (false, [.one (.int .i64)])]
theorem nobody_law : ∀ lvs H, Row2 (ArgLog H) spHpNobody lvs → callE T 6 0 lvs H fun v _ => v = .bool true := by
  intro lvs H h_0
  obtain ⟨v0, _, rfl, g0, h_1⟩ := row_cons h_0
  obtain ⟨_, rfl, g0_0⟩ := arg_agg g0
  obtain ⟨_, _, rfl, k0_0, g0_1⟩ := row_cons g0_0
  obtain ⟨x0_0, rfl, x0_0a, x0_0b⟩ := log_i64 k0_0
  obtain ⟨_, _, rfl, k0_1, g0_2⟩ := row_cons g0_1
  obtain ⟨x0_1, rfl, x0_1a, x0_1b⟩ := log_i64 k0_1
  obtain ⟨_, _, rfl, k0_2, g0_3⟩ := row_cons g0_2
  obtain ⟨x0_2, rfl, x0_2a, x0_2b⟩ := log_i64 k0_2
  obtain rfl := row_nil g0_3
  obtain ⟨v1, _, rfl, g1, h_2⟩ := row_cons h_1
  have k1 := arg_one g1
  obtain ⟨x1, rfl, x1a, x1b⟩ := log_i64 k1
  obtain ⟨v2, _, rfl, g2, h_3⟩ := row_cons h_2
  have k2 := arg_one g2
  obtain ⟨x2, rfl, x2a, x2b⟩ := log_i64 k2
  obtain rfl := row_nil h_3
  exact nobody_ev (g := ⟨x0_0, x0_1, x0_2⟩)
end Go.Proofs.Ytcogpinognopcaa
