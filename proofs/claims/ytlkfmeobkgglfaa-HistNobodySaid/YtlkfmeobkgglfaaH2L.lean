/- The statement HistNobody: its arguments taken apart. -/
import Derived.Test.YtlkfmeobkgglfaaH2
namespace Go.Proofs.Ytlkfmeobkgglfaa
open Go Go.LK
set_option linter.unusedSimpArgs false
set_option linter.unusedVariables false
def spHistNobody : List (Bool × List Go.LK.AT) := [(true, [.one (.int .i64), .one (.int .i64), .one (.int .i64), .one (.int .u64)])]
theorem nobody_law : ∀ lvs H, Row2 (ArgLog H) spHistNobody lvs → callE T 6 0 lvs H fun v _ => v = .bool true := by
  intro lvs H h_0
  obtain ⟨v0, _, rfl, g0, h_1⟩ := row_cons h_0
  obtain ⟨_, rfl, g0_0⟩ := arg_agg g0
  obtain ⟨_, _, rfl, k0_0, g0_1⟩ := row_cons g0_0
  obtain ⟨x0_0, rfl, x0_0a, x0_0b⟩ := log_i64 k0_0
  obtain ⟨_, _, rfl, k0_1, g0_2⟩ := row_cons g0_1
  obtain ⟨x0_1, rfl, x0_1a, x0_1b⟩ := log_i64 k0_1
  obtain ⟨_, _, rfl, k0_2, g0_3⟩ := row_cons g0_2
  obtain ⟨x0_2, rfl, x0_2a, x0_2b⟩ := log_i64 k0_2
  obtain ⟨_, _, rfl, k0_3, g0_4⟩ := row_cons g0_3
  obtain ⟨x0_3, rfl⟩ := log_u64 k0_3
  obtain rfl := row_nil g0_4
  obtain rfl := row_nil h_1
  exact nobody_ev
end Go.Proofs.Ytlkfmeobkgglfaa
