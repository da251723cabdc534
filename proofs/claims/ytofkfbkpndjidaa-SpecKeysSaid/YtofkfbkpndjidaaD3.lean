/- The statement SpecKeys: its arguments taken apart. -/
import Derived.Test.YtofkfbkpndjidaaS6
namespace Go.Proofs.Ytofkfbkpndjidaa
open Go Go.LK
set_option linter.unusedSimpArgs false
set_option linter.unusedVariables false
def spSpecKeys : List (Bool × List Go.LK.AT) := [(true, [.one (.int .i64), .slice [.int .u64]]), (true, [.one (.int .i64), .slice [.int .u64]])]
theorem keys_law : ∀ lvs H, Row2 (ArgLog H) spSpecKeys lvs → callE T 5 0 lvs H fun v _ => v = .bool true := by
  intro lvs H h_0
  obtain ⟨v0, _, rfl, g0, h_1⟩ := row_cons h_0
  obtain ⟨_, rfl, g0_0⟩ := arg_agg g0
  obtain ⟨_, _, rfl, k0_0, g0_1⟩ := row_cons g0_0
  obtain ⟨x0_0, rfl, x0_0a, x0_0b⟩ := log_i64 k0_0
  obtain ⟨_, _, rfl, k0_1, g0_2⟩ := row_cons g0_1
  obtain ⟨x0_1p, x0_1, rfl, x0_1a⟩ := log_words k0_1
  obtain rfl := row_nil g0_2
  obtain ⟨v1, _, rfl, g1, h_2⟩ := row_cons h_1
  obtain ⟨_, rfl, g1_0⟩ := arg_agg g1
  obtain ⟨_, _, rfl, k1_0, g1_1⟩ := row_cons g1_0
  obtain ⟨x1_0, rfl, x1_0a, x1_0b⟩ := log_i64 k1_0
  obtain ⟨_, _, rfl, k1_1, g1_2⟩ := row_cons g1_1
  obtain ⟨x1_1p, x1_1, rfl, x1_1a⟩ := log_words k1_1
  obtain rfl := row_nil g1_2
  obtain rfl := row_nil h_2
  exact keys_ev x0_1a x1_1a ⟨x0_0a, x0_0b⟩ ⟨x1_0a, x1_0b⟩
end Go.Proofs.Ytofkfbkpndjidaa
