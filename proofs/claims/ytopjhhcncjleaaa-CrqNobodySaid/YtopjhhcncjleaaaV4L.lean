/- The statement CrqNobody: its arguments taken apart. -/
import Derived.Test.YtopjhhcncjleaaaV4
namespace Go.Proofs.Ytopjhhcncjleaaa
open Go Go.LK
set_option linter.unusedSimpArgs false
set_option linter.unusedVariables false
def spCrqNobody : List (Bool × List Go.LK.AT) := [(true, [.one (.int .i64), .one (.int .i64)]), (false, [.one (.int .u64)])]
theorem nobody_law : ∀ lvs H, Row2 (ArgLog H) spCrqNobody lvs → callE T 5 0 lvs H fun v _ => v = .bool true := by
  intro lvs H h_0
  obtain ⟨v0, _, rfl, g0, h_1⟩ := row_cons h_0
  obtain ⟨_, rfl, g0_0⟩ := arg_agg g0
  obtain ⟨_, _, rfl, k0_0, g0_1⟩ := row_cons g0_0
  obtain ⟨x0_0, rfl, x0_0a, x0_0b⟩ := log_i64 k0_0
  obtain ⟨_, _, rfl, k0_1, g0_2⟩ := row_cons g0_1
  obtain ⟨x0_1, rfl, x0_1a, x0_1b⟩ := log_i64 k0_1
  obtain rfl := row_nil g0_2
  obtain ⟨v1, _, rfl, g1, h_2⟩ := row_cons h_1
  have k1 := arg_one g1
  obtain ⟨x1, rfl⟩ := log_u64 k1
  obtain rfl := row_nil h_2
  exact nobody_ev (r := ⟨x0_0, x0_1⟩)
end Go.Proofs.Ytopjhhcncjleaaa
