/- The statement TailPasses: its arguments taken apart. -/
import Derived.Test.YtcoejlhlcpkmkaaT11
namespace Go.Proofs.Ytcoejlhlcpkmkaa
open Go Go.LK
set_option linter.unusedSimpArgs false
set_option linter.unusedVariables false
def spTailPasses : List (Bool × List Go.LK.AT) := [(true, [.one (.int .u64), .one (.int .u64), .one (.int .u64)]), (false, [.slice [.int .i64]]), (false, [.slice [.int .i64]])]
theorem passes_law : ∀ lvs H, Row2 (ArgLog H) spTailPasses lvs → callE T 7 0 lvs H fun v _ => v = .bool true := by
  intro lvs H h_0
  obtain ⟨v0, _, rfl, g0, h_1⟩ := row_cons h_0
  obtain ⟨_, rfl, g0_0⟩ := arg_agg g0
  obtain ⟨_, _, rfl, k0_0, g0_1⟩ := row_cons g0_0
  obtain ⟨x0_0, rfl⟩ := log_u64 k0_0
  obtain ⟨_, _, rfl, k0_1, g0_2⟩ := row_cons g0_1
  obtain ⟨x0_1, rfl⟩ := log_u64 k0_1
  obtain ⟨_, _, rfl, k0_2, g0_3⟩ := row_cons g0_2
  obtain ⟨x0_2, rfl⟩ := log_u64 k0_2
  obtain rfl := row_nil g0_3
  obtain ⟨v1, _, rfl, g1, h_2⟩ := row_cons h_1
  have k1 := arg_one g1
  obtain ⟨x1p, x1, rfl, x1a, x1b⟩ := log_ints k1
  obtain ⟨v2, _, rfl, g2, h_3⟩ := row_cons h_2
  have k2 := arg_one g2
  obtain ⟨x2p, x2, rfl, x2a, x2b⟩ := log_ints k2
  obtain rfl := row_nil h_3
  exact passes_ev x1a x2a
end Go.Proofs.Ytcoejlhlcpkmkaa
