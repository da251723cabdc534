/- The statement TailPacks: its arguments taken apart. -/
import Derived.Test.YtcoejlhlcpkmkaaT2
namespace Go.Proofs.Ytcoejlhlcpkmkaa
open Go Go.LK
set_option linter.unusedSimpArgs false
set_option linter.unusedVariables false
def spTailPacks : List (Bool × List Go.LK.AT) := [(true, [.one (.int .u64), .one (.int .u64), .one (.int .u64)])]
theorem packs_law : ∀ lvs H, Row2 (ArgLog H) spTailPacks lvs → callE T 3 0 lvs H fun v _ => v = .bool true := by
  intro lvs H h_0
  obtain ⟨v0, _, rfl, g0, h_1⟩ := row_cons h_0
  obtain ⟨_, rfl, g0_0⟩ := arg_agg g0
  obtain ⟨_, _, rfl, k0_0, g0_1⟩ := row_cons g0_0
  obtain ⟨x0_0, rfl⟩ := log_u64 k0_0
  obtain ⟨_, _, rfl, k0_1, g0_2⟩ := row_cons g0_1
  obtain ⟨x0_1, rfl⟩ := log_u64 k0_1
  obtain ⟨_, _, rfl, k0_2, g0_3⟩ := row_cons g0_2
  obtain ⟨x0_2, rfl⟩ := log_u64 k0_2
  obtain rfl := row_nil g0_3
  obtain rfl := row_nil h_1
  exact packs_ev (n := x0_0) (t := x0_1) (i := x0_2)
end Go.Proofs.Ytcoejlhlcpkmkaa
