/- The statement VyWhole: its arguments taken apart. -/
import Derived.Test.YtgipbamdefjenaaP4
namespace Go.Proofs.Ytgipbamdefjenaa
open Go Go.LK
set_option linter.unusedSimpArgs false
set_option linter.unusedVariables false
def spVyWhole : List (Bool × List Go.LK.AT) := [(false, [.one (.int .i64)]), (false, [.slice [.int .i64]])]
theorem whole_law : ∀ lvs H, Row2 (ArgLog H) spVyWhole lvs → callE T 3 0 lvs H fun v _ => v = .bool true := by
  intro lvs H h_0
  obtain ⟨v0, _, rfl, g0, h_1⟩ := row_cons h_0
  have k0 := arg_one g0
  obtain ⟨x0, rfl, x0a, x0b⟩ := log_i64 k0
  obtain ⟨v1, _, rfl, g1, h_2⟩ := row_cons h_1
  have k1 := arg_one g1
  obtain ⟨x1p, x1, rfl, x1a, x1b⟩ := log_ints k1
  obtain rfl := row_nil h_2
  exact whole_ev x1a
end Go.Proofs.Ytgipbamdefjenaa
