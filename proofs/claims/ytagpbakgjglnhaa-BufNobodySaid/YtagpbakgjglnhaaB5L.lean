/- The statement BufNobody: its arguments taken apart. -/
import Derived.Test.YtagpbakgjglnhaaB5
namespace Go.Proofs.Ytagpbakgjglnhaa
open Go Go.LK
set_option linter.unusedSimpArgs false
set_option linter.unusedVariables false
def spBufNobody : List (Bool × List Go.LK.AT) := [(false, [.one (.int .i64)]), (false, [.one (.int .i64)])]
theorem nobody_law : ∀ lvs H, Row2 (ArgLog H) spBufNobody lvs → callE T 4 0 lvs H fun v _ => v = .bool true := by
  intro lvs H h_0
  obtain ⟨v0, _, rfl, g0, h_1⟩ := row_cons h_0
  have k0 := arg_one g0
  obtain ⟨x0, rfl, x0a, x0b⟩ := log_i64 k0
  obtain ⟨v1, _, rfl, g1, h_2⟩ := row_cons h_1
  have k1 := arg_one g1
  obtain ⟨x1, rfl, x1a, x1b⟩ := log_i64 k1
  obtain rfl := row_nil h_2
  exact nobody_ev x1a x1b
end Go.Proofs.Ytagpbakgjglnhaa
