/- The statement MemApart: its arguments taken apart. -/
import Derived.Test.YtckfbicepdbafaaE2
namespace Go.Proofs.Ytckfbicepdbafaa
open Go Go.LK
set_option linter.unusedSimpArgs false
set_option linter.unusedVariables false
def spMemApart : List (Bool × List Go.LK.AT) := [(false, [.slice [.int .u64]]), (true, [.one (.int .i64), .one (.int .i64), .one (.int .i64), .one (.int .u64), .one (.int .u64), .one (.int .u64), .one (.int .u64)])]
theorem apart_law : ∀ lvs H, Row2 (ArgLog H) spMemApart lvs → callE T 4 0 lvs H fun v _ => v = .bool true := by
  intro lvs H h_0
  obtain ⟨v0, _, rfl, g0, h_1⟩ := row_cons h_0
  have k0 := arg_one g0
  obtain ⟨x0p, x0, rfl, x0a⟩ := log_words k0
  obtain ⟨v1, _, rfl, g1, h_2⟩ := row_cons h_1
  obtain ⟨_, rfl, g1_0⟩ := arg_agg g1
  obtain ⟨_, _, rfl, k1_0, g1_1⟩ := row_cons g1_0
  obtain ⟨x1_0, rfl, x1_0a, x1_0b⟩ := log_i64 k1_0
  obtain ⟨_, _, rfl, k1_1, g1_2⟩ := row_cons g1_1
  obtain ⟨x1_1, rfl, x1_1a, x1_1b⟩ := log_i64 k1_1
  obtain ⟨_, _, rfl, k1_2, g1_3⟩ := row_cons g1_2
  obtain ⟨x1_2, rfl, x1_2a, x1_2b⟩ := log_i64 k1_2
  obtain ⟨_, _, rfl, k1_3, g1_4⟩ := row_cons g1_3
  obtain ⟨x1_3, rfl⟩ := log_u64 k1_3
  obtain ⟨_, _, rfl, k1_4, g1_5⟩ := row_cons g1_4
  obtain ⟨x1_4, rfl⟩ := log_u64 k1_4
  obtain ⟨_, _, rfl, k1_5, g1_6⟩ := row_cons g1_5
  obtain ⟨x1_5, rfl⟩ := log_u64 k1_5
  obtain ⟨_, _, rfl, k1_6, g1_7⟩ := row_cons g1_6
  obtain ⟨x1_6, rfl⟩ := log_u64 k1_6
  obtain rfl := row_nil g1_7
  obtain rfl := row_nil h_2
  exact apart_ev x0a ⟨x1_1a, x1_1b⟩
end Go.Proofs.Ytckfbicepdbafaa
