/- The statement HistOrders: its arguments taken apart. -/
import Derived.Test.YtlkfmeobkgglfaaH1
namespace Go.Proofs.Ytlkfmeobkgglfaa
open Go Go.LK
set_option linter.unusedSimpArgs false
set_option linter.unusedVariables false
def spHistOrders : List (Bool × List Go.LK.AT) := [(true, [.one (.int .i64), .one (.int .i64), .one (.int .u64), .one (.int .i64), .one (.int .i64), .one .bool, .one (.int .i64), .one (.int .u64)]), (true, [.one (.int .i64), .one (.int .i64), .one (.int .u64), .one (.int .i64), .one (.int .i64), .one .bool, .one (.int .i64), .one (.int .u64)]), (true, [.one (.int .i64), .one (.int .i64), .one (.int .u64), .one (.int .i64), .one (.int .i64), .one .bool, .one (.int .i64), .one (.int .u64)])]
theorem orders_law : ∀ lvs H, Row2 (ArgLog H) spHistOrders lvs → callE T 4 0 lvs H fun v _ => v = .bool true := by
  intro lvs H h_0
  obtain ⟨v0, _, rfl, g0, h_1⟩ := row_cons h_0
  obtain ⟨_, rfl, g0_0⟩ := arg_agg g0
  obtain ⟨_, _, rfl, k0_0, g0_1⟩ := row_cons g0_0
  obtain ⟨x0_0, rfl, x0_0a, x0_0b⟩ := log_i64 k0_0
  obtain ⟨_, _, rfl, k0_1, g0_2⟩ := row_cons g0_1
  obtain ⟨x0_1, rfl, x0_1a, x0_1b⟩ := log_i64 k0_1
  obtain ⟨_, _, rfl, k0_2, g0_3⟩ := row_cons g0_2
  obtain ⟨x0_2, rfl⟩ := log_u64 k0_2
  obtain ⟨_, _, rfl, k0_3, g0_4⟩ := row_cons g0_3
  obtain ⟨x0_3, rfl, x0_3a, x0_3b⟩ := log_i64 k0_3
  obtain ⟨_, _, rfl, k0_4, g0_5⟩ := row_cons g0_4
  obtain ⟨x0_4, rfl, x0_4a, x0_4b⟩ := log_i64 k0_4
  obtain ⟨_, _, rfl, k0_5, g0_6⟩ := row_cons g0_5
  obtain ⟨x0_5, rfl⟩ := log_bool k0_5
  obtain ⟨_, _, rfl, k0_6, g0_7⟩ := row_cons g0_6
  obtain ⟨x0_6, rfl, x0_6a, x0_6b⟩ := log_i64 k0_6
  obtain ⟨_, _, rfl, k0_7, g0_8⟩ := row_cons g0_7
  obtain ⟨x0_7, rfl⟩ := log_u64 k0_7
  obtain rfl := row_nil g0_8
  obtain ⟨v1, _, rfl, g1, h_2⟩ := row_cons h_1
  obtain ⟨_, rfl, g1_0⟩ := arg_agg g1
  obtain ⟨_, _, rfl, k1_0, g1_1⟩ := row_cons g1_0
  obtain ⟨x1_0, rfl, x1_0a, x1_0b⟩ := log_i64 k1_0
  obtain ⟨_, _, rfl, k1_1, g1_2⟩ := row_cons g1_1
  obtain ⟨x1_1, rfl, x1_1a, x1_1b⟩ := log_i64 k1_1
  obtain ⟨_, _, rfl, k1_2, g1_3⟩ := row_cons g1_2
  obtain ⟨x1_2, rfl⟩ := log_u64 k1_2
  obtain ⟨_, _, rfl, k1_3, g1_4⟩ := row_cons g1_3
  obtain ⟨x1_3, rfl, x1_3a, x1_3b⟩ := log_i64 k1_3
  obtain ⟨_, _, rfl, k1_4, g1_5⟩ := row_cons g1_4
  obtain ⟨x1_4, rfl, x1_4a, x1_4b⟩ := log_i64 k1_4
  obtain ⟨_, _, rfl, k1_5, g1_6⟩ := row_cons g1_5
  obtain ⟨x1_5, rfl⟩ := log_bool k1_5
  obtain ⟨_, _, rfl, k1_6, g1_7⟩ := row_cons g1_6
  obtain ⟨x1_6, rfl, x1_6a, x1_6b⟩ := log_i64 k1_6
  obtain ⟨_, _, rfl, k1_7, g1_8⟩ := row_cons g1_7
  obtain ⟨x1_7, rfl⟩ := log_u64 k1_7
  obtain rfl := row_nil g1_8
  obtain ⟨v2, _, rfl, g2, h_3⟩ := row_cons h_2
  obtain ⟨_, rfl, g2_0⟩ := arg_agg g2
  obtain ⟨_, _, rfl, k2_0, g2_1⟩ := row_cons g2_0
  obtain ⟨x2_0, rfl, x2_0a, x2_0b⟩ := log_i64 k2_0
  obtain ⟨_, _, rfl, k2_1, g2_2⟩ := row_cons g2_1
  obtain ⟨x2_1, rfl, x2_1a, x2_1b⟩ := log_i64 k2_1
  obtain ⟨_, _, rfl, k2_2, g2_3⟩ := row_cons g2_2
  obtain ⟨x2_2, rfl⟩ := log_u64 k2_2
  obtain ⟨_, _, rfl, k2_3, g2_4⟩ := row_cons g2_3
  obtain ⟨x2_3, rfl, x2_3a, x2_3b⟩ := log_i64 k2_3
  obtain ⟨_, _, rfl, k2_4, g2_5⟩ := row_cons g2_4
  obtain ⟨x2_4, rfl, x2_4a, x2_4b⟩ := log_i64 k2_4
  obtain ⟨_, _, rfl, k2_5, g2_6⟩ := row_cons g2_5
  obtain ⟨x2_5, rfl⟩ := log_bool k2_5
  obtain ⟨_, _, rfl, k2_6, g2_7⟩ := row_cons g2_6
  obtain ⟨x2_6, rfl, x2_6a, x2_6b⟩ := log_i64 k2_6
  obtain ⟨_, _, rfl, k2_7, g2_8⟩ := row_cons g2_7
  obtain ⟨x2_7, rfl⟩ := log_u64 k2_7
  obtain rfl := row_nil g2_8
  obtain rfl := row_nil h_3
  exact orders_ev (a := ⟨x0_0, x0_1, x0_2, x0_3, x0_4, x0_5, x0_6, x0_7⟩) (b := ⟨x1_0, x1_1, x1_2, x1_3, x1_4, x1_5, x1_6, x1_7⟩) (c := ⟨x2_0, x2_1, x2_2, x2_3, x2_4, x2_5, x2_6, x2_7⟩)
end Go.Proofs.Ytlkfmeobkgglfaa
