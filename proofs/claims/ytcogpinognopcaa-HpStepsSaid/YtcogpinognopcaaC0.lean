/- Plain facts on words and masks. -/
import Derived.Test.YtcogpinognopcaaS0
namespace Go.Proofs.Ytcogpinognopcaa
open Go Go.LK
set_option linter.unusedSimpArgs false
set_option linter.unusedVariables false
theorem andK (c : Int) (k : Int) (hk : (BitVec.ofInt IntKind.i64.bits k).toNat ≤ 1000000) : ∃ d : Int, IntKind.i64.wrap ((BitVec.ofInt IntKind.i64.bits c &&& BitVec.ofInt IntKind.i64.bits k).toNat : Int) = d ∧ 0 ≤ d ∧ d ≤ (BitVec.ofInt IntKind.i64.bits k).toNat := by
  have h : (BitVec.ofInt IntKind.i64.bits c &&& BitVec.ofInt IntKind.i64.bits k).toNat ≤ (BitVec.ofInt IntKind.i64.bits k).toNat := by
    rw [BitVec.toNat_and]
    exact Nat.and_le_right
  exact ⟨_, wrap_i64 (by omega) (by omega), by omega, by omega⟩
theorem leqCells_w2 (a b c d : BitVec 64) : leqCells [false, false] [w64 a, w64 b] [w64 c, w64 d] = some (a == c && b == d) := by
  rw [leqCells_w, leqCells_w]; simp [leqCells]
theorem leqCells_w3 (a b c d e f : BitVec 64) : leqCells [false, false, false] [w64 a, w64 b, w64 c] [w64 d, w64 e, w64 f] = some (a == d && (b == e && c == f)) := by
  rw [leqCells_w, leqCells_w, leqCells_w]; simp [leqCells]
theorem leqCells_w3s (a b c : BitVec 64) : leqCells [false, false, false] [w64 a, w64 b, w64 c] [w64 a, w64 b, w64 c] = some true := by
  rw [leqCells_w3]; simp
theorem leqCells_w2s (a b : BitVec 64) : leqCells [false, false] [w64 a, w64 b] [w64 a, w64 b] = some true := by
  rw [leqCells_w2]; simp
theorem Sl.upto {m : Nat} {H : LHeap} {a : Option Addr} {c : List Value} (h : Sl m H a c) {n k cap : Nat} {kk : IntKind} (hm : 0 < m) (hn : c.length = n * m) (hk : k ≤ n) (h0 : 0 < n) (hc : n ≤ cap) :
    (∀ t, lslice (H ++ t) m (.slice a n cap) none (some (.int kk (k : Int))) none = some (.slice a k cap)) ∧ Sl m H a (c.take (k * m)) := by
  rcases h with ⟨rfl, rfl⟩ | ⟨b, o, ro, es, cc, rfl, g2, g3, g4, g5⟩
  · exact absurd (Nat.mul_eq_zero.1 hn.symm) (by omega)
  · refine ⟨fun t => ?_, .inr ⟨b, o, ro, es, cc, rfl, g2, ?_, ?_, g5⟩⟩
    · have e : (0 : Int) ≤ (k : Int) ∧ (k : Int) ≤ (cap : Int) := by omega
      have e2 : k ≤ cap := by omega
      simp [lslice, lbound, e, get_old g2 t, g5, hk, e2]
    · rw [List.length_take]; omega
    · rw [List.length_take, ← List.take_take, g4]
end Go.Proofs.Ytcogpinognopcaa
