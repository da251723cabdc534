/- DROP Steps of a memory of which nothing is barred. -/
import Derived.Test.YtopjhhcncjleaaaC4
import Derived.Test.YtopjhhcncjleaaaM3
namespace Go.Proofs.Ytopjhhcncjleaaa
open Go Go.LK
set_option linter.unusedSimpArgs false
set_option linter.unusedVariables false
def MV.step (m : MV) (kind a : Int) (v0 v1 v2 v3 : BitVec 64) : MV × BitVec 64 × Bool :=
  if kind = 0 then (m.use 0 a id, m.load a, false)
  else if kind = 1 then (m.use 1 a (fun _ => v0), 0#64, false)
  else if kind = 2 then (m.use 2 a (fun w => if w = v0 then v1 else w), 0#64, m.swaps a v0)
  else if kind = 3 then (m.use 3 a (· + v0), m.load a, false)
  else if kind = 4 then (m.use 4 a (· ||| v0), m.load a, false)
  else if kind = 5 then (m.pair a v0 v1 v2 v3, 0#64, m.pairs a v0 v1)
  else (m, 0#64, false)
theorem load_cln {m : MV} {w : List (BitVec 64)} (c : Clean m w) {a : Int} (h0 : 0 ≤ a) (h1 : a < w.length) : m.load a = w.getD a.toNat 0 := by
  rw [MV.load, c.bad h0 h1, c.at]; rfl
theorem swaps_cln {m : MV} {w : List (BitVec 64)} (c : Clean m w) {a : Int} {x : BitVec 64} (h0 : 0 ≤ a) (h1 : a < w.length) : m.swaps a x = (w.getD a.toNat 0 == x) := by
  rw [MV.swaps, c.bad h0 h1, c.at]; rfl
theorem pairs_cln {m : MV} {w : List (BitVec 64)} (c : Clean m w) {a : Int} {x y : BitVec 64} (h0 : 0 ≤ a) (h1 : a + 1 < w.length) (h2 : a.tmod 2 = 0) : m.pairs a x y = (w.getD a.toNat 0 == x && w.getD (a + 1).toNat 0 == y) := by
  rw [MV.pairs, c.bad h0 (by omega), c.bad (a := a + 1) (by omega) h1, c.at, c.at, decide_eq_true h2]; simp
end Go.Proofs.Ytopjhhcncjleaaa
