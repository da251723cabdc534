/- 'sluicewaylaw05.SpecOrder' returns true whatever its input: what is put in is taken out in its order, there are never more than there may be, and what is refused changes nothing. Its conditions: none; its arguments read as before. -/
import Derived.Test.YtofkfbkpndjidaaRows
import Derived.Test.YtofkfbkpndjidaaS2
import Derived.WalkKit
import Derived.ProofKit
import Derived.OpenShut
import Derived.ShutString
import Derived.ChangeOld
import Derived.Below
namespace Go.Proofs.Ytofkfbkpndjidaa
set_option maxRecDepth 100000 in
theorem tableOk : Go.LK.TableOk Try.prog T := by
  intro k f h
  unfold T at h
  split at h
  · cases h; exact ⟨_, _, c3⟩
  · cases h; exact ⟨_, _, c4⟩
  · cases h; exact ⟨_, _, c5⟩
  · cases h; exact ⟨_, _, c6⟩
  · cases h; exact ⟨_, _, c7⟩
  · cases h; exact ⟨_, _, c8⟩
  · cases h; exact ⟨_, _, c9⟩
  · cases h; exact ⟨_, _, c10⟩
  · cases h; exact ⟨_, _, c11⟩
  · cases h; exact ⟨_, _, c12⟩
  · cases h; exact ⟨_, _, c13⟩
  · cases h; exact ⟨_, _, c14⟩
  · cases h; exact ⟨_, _, c15⟩
  · cases h; exact ⟨_, _, c16⟩
  · cases h; exact ⟨_, _, c17⟩
  · cases h; exact ⟨_, _, c18⟩
  · cases h; exact ⟨_, _, c19⟩
  · cases h; exact ⟨_, _, c20⟩
  · cases h; exact ⟨_, _, c21⟩
  · cases h; exact ⟨_, _, c22⟩
  · cases h; exact ⟨_, _, c23⟩
  · cases h; exact ⟨_, _, c24⟩
  · cases h
end Go.Proofs.Ytofkfbkpndjidaa
namespace Go.Proofs.Ytofkfbkpndjidaa.specOrder
open Go.ChangeShapes Go.WideShapes Go.ChangeAt Go.RowKit
open Go.ChangeMaps (open_string shut_string)
open Go.LK (law_of Start VRs VR okWide_row)
set_option linter.unusedVariables false

theorem own : ownKnob Try.prog.godebug = none := by kernel_rfl
theorem laidOut : laidOutB Try.prog = true := by kernel_rfl
/-- What is known of a slice of numbers that came in. -/
def IsRow (k : IntKind) (w : World) (x : Option Addr) (len cap : Nat) (zs : List Int) : Prop :=
  (x = none ∧ len = 0 ∧ cap = 0) ∨ ∃ y, x = some y ∧ len ≤ cap ∧ len ≤ zs.length ∧ (∀ j, j < zs.length → w.cell? (y.add j) = some (.int k (zs.getD j 0))) ∧ y.spot = none ∧ ∃ cs el fz, w.heap[y.block]? = some (.cells cs el fz)

theorem walk (a0 : Int) (a1 : Option Addr) (len1 cap1 : Nat) (z1 : List Int) (w : World) (w1 : IsRow .u64 w a1 len1 cap1 z1) :
    Calls Try.prog 3 #[.int .i64 a0, .slice a1 len1 cap1] w fun e w' => e = .returned (.bool true) ∧ Below w.heap.size w w' := by
  obtain ⟨i', t, a, g1, g2, g3, g4, g5⟩ := (Start.nil w).ints w1
  refine law_of tableOk (args := [i64 a0, .slice a len1 len1]) g1 (.cons (.int _ _) (.cons g3 .nil)) ?_
  have := order_ev (c := a0) g4
  rw [g5] at this
  exact this

set_option maxRecDepth 100000 in
theorem lifted (os : Os) (started : os.Started) (H : Type) (enc : TypeId × Value → H) :
    ReturnsInHanded {} Try.checked os 3 .any (Rows.specOrderSpec.pre6 enc Try.prog Try.f3 Rows.specOrderRow.domain false) (Rows.specOrderSpec.post enc Try.prog Try.f3 false true false false) := by
  refine returnsInHanded_of_change (C := Try.checked) own started (by kernel_rfl) Try.func3
    (ChangeSpec.witness6 (enc := enc) (C := Try.checked) false ⟨#[], #[.int .i64 0, .slice none 0 0], []⟩ 8 (by kernel_rfl) (by kernel_rfl) (by kernel_rfl) (by kernel_rfl)) ?_
  intro W base args ds gs before hval0 hW hcnd _
  have hval : ∀ (j : Nat) t v, Try.f3.params[j]? = some t → args[j]? = some v → Value.okWide Try.prog W .any base t v := hval0
  have hW' := hW
  obtain ⟨p, q, hA0, hV, rfl, hfz, hnd⟩ := hW
  have hA : DataW.TrodAll enc Try.prog W 0 (fun _ => true) true Try.f3.params.toList args.toList ds p := hA0
  rw [Try.params3] at hA hval
  obtain ⟨v0, vs0, d0, ds0, p0, q0, hargs, rfl, rfl, h0, r0⟩ := trodAll_cons hA
  obtain ⟨v1, vs1, d1, ds1, p1, q1, rfl, rfl, rfl, h1, r1⟩ := trodAll_cons r0
  obtain ⟨rfl, rfl, rfl⟩ := trodAll_nil r1
  obtain rfl : args = #[v0, v1] := by cases args; simp_all
  obtain ⟨rfl, rfl⟩ := trodVars_none hV
  obtain ⟨a0, rfl, rfl, rfl, w0⟩ := open_int Try.underlying3 (hval 0 3 v0 rfl rfl) h0
  have ok1 := hval 1 22 v1 rfl rfl
  obtain ⟨a1, len1, cap1, rfl⟩ := okWide_slice Try.underlying22 (hval 1 22 v1 rfl rfl)
  have k1 := h1
  have lt1 : ∀ x ∈ p1, x.block < W.heap.size := by obtain ⟨m, hm⟩ := k1; exact DataW.trod_lt m _ _ _ hm
  obtain ⟨z1, w1⟩ : ∃ zs, IsRow .u64 W a1 len1 cap1 zs := by
    obtain ⟨fuel, hf⟩ := h1
    rcases open_ints Try.underlying22 Try.underlying25 (by kernel_rfl) hf with ⟨hcs, _⟩ | ⟨x, l, c, zs, hcs, _, hl, hm, hz, _, hcell, hwz⟩
    · simp [Value.cells] at hcs
      obtain ⟨rfl, rfl, rfl⟩ := hcs
      exact ⟨[], .inl ⟨rfl, rfl, rfl⟩⟩
    · simp [Value.cells] at hcs
      obtain ⟨rfl, rfl, rfl⟩ := hcs
      obtain ⟨_, e2, e3⟩ := okWide_row Try.underlying22 ok1
      exact ⟨zs, .inr ⟨_, rfl, hl, by simp at hz; omega, hcell, e2, e3⟩⟩
  clear hA0 hval0
  refine (walk a0 a1 len1 cap1 z1 W w1).mono fun e W' ⟨he, bel⟩ => ?_
  subst he
  exact ⟨_, rfl, _, _, _, [], _, [], hW', trodAll_mk1 (shut_bool Try.underlying4 _), (trodAll_cons_mk (shut_int Try.underlying3 w0) (trodAll_cons_mk (Below.trod laidOut (by kernel_rfl) (of_decide_eq_true (by kernel_rfl)) k1 bel lt1) trodAll_mk0)), rfl, bel.frame _, fun h => by cases h⟩

theorem over : Rows.specOrderRow.holds Try.pinned (OpenSpec.ofChange Rows.specOrderSpec) :=
  OpenClaim.holds_of_wide 3 Try.f3 rfl rfl rfl rfl rfl rfl rfl ⟨rfl, rfl, rfl, rfl, rfl⟩ rfl rfl rfl rfl rfl (by kernel_rfl) Try.func3 (by kernel_rfl)
    (of_decide_eq_true (by kernel_rfl)) (by unfold Func.isWrapper; first | (rw [if_pos (by decide +kernel)]; kernel_rfl) | (rw [if_neg (by decide +kernel)]; exact ⟨rfl, rfl⟩))
    (fun os started H enc _ => lifted os started H enc)

/-- ████ THE STATEMENT ████ -/
theorem proved : Rows.SpecOrderSaid := over
#print axioms proved
end Go.Proofs.Ytofkfbkpndjidaa.specOrder
