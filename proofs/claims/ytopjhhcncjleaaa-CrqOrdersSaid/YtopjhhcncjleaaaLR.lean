/- One step of the logical machine beside one operation of the model. -/
import Derived.Test.YtopjhhcncjleaaaLQ
namespace Go.LK
open Go Go.RowKit
set_option linter.unusedVariables false
set_option linter.unusedSimpArgs false

section
variable {P : Program} {B : Nat} {L : List Nat} {i : Inj} {H : LHeap} {w : World}

/-- Each call that the logical machine does is one of the model. -/
def CallsOk (P : Program) (B : Nat) (cf : CallF) : Prop :=
  ∀ k lim args H v H', cf k lim args H = some (v, H') → ∀ (L : List Nat) (i : Inj) (w : World) (args' : Array Value), lim = lmax L → Rel B L i H w → VRs i args args'.toList →
    (∃ fn c, P.funcs[k]? = some fn ∧ (fn.name == "runtime.NumGoroutine") = false ∧ fn.body = some c) ∧
    Calls P k args' w fun e w' => ∃ v' i', e = .returned v' ∧ VR i' v v' ∧ Rel B L i' H' w' ∧ Go.LK.Next B i H w i' H' w'

def AtLooks (i : Inj) (ops : Array Oper) (o : Oper) (e : List Value) (a : Act) : Prop := ∀ t ∈ looks ops o, VR i (e.getD t undef) (a.tmps.getD t undef)

theorem leval_sim {e : List Value} {a : Act} {x : Operand} (hok : opndOk x = true) (h : ∀ t ∈ opndTmp x, VR i (e.getD t undef) (a.tmps.getD t undef)) : VR i (leval e x) (a.eval x) := by
  cases x with
  | tmp t => exact h t (by simp [opndTmp])
  | const v => exact scalarA_const hok
  | func f => exact .func _ _ _ _ _ .nil .nil
  | global g => simp [opndOk] at hok
theorem leval_at {ops : Array Oper} {o : Oper} {e : List Value} {a : Act} (h : AtLooks i ops o e a) : ∀ x, x ∈ o.op.operands.toList → opndOk x = true → VR i (leval e x) (a.eval x) :=
  fun x hx hok => leval_sim hok fun t ht => h t (by unfold looks; exact List.mem_append_left _ (List.mem_flatMap.2 ⟨x, hx, ht⟩))

theorem bool_at {a : Act} {t : Tmp} {q : Bool} (h : a.tmps.getD t undef = .bool q) : a.tmps[t]? = some (.bool q) := by
  rw [Array.getD_eq_getD_getElem?] at h
  cases hq : a.tmps[t]? with
  | none => rw [hq] at h; simp [undef] at h
  | some v => rw [hq] at h; simp at h; rw [h]
theorem skip_at {a : Act} {t : Tmp} (h : VR i (.tuple #[.nilIface]) (a.tmps.getD t undef)) : ∀ b, a.tmps[t]? ≠ some (.bool b) := by
  intro b hb
  have : a.tmps.getD t undef = .bool b := by rw [Array.getD_eq_getD_getElem?, hb]; rfl
  rw [this] at h
  cases h

theorem guard_sim {ops : Array Oper} {o : Oper} {g : Option (Tmp × Bool)} {e : List Value} {a : Act} {b : Bool} (hg : compGuard ops o.guard = some g) (hw : wantG e g = some b) (h : AtLooks i ops o e a) :
    Region.wanted o (yielded ops a.tmps) = b := by
  unfold compGuard at hg
  unfold Region.wanted
  cases hgu : o.guard with
  | none =>
    rw [hgu] at hg
    cases hg
    cases hw
    rfl
  | some p =>
    obtain ⟨j, want⟩ := p
    rw [hgu] at hg
    simp only at hg ⊢
    split at hg
    · rename_i t ht
      cases hg
      have hl : VR i (e.getD t undef) (a.tmps.getD t undef) := h t (by unfold looks; rw [hgu]; simp only; rw [ht]; simp)
      unfold wantG at hw
      simp only at hw
      split at hw
      · rename_i q hq
        cases hw
        rw [hq] at hl
        have hb := bool_at (bool_inv hl)
        unfold yielded
        rw [ht]
        simp only [Option.bind_some, hb]
        cases q <;> cases want <;> rfl
      · rename_i arr hq
        split at hw
        · rename_i harr
          cases hw
          have : arr = #[.nilIface] := Array.toList_inj.1 harr
          subst this
          rw [hq] at hl
          have hn := skip_at hl
          unfold yielded
          rw [ht]
          simp only [Option.bind_some]
          rfl
        · cases hw
      · cases hw
    · cases hg

theorem wp_of_run {o : Oper} {a : Act} {K : Act → World → Prop} {Q : Exit → Act → World → Prop} {nx : Go.Next} {w' : World} {v : Value} {i' : Inj} (h : (execOp a.eval o).run P w = .ok nx w') (hv : NextVal i' v nx)
    (hK : ∀ v', VR i' v v' → K (a.put o.dst v') w') : o.wp P a w K Q := by
  unfold Oper.wp
  rw [h]
  rcases hv with ⟨v', rfl, hr⟩ | ⟨rfl, rfl⟩
  · exact hK v' hr
  · exact hK undef (.undef _)

theorem evals_sim {e : List Value} {a : Act} : ∀ {l : List Operand}, (∀ x ∈ l, VR i (leval e x) (a.eval x)) → VRs i (l.map (leval e)) (l.map a.eval)
  | [], _ => .nil
  | x :: l, h => .cons (h x (by simp)) (evals_sim fun y hy => h y (by simp [hy]))

theorem sim_lcall {cf : CallF} (hcf : CallsOk P B cf) (hR : Rel B L i H w) {o : Oper} {f : Operand} {args : List Operand} {ts : Array TypeId} (hop : o.op = .call { callee := .value f, args := ⟨args⟩, argTypes := ts })
    {e : List Value} {a : Act} (hf : VR i (leval e f) (a.eval f)) (ha : ∀ x ∈ args, VR i (leval e x) (a.eval x)) {v : Value} {H' : LHeap} (hl : lcall cf (lmax L) H (leval e f) (args.map (leval e)) = some (v, H'))
    {K : Act → World → Prop} {Q : Exit → Act → World → Prop} (hK : ∀ v' w' i', VR i' v v' → Rel B L i' H' w' → Go.LK.Next B i H w i' H' w' → K (a.put o.dst v') w') : o.wp P a w K Q := by
  unfold lcall at hl
  split at hl
  · rename_i k first cap hfe
    rw [hfe] at hf
    generalize hy : a.eval f = y at hf
    cases hf with
    | func _ _ _ first' cap' h1 h2 =>
      have hargs : VRs i (first.toList ++ args.map (leval e) ++ cap.toList) (first' ++ (args.map a.eval).toArray ++ cap').toList := by
        simpa using (h1.append (evals_sim ha)).append h2
      obtain ⟨⟨fn, c, g1, g2, g3⟩, g4⟩ := hcf k _ _ _ _ _ hl L i w _ rfl hR hargs
      unfold Oper.wp
      have hrun : (execOp a.eval o).run P w = .ok (.enter k (first' ++ (args.map a.eval).toArray ++ cap')) w := by
        simp only [execOp, hop, resolve, hy, Deferred.ofValue, Sem.run_bind, Sem.run_pure, Result.andThen_ok, invoke, callFunc, run_program, g1, g2, g3]
        simp
      rw [hrun]
      refine Calls.mono g4 ?_
      rintro en w' ⟨v', i', rfl, r1, r2, r3⟩
      exact hK v' w' i' r1 r2 r3
  · cases hl

/-- One operation, in the order of the logical machine. -/
theorem sim_act {cf : CallF} (hcf : CallsOk P B cf) (hR : Rel B L i H w) {ops : Array Oper} {o : Oper} {d : Option Tmp} {ac : LAct} {g : Option (Tmp × Bool)} (hc : compStep P ops o = some (.act d ac g))
    {e e' : List Value} {H' : LHeap} (hl : stepL cf (lmax L) e H (.act d ac g) = some (e', H')) {a : Act} (hat : AtLooks i ops o e a) :
    d = o.dst ∧ ∃ v, e' = putL e o.dst v ∧ ∀ (K : Act → World → Prop) (Q : Exit → Act → World → Prop), (∀ v' w' i', VR i' v v' → Rel B L i' H' w' → Go.LK.Next B i H w i' H' w' → K (a.put o.dst v') w') →
      (if Region.wanted o (yielded ops a.tmps) then o.wp P a w K Q ∨ (o.asks P a w ∧ LetsOut Q) else K (a.put o.dst undef) w) := by
  unfold compStep at hc
  split at hc
  · rename_i ac' g' hac hgu
    cases hc
    refine ⟨rfl, ?_⟩
    unfold stepL at hl
    simp only at hl
    split at hl
    · rename_i hw
      have hwant := guard_sim hgu hw hat
      obtain ⟨⟨v, H1⟩, h1, h2⟩ := Option.map_eq_some_iff.1 hl
      cases h2
      refine ⟨v, rfl, fun K Q hK => ?_⟩
      rw [hwant, if_pos rfl]
      left
      unfold compAct at hac
      obtain ⟨dst, op, ty, pos, after, guard⟩ := o
      split at hac
      · rename_i f args ts heq
        simp only at heq
        subst heq
        split at hac
        · rename_i hok
          cases hac
          simp only [Bool.and_eq_true] at hok
          have hv := leval_at hat
          obtain ⟨args⟩ := args
          refine sim_lcall hcf hR (f := f) (args := args) (ts := ts) rfl (hv f (by simp [Op.operands, Call.operands]) hok.1) (fun x hx => hv x (by simp [Op.operands, Call.operands]; exact .inr hx) (List.all_eq_true.1 hok.2 x hx)) h1 hK
        · cases hac
      · obtain ⟨lo, hlo, he⟩ := Option.map_eq_some_iff.1 hac
        cases he
        simp only [actL] at h1
        have hv := leval_at hat
        cases lo with
        | pure p =>
          obtain ⟨v0, g1, g2⟩ := Option.map_eq_some_iff.1 h1
          cases g2
          obtain ⟨v', r1, r2⟩ := sim_pure (P := P) (w := w) hlo hv g1 dst ty pos after guard
          exact wp_of_run r1 (.inl ⟨v', rfl, r2⟩) fun v'' hv'' => hK _ _ _ hv'' hR (Next.refl B i H w)
        | new n =>
          obtain ⟨⟨ob, mk⟩, g1, g2⟩ := Option.map_eq_some_iff.1 h1
          cases g2
          obtain ⟨v', w', p, r1, r2⟩ := sim_new (P := P) (w := w) hlo hv g1 dst ty pos after guard
          obtain ⟨s1, s2, s3⟩ := r2.new hR
          exact wp_of_run r1 (.inl ⟨v', rfl, s3⟩) fun v'' hv'' => hK _ _ _ hv'' s1 s2
        | read n =>
          obtain ⟨v0, g1, g2⟩ := Option.map_eq_some_iff.1 h1
          cases g2
          obtain ⟨v', r1, r2⟩ := sim_read (P := P) hR hlo hv g1 dst ty pos after guard
          exact wp_of_run r1 (.inl ⟨v', rfl, r2⟩) fun v'' hv'' => hK _ _ _ hv'' hR (Next.refl B i H w)
        | eff n =>
          obtain ⟨nx, w', i', r1, r2, r3, r4⟩ := sim_eff (P := P) hR hlo hv h1 dst ty pos after guard
          exact wp_of_run r1 r2 fun v'' hv'' => hK _ _ _ hv'' r3 r4
    · rename_i hw
      have hwant := guard_sim hgu hw hat
      cases hl
      refine ⟨skipv, rfl, fun K Q hK => ?_⟩
      rw [hwant, if_neg (by simp)]
      exact hK _ _ _ .skip hR (Next.refl B i _ w)
    · cases hl
  · cases hc
end
end Go.LK
