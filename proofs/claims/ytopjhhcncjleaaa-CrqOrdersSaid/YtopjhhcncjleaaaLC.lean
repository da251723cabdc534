/- Each operation that touches no memory does in the model what it does in the logical machine. -/
import Derived.Test.YtopjhhcncjleaaaLB
namespace Go.LK
open Go Go.RowKit
set_option linter.unusedVariables false
set_option linter.unusedSimpArgs false

section
variable {P : Program} {i : Inj} {w : World}

theorem run_sizeOf {t : TypeId} {n : Nat} (h : sizeT P t = some n) (w : World) : (sizeOf t).run P w = .ok n w := by
  unfold sizeT at h
  cases hi : P.info? t with
  | none => simp [hi] at h
  | some q => simp [hi] at h; subst h; simp [sizeOf, typeInfo, hi]
theorem run_isAgg {t : TypeId} {b : Bool} (h : aggTy P t = some b) (w : World) : (isAgg t).run P w = .ok b w := by
  unfold aggTy at h
  cases hu : P.underlying t with
  | none => simp [hu] at h
  | some d =>
    rw [hu] at h
    unfold isAgg
    rw [Sem.run_bind, run_underlying hu w]
    cases d <;> simp at h <;> subst h <;> rfl
theorem agg_inv {v' : Value} {cs : Array Value} (h : VR i (.agg cs) v') : ∃ cs', v' = .agg cs' ∧ VRs i cs.toList cs'.toList := by
  cases h with
  | agg c c' h => exact ⟨c', rfl, h⟩
theorem int_inv {v' : Value} {k : IntKind} {n : Int} (h : VR i (.int k n) v') : v' = .int k n := by cases h; rfl
theorem bool_inv {v' : Value} {b : Bool} (h : VR i (.bool b) v') : v' = .bool b := by cases h; rfl
theorem string_inv {v' : Value} {b : ByteArray} (h : VR i (.string b) v') : v' = .string b := by cases h; rfl
theorem ptr_inv {v' : Value} {b o : Nat} (h : VR i (.pointer (some ⟨b, o, none⟩)) v') : ∃ p, i b = some p ∧ v' = .pointer (some ⟨p.pb, p.sh + o, none⟩) := by
  cases h with
  | ptr _ _ p h => exact ⟨p, h, rfl⟩
theorem slice_inv {v' : Value} {b o l c : Nat} (h : VR i (.slice (some ⟨b, o, none⟩) l c) v') : ∃ p o' c', i b = some p ∧ v' = .slice (some ⟨p.pb, o', none⟩) l c' ∧ l ≤ c ∧ c ≤ c' ∧ (o' = p.sh + o ∨ (l = 0 ∧ (p.ro = true ∨ c' = 0))) ∧ (p.ro = false → p.es = 0 ∨ o' + c' * p.es ≤ p.sh + p.ext) := by
  cases h with
  | slice _ _ _ _ o' c' p h hl hc ho he => exact ⟨p, o', c', h, rfl, hl, hc, ho, he⟩
theorem tuple_inv {v' : Value} {cs : Array Value} (hne : 2 ≤ cs.toList.length) (h : VR i (.tuple cs) v') : ∃ cs', v' = .tuple cs' ∧ VRs i cs.toList cs'.toList := by
  cases h with
  | undef => simp at hne
  | skip => simp at hne
  | tuple c c' h => exact ⟨c', rfl, h⟩

theorem VRs_extract {cs cs' : Array Value} (h : VRs i cs.toList cs'.toList) (o n : Nat) : VRs i ((cs.toList.drop o).take n).toArray.toList (cs'.extract o (o + n)).toList := by
  simpa [Array.toList_extract, List.extract] using (h.drop o).take n

theorem sim_part {t : TypeId} {g : Bool} {n off : Nat} {cs : List Value} {cs' : Array Value} {v : Value} (hg : aggTy P t = some g) (hn : sizeT P t = some n)
    (h : VRs i cs cs'.toList) (hl : lpart g cs off n = some v) : ∃ v', (part t cs' off).run P w = .ok v' w ∧ VR i v v' := by
  unfold part
  rw [Sem.run_bind, run_isAgg hg w, Result.andThen_ok]
  unfold lpart at hl
  cases g with
  | true =>
    simp only [if_true] at hl ⊢
    split at hl
    · cases hl
      refine ⟨_, ?_, .agg _ _ (VRs_extract (cs := cs.toArray) (by simpa using h) off n)⟩
      rw [Sem.run_bind, run_sizeOf hn w]; rfl
    · cases hl
  | false =>
    simp only [Bool.false_eq_true, if_false] at hl ⊢
    obtain ⟨v', hv', r⟩ := h.get hl
    refine ⟨v', ?_, r⟩
    have : cs'[off]? = some v' := by simpa using hv'
    rw [this]; rfl

theorem bits_eq {a b : Value} (h : a = b) : (Sem.pure a : Sem Value).run P w = .ok b w := by rw [h]; rfl

theorem sim_bin {op : BinOp} {x y v : Value} {x' y' : Value} (hx : VR i x x') (hy : VR i y y') (hl : lbin op x y = some v) (t : TypeId) :
    (binOp op t x' y').run P w = .ok v w ∧ VR i v v := by
  unfold lbin at hl
  split at hl
  · rename_i k a k' b
    obtain rfl := int_inv hx
    obtain rfl := int_inv hy
    cases op <;> simp only at hl
    case shl => split at hl <;> cases hl; rename_i h; exact ⟨by simp [binOp, Op.shift, h], .int _ _⟩
    case shr => split at hl <;> cases hl; rename_i h; exact ⟨by simp [binOp, Op.shift, h], .int _ _⟩
    case quo => split at hl <;> try cases hl
                split at hl <;> cases hl; rename_i h h'; subst h; exact ⟨by simp [binOp, Op.intDiv, h'], .int _ _⟩
    case rem => split at hl <;> try cases hl
                split at hl <;> cases hl; rename_i h h'; subst h; exact ⟨by simp [binOp, Op.intDiv, h'], .int _ _⟩
    all_goals
      split at hl <;> cases hl
      rename_i h; subst h
      first
        | (refine ⟨?_, .int _ _⟩; (first | (simp [binOp, Op.intArith]; done) | (simp only [binOp, ne_eq, not_true_eq_false, if_false]; rfl)))
        | (refine ⟨?_, .bool _⟩; simp [binOp, Op.intCmp]; done)
  · cases hl

theorem isNil_inv {k : NilK} {v v' : Value} {b : Bool} (h : VR i v v') (hn : isNil k v = some b) : isNil k v' = some b := by
  cases k <;> cases h <;> simp [isNil] at hn ⊢ <;> exact hn
def nilTy : NilK → TypeDesc → Bool
  | .p, .pointer _ => true
  | .s, .slice _ => true
  | .m, .map _ _ => true
  | _, _ => false
theorem isNil_p {x : Value} {a : Bool} (h : isNil .p x = some a) : (x = .pointer none ∧ a = true) ∨ ∃ p, x = .pointer (some p) ∧ a = false := by
  unfold isNil at h
  split at h
  case h_1 => cases h; exact .inl ⟨rfl, rfl⟩
  case h_2 => cases h; exact .inr ⟨_, rfl, rfl⟩
  all_goals (first | (rename_i hk; cases hk) | cases h)
theorem isNil_s {x : Value} {a : Bool} (h : isNil .s x = some a) : (x = .slice none 0 0 ∧ a = true) ∨ ∃ p l c, x = .slice (some p) l c ∧ a = false := by
  unfold isNil at h
  split at h
  case h_3 => cases h; exact .inl ⟨rfl, rfl⟩
  case h_4 => cases h; exact .inr ⟨_, _, _, rfl, rfl⟩
  all_goals (first | (rename_i hk; cases hk) | cases h)
theorem isNil_m {x : Value} {a : Bool} (h : isNil .m x = some a) : (x = .map none ∧ a = true) ∨ ∃ p, x = .map (some p) ∧ a = false := by
  unfold isNil at h
  split at h
  case h_5 => cases h; exact .inl ⟨rfl, rfl⟩
  case h_6 => cases h; exact .inr ⟨_, rfl, rfl⟩
  all_goals (first | (rename_i hk; cases hk) | cases h)
theorem run_equalNil {k : NilK} {t : TypeId} {d : TypeDesc} (hu : P.underlying t = some d) (hd : nilTy k d = true) {x y : Value} {a b : Bool} (hx : isNil k x = some a) (hy : isNil k y = some b)
    (hab : (a || b) = true) (n : Nat) : (Op.equalIn (n + 1) t x y).run P w = .ok (a && b) w := by
  cases k with
  | p =>
    obtain ⟨e, rfl⟩ : ∃ e, d = .pointer e := by unfold nilTy at hd; split at hd <;> simp_all
    rcases isNil_p hx with ⟨rfl, rfl⟩ | ⟨p, rfl, rfl⟩ <;> rcases isNil_p hy with ⟨rfl, rfl⟩ | ⟨q, rfl, rfl⟩ <;>
      first | (simp at hab; done) | (unfold Op.equalIn; rw [Sem.run_bind, run_underlying hu, Result.andThen_ok]; rfl)
  | s =>
    obtain ⟨e, rfl⟩ : ∃ e, d = .slice e := by unfold nilTy at hd; split at hd <;> simp_all
    rcases isNil_s hx with ⟨rfl, rfl⟩ | ⟨p, l, c, rfl, rfl⟩ <;> rcases isNil_s hy with ⟨rfl, rfl⟩ | ⟨q, l', c', rfl, rfl⟩ <;>
      first | (simp at hab; done) | (unfold Op.equalIn; rw [Sem.run_bind, run_underlying hu, Result.andThen_ok]; rfl)
  | m =>
    obtain ⟨k, e, rfl⟩ : ∃ k e, d = .map k e := by unfold nilTy at hd; split at hd <;> simp_all
    rcases isNil_m hx with ⟨rfl, rfl⟩ | ⟨p, rfl, rfl⟩ <;> rcases isNil_m hy with ⟨rfl, rfl⟩ | ⟨q, rfl, rfl⟩ <;>
      first | (simp at hab; done) | (unfold Op.equalIn; rw [Sem.run_bind, run_underlying hu, Result.andThen_ok]; rfl)
theorem eql_of_equal {t : TypeId} {x y : Value} {q : Bool} (h : (Op.equal t x y).run P w = .ok q w) (neg : Bool)
    (h1 : ∀ k a, x ≠ .int k a) (h2 : ∀ k a, x ≠ .float k a) (h3 : ∀ k a b, x ≠ .complex k a b) (h4 : ∀ s, x ≠ .string s) :
    (binOp (if neg then .neq else .eql) t x y).run P w = .ok (.bool (if neg then !q else q)) w := by
  cases neg <;> cases x <;> first | (exact absurd rfl (h1 _ _)) | (exact absurd rfl (h2 _ _)) | (exact absurd rfl (h3 _ _ _)) | (exact absurd rfl (h4 _)) | (simp [binOp, h])

end
end Go.LK
