/- The operations that read memory. -/
import Derived.Test.YtopjhhcncjleaaaLI
namespace Go.LK
open Go Go.RowKit
set_option linter.unusedVariables false
set_option linter.unusedSimpArgs false

section
variable {P : Program} {B : Nat} {L : List Nat} {i : Inj} {H : LHeap} {w : World}


theorem Rel.cells (h : Rel B L i H w) {b o n : Nat} {p : Place} (hp : i b = some p) {l : List Value} (hl : lcells H b o n = some l) :
    ∃ l', l'.length = n ∧ VRs i l l' ∧ (loadCells ⟨p.pb, p.sh + o, none⟩ n).run P w = .ok l'.toArray w := by
  obtain ⟨ro, es, c, hb, hn, rfl⟩ := cells_of b o n hl
  obtain ⟨l', h1, h2, h3⟩ := h.readN hp hb n o hn
  exact ⟨l', h1, h2, by rw [← h1]; exact run_loadN h3⟩

theorem bytes_of_VRs : ∀ {l l' : List Value} {bs : List UInt8}, VRs i l l' → LK.bytesOf l = some bs → l' = l
  | _, _, _, .nil, _ => rfl
  | v :: l, _, bs, .cons hv t, h => by
    cases v with
    | int k n =>
      cases k <;> simp only [LK.bytesOf] at h <;> try cases h
      obtain ⟨bs', h1, h2⟩ := Option.map_eq_some_iff.1 h
      rw [int_inv hv, bytes_of_VRs t h1]
    | _ => simp [LK.bytesOf] at h
theorem bytes_loop : ∀ {l : List Value} {bs : List UInt8} (s : ByteArray), LK.bytesOf l = some bs →
    (forIn l s fun c s => (match c with
      | .int .u8 n => pure (ForInStep.yield (s.push (UInt8.ofNat n.toNat)))
      | x => do
        stuck "bytesToString: byte expected"
        pure (ForInStep.yield s) : Sem (ForInStep ByteArray))).run P w = .ok ⟨(s.data.toList ++ bs).toArray⟩ w
  | [], bs, s, h => by cases h; simp
  | v :: l, bs, s, h => by
    cases v with
    | int k n =>
      cases k <;> simp only [LK.bytesOf] at h <;> try cases h
      obtain ⟨bs', h1, rfl⟩ := Option.map_eq_some_iff.1 h
      have ih := bytes_loop (s.push (UInt8.ofNat n.toNat)) h1
      rw [List.forIn_cons]
      simp only [Sem.run_bind, Sem.run_pure, Result.andThen_ok]
      rw [ih]
      simp [ByteArray.push]
    | _ => simp [LK.bytesOf] at h

/-! ### maps -/
theorem run_checkKey {kt : TypeId} (h : (∃ k, P.underlying kt = some (.int k)) ∨ P.underlying kt = some .string) (b : Bool) (v : Value) (w : World) : (Instr.checkKey b 10000 kt v).run P w = .ok () w := by
  show (Instr.checkKey b (9999 + 1) kt v).run P w = .ok () w
  generalize 9999 = n
  unfold Instr.checkKey
  rcases h with ⟨k, h⟩ | h
  · rw [Sem.run_bind, run_underlying h, Result.andThen_ok]; rfl
  · rw [Sem.run_bind, run_underlying h, Result.andThen_ok]; rfl
def keyTy : Bool → TypeDesc → Bool
  | false, .int _ => true
  | true, .string => true
  | _, _ => false
theorem sameKey_sim {kt : TypeDesc} {ks : Bool} (hk : keyTy ks kt = true) {k x x' : Value} {b : Bool} (hx : VR i x x') (h : sameKey ks k x = some b) : Instr.sameNow kt k x' = some b ∧ scalar k = true := by
  unfold sameKey at h
  split at h
  · rename_i kk a k2 a2
    split at h
    · rename_i he; cases h; subst he
      rw [int_inv hx]
      cases kt <;> simp [keyTy] at hk
      exact ⟨by simp [Instr.sameNow], rfl⟩
    · cases h
  · rename_i a a2
    cases h
    rw [string_inv hx]
    cases kt <;> simp [keyTy] at hk
    exact ⟨by simp [Instr.sameNow], rfl⟩
  · cases h
theorem lfind_sim {kt : TypeDesc} {ks : Bool} (hk : keyTy ks kt = true) {k : Value} : ∀ {es : List (Value × Value)} {q : Option (Nat × Value)} {ms : List MapEntry},
    lfind ks k es = some q → VRs i (es.map (·.1)) (ms.map (·.key)) → VRs i (es.map (·.2)) (ms.map (·.val)) → ∀ n,
    ∃ q', Instr.findNow kt k ms n = some q' ∧ (match q, q' with | none, none => True | some (j, v), some (j', v') => j' = n + j ∧ VR i v v' ∧ j < ms.length | _, _ => False)
  | [], q, ms, h, h1, h2, n => by
    cases h
    cases ms with
    | nil => exact ⟨none, rfl, trivial⟩
    | cons m ms => cases h1
  | (x, v) :: es, q, [], h, h1, _, _ => by cases h1
  | (x, v) :: es, q, m :: ms, h, .cons hx t1, .cons hv t2, n => by
    simp only [lfind] at h
    split at h
    · rename_i hb
      cases h
      refine ⟨some (n, m.val), ?_, rfl, hv, by simp⟩
      simp [Instr.findNow, (sameKey_sim hk hx hb).1]
    · rename_i hb
      obtain ⟨q1, h3, rfl⟩ := Option.map_eq_some_iff.1 h
      obtain ⟨q', h4, h5⟩ := lfind_sim hk h3 t1 t2 (n + 1)
      refine ⟨q', by simp [Instr.findNow, (sameKey_sim hk hx hb).1, h4], ?_⟩
      cases q1 with
      | none => cases q' with
        | none => trivial
        | some p => exact h5.elim
      | some p => cases q' with
        | none => exact h5.elim
        | some p' =>
          obtain ⟨j, vv⟩ := p
          obtain ⟨j', vv'⟩ := p'
          obtain ⟨e1, e2, e3⟩ := h5
          exact ⟨by omega, e2, by simp; omega⟩
    · cases h
/-- The key of a look-up that found an answer is itself, or the map is empty. -/
theorem lfind_key {kt : TypeDesc} {ks : Bool} (hk : keyTy ks kt = true) {k k' : Value} (hkk : VR i k k') {es : List (Value × Value)} {q : Option (Nat × Value)} (h : lfind ks k es = some q) : k' = k ∨ es = [] := by
  cases es with
  | nil => exact .inr rfl
  | cons e es =>
    left
    obtain ⟨x, v⟩ := e
    simp only [lfind] at h
    cases hb : sameKey ks k x with
    | none => rw [hb] at h; simp at h
    | some b => exact hkk.scalar_eq (sameKey_sim hk (VR.undef (i := i) x |> fun _ => (by exact VR.of_scalar i (by
        unfold sameKey at hb
        split at hb
        · rfl
        · rfl
        · cases hb))) hb).2

theorem findNow_nil {kt : TypeDesc} {k : Value} {n : Nat} : Instr.findNow kt k [] n = some none := rfl
theorem lmap_sim (h : Rel B L i H w) {m m' : Value} (hm : VR i m m') {es : List (Value × Value)} (hl : lmap H m = some es) :
    (m = .map none ∧ m' = .map none ∧ es = []) ∨ ∃ b p ms cl, m = .map (some b) ∧ i b = some p ∧ H[b]? = some (.map es) ∧ m' = .map (some p.pb) ∧ w.heap[p.pb]? = some (.map ms cl) ∧
      VRs (cutAt L b i) (es.map (·.1)) (ms.toList.map (·.key)) ∧ VRs (cutAt L b i) (es.map (·.2)) (ms.toList.map (·.val)) := by
  unfold lmap at hl
  split at hl
  · cases hl
    cases hm
    exact .inl ⟨rfl, rfl, rfl⟩
  · rename_i b
    split at hl
    · rename_i es' hb
      cases hl
      cases hm with
      | map _ p hp =>
        obtain ⟨_, _, ms, cl, h1, h2, h3⟩ := h.holds b p _ hp hb
        exact .inr ⟨b, p, ms, cl, rfl, hp, hb, rfl, h1, h2, h3⟩
    · cases hl
  · cases hl
theorem run_findKey {kt : TypeId} {d : TypeDesc} (hu : P.underlying kt = some d) {k : Value} {es : List MapEntry} {q : Option (Nat × Value)} (h : Instr.findNow d k es 0 = some q) (w : World) :
    (Instr.findKey kt k es).run P w = .ok q w := by
  unfold Instr.findKey
  rw [Sem.run_bind, run_underlying hu, Result.andThen_ok, h]; rfl
theorem run_getObj_map {b : Nat} {ms : Array MapEntry} {cl : Nat} (h : w.heap[b]? = some (.map ms cl)) : (getObj b).run P w = .ok (.map ms cl) w := by
  simp [getObj, Sem.run, h]

theorem zero_run {e : TypeId} {z : Value} (h : (P.info? e).bind (·.zero) = some z) (w : World) : (zeroValue e).run P w = .ok z w := by
  cases hi : P.info? e with
  | none => simp [hi] at h
  | some q => simp [hi] at h; simp [zeroValue, typeInfo, hi, h]

theorem sim_lookup (hR : Rel B L i H w) {t kt e : TypeId} {d : TypeDesc} {ks : Bool} {z : Value} (hu : P.underlying t = some (.map kt e)) (hk : P.underlying kt = some d) (hd : keyTy ks d = true) (hz : (P.info? e).bind (·.zero) = some z) (hzs : scalarA z = true)
    {m k m' k' v : Value} (hm : VR i m m') (hkk : VR i k k') (ok : Bool)
    (hl : (match lmap H m with
      | some es => match lfind ks k es with
        | some q => some (if ok then .tuple #[(q.map (·.2)).getD z, .bool q.isSome] else (q.map (·.2)).getD z)
        | none => none
      | none => none) = some v) :
    ∃ v', (Instr.lookup t m' k' ok).run P w = .ok v' w ∧ VR i v v' := by
  have hck : (∃ kk, P.underlying kt = some (.int kk)) ∨ P.underlying kt = some .string := by
    cases ks <;> cases d <;> simp [keyTy] at hd
    · exact .inl ⟨_, hk⟩
    · exact .inr hk
  split at hl
  · rename_i es hes
    split at hl
    · rename_i q hq
      cases hl
      have fin : ∀ q' : Option (Nat × Value), (match q, q' with | none, none => True | some (j, v), some (j', v') => VR i v v' | _, _ => False) →
          VR i (if ok then .tuple #[(q.map (·.2)).getD z, .bool q.isSome] else (q.map (·.2)).getD z) (if ok then .tuple #[(q'.map (·.2)).getD z, .bool q'.isSome] else (q'.map (·.2)).getD z) := by
        intro q' h
        have hzz : VR i z z := by
          cases hv : z with
          | agg cs => exact .agg _ _ (VRs.of_scalars i (by rw [hv] at hzs; exact hzs))
          | _ => rw [hv] at hzs; exact VR.of_scalar i hzs
        have h1 : VR i ((q.map (·.2)).getD z) ((q'.map (·.2)).getD z) ∧ q.isSome = q'.isSome := by
          cases q with
          | none => cases q' with
            | none => exact ⟨hzz, rfl⟩
            | some p => exact h.elim
          | some p => cases q' with
            | none => exact h.elim
            | some p' => exact ⟨h, rfl⟩
        cases ok
        · simpa using h1.1
        · simp only [if_true]
          rw [h1.2]
          exact .tuple _ _ (.cons h1.1 (.cons (.bool _) .nil))
      have run2 : ∀ (ms : Array MapEntry) (q' : Option (Nat × Value)), Instr.findNow d k' ms.toList 0 = some q' →
          ((m' = .map none ∧ ms = #[]) ∨ ∃ b cl, m' = .map (some b) ∧ w.heap[b]? = some (.map ms cl)) →
          (Instr.lookup t m' k' ok).run P w = .ok (if ok then .tuple #[(q'.map (·.2)).getD z, .bool q'.isSome] else (q'.map (·.2)).getD z) w := by
        intro ms q' hf hes'
        unfold Instr.lookup
        rw [Sem.run_bind, run_underlying hu, Result.andThen_ok]
        rcases hes' with ⟨rfl, rfl⟩ | ⟨b, cl, rfl, hw⟩
        · simp only [Sem.run_bind, Sem.run_pure, Result.andThen_ok, run_checkKey hck, run_findKey hk hf]
          cases q' with
          | none => cases ok <;> simp [zero_run hz w]
          | some p => cases ok <;> simp
        · simp only [Sem.run_bind, Sem.run_pure, Result.andThen_ok, run_getObj_map hw, run_checkKey hck, run_findKey hk hf]
          cases q' with
          | none => cases ok <;> simp [zero_run hz w]
          | some p => cases ok <;> simp
      rcases lmap_sim hR hm hes with ⟨rfl, rfl, rfl⟩ | ⟨b, p, ms, cl, rfl, hp, hb, rfl, hw, h1, h2⟩
      · cases hq
        exact ⟨_, run2 #[] none rfl (.inl ⟨rfl, rfl⟩), fin none trivial⟩
      · obtain ⟨q', hf, hqq⟩ := lfind_sim hd (ms := ms.toList) hq (h1.mono ifcut_le) (h2.mono ifcut_le) 0
        have hf' : Instr.findNow d k' ms.toList 0 = some q' := by
          rcases lfind_key hd hkk hq with rfl | rfl
          · exact hf
          · have : ms.toList = [] := by
              cases hms : ms.toList with
              | nil => rfl
              | cons a l => rw [hms] at h1; cases h1
            rw [this] at hf ⊢; exact hf
        refine ⟨_, run2 ms q' hf' ?_, fin q' ?_⟩
        · exact .inr ⟨_, _, rfl, hw⟩
        · cases q with
          | none => cases q' with
            | none => trivial
            | some p => exact hqq.elim
          | some p => cases q' with
            | none => exact hqq.elim
            | some p' => exact hqq.2.1
    · cases hl
  · cases hl

theorem scalarA_const {z : Value} (h : scalarA z = true) : VR i z z := by
  cases hv : z with
  | agg cs => exact .agg _ _ (VRs.of_scalars i (by rw [hv] at h; exact h))
  | _ => rw [hv] at h; exact VR.of_scalar i h

theorem sim_read (hR : Rel B L i H w) {op : Op} {n : ReadOp} (hc : compOp P op = some (.read n)) {r r' : Operand → Value} (hr : ∀ x, x ∈ op.operands.toList → opndOk x = true → VR i (r x) (r' x)) {v : Value} (hl : lread H r n = some v)
    (dst : Option Tmp) (ty : TypeId) (pos : String) (after : Array Edge) (guard : Option (Nat × Bool)) :
    ∃ v', (execOp r' ⟨dst, op, ty, pos, after, guard⟩).run P w = .ok (.value v') w ∧ VR i v v' := by
  unfold compOp at hc
  split at hc
  case isFalse => cases hc
  rename_i hall
  have hv : ∀ x, x ∈ op.operands.toList → VR i (r x) (r' x) := fun x hx => hr x hx (List.all_eq_true.1 hall x hx)
  clear hr hall
  unfold compOp' at hc
  split at hc
  case h_8 t x =>
    have hx := hv x (by simp [Op.operands])
    split at hc
    · rename_i k hg hn
      cases hc
      simp only [lread] at hl
      split at hl
      · rename_i b o hb
        rw [hb] at hx
        obtain ⟨p, hp, e⟩ := ptr_inv hx
        obtain ⟨l, hl1, rfl⟩ := Option.map_eq_some_iff.1 hl
        obtain ⟨l', h1, h2, h3⟩ := hR.cells (P := P) hp hl1
        refine ⟨.agg l'.toArray, run_val ?_, .agg _ _ (by simpa using h2)⟩
        simp only [e, Instr.loadAt, Instr.sureAddr, Sem.run_bind, Sem.run_pure, Result.andThen_ok, loadVar, run_isAgg hg w, if_true, run_sizeOf hn w, h3]
      · cases hl
    · rename_i hg
      cases hc
      simp only [lread] at hl
      split at hl
      · rename_i b o hb
        split at hl
        · rename_i ro es c hH
          rw [hb] at hx
          obtain ⟨p, hp, e⟩ := ptr_inv hx
          obtain ⟨v', h1, h2⟩ := hR.read hp hH hl
          refine ⟨v', run_val ?_, h2⟩
          simp only [e, Instr.loadAt, Instr.sureAddr, Sem.run_bind, Sem.run_pure, Result.andThen_ok, loadVar, run_isAgg hg w, Bool.false_eq_true, if_false, run_load, h1]
        · cases hl
      · cases hl
    · cases hc
  case h_15 s d x =>
    have hx := hv x (by simp [Op.operands])
    split at hc
    · cases hc
    · split at hc <;> cases hc
    · rename_i e hu1 hu2
      split at hc
      · rename_i hue
        cases hc
        have hconv : ∀ a n c, (convert s d (.slice a n c)).run P w = (Conv.bytesToString (.slice a n c)).run P w := by
          intro a n c
          simp only [convert, Sem.run_bind, run_underlying hu1, run_underlying hu2, Result.andThen_ok, run_underlying hue]
        simp only [lread] at hl
        split at hl
        · rename_i c l hb
          cases hl
          rw [hb] at hx
          have : r' x = .slice none 0 0 := by
            generalize r' x = y at hx
            cases hx with
            | snil => rfl
          refine ⟨_, run_val ?_, .string _⟩
          rw [this, hconv]; rfl
        · rename_i b o len cap hb
          rw [hb] at hx
          obtain ⟨l, hl1, hl2⟩ := Option.bind_eq_some_iff.1 hl
          obtain ⟨bs, hbs, rfl⟩ := Option.map_eq_some_iff.1 hl2
          obtain ⟨p, o', c', hp, e', _, _, ho, _⟩ := slice_inv hx
          refine ⟨_, run_val ?_, .string _⟩
          rw [e', hconv]
          by_cases hlen : len = 0
          · subst hlen
            have : l = [] := by
              obtain ⟨_, _, _, _, _, rfl⟩ := cells_of b o 0 hl1
              simp
            subst this
            cases hbs
            simp [Conv.bytesToString, loadCells, loadCellsFrom]
            rfl
          · have ho' : o' = p.sh + o := by
              rcases ho with h | h
              · exact h
              · omega
            subst ho'
            obtain ⟨l', h1, h2, h3⟩ := hR.cells (P := P) hp hl1
            obtain rfl := bytes_of_VRs h2 hbs
            simp only [Conv.bytesToString, Sem.run_bind, h3, Result.andThen_ok]
            have := bytes_loop (P := P) (w := w) ByteArray.empty hbs
            simp only [List.forIn_toArray]
            refine Eq.trans (congrArg (fun x => Result.andThen x _) this) ?_
            simp
        · cases hl
      · cases hc
    · cases hc
  case h_20 t x lo hi mx =>
    have hx := hv x (by simp [Op.operands])
    split at hc
    · cases hc
    · rename_i hpair
      split at hc
      · split at hc <;> cases hc
      · rename_i e hu
        obtain ⟨n, hn, he⟩ := Option.map_eq_some_iff.1 hc
        cases he
        simp only [lread] at hl
        split at hl
        · rename_i a len cap hb
          rw [hb] at hx
          split at hl
          · cases hl
          · rename_i m hm
            split at hl
            · cases hl
            · rename_i h hh
              split at hl
              · cases hl
              · rename_i l hlo
                have hpr : mx.isSome = true → hi.isSome = true := by
                  intro q
                  cases hi with
                  | some _ => rfl
                  | none => simp [q] at hpair
                split at hl
                · split at hl
                  · rename_i hz
                    cases hl
                    obtain ⟨rfl, rfl⟩ := hz
                    have : r' x = .slice none 0 0 := by
                      generalize r' x = y at hx
                      cases hx with
                      | snil => rfl
                    have hrb := run_bounds (P := P) (w := w) (i := i) (r := r) (r' := r') (lo := lo) (hi := hi) (mx := mx) (fun y hy => hv y (by simp [Op.operands, hy])) (fun y hy => hv y (by simp [Op.operands, hy])) (fun y hy => hv y (by simp [Op.operands, hy]))
                      (Nat.le_refl 0) hm hh hlo hpr true
                    have hb0 : ∀ (o : Option Value) (top d n : Nat), lbound o top d = some n → n ≤ max top d := by
                      intro o top d n hq
                      unfold lbound at hq
                      split at hq
                      · cases hq; omega
                      · split at hq
                        · rename_i hq'; cases hq; omega
                        · cases hq
                      · cases hq
                    have m0 := hb0 _ _ _ _ hm
                    have h0 := hb0 _ _ _ _ hh
                    have l0 := hb0 _ _ _ _ hlo
                    have em : m = 0 := by omega
                    have eh : h = 0 := by omega
                    have el : l = 0 := by omega
                    subst em eh el
                    refine ⟨_, run_val ?_, .snil⟩
                    simp only [this, Instr.sliceAt, Sem.run_bind, run_underlying hu, Result.andThen_ok, Instr.slice]
                    rw [hrb]
                    simp [run_sizeOf hn w]
                  · cases hl
                · rename_i b o
                  split at hl
                  · rename_i ro es c hH
                    split at hl
                    · rename_i hcond
                      cases hl
                      obtain ⟨c1, c2, c4⟩ := hcond
                      obtain ⟨p, o', cap', hp, e', hlc, hcc, ho, hroom⟩ := slice_inv hx
                      obtain ⟨hro, hes, _⟩ := hR.row hp hH
                      have hrb := run_bounds (P := P) (w := w) (i := i) (r := r) (r' := r') (lo := lo) (hi := hi) (mx := mx) (fun y hy => hv y (by simp [Op.operands, hy])) (fun y hy => hv y (by simp [Op.operands, hy])) (fun y hy => hv y (by simp [Op.operands, hy]))
                        hcc hm hh hlo hpr true
                      have hb0 : ∀ (o : Option Value) (top d n : Nat), lbound o top d = some n → n ≤ max top d := by
                        intro o top d n hq
                        unfold lbound at hq
                        split at hq
                        · cases hq; omega
                        · split at hq
                          · rename_i hq'; cases hq; omega
                          · cases hq
                        · cases hq
                      have m0 := hb0 _ _ _ _ hm
                      have l0 := hb0 _ _ _ _ hlo
                      obtain ⟨m', hm', hm1, hm2, hm3⟩ : ∃ m', m' = (if mx.isSome then m else cap') ∧ m ≤ m' ∧ m' ≤ cap' ∧ (mx.isSome = true → m' = m) := by
                        refine ⟨_, rfl, ?_, ?_, ?_⟩
                        · split <;> omega
                        · split <;> omega
                        · intro q; rw [if_pos q]
                      rw [← hm'] at hrb
                      refine ⟨.slice (some ⟨p.pb, if m' = l then o' else o' + l * n, none⟩) (h - l) (m' - l), run_val ?_, .slice b _ _ _ _ _ p hp (by omega) (by omega) ?_ ?_⟩
                      · simp only [e', Instr.sliceAt, Sem.run_bind, run_underlying hu, Result.andThen_ok, Instr.slice]
                        rw [hrb]
                        simp only [Result.andThen_ok, run_sizeOf hn w, Sem.run_pure]
                        by_cases hml : m' = l
                        · simp [hml]
                        · simp [hml, add_lit]
                      · rcases ho with ho | ⟨ho, hro2⟩
                        · by_cases hlm : l = m ∧ (ro = true ∨ mx.isSome = true)
                          · obtain ⟨hlm, hq⟩ := hlm
                            by_cases hml : m' = l
                            · left; simp [hlm, hml, ho, hq]
                            · rcases hq with q | q
                              · right; exact ⟨by omega, .inl (by rw [hro]; exact q)⟩
                              · have := hm3 q; omega
                          · by_cases hml : m' = l
                            · right
                              refine ⟨by omega, .inr (by omega)⟩
                            · left
                              rw [if_neg hlm, if_neg hml, ho, Nat.add_assoc]
                        · right
                          refine ⟨by omega, ?_⟩
                          rcases hro2 with q | q
                          · exact .inl q
                          · exact .inr (by omega)
                      · intro hr
                        rcases hroom hr with h0 | h0
                        · exact .inl h0
                        · right
                          rcases c4 with q | q
                          · rw [hro] at hr; rw [q] at hr; cases hr
                          · have hn' : p.es = n := hes.trans q
                            rw [hn'] at h0 ⊢
                            have hmul : m' * n ≤ cap' * n := Nat.mul_le_mul_right n hm2
                            by_cases hml : m' = l
                            · simp [hml]; omega
                            · rw [if_neg hml]
                              have : l * n + (m' - l) * n = m' * n := by rw [← Nat.add_mul]; congr 1; omega
                              omega
                    · cases hl
                  · cases hl
                · cases hl
        · cases hl
      · cases hc
  case h_25 t m k ok =>
    have hm := hv m (by simp [Op.operands])
    have hk := hv k (by simp [Op.operands])
    split at hc
    · rename_i kt e hu
      split at hc
      · rename_i kk z hk2 hz
        split at hc
        · rename_i hs
          cases hc
          obtain ⟨v', h1, h2⟩ := sim_lookup hR hu hk2 (ks := false) rfl hz hs hm hk ok hl
          exact ⟨v', run_val h1, h2⟩
        · cases hc
      · rename_i z hk2 hz
        split at hc
        · rename_i hs
          cases hc
          obtain ⟨v', h1, h2⟩ := sim_lookup hR hu hk2 (ks := true) rfl hz hs hm hk ok hl
          exact ⟨v', run_val h1, h2⟩
        · cases hc
      · cases hc
    · cases hc
  case h_28 b args ts =>
    obtain ⟨args⟩ := args
    obtain ⟨ts⟩ := ts
    simp only at hc
    unfold compCall at hc
    split at hc
    · rename_i x t
      have hx := hv x (by simp [Op.operands, Call.operands])
      split at hc
      · cases hc
      · cases hc
      · cases hc
      · rename_i kt e hu
        cases hc
        simp only [lread] at hl
        obtain ⟨es, hes, rfl⟩ := Option.map_eq_some_iff.1 hl
        refine ⟨_, run_builtin dst ty pos after guard ?_, .int _ _⟩
        simp only [builtin, List.map_toArray, List.map_cons, List.map_nil]
        refine run_val ?_
        rcases lmap_sim hR hx hes with ⟨_, e1, rfl⟩ | ⟨b, p, ms, cl, _, hp, hb, e1, hw, h1, h2⟩
        · simp only [Builtin.len_, e1]
          simp [run_underlying hu, goInt]
        · have hlen := h1.length
          simp only [List.length_map] at hlen
          simp only [Builtin.len_, e1]
          simp [run_underlying hu, goInt, run_getObj_map hw, hlen]
      · cases hc
    all_goals (exfalso; revert hc; (repeat' split) <;> simp)
  all_goals (first | (cases hc; done) | (exfalso; revert hc; (repeat' split) <;> simp; done))
end
end Go.LK
