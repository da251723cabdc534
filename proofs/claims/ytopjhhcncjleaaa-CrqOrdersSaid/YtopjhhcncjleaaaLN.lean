/- The operations that write memory: the whole. -/
import Derived.Test.YtopjhhcncjleaaaLM
namespace Go.LK
open Go Go.RowKit
set_option linter.unusedVariables false
set_option linter.unusedSimpArgs false

section
variable {P : Program} {B : Nat} {L : List Nat} {i : Inj} {H : LHeap} {w : World}

theorem Rel.setMap {b : Nat} {p : Place} {es es2 : List (Value × Value)} {ms2 : Array MapEntry} {cl2 : Nat} (h : Rel B L i H w) (hp : i b = some p) (hb : H[b]? = some (.map es)) (hlb : lmax L ≤ b)
    (h1 : VRs i (es2.map (·.1)) (ms2.toList.map (·.key))) (h2 : VRs i (es2.map (·.2)) (ms2.toList.map (·.val))) :
    Rel B L i (H.set b (.map es2)) { w with heap := w.heap.setIfInBounds p.pb (.map ms2 cl2) } ∧ Below B w { w with heap := w.heap.setIfInBounds p.pb (.map ms2 cl2) } := by
  obtain ⟨hro, hext, ms, cl, hw, _, _⟩ := h.holds b p _ hp hb
  have hpb : B ≤ p.pb := h.above b p _ hp hb rfl hro
  have hbl : b < H.length := h.bound b p hp
  have hlt : p.pb < w.heap.size := (Array.getElem?_eq_some_iff.1 hw).1
  have hheap : ∀ k, k ≠ p.pb → (w.heap.setIfInBounds p.pb (.map ms2 cl2))[k]? = w.heap[k]? := fun k hk => Array.getElem?_setIfInBounds_ne (Ne.symm hk)
  have hget : ∀ (k : Nat) (o' : LObj), (H.set b (.map es2))[k]? = some o' → (k = b ∧ o' = .map es2) ∨ (k ≠ b ∧ H[k]? = some o') := by
    intro k o' hk
    by_cases e : k = b
    · subst e
      rw [List.getElem?_set_self hbl] at hk; cases hk; exact .inl ⟨rfl, rfl⟩
    · rw [List.getElem?_set_ne (Ne.symm e)] at hk; exact .inr ⟨e, hk⟩
  have hlive : ∀ (k : Nat) (o' : LObj), (H.set b (.map es2))[k]? = some o' → ∃ o'' : LObj, H[k]? = some o'' ∧ o''.live = o'.live := by
    intro k o' hk
    rcases hget k o' hk with ⟨rfl, rfl⟩ | ⟨_, hk⟩
    · exact ⟨_, hb, rfl⟩
    · exact ⟨_, hk, rfl⟩
  refine ⟨⟨fun k p' hk => by rw [List.length_set]; exact h.bound k p' hk, by rw [List.length_set]; exact h.lim_le, by simp; exact h.base, ?_, ?_, ?_⟩, ?_⟩
  · intro k p' o' hk ho'
    rcases hget k o' ho' with ⟨rfl, rfl⟩ | ⟨hne, ho'⟩
    · rw [hp] at hk; cases hk
      rw [cutAt_ge (by omega)]
      exact ⟨hro, hext, ms2, cl2, by simp [hlt], h1, h2⟩
    · cases hl : o'.live with
      | false => cases o' <;> simp [LObj.live] at hl; trivial
      | true =>
        have hh := h.holds k p' o' hk ho'
        refine hh.mono (Inj.le_refl _) (hheap _ fun e => ?_)
        have ha := h.apart b k p p' _ _ (Ne.symm hne) hp hk hb ho' rfl hl hro
        cases o' with
        | dead => cases hl
        | row ro' es' c' =>
          obtain ⟨_, _, cs', e', fz', h3, _⟩ := hh
          rw [e, hw] at h3; cases h3
        | map es' =>
          obtain ⟨_, hext', _⟩ := hh
          rcases ha with q | q | q | q | q
          · exact q e.symm
          · omega
          · omega
          · omega
          · omega
  · intro k p' o' hk ho' hl hr
    obtain ⟨o'', a1, a2⟩ := hlive k o' ho'
    exact h.above k p' o'' hk a1 (a2.trans hl) hr
  · intro k k' p1 p2 o1 o2 hne h1 h2 g1 g2 l1 l2 hr
    obtain ⟨q1, a1, b1⟩ := hlive k o1 g1
    obtain ⟨q2, a2, b2⟩ := hlive k' o2 g2
    exact h.apart k k' p1 p2 q1 q2 hne h1 h2 a1 a2 (b1.trans l1) (b2.trans l2) hr
  · exact ⟨rfl, rfl, rfl, by simp, fun k hk => hheap k (by omega)⟩

def NextVal (i : Inj) (v : Value) (nx : Go.Next) : Prop := (∃ v', nx = .value v' ∧ VR i v v') ∨ (nx = .skip ∧ v = undef)
theorem run_unit {s : Sem Unit} {w w' : World} (h : s.run P w = .ok () w') : (do s; pure Go.Next.skip : Sem Go.Next).run P w = .ok .skip w' := by
  simp [h]

theorem run_setObj_map {b : Nat} {ms : Array MapEntry} {cl : Nat} {o : Obj} (h : w.heap[b]? = some (.map ms cl)) : (setObj b o).run P w = .ok () { w with heap := w.heap.setIfInBounds b o } := by
  simp [setObj, Sem.run, h]
theorem bytes_eq {a b : ByteArray} (h : (a == b) = true) : a = b := by
  rw [beq_toListBytes, beq_iff_eq, ByteArray.toList_eq, ByteArray.toList_eq] at h
  exact ByteArray.ext (Array.toList_inj.1 h)
theorem bytes_refl (a : ByteArray) : (a == a) = true := by rw [beq_toListBytes]; simp
theorem sameBits_scal {a : Value} (h : (∃ k n, a = .int k n) ∨ ∃ s, a = .string s) : Instr.sameBits 10000 a a = true := by
  show Instr.sameBits (9999 + 1) a a = true
  generalize 9999 = n
  rcases h with ⟨k, m, rfl⟩ | ⟨s, rfl⟩
  · simp [Instr.sameBits]
  · simp [Instr.sameBits, bytes_refl]
theorem sameKey_true {ks : Bool} {k x : Value} (h : sameKey ks k x = some true) : x = k ∧ ((∃ kk n, k = .int kk n) ∨ ∃ s, k = .string s) := by
  unfold sameKey at h
  split at h
  · rename_i kk a k2 a2
    split at h
    · rename_i he
      injection h with h
      have := eq_of_beq h
      subst he this
      exact ⟨rfl, .inl ⟨_, _, rfl⟩⟩
    · cases h
  · rename_i a a2
    injection h with h
    have := bytes_eq h
    subst this
    exact ⟨rfl, .inr ⟨_, rfl⟩⟩
  · cases h
theorem lfind_at {ks : Bool} {k : Value} : ∀ {es : List (Value × Value)} {j : Nat} {v : Value}, lfind ks k es = some (some (j, v)) → es[j]? = some (k, v) ∧ ((∃ kk n, k = .int kk n) ∨ ∃ s, k = .string s)
  | [], j, v, h => by cases h
  | (x, u) :: es, j, v, h => by
    simp only [lfind] at h
    split at h
    · rename_i hb
      cases h
      obtain ⟨rfl, hk⟩ := sameKey_true hb
      exact ⟨rfl, hk⟩
    · obtain ⟨q, h1, h2⟩ := Option.map_eq_some_iff.1 h
      cases q with
      | none => simp at h2
      | some p =>
        obtain ⟨j', v'⟩ := p
        simp at h2
        obtain ⟨rfl, rfl⟩ := h2
        obtain ⟨a1, a2⟩ := lfind_at h1
        exact ⟨by simpa using a1, a2⟩
    · cases h

theorem VRs.setmap {es : List (Value × Value)} {f : Value × Value → Value} {l : List Value} (h : VRs i (es.map f) l) (j : Nat) {e : Value × Value} {v' : Value} (hv : VR i (f e) v') : VRs i ((es.set j e).map f) (l.set j v') := by
  rw [List.map_set]; exact h.set j hv
theorem VRs.eraseIdx : ∀ {l l' : List Value}, VRs i l l' → ∀ j, VRs i (l.eraseIdx j) (l'.eraseIdx j)
  | _, _, .nil, _ => by simpa using VRs.nil
  | _, _, .cons _ t, 0 => by simpa using t
  | _, _, .cons h t, j + 1 => by simpa using VRs.cons h (t.eraseIdx j)

theorem map_modify {α β : Type} (f : α → β) (g : α → α) {l : List α} {j : Nat} {a : α} (h : l[j]? = some a) : (l.modify j g).map f = (l.map f).set j (f (g a)) := by
  apply List.ext_getElem?
  intro k
  by_cases e : j = k
  · subst e
    have hlt : j < l.length := (List.getElem?_eq_some_iff.1 h).1
    rw [List.getElem?_set_self (by simpa using hlt), List.getElem?_map, List.getElem?_modify, h]
    simp
  · rw [List.getElem?_set_ne e, List.getElem?_map, List.getElem?_map, List.getElem?_modify]
    simp [e]
theorem map_erase {α β : Type} (f : α → β) : ∀ (l : List α) (j : Nat), (l.eraseIdx j).map f = (l.map f).eraseIdx j
  | [], _ => rfl
  | _ :: _, 0 => rfl
  | a :: l, j + 1 => by simp [map_erase f l j]
theorem hck_of {kt : TypeId} {d : TypeDesc} {ks : Bool} (hk : P.underlying kt = some d) (hd : keyTy ks d = true) : (∃ kk, P.underlying kt = some (.int kk)) ∨ P.underlying kt = some .string := by
  cases ks <;> cases d <;> simp [keyTy] at hd
  · exact .inl ⟨_, hk⟩
  · exact .inr hk

theorem sim_mapUpdate (hR : Rel B L i H w) {t kt e : TypeId} {d : TypeDesc} {ks : Bool} (hu : P.underlying t = some (.map kt e)) (hk : P.underlying kt = some d) (hd : keyTy ks d = true)
    {b : Nat} {es : List (Value × Value)} {m' k k' u u' : Value} (hm : VR i (.map (some b)) m') (hb : H[b]? = some (.map es)) (hlb : lmax L ≤ b) (hkk : VR i k k') (hks : scalar k = true) (huu : VR i u u') {q : Option (Nat × Value)} (hq : lfind ks k es = some q) :
    ∃ w', (Instr.mapUpdate t m' k' u').run P w = .ok () w' ∧ Rel B L i (H.set b (.map (match q with | some (j, _) => es.set j (k, u) | none => es ++ [(k, u)]))) w' ∧
      Next B i H w i (H.set b (.map (match q with | some (j, _) => es.set j (k, u) | none => es ++ [(k, u)]))) w' := by
  cases hm with
  | map _ p hp =>
    obtain ⟨hro, hext, ms, cl, hw, h1, h2⟩ := hR.holds b p _ hp hb
    rw [cutAt_ge (by omega)] at h1 h2
    obtain rfl := hkk.scalar_eq hks
    obtain ⟨q', hf, hqq⟩ := lfind_sim hd (ms := ms.toList) hq h1 h2 0
    have hrun : ∀ ms2 cl2, (match q' with
        | some (j, _) => ms2 = ms.modify j (fun e => { e with key := k', val := u' }) ∧ cl2 = cl
        | none => ms2 = ms.push { key := k', val := u', born := cl } ∧ cl2 = cl + 1) → (∀ j v, q' = some (j, v) → ((ms[j]?).map (·.key)).getD k' = k' ∧ ((∃ kk n, k' = .int kk n) ∨ ∃ s, k' = .string s)) →
        (Instr.mapUpdate t (.map (some p.pb)) k' u').run P w = .ok () { w with heap := w.heap.setIfInBounds p.pb (.map ms2 cl2) } := by
      intro ms2 cl2 hm2 hkey
      unfold Instr.mapUpdate
      rw [Sem.run_bind, run_underlying hu, Result.andThen_ok]
      simp only [Sem.run_bind, run_getObj_map hw, Result.andThen_ok, run_checkKey (hck_of hk hd), run_findKey hk hf]
      cases q' with
      | none =>
        simp only at hm2 ⊢
        obtain ⟨rfl, rfl⟩ := hm2
        rw [run_setObj_map hw]
      | some p' =>
        obtain ⟨j, v⟩ := p'
        simp only at hm2 ⊢
        obtain ⟨rfl, rfl⟩ := hm2
        obtain ⟨e1, e2⟩ := hkey j v rfl
        rw [e1]
        simp only [Instr.keyThatStays, sameBits_scal e2, if_true, Sem.run_bind, Sem.run_pure, Result.andThen_ok]
        rw [run_setObj_map hw]
    cases q with
    | none =>
      cases q' with
      | some p' => exact hqq.elim
      | none =>
        have hr := hrun _ _ ⟨rfl, rfl⟩ (fun j v e => by cases e)
        obtain ⟨r1, r2⟩ := hR.setMap (es2 := es ++ [(k', u)]) (ms2 := ms.push { key := k', val := u', born := cl }) (cl2 := cl + 1) hp hb hlb
          (by simpa using h1.append (.cons hkk .nil)) (by simpa using h2.append (.cons huu .nil))
        exact ⟨_, hr, r1, next_set hR hp r2⟩
    | some p0 =>
      cases q' with
      | none => exact hqq.elim
      | some p' =>
        obtain ⟨j, v⟩ := p0
        obtain ⟨j', v'⟩ := p'
        obtain ⟨e1, e2, e3⟩ := hqq
        rw [Nat.zero_add] at e1
        subst e1
        obtain ⟨hat, hshape⟩ := lfind_at hq
        have hkat : ms.toList[j']? = some ms.toList[j'] := List.getElem?_eq_getElem e3
        have hkey : (ms.toList[j']).key = k' := by
          obtain ⟨vv, hv1, hv2⟩ := h1.get (k := j') (v := k') (by rw [List.getElem?_map, hat]; rfl)
          rw [List.getElem?_map, hkat] at hv1
          simp only [Option.map_some] at hv1
          cases hv1
          exact hv2.scalar_eq hks
        have hr := hrun _ _ ⟨rfl, rfl⟩ (fun j v e => by
          cases e
          have : ms[j']? = some ms.toList[j'] := by rw [← hkat]; simp
          exact ⟨by rw [this]; exact hkey, hshape⟩)
        have em1 : (ms.modify j' (fun e => { e with key := k', val := u' })).toList.map (·.key) = (ms.toList.map (·.key)).set j' k' := by
          rw [Array.toList_modify, map_modify _ _ hkat]
        have em2 : (ms.modify j' (fun e => { e with key := k', val := u' })).toList.map (·.val) = (ms.toList.map (·.val)).set j' u' := by
          rw [Array.toList_modify, map_modify _ _ hkat]
        obtain ⟨r1, r2⟩ := hR.setMap (es2 := es.set j' (k', u)) (ms2 := ms.modify j' (fun e => { e with key := k', val := u' })) (cl2 := cl) hp hb hlb
          (by rw [em1]; exact h1.setmap j' hkk) (by rw [em2]; exact h2.setmap j' huu)
        exact ⟨_, hr, r1, next_set hR hp r2⟩

theorem sim_delete (hR : Rel B L i H w) {t kt e : TypeId} {d : TypeDesc} {ks : Bool} (hu : P.underlying t = some (.map kt e)) (hk : P.underlying kt = some d) (hd : keyTy ks d = true)
    {m m' k k' : Value} (hm : VR i m m') (hkk : VR i k k') {v : Value} {H' : LHeap}
    (hl : ldelete (lmax L) H ks m k = some (v, H')) (u ty : TypeId) :
    ∃ w', (Builtin.delete_ #[t, u] ty #[m', k']).run P w = .ok (.tuple #[]) w' ∧ v = .tuple #[] ∧ Rel B L i H' w' ∧ Next B i H w i H' w' := by
  unfold ldelete at hl
  split at hl
  · cases hl
    have : m' = .map none := by cases hm with | mnil => rfl
    subst this
    refine ⟨w, ?_, rfl, hR, Next.refl B i H w⟩
    unfold Builtin.delete_
    simp only [List.getElem?_toArray, List.getElem?_cons_zero, List.getElem?_cons_succ, Sem.run_bind, run_underlying hu, Result.andThen_ok, run_checkKey (hck_of hk hd), Sem.run_pure]
  · rename_i b
    split at hl
    · rename_i es hb
      split at hl
      · rename_i hlb
        cases hm with
        | map _ p hp =>
          obtain ⟨hro, hext, ms, cl, hw, h1, h2⟩ := hR.holds b p _ hp hb
          rw [cutAt_ge (by omega)] at h1 h2
          have hgen : ∀ q, lfind ks k es = some q → ∃ q', Instr.findNow d k' ms.toList 0 = some q' ∧ (match q, q' with | none, none => True | some (j, v), some (j', v') => j' = 0 + j ∧ VR i v v' ∧ j < ms.toList.length | _, _ => False) := by
            intro q hq
            obtain ⟨q', hf, hqq⟩ := lfind_sim hd (ms := ms.toList) hq h1 h2 0
            refine ⟨q', ?_, hqq⟩
            rcases lfind_key hd hkk hq with rfl | rfl
            · exact hf
            · have : ms.toList = [] := by
                cases hms : ms.toList with
                | nil => rfl
                | cons a l => rw [hms] at h1; cases h1
              rw [this] at hf ⊢; exact hf
          have hrun : ∀ q' ms2, Instr.findNow d k' ms.toList 0 = some q' → (match q' with | some (j, _) => ms2 = ms.eraseIdxIfInBounds j | none => ms2 = ms) →
              (Builtin.delete_ #[t, u] ty #[.map (some p.pb), k']).run P w = .ok (.tuple #[]) { w with heap := w.heap.setIfInBounds p.pb (.map ms2 cl) } := by
            intro q' ms2 hf h
            unfold Builtin.delete_
            simp only [List.getElem?_toArray, List.getElem?_cons_zero, List.getElem?_cons_succ, Sem.run_bind, run_underlying hu, Result.andThen_ok, run_getObj_map hw, run_checkKey (hck_of hk hd), run_findKey hk hf]
            cases q' with
            | none => simp only at h ⊢; subst h; rw [Sem.run_bind, run_setObj_map hw]; rfl
            | some p' => obtain ⟨j, v⟩ := p'; simp only at h ⊢; subst h; rw [Sem.run_bind, run_setObj_map hw]; rfl
          split at hl
          · rename_i j vv hq
            cases hl
            obtain ⟨q', hf, hqq⟩ := hgen _ hq
            cases q' with
            | none => exact hqq.elim
            | some p' =>
              obtain ⟨j', v'⟩ := p'
              obtain ⟨e1, _, e3⟩ := hqq
              rw [Nat.zero_add] at e1
              subst e1
              have em : (ms.eraseIdxIfInBounds j').toList = ms.toList.eraseIdx j' := by
                unfold Array.eraseIdxIfInBounds
                rw [dif_pos (by simpa using e3)]
                simp
              obtain ⟨r1, r2⟩ := hR.setMap (es2 := es.eraseIdx j') (ms2 := ms.eraseIdxIfInBounds j') (cl2 := cl) hp hb hlb
                (by rw [em, map_erase, map_erase]; exact h1.eraseIdx j') (by rw [em, map_erase, map_erase]; exact h2.eraseIdx j')
              exact ⟨_, hrun _ _ hf rfl, rfl, r1, next_set hR hp r2⟩
          · rename_i hq
            cases hl
            obtain ⟨q', hf, hqq⟩ := hgen _ hq
            cases q' with
            | some p' => exact hqq.elim
            | none =>
              obtain ⟨r1, r2⟩ := hR.setMap (es2 := es) (ms2 := ms) (cl2 := cl) hp hb hlb h1 h2
              have eH : H.set b (.map es) = H := by
                apply List.ext_getElem?
                intro j
                by_cases e : j = b
                · subst e; rw [List.getElem?_set_self (hR.bound j p hp), hb]
                · rw [List.getElem?_set_ne (Ne.symm e)]
              rw [eH] at r1
              have hn := next_set hR hp (o := .map es) r2
              rw [eH] at hn
              exact ⟨_, hrun _ _ hf rfl, rfl, r1, hn⟩
          · cases hl
      · cases hl
    · cases hl
  · cases hl

theorem sim_eff (hR : Rel B L i H w) {op : Op} {n : EffOp} (hc : compOp P op = some (.eff n)) {r r' : Operand → Value} (hr : ∀ x, x ∈ op.operands.toList → opndOk x = true → VR i (r x) (r' x)) {v : Value} {H' : LHeap} (hl : leff (lmax L) H r n = some (v, H'))
    (dst : Option Tmp) (ty : TypeId) (pos : String) (after : Array Edge) (guard : Option (Nat × Bool)) :
    ∃ nx w' i', (execOp r' ⟨dst, op, ty, pos, after, guard⟩).run P w = .ok nx w' ∧ NextVal i' v nx ∧ Rel B L i' H' w' ∧ Next B i H w i' H' w' := by
  unfold compOp at hc
  split at hc
  case isFalse => cases hc
  rename_i hall
  have hv : ∀ x, x ∈ op.operands.toList → VR i (r x) (r' x) := fun x hx => hr x hx (List.all_eq_true.1 hall x hx)
  clear hr hall
  unfold compOp' at hc
  split at hc
  case h_9 t x y =>
    have hx := hv x (by simp [Op.operands])
    have hy := hv y (by simp [Op.operands])
    obtain ⟨n, hn, he⟩ := Option.map_eq_some_iff.1 hc
    cases he
    simp only [leff] at hl
    split at hl
    · rename_i b o hb
      split at hl
      · rename_i hk
        obtain ⟨H1, hput, he⟩ := Option.map_eq_some_iff.1 hl
        cases he
        rw [hb] at hx
        obtain ⟨p, hp, e⟩ := ptr_inv hx
        have hcells := hy.cells hk.2
        obtain ⟨w', a1, a2, a3⟩ := hR.put (P := P) (base := p.sh + o) (k := 0) hput hp hcells (by omega)
        refine ⟨.skip, w', i, run_unit ?_, .inr ⟨rfl, rfl⟩, a2, a3⟩
        simp only [e, Instr.storeAt, Instr.sureAddr, Sem.run_bind, Sem.run_pure, Result.andThen_ok]
        refine run_storeVar hn ?_ a1
        rw [← Array.length_toList, ← hcells.length]; exact hk.1
      · cases hl
    · cases hl
  case h_26 t m k u =>
    have hm := hv m (by simp [Op.operands])
    have hk := hv k (by simp [Op.operands])
    have hu := hv u (by simp [Op.operands])
    have main : ∀ kt e d ks, P.underlying t = some (.map kt e) → P.underlying kt = some d → keyTy ks d = true → n = .mapUpdate ks m k u →
        ∃ nx w' i', (execOp r' ⟨dst, .mapUpdate t m k u, ty, pos, after, guard⟩).run P w = .ok nx w' ∧ NextVal i' v nx ∧ Rel B L i' H' w' ∧ Next B i H w i' H' w' := by
      intro kt e d ks h1 h2 h3 hn
      subst hn
      simp only [leff] at hl
      split at hl
      · rename_i b hb
        rw [hb] at hm
        split at hl
        · rename_i es hH
          split at hl
          · rename_i hk'
            split at hl
            · rename_i j vv hq
              cases hl
              obtain ⟨w', a1, a2, a3⟩ := sim_mapUpdate hR h1 h2 h3 hm hH hk'.1 hk hk'.2.1 hu hq
              exact ⟨.skip, w', i, run_unit a1, .inr ⟨rfl, rfl⟩, a2, a3⟩
            · rename_i hq
              cases hl
              obtain ⟨w', a1, a2, a3⟩ := sim_mapUpdate hR h1 h2 h3 hm hH hk'.1 hk hk'.2.1 hu hq
              exact ⟨.skip, w', i, run_unit a1, .inr ⟨rfl, rfl⟩, a2, a3⟩
            · cases hl
          · cases hl
        · cases hl
      · cases hl
    split at hc
    · rename_i kt e h1
      split at hc
      · rename_i kk h2; cases hc; exact main _ _ _ false h1 h2 rfl rfl
      · rename_i h2; cases hc; exact main _ _ _ true h1 h2 rfl rfl
      · cases hc
    · cases hc
  case h_28 b args ts =>
    obtain ⟨args⟩ := args
    obtain ⟨ts⟩ := ts
    simp only at hc
    unfold compCall at hc
    split at hc
    · exfalso; revert hc; (repeat' split) <;> simp
    · rename_i s x t u
      have hs := hv s (by simp [Op.operands, Call.operands])
      have hx := hv x (by simp [Op.operands, Call.operands])
      have main : ∀ e d size bt z, P.underlying t = some (.slice e) → P.underlying u = some d → ((∃ e', d = .slice e') ∨ d = .string) → sizeT P e = some size → (P.info? e).map (·.bytes) = some bt → zeroT P e = some z → z.length = size →
          n = .append size bt s x →
          ∃ nx w' i', (execOp r' ⟨dst, .call { callee := .builtin .append, args := #[s, x], argTypes := #[t, u] }, ty, pos, after, guard⟩).run P w = .ok nx w' ∧ NextVal i' v nx ∧ Rel B L i' H' w' ∧ Next B i H w i' H' w' := by
        intro e d size bt z h1 h2 h3 h4 h5 h6 h7 hn
        subst hn
        simp only [leff] at hl
        split at hl
        · rename_i news n hsrc
          split at hl
          · rename_i h1c
            obtain ⟨v', w', i', a1, a2, a3, a4⟩ := sim_append hR h1 h2 h3 h4 h5 h6 h7 hs hx hsrc h1c hl ty
            refine ⟨.value v', w', i', run_builtin dst ty pos after guard ?_, .inl ⟨v', rfl, a2⟩, a3, a4⟩
            simp only [builtin, List.map_toArray, List.map_cons, List.map_nil]
            exact run_val a1
          · cases hl
        · cases hl
      split at hc
      · rename_i e e' h1 h2
        split at hc
        · rename_i n1 n2 bt z g1 g2 g3 g4
          split at hc
          · rename_i hk; cases hc; exact main _ _ _ _ _ h1 h2 (.inl ⟨_, rfl⟩) g1 g3 g4 hk.2 rfl
          · cases hc
        · cases hc
      · rename_i e h1 h2
        split at hc
        · rename_i n1 bt z g1 g3 g4
          split at hc
          · rename_i hk; cases hc; exact main _ _ _ _ _ h1 h2 (.inr rfl) g1 g3 g4 (by omega) rfl
          · cases hc
        · cases hc
      · cases hc
    · rename_i dd s t u
      have hd := hv dd (by simp [Op.operands, Call.operands])
      have hs := hv s (by simp [Op.operands, Call.operands])
      split at hc
      · rename_i e h1
        obtain ⟨size, hsz, he⟩ := Option.map_eq_some_iff.1 hc
        cases he
        simp only [leff] at hl
        split at hl
        · rename_i l c news n0 hb hsrc
          split at hl
          · rename_i h0
            cases hl
            subst h0
            rw [hb] at hd
            obtain ⟨news', g1, g2, g3, g4⟩ := lsrc_sim (P := P) hR hs hsrc
            have : r' dd = .slice none 0 0 := by
              generalize r' dd = y at hd
              cases hd with
              | snil => rfl
            refine ⟨.value (goInt 0), w, i, run_builtin dst ty pos after guard ?_, .inl ⟨_, rfl, .int _ _⟩, hR, Next.refl B i H w⟩
            simp only [builtin, List.map_toArray, List.map_cons, List.map_nil]
            refine run_val ?_
            unfold Builtin.copy_
            simp only [List.getElem?_toArray, List.getElem?_cons_zero, List.getElem?_cons_succ, Sem.run_bind, run_underlying h1, Result.andThen_ok, this, g3, run_sizeOf hsz w]
            have hm : Nat.min n0 0 = 0 := by simp [Nat.min_def]
            rw [hm, g4 w rfl 0 (by omega)]
            simp
          · cases hl
        · rename_i b o l c news n0 hb hsrc
          obtain ⟨H1, hput, he⟩ := Option.map_eq_some_iff.1 hl
          cases he
          rw [hb] at hd
          obtain ⟨p, o', c', hp, e', hlc, hcc, ho, hroom⟩ := slice_inv hd
          obtain ⟨news', g1, g2, g3, g4⟩ := lsrc_sim (P := P) hR hs hsrc
          obtain ⟨es, cc, hH, hlen2, _⟩ := lput_inv hput
          obtain ⟨hro, _⟩ := hR.row hp hH
          by_cases hz0 : l = 0
          · subst hz0
            have hsame : H' = H := by
              obtain ⟨es2, cc2, hb2, _, _, _, rfl⟩ := lput_inv hput
              have e0 : min n0 0 = 0 := by omega
              simp only [e0, Nat.zero_mul, List.take_zero, setMany]
              apply List.ext_getElem?
              intro j
              by_cases hj : b = j
              · subst hj
                rw [List.getElem?_set_self (List.getElem?_eq_some_iff.1 hb2).1, hb2]
              · rw [List.getElem?_set_ne hj]
            rw [hsame]
            refine ⟨.value (goInt (min n0 0 : Nat)), w, i, run_builtin dst ty pos after guard ?_, .inl ⟨_, rfl, .int _ _⟩, hR, Next.refl B i H w⟩
            simp only [builtin, List.map_toArray, List.map_cons, List.map_nil]
            refine run_val ?_
            unfold Builtin.copy_
            simp only [List.getElem?_toArray, List.getElem?_cons_zero, List.getElem?_cons_succ, Sem.run_bind, run_underlying h1, Result.andThen_ok, e', g3, run_sizeOf hsz w]
            have hm : Nat.min n0 0 = 0 := by simp [Nat.min_def]
            rw [hm, g4 w rfl 0 (by omega)]
            simp [storeCells]
          have ho' : o' = p.sh + o := by
            rcases ho with q | q
            · exact q
            · exact absurd q.1 hz0
          subst ho'
          obtain ⟨w', a1, a2, a3⟩ := hR.put (P := P) (base := p.sh + o) (k := 0) hput hp (g1.take _) (by omega)
          refine ⟨.value (goInt (min n0 l : Nat)), w', i, run_builtin dst ty pos after guard ?_, .inl ⟨_, rfl, .int _ _⟩, a2, a3⟩
          simp only [builtin, List.map_toArray, List.map_cons, List.map_nil]
          refine run_val ?_
          unfold Builtin.copy_
          simp only [List.getElem?_toArray, List.getElem?_cons_zero, List.getElem?_cons_succ, Sem.run_bind, run_underlying h1, Result.andThen_ok, e', g3, run_sizeOf hsz w]
          have hm : Nat.min n0 l = min n0 l := rfl
          rw [hm, g4 w rfl (min n0 l) (by omega)]
          simp only [Result.andThen_ok]
          rw [a1]
          rfl
        · cases hl
      · cases hc
    · rename_i x t
      have hx := hv x (by simp [Op.operands, Call.operands])
      split at hc
      · rename_i e h1
        split at hc
        · rename_i size z hsz hz
          split at hc
          · rename_i hk
            cases hc
            simp only [leff] at hl
            obtain ⟨zv, hz1, hz2, hz3, _⟩ := run_zero (P := P) hz w
            split at hl
            · rename_i l c hb
              cases hl
              rw [hb] at hx
              have : r' x = .slice none 0 0 := by
                generalize r' x = y at hx
                cases hx with
                | snil => rfl
              refine ⟨.value (.tuple #[]), w, i, run_builtin dst ty pos after guard ?_, .inl ⟨_, rfl, .undef _⟩, hR, Next.refl B i H w⟩
              simp only [builtin, List.map_toArray, List.map_cons, List.map_nil]
              refine run_val ?_
              unfold Builtin.clear_
              simp [run_underlying h1, this]
            · rename_i b o l c hb
              rw [hb] at hx
              obtain ⟨p, o', c', hp, e', hlc, hcc, ho, hroom⟩ := slice_inv hx
              split at hl
              · rename_i h0
                cases hl
                subst h0
                refine ⟨.value (.tuple #[]), w, i, run_builtin dst ty pos after guard ?_, .inl ⟨_, rfl, .undef _⟩, hR, Next.refl B i H w⟩
                simp only [builtin, List.map_toArray, List.map_cons, List.map_nil]
                refine run_val ?_
                unfold Builtin.clear_
                simp [run_underlying h1, e']
              · rename_i h0
                obtain ⟨H1, hput, he⟩ := Option.map_eq_some_iff.1 hl
                cases he
                have ho' : o' = p.sh + o := by
                  rcases ho with q | q
                  · exact q
                  · omega
                subst ho'
                obtain ⟨w', a1, a2, a3⟩ := hR.put (P := P) (base := p.sh + o) (k := 0) hput hp (VRs_zeros i (zeros_scal hz3 _ _)) (by omega)
                rw [← zerosA_eq hz2 l hk.2 hk.1] at a1
                refine ⟨.value (.tuple #[]), w', i, run_builtin dst ty pos after guard ?_, .inl ⟨_, rfl, .undef _⟩, a2, a3⟩
                simp only [builtin, List.map_toArray, List.map_cons, List.map_nil]
                refine run_val ?_
                unfold Builtin.clear_
                obtain ⟨l', rfl⟩ : ∃ l', l = l' + 1 := ⟨l - 1, by omega⟩
                simp [run_underlying h1, e', hz1, a1]
            · cases hl
          · cases hc
        · cases hc
      · cases hc
    · rename_i m k t u
      have hm := hv m (by simp [Op.operands, Call.operands])
      have hk := hv k (by simp [Op.operands, Call.operands])
      have main : ∀ kt e d ks, P.underlying t = some (.map kt e) → P.underlying kt = some d → keyTy ks d = true → n = .delete ks m k →
          ∃ nx w' i', (execOp r' ⟨dst, .call { callee := .builtin .delete, args := #[m, k], argTypes := #[t, u] }, ty, pos, after, guard⟩).run P w = .ok nx w' ∧ NextVal i' v nx ∧ Rel B L i' H' w' ∧ Next B i H w i' H' w' := by
        intro kt e d ks h1 h2 h3 hn
        subst hn
        simp only [leff] at hl
        obtain ⟨w', a1, rfl, a2, a3⟩ := sim_delete hR h1 h2 h3 hm hk hl u ty
        refine ⟨.value (.tuple #[]), w', i, run_builtin dst ty pos after guard ?_, .inl ⟨_, rfl, .undef _⟩, a2, a3⟩
        simp only [builtin, List.map_toArray, List.map_cons, List.map_nil]
        exact run_val a1
      split at hc
      · rename_i kt e h1
        split at hc
        · rename_i kk h2; cases hc; exact main _ _ _ false h1 h2 rfl rfl
        · rename_i h2; cases hc; exact main _ _ _ true h1 h2 rfl rfl
        · cases hc
      · cases hc
    · cases hc
    · cases hc
    · cases hc
  all_goals (first | (cases hc; done) | (exfalso; revert hc; (repeat' split) <;> simp; done))
end
end Go.LK
