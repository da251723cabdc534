/- The operations that make a block. -/
import Derived.Test.YtopjhhcncjleaaaLG
namespace Go.LK
open Go Go.RowKit
set_option linter.unusedVariables false
set_option linter.unusedSimpArgs false

section
variable {P : Program} {i : Inj} {w : World}

/-- What making a block does, whatever number the block has in the logical heap. -/
structure Makes (i : Inj) (w w' : World) (o : LObj) (mk : Nat → Value) (v' : Value) (p : Place) : Prop where
  pb : p.pb = w.heap.size
  val : ∀ b j, i.le j → j b = some p → VR j (mk b) v'
  rel : ∀ B L H b, Rel B L i H w → i b = none → H[b]? = some o → lmax L ≤ b → Rel B L (i.upd b p) H w' ∧ Below B w w'
theorem Makes.of {o : LObj} {mk : Nat → Value} {v' : Value} {p : Place} {w1 : World} {q : Obj} (hw : w1 = w ∨ w1 = w.drew) (hpb : p.pb = w.heap.size)
    (hval : ∀ b j, i.le j → j b = some p → VR j (mk b) v') (hold : ∀ j, i.le j → Holds j p (w1.alloc q) o) : Makes i w (w1.alloc q) o mk v' p := by
  refine ⟨hpb, hval, fun B L H b h hn hb hl => ?_⟩
  have h1 : Rel B L i H w1 ∧ Below B w w1 ∧ w1.heap.size = w.heap.size := by
    rcases hw with rfl | rfl
    · exact ⟨h, Below.refl _ _, rfl⟩
    · exact ⟨h.drew, (Below.refl B w).drew, rfl⟩
  exact ⟨h1.1.mat hn hb hl (hpb.trans h1.2.2.symm) (hold _ (Inj.le_upd hn)), h1.2.1.alloc h1.1.base q⟩
theorem Makes.new {o : LObj} {mk : Nat → Value} {v' : Value} {p : Place} {w' : World} (h : Makes i w w' o mk v' p) {B : Nat} {L : List Nat} {H : LHeap} (hR : Rel B L i H w) :
    Rel B L (i.upd H.length p) (H ++ [o]) w' ∧ Next B i H w (i.upd H.length p) (H ++ [o]) w' ∧ VR (i.upd H.length p) (mk H.length) v' := by
  obtain ⟨h1, h2⟩ := h.rel B L (H ++ [o]) H.length hR.push hR.new_none (by simp) hR.lim_le
  refine ⟨h1, ⟨Inj.le_upd hR.new_none, by simp, fun b hb hn => ⟨?_, List.getElem?_append_left hb⟩, h2⟩, h.val _ _ (Inj.le_upd hR.new_none) (Inj.upd_self _ _ _)⟩
  rw [Inj.upd_ne _ _ (by omega)]; exact hn

theorem ptr0 {j : Inj} {b : Nat} {p : Place} {n : Nat} (h : j b = some p) (hs : p.sh = 0) (hpb : p.pb = n) : VR j (.pointer (some ⟨b, 0, none⟩)) (.pointer (some ⟨n, 0, none⟩)) := by
  have := VR.ptr (i := j) b 0 p h
  rw [hs, hpb] at this; exact this
theorem slice0 {j : Inj} {b l c c' : Nat} {p : Place} {n : Nat} (h : j b = some p) (hs : p.sh = 0) (hpb : p.pb = n) (hl : l ≤ c) (hc : c ≤ c') (he : p.es = 0 ∨ c' * p.es ≤ p.ext) :
    VR j (.slice (some ⟨b, 0, none⟩) l c) (.slice (some ⟨n, 0, none⟩) l c') := by
  have := VR.slice (i := j) b 0 l c 0 c' p h hl hc (.inl (by omega)) (fun _ => he.imp id (by omega))
  rw [hpb] at this; exact this

theorem run_newRow (e : TypeId) (cs : Array Value) (w : World) : (newRow e cs).run P w = .ok ⟨w.heap.size, 0, none⟩ (w.alloc (.cells cs e (0, 0))) := rfl
theorem zeros_eq {zv : Value} {z : List Value} (h : zv.cells.toList = z) (n k : Nat) (hk : 0 < k) (hz : z.length = k) :
    ((Array.range n).map (zv.cells[· % zv.cells.size]!)).toList = (List.range n).map fun i => z.getD (i % k) undef := by
  have hs : zv.cells.size = k := by rw [← Array.length_toList, h, hz]
  simp only [Array.toList_map, Array.toList_range, hs]
  apply List.map_congr_left
  intro j _
  have hlt : j % k < zv.cells.size := by rw [hs]; exact Nat.mod_lt _ hk
  rw [getElem!_pos zv.cells (j % k) hlt]
  subst h
  simp [List.getD, hlt]
theorem zerosA_eq {zv : Value} {z : List Value} (h : zv.cells.toList = z) (n : Nat) {k : Nat} (hk : 0 < k) (hz : z.length = k) :
    (Builtin.zeroCells zv.cells n).toList = (List.range (n * k)).map fun i => z.getD (i % k) undef := by
  have hs : zv.cells.size = k := by rw [← Array.length_toList, h, hz]
  have := zeros_eq h (n * k) k hk hz
  rw [← this]
  simp [Builtin.zeroCells, hs]
theorem zeros_scal {z : List Value} (hz : z.all scalar = true) (n k : Nat) : ∀ v ∈ (List.range n).map (fun i => z.getD (i % k) undef), v = undef ∨ scalar v = true := by
  intro v hv
  obtain ⟨j, _, rfl⟩ := List.mem_map.1 hv
  by_cases hlt : j % k < z.length
  · right
    have : z.getD (j % k) undef = z[j % k] := by simp [List.getD, hlt]
    rw [this]
    exact List.all_eq_true.1 hz _ (List.getElem_mem hlt)
  · left
    simp [List.getD, List.getElem?_eq_none (Nat.le_of_not_lt hlt)]
theorem VRs_zeros (j : Inj) {l : List Value} (h : ∀ v ∈ l, v = undef ∨ scalar v = true) : VRs j l l := by
  induction l with
  | nil => exact .nil
  | cons v l ih =>
    refine .cons ?_ (ih fun u hu => h u (by simp [hu]))
    rcases h v (by simp) with rfl | hs
    · exact .undef _
    · exact VR.of_scalar j hs

theorem run_makeSlice {t e : TypeId} {n bt : Nat} {z : List Value} (hu : P.underlying t = some (.slice e)) (hn : sizeT P e = some n) (hz : zeroT P e = some z) (hb : (P.info? e).map (·.bytes) = some bt)
    (hzn : z.length = n) (hpos : 0 < n) {k k' : IntKind} {l m : Int} (h0 : 0 ≤ l) (h1 : l ≤ m) (h2 : (bt : Int) * m ≤ 281474976710656) (h3 : m ≤ 281474976710656) (w : World) :
    ∃ cs : Array Value, (Instr.makeSlice t (.int k l) (.int k' m)).run P w = .ok (.slice (some ⟨w.heap.size, 0, none⟩) l.toNat m.toNat) (w.alloc (.cells cs e (0, 0))) ∧
      cs.toList = (List.range (m.toNat * n)).map fun i => z.getD (i % n) undef := by
  obtain ⟨zv, hz1, hz2, hz3, _⟩ := run_zero hz w
  have wl : IntKind.i64.wrap l = l := by unfold IntKind.wrap; simp [IntKind.bits, IntKind.signed]; omega
  have wm : IntKind.i64.wrap m = m := by unfold IntKind.wrap; simp [IntKind.bits, IntKind.signed]; omega
  obtain ⟨ti, hti, htb⟩ := Option.map_eq_some_iff.1 hb
  have hty : (typeInfo e).run P w = .ok ti w := by simp [typeInfo, hti]
  have tl : ((decide (m < 0)) || decide ((ti.bytes : Int) * m > 2 ^ 48)) = false := by
    rw [htb]
    have a1 : ¬ m < 0 := by omega
    have a2 : ¬ (bt : Int) * m > 2 ^ 48 := by
      have : (2 : Int) ^ 48 = 281474976710656 := by decide
      rw [this]; omega
    simp only [a1, a2, decide_false, Bool.or_self]
  by_cases hm0 : m.toNat * n = 0
  · refine ⟨(Array.range 0).map fun x => (#[] : Array Value)[x % (#[] : Array Value).size]!, ?_, by simp [hm0]⟩
    unfold Instr.makeSlice
    simp only [Sem.run_bind, run_underlying hu, Result.andThen_ok, asInt, asIntOf, Sem.run_pure, hty, wl, wm, tl, Bool.false_or]
    have a3 : ¬ l < 0 := by omega
    have a4 : ¬ l > m := by omega
    simp only [a3, a4, decide_false, Bool.or_self, Bool.false_eq_true, if_false, Sem.run_bind, run_askRoom, Result.andThen_ok, run_sizeOf hn w, hm0, if_true, Sem.run_pure]
    rfl
  · refine ⟨(Array.range (m.toNat * n)).map (zv.cells[· % zv.cells.size]!), ?_, zeros_eq hz2 _ _ hpos hzn⟩
    unfold Instr.makeSlice
    simp only [Sem.run_bind, run_underlying hu, Result.andThen_ok, asInt, asIntOf, Sem.run_pure, hty, wl, wm, tl, Bool.false_or]
    have a3 : ¬ l < 0 := by omega
    have a4 : ¬ l > m := by omega
    simp only [a3, a4, decide_false, Bool.or_self, Bool.false_eq_true, if_false, Sem.run_bind, run_askRoom, Result.andThen_ok, run_sizeOf hn w, hm0, Sem.run_pure, hz1]
    rfl

theorem push_alloc_freeze {e : TypeId} {cs : Array Value} (w : World) :
    ((w.alloc (.cells cs e (0, 0))).freeze ⟨w.heap.size, cs.size, none⟩ 1) = w.alloc (.cells cs e (cs.size, cs.size + 1)) := by
  unfold World.freeze World.alloc
  rw [if_neg (by decide)]
  congr 1
  apply Array.ext_getElem?
  intro k
  rw [Array.getElem?_modify]
  by_cases hk : w.heap.size = k
  · subst hk; simp
  · rw [if_neg hk, Array.getElem?_push, Array.getElem?_push, if_neg (Ne.symm hk), if_neg (Ne.symm hk)]

theorem sim_new {op : Op} {n : NewOp} (hc : compOp P op = some (.new n)) {r r' : Operand → Value} (hr : ∀ x, x ∈ op.operands.toList → opndOk x = true → VR i (r x) (r' x)) {o : LObj} {mk : Nat → Value} (hl : lnew r n = some (o, mk))
    (dst : Option Tmp) (ty : TypeId) (pos : String) (after : Array Edge) (guard : Option (Nat × Bool)) :
    ∃ v' w' p, (execOp r' ⟨dst, op, ty, pos, after, guard⟩).run P w = .ok (.value v') w' ∧ Makes i w w' o mk v' p := by
  unfold compOp at hc
  split at hc
  case isFalse => cases hc
  rename_i hall
  have hv : ∀ x, x ∈ op.operands.toList → VR i (r x) (r' x) := fun x hx => hr x hx (List.all_eq_true.1 hall x hx)
  clear hr hall
  unfold compOp' at hc
  split at hc
  case h_4 e =>
    obtain ⟨z, hz, he⟩ := Option.map_eq_some_iff.1 hc
    cases he
    simp only [lnew] at hl
    cases hl
    obtain ⟨zv, hz1, hz2, hz3, _⟩ := run_zero hz w
    refine ⟨.pointer (some ⟨w.heap.size, 0, none⟩), w.alloc (.cells zv.cells e (0, 0)), ⟨w.heap.size, 0, zv.cells.size, 0, false⟩, run_val ?_, Makes.of (.inl rfl) rfl (fun b j _ hb => ptr0 hb rfl rfl) (fun j hj => Holds_row (by rw [hz2]; exact VRs.of_scalars j hz3))⟩
    simp only [Instr.alloc, Sem.run_bind, hz1, Result.andThen_ok]
    rfl
  case h_5 e x =>
    cases hc
    have hx := hv x (by simp [Op.operands])
    simp only [lnew] at hl
    split at hl
    · rename_i hn
      cases hl
      refine ⟨.pointer (some ⟨w.heap.size, 0, none⟩), w.alloc (.cells (r' x).cells e (0, 0)), ⟨w.heap.size, 0, (r' x).cells.size, 0, false⟩, run_val rfl, Makes.of (.inl rfl) rfl (fun b j _ hb => ptr0 hb rfl rfl) (fun j hj => Holds_row ((hx.cells hn.1).mono hj))⟩
    · cases hl
  case h_7 t len ps =>
    have hps : ∀ x ∈ ps.toList, VR i (r x.2) (r' x.2) := fun x hx => hv x.2 (by simp only [Op.operands]; exact List.mem_map.2 ⟨x, hx, rfl⟩)
    have hmap : (ps.map fun (i, x) => (i, r' x)).toList = ps.toList.map fun p => (p.1, r' p.2) := by simp
    split at hc
    · rename_i e hu
      split at hc
      · rename_i n z hn hz
        split at hc
        · rename_i hk
          obtain ⟨hzn, hpos, hbig⟩ := hk
          cases hc
          simp only [lnew] at hl
          obtain ⟨c, hc1, hc2⟩ := Option.map_eq_some_iff.1 hl
          cases hc2
          obtain ⟨zv, hz1, hz2, hz3, _⟩ := run_zero hz w
          have hnb : ¬ len * n > 2 ^ 24 := by
            have : (2 : Nat) ^ 24 = 16777216 := by decide
            rw [this]; omega
          have main : ∀ (cs0 : Array Value), cs0.toList = (List.range (len * n)).map (fun i => z.getD (i % n) undef) →
              ((do
                let some cells := Instr.fill (fun i => some (i * n, n)) cs0 (ps.toList.map fun p => (p.1, r' p.2)) | stuck "buildSlice: a part of the wrong size"
                pure (.slice (some (← newRow e cells)) len len) : Sem Value)).run P w = (Instr.buildSlice t len (ps.map fun (i, x) => (i, r' x))).run P w →
              ∃ v' w' p, (execOp r' ⟨dst, .buildSlice t len ps, ty, pos, after, guard⟩).run P w = .ok (.value v') w' ∧ Makes i w w' (.row false n c) (fun b => .slice (some ⟨b, 0, none⟩) len len) v' p := by
            intro cs0 h0 hrun
            obtain ⟨c', hf, hcc⟩ := sim_fill (c' := cs0) (partsA_parts (size := n) hps) (by rw [h0]; exact VRs_zeros i (zeros_scal hz3 _ _)) hc1
            have hlen : c'.size = len * n := by
              have h1 := hcc.length
              have h2 : c.length = len * n := by
                have : ∀ (ps : List (Nat × Nat × Value)) (a b : List Value), lfill a ps = some b → b.length = a.length := by
                  intro ps
                  induction ps with
                  | nil => intro a b h; cases h; rfl
                  | cons q ps ih =>
                    intro a b h
                    obtain ⟨o1, o2, o3⟩ := q
                    simp only [lfill] at h
                    split at h
                    · rw [ih _ _ h, setMany_length]
                    · cases h
                rw [this _ _ _ hc1]; simp
              rw [← Array.length_toList, ← h1, h2]
            refine ⟨.slice (some ⟨w.heap.size, 0, none⟩) len len, w.alloc (.cells c' e (0, 0)), ⟨w.heap.size, 0, c'.size, n, false⟩, run_val ?_,
              Makes.of (.inl rfl) rfl (fun b j _ hb => slice0 hb rfl rfl (Nat.le_refl _) (Nat.le_refl _) (.inr (by rw [hlen]; exact Nat.le_refl _))) (fun j hj => Holds_row (hcc.mono hj))⟩
            rw [← hrun]
            simp only [hf, Sem.run_bind, run_newRow, Result.andThen_ok, Sem.run_pure]
          by_cases hz0 : len * n = 0
          · refine main ((Array.range 0).map fun x => (#[] : Array Value)[x % (#[] : Array Value).size]!) (by simp [hz0]) ?_
            unfold Instr.buildSlice
            simp only [Sem.run_bind, run_underlying hu, Result.andThen_ok, run_sizeOf hn w, hz0, if_true, Sem.run_pure, hmap]
            rfl
          · refine main ((Array.range (len * n)).map (zv.cells[· % zv.cells.size]!)) (zeros_eq hz2 _ _ hpos hzn) ?_
            unfold Instr.buildSlice
            simp only [Sem.run_bind, run_underlying hu, Result.andThen_ok, run_sizeOf hn w, hz0, if_false, hnb, Sem.run_pure, hmap, hz1]
            rfl
        · cases hc
      · cases hc
    · cases hc
  case h_15 s d x =>
    have hx := hv x (by simp [Op.operands])
    split at hc
    · cases hc
    · rename_i e hu1 hu2
      split at hc
      · rename_i hue
        cases hc
        simp only [lnew] at hl
        split at hl
        · rename_i s hb
          split at hl
          · rename_i hsz
            cases hl
            rw [hb] at hx
            obtain ⟨cap, hcap, hge⟩ : ∃ cap, (choose (.appendCap s.size 0 e)).run P w = .ok cap w.drew ∧ s.size ≤ cap := by
              refine ⟨(Question.appendCap s.size 0 e).cut (w.tape w.drawn (.appendCap s.size 0 e)), by simp [Question.forced], ?_⟩
              simp [Question.cut]
            have hcs : (s.data.map (fun b : UInt8 => Value.int .u8 b.toNat) ++ Array.replicate (cap - s.size) (Value.int .u8 0)).size = cap := by
              have : s.data.size = s.size := rfl
              simp only [Array.size_append, Array.size_map, Array.size_replicate, this]; omega
            generalize hcsd : (s.data.map (fun b : UInt8 => Value.int .u8 b.toNat) ++ Array.replicate (cap - s.size) (Value.int .u8 0)) = cs at hcs
            refine ⟨.slice (some ⟨w.heap.size, 0, none⟩) s.size cap, w.drew.alloc (.cells cs e (cs.size, cs.size + 1)), ⟨w.heap.size, 0, cs.size, 1, false⟩, run_val ?_,
              Makes.of (.inr rfl) rfl (fun b j _ hb => slice0 hb rfl rfl (Nat.le_refl _) hge (.inr (by rw [hcs]; simp))) (fun j hj => ?_)⟩
            · simp only [string_inv hx, convert, Sem.run_bind, run_underlying hu1, run_underlying hu2, Result.andThen_ok, run_underlying hue, Conv.stringToBytes, hcap, hcsd, run_newRow, markStringish, run_shape]
              have hsh : (w.drew.alloc (.cells cs e (0, 0))).shape? w.drew.heap.size = some (e, cs.size) := by
                unfold World.shape?
                rw [heap_alloc_new w.drew (.cells cs e (0, 0))]
              rw [hsh]
              simp only [run_freeze]
              rw [push_alloc_freeze w.drew]
              rfl
            · refine ⟨rfl, rfl, cs, e, _, heap_alloc_new w.drew _, by simp, ?_, ?_, fun _ k hk hh => by simp only at hh; omega⟩
              · rw [List.length_map, hcs]
                have : s.toList.length = s.size := by rw [ByteArray.toList_eq]; rfl
                show _ ≤ cap
                omega
              · intro k v hk
                refine ⟨v, ?_, ?_⟩
                · rw [← hcsd, ByteArray.toList_eq] at *
                  rw [List.getElem?_map] at hk
                  obtain ⟨b, hb1, rfl⟩ := Option.map_eq_some_iff.1 hk
                  have hb2 : s.data[k]? = some b := by simpa using hb1
                  have hklt : k < s.data.size := (Array.getElem?_eq_some_iff.1 hb2).1
                  rw [Nat.zero_add, Array.getElem?_append_left (by simpa using hklt), Array.getElem?_map, hb2]; rfl
                · rw [List.getElem?_map] at hk
                  obtain ⟨b, hb1, rfl⟩ := Option.map_eq_some_iff.1 hk
                  exact .int _ _
          · cases hl
        · cases hl
      · cases hc
    · split at hc <;> cases hc
    · cases hc
  case h_18 t =>
    split at hc
    · rename_i k e hu
      cases hc
      simp only [lnew] at hl
      cases hl
      refine ⟨.map (some w.heap.size), w.alloc (.map #[] 0), ⟨w.heap.size, 0, 1, 0, false⟩, run_val ?_, Makes.of (.inl rfl) rfl (fun b j _ hb => .map b _ hb) (fun j hj => ⟨rfl, ⟨rfl, rfl⟩, #[], 0, heap_alloc_new w _, .nil, .nil⟩)⟩
      rfl
    · cases hc
  case h_19 t l c =>
    have hx := hv l (by simp [Op.operands])
    have hy := hv c (by simp [Op.operands])
    split at hc
    · rename_i e hu
      split at hc
      · rename_i n z bt hn hz hb
        split at hc
        · rename_i hk
          cases hc
          simp only [lnew] at hl
          split at hl
          · rename_i k l0 k' m0 e1 e2
            split at hl
            · rename_i hcond
              cases hl
              obtain ⟨h0, h1, h2, h3⟩ := hcond
              rw [e1] at hx
              rw [e2] at hy
              obtain ⟨cs, hrun, hcs⟩ := run_makeSlice (k := k) (k' := k') hu hn hz hb hk.1 hk.2 h0 h1 h2 h3 w
              obtain ⟨zv, hz1, hz2, hz3, _⟩ := run_zero hz w
              have hlen : cs.size = m0.toNat * n := by rw [← Array.length_toList, hcs]; simp
              refine ⟨.slice (some ⟨w.heap.size, 0, none⟩) l0.toNat m0.toNat, w.alloc (.cells cs e (0, 0)), ⟨w.heap.size, 0, cs.size, n, false⟩, run_val ?_,
                Makes.of (.inl rfl) rfl (fun b j _ hb => slice0 hb rfl rfl (by omega) (Nat.le_refl _) (.inr (by rw [hlen]; exact Nat.le_refl _))) (fun j hj => Holds_row (by rw [hcs]; exact VRs_zeros j (zeros_scal hz3 _ _)))⟩
              rw [int_inv hx, int_inv hy]; exact hrun
            · cases hl
          · cases hl
        · cases hc
      · cases hc
    · cases hc
  all_goals (first | (cases hc; done) | (exfalso; revert hc; unfold compCall; (repeat' split) <;> simp; done) | (exfalso; revert hc; (repeat' split) <;> simp; done))
end
end Go.LK
