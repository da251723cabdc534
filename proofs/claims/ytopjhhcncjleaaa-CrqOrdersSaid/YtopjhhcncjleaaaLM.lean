/- The operations that write memory: store, append, copy, clear, maps. -/
import Derived.Test.YtopjhhcncjleaaaLK
namespace Go.LK
open Go Go.RowKit
set_option linter.unusedVariables false
set_option linter.unusedSimpArgs false

section
variable {P : Program} {B : Nat} {L : List Nat} {i : Inj} {H : LHeap} {w : World}

theorem run_loadCells_heap {w1 : World} (hh : w1.heap = w.heap) {a : Addr} {n : Nat} {l : Array Value} {b o : Nat} (ha : a = ⟨b, o, none⟩) {l' : List Value} (hl : l'.length = n)
    (h : ∀ j u, l'[j]? = some u → w.cell? ⟨b, o + j, none⟩ = some u) : (loadCells a n).run P w1 = .ok l'.toArray w1 := by
  subst ha hl
  refine run_loadN (P := P) (w := w1) fun j u hu => ?_
  have := h j u hu
  simpa [World.cell?, hh] using this

theorem lsrc_sim (hR : Rel B L i H w) {size n : Nat} {x x' : Value} {news : List Value} (hx : VR i x x') (h : lsrc H size x = some (news, n)) :
    ∃ news', VRs i news news' ∧ news.length = n * size ∧ (∀ w1, (Builtin.lenOf x').run P w1 = .ok n w1) ∧ (∀ w1, w1.heap = w.heap → ∀ m, m ≤ n → (Builtin.firstCells size m x').run P w1 = .ok (news'.take (m * size)).toArray w1) := by
  unfold lsrc at h
  split at h
  · rename_i n0 c
    split at h
    · rename_i h0
      cases h
      subst h0
      have : x' = .slice none 0 0 := by cases hx with | snil => rfl
      subst this
      refine ⟨[], .nil, by simp, fun w1 => rfl, fun w1 _ m hm => ?_⟩
      have : m = 0 := by omega
      subst this
      simp [Builtin.firstCells]
    · cases h
  · rename_i b o n0 c
    obtain ⟨l, h1, h2⟩ := Option.map_eq_some_iff.1 h
    cases h2
    obtain ⟨ro, es, cc, hb, hlen, rfl⟩ := cells_of _ _ _ h1
    obtain ⟨p, o', c', hp, rfl, _, _, ho, _⟩ := slice_inv hx
    by_cases hn : n = 0
    · subst hn
      refine ⟨[], by simpa using VRs.nil, by simp, fun w1 => rfl, fun w1 _ m hm => ?_⟩
      have : m = 0 := by omega
      subst this
      simp [Builtin.firstCells, loadCells, loadCellsFrom]
    · have ho' : o' = p.sh + o := by
        rcases ho with q | q
        · exact q
        · omega
      subst ho'
      obtain ⟨l', l1, l2, l3⟩ := hR.readN hp hb (n * size) o hlen
      refine ⟨l', l2, by simp; omega, fun w1 => rfl, fun w1 hh m hm => ?_⟩
      simp only [Builtin.firstCells]
      have hml : m * size ≤ n * size := Nat.mul_le_mul_right _ hm
      refine run_loadCells_heap (l := #[]) hh rfl (by simp; omega) fun j u hu => ?_
      rw [List.getElem?_take] at hu
      split at hu
      · exact l3 j u hu
      · cases hu
  · rename_i s
    split at h
    · rename_i hs
      cases h
      subst hs
      obtain rfl := string_inv hx
      refine ⟨_, VRs_zeros i (fun v hv => ?_), by rw [List.length_map, ByteArray.toList_eq]; simp, fun w1 => rfl, fun w1 _ m hm => ?_⟩
      · obtain ⟨b, _, rfl⟩ := List.mem_map.1 hv
        exact .inr rfl
      · simp only [Builtin.firstCells, Sem.run_pure]
        congr 1
        apply Array.ext'
        rw [ByteArray.toList_eq]
        simp [ByteArray.data_extract, List.map_take]
    · cases h
  · cases h

theorem run_tyInt {u : TypeId} {d : TypeDesc} (hu : P.underlying u = some d) (hd : ∀ k, d ≠ .int k) (w : World) :
    ((do pure ((← underlying u) matches .int _) : Sem Bool)).run P w = .ok false w := by
  rw [Sem.run_bind, run_underlying hu, Result.andThen_ok]
  cases d <;> first | rfl | exact absurd rfl (hd _)

theorem sim_append (hR : Rel B L i H w) {t u e : TypeId} {d : TypeDesc} {size bt : Nat} {z : List Value} (hu : P.underlying t = some (.slice e)) (hu2 : P.underlying u = some d) (hd : (∃ e', d = .slice e') ∨ d = .string)
    (hn : sizeT P e = some size) (hbt : (P.info? e).map (·.bytes) = some bt) (hz : zeroT P e = some z) (hzl : z.length = size)
    {s s' x x' v : Value} {H' : LHeap} {news : List Value} {n : Nat} (hs : VR i s s') (hx : VR i x x') (hsrc : lsrc H size x = some (news, n)) (h1 : news.all Value.oneCell' = true) (hl : lappend (lmax L) H size bt s news n = some (v, H')) (ty : TypeId) :
    ∃ v' w' i', (Builtin.append_ #[t, u] ty #[s', x']).run P w = .ok v' w' ∧ VR i' v v' ∧ Rel B L i' H' w' ∧ Next B i H w i' H' w' := by
  obtain ⟨news', hv, hlen, hlenOf, hfirst⟩ := lsrc_sim (P := P) hR hx hsrc
  obtain ⟨ti, hti, htb⟩ := Option.map_eq_some_iff.1 hbt
  have hty : ∀ w1, (typeInfo e).run P w1 = .ok ti w1 := fun w1 => by simp [typeInfo, hti]
  have hlen' : news'.length = n * size := by rw [← hv.length]; exact hlen
  have hfull : ∀ w1, w1.heap = w.heap → (Builtin.firstCells size n x').run P w1 = .ok news'.toArray w1 := fun w1 hh => by
    have := hfirst w1 hh n (Nat.le_refl n)
    rwa [← hlen', List.take_length] at this
  -- the model's run, in place
  have inplace : ∀ (base : Option Addr) (sLen sCap : Nat) (w' : World), s' = .slice base sLen sCap → sLen + n ≤ sCap →
      ((match base with | some a => storeCells (a.add (sLen * size)) news' | none => pure ()) : Sem Unit).run P w = .ok () w' →
      (Builtin.append_ #[t, u] ty #[s', x']).run P w = .ok (.slice base (sLen + n) sCap) w' := by
    intro base sLen sCap w' hse hroom hst
    subst hse
    unfold Builtin.append_
    simp only [List.getElem?_toArray, List.getElem?_cons_zero, List.getElem?_cons_succ, Sem.run_bind, run_underlying hu, Result.andThen_ok, run_sizeOf hn w]
    rw [run_underlying hu2, Result.andThen_ok]
    have fin : ((do
        let n ← Builtin.lenOf x'
        let need := sLen + n
        if need ≤ sCap then
          let new ← Builtin.firstCells size n x'
          if let some a := base then storeCells (a.add (sLen * size)) new.toList
          pure (.slice base need sCap)
        else pure undef) : Sem Value).run P w = .ok (.slice base (sLen + n) sCap) w' := by
      simp only [Sem.run_bind, hlenOf, Result.andThen_ok]
      rw [if_pos hroom]
      simp only [Sem.run_bind, hfull w rfl, Result.andThen_ok]
      cases base with
      | none => cases hst; rfl
      | some a => simp only at hst ⊢; rw [Sem.run_bind, hst]; rfl
    simp only [Sem.run_bind, hlenOf, Result.andThen_ok, if_pos hroom, hfull w rfl] at fin
    rcases hd with ⟨e', rfl⟩ | rfl
    · simp only [Sem.run_pure, Result.andThen_ok, Bool.false_eq_true, if_false, Bool.not_false, if_true, Sem.run_bind, hlenOf]
      rw [if_pos hroom]
      simp only [Sem.run_bind, hfull w rfl, Result.andThen_ok]
      exact fin
    · simp only [Sem.run_pure, Result.andThen_ok, Bool.false_eq_true, if_false, Bool.not_false, if_true, Sem.run_bind, hlenOf]
      rw [if_pos hroom]
      simp only [Sem.run_bind, hfull w rfl, Result.andThen_ok]
      exact fin
  have grow : ∀ (base : Option Addr) (sLen sCap : Nat) (olds : List Value), s' = .slice base sLen sCap → sCap < sLen + n → (sLen + n) * bt ≤ 140737488355328 → sLen + n ≤ 140737488355328 → 
      (∀ w1, w1.heap = w.heap → (Builtin.firstCells size sLen s').run P w1 = .ok olds.toArray w1) →
      ∃ cap' cs, sLen + n ≤ cap' ∧ (Builtin.append_ #[t, u] ty #[s', x']).run P w = .ok (.slice (some ⟨w.heap.size, 0, none⟩) (sLen + n) cap') (w.drew.alloc (.cells cs e (0, 0))) ∧
        ∃ rest : List Value, rest.length = (cap' - (sLen + n)) * size ∧ cs.toList = olds ++ news' ++ rest := by
    intro base sLen sCap olds hse hroom hb1 hb2 holds
    subst hse
    obtain ⟨zv, hz1, hz2, hz3, _⟩ := run_zero (P := P) hz w.drew
    have hroom' : ¬ sLen + n ≤ sCap := by omega
    have hcap : (choose (.appendCap (sLen + n) sCap e)).run P w = .ok (grownCap w (sLen + n) sCap e) w.drew := by simp [Question.forced, grownCap]
    have hzs : zv.cells.size = size := by rw [← Array.length_toList, hz2, hzl]
    refine ⟨grownCap w (sLen + n) sCap e, olds.toArray ++ news'.toArray ++ Builtin.zeroCells zv.cells (grownCap w (sLen + n) sCap e - (sLen + n)), grownCap_ge _ _ _ _, ?_, (Builtin.zeroCells zv.cells (grownCap w (sLen + n) sCap e - (sLen + n))).toList, ?_, by simp⟩
    · have c1 : ¬ (((sLen + n : Nat) : Int) > IntKind.i64.max ∧ (false = true ∨ ti.bytes = 0)) := by
        have e : IntKind.i64.max = 9223372036854775807 := by decide
        rw [e]; omega
      have c2 : ¬ Builtin.nextslicecap (sLen + n) sCap * ti.bytes > 2 ^ 48 := by
        rw [htb]
        have := growslice_fits hroom hb1
        have e : (2 : Nat) ^ 48 = 281474976710656 := by decide
        rw [e]; omega
      unfold Builtin.append_
      simp only [List.getElem?_toArray, List.getElem?_cons_zero, List.getElem?_cons_succ, Sem.run_bind, run_underlying hu, Result.andThen_ok, run_sizeOf hn w]
      rw [run_underlying hu2, Result.andThen_ok]
      rcases hd with ⟨e', rfl⟩ | rfl
      · simp only [Sem.run_pure, Result.andThen_ok, Bool.false_eq_true, if_false, Bool.not_false, if_true, Sem.run_bind, hlenOf]
        rw [if_neg hroom']
        simp only [Sem.run_bind, hty, Result.andThen_ok]
        rw [if_neg (by simpa using c1)]
        simp only [Sem.run_bind, hty, Result.andThen_ok]
        rw [if_neg c2]
        simp only [Sem.run_bind, hcap, Result.andThen_ok, hty, run_askRoom, holds w.drew rfl, hfull w.drew rfl, hz1, run_newRow, Sem.run_pure]
        rfl
      · simp only [Sem.run_pure, Result.andThen_ok, Bool.false_eq_true, if_false, Bool.not_false, if_true, Sem.run_bind, hlenOf]
        rw [if_neg hroom']
        simp only [Sem.run_bind, hty, Result.andThen_ok]
        rw [if_neg (by simpa using c1)]
        simp only [Sem.run_bind, hty, Result.andThen_ok]
        rw [if_neg c2]
        simp only [Sem.run_bind, hcap, Result.andThen_ok, hty, run_askRoom, holds w.drew rfl, hfull w.drew rfl, hz1, run_newRow, Sem.run_pure]
        rfl
    · rw [Array.length_toList, size_zeroCells, hzs]
  unfold lappend at hl
  split at hl
  · rename_i l c
    split at hl
    · rename_i h0
      obtain ⟨rfl, rfl⟩ := h0
      have es' : s' = .slice none 0 0 := by cases hs with | snil => rfl
      split at hl
      · rename_i hn0
        cases hl
        subst hn0
        exact ⟨_, w, i, inplace none 0 0 w es' (by omega) rfl, .snil, hR, Next.refl B i H w⟩
      · rename_i hn0
        split at hl
        · rename_i hk
          cases hl
          obtain ⟨k1, k2, k3⟩ := hk
          obtain ⟨cap', cs, hge, hrun, rest, hrl, hcs⟩ := grow none 0 0 [] es' (by omega) (by simpa using k1) (by omega) (fun w1 _ => by subst es'; simp [Builtin.firstCells])
          simp only [Nat.zero_add, List.nil_append] at hge hrun hrl hcs
          have hsz : cs.size = cap' * size := by
            rw [← Array.length_toList, hcs, List.length_append, hlen', hrl, ← Nat.add_mul]; congr 1; omega
          have hm : Makes i w (w.drew.alloc (.cells cs e (0, 0))) (.row false size news) (fun b => .slice (some ⟨b, 0, none⟩) n n) (.slice (some ⟨w.heap.size, 0, none⟩) n cap') ⟨w.heap.size, 0, cs.size, size, false⟩ := by
            refine Makes.of (.inr rfl) rfl (fun b j _ hb => slice0 hb rfl rfl (Nat.le_refl _) hge (.inr (by rw [hsz]; exact Nat.le_refl _))) (fun j hj => ?_)
            refine ⟨rfl, rfl, cs, e, (0, 0), heap_alloc_new w.drew _, by simp, ?_, ?_, fun _ k _ hh => by simp at hh⟩
            · show news.length ≤ cs.size
              rw [hlen, hsz]; exact Nat.mul_le_mul_right _ hge
            · intro k v hk
              obtain ⟨v', h1, h2⟩ := hv.get hk
              refine ⟨v', ?_, h2.mono hj⟩
              have : cs.toList[k]? = some v' := by
                rw [hcs, List.getElem?_append_left (List.getElem?_eq_some_iff.1 h1).1]; exact h1
              simpa using this
          obtain ⟨r1, r2, r3⟩ := hm.new hR
          exact ⟨_, _, _, hrun, r3, r1, r2⟩
        · cases hl
    · cases hl
  · rename_i b o l c
    obtain ⟨p, o', c', hp, es', hlc, hcc, ho, hroom⟩ := slice_inv hs
    split at hl
    · rename_i hfits
      obtain ⟨H1, hput, he⟩ := Option.map_eq_some_iff.1 hl
      cases he
      obtain ⟨es, cc, hb, hlen2, _⟩ := lput_inv hput
      obtain ⟨hro, hes, _, _, _, _, _, hle, _⟩ := hR.row hp hb
      have ho' : o' = p.sh + o := by
        rcases ho with q | ⟨q1, q | q⟩
        · exact q
        · rw [hro] at q; cases q
        · omega
      subst ho'
      obtain ⟨w', a1, a2, a3⟩ := hR.put (P := P) (base := p.sh + o + l * size) (k := 0) hput hp hv (by omega)
      refine ⟨_, w', i, inplace _ _ _ w' es' (by omega) ?_, ?_, a2, a3⟩
      · simp only [add_lit]; exact a1
      · exact .slice b o (l + n) c (p.sh + o) c' p hp hfits.1 hcc (.inl rfl) hroom
    · rename_i hfits
      split at hl
      · rename_i es cs0 hb
        split at hl
        · rename_i hk
          cases hl
          obtain ⟨k1, k2, k3, k4, k5, k6, k7⟩ := hk
          obtain ⟨hro, hes, csw, ew, fz, hw, hsz, hle, hcw, hfz⟩ := hR.row hp hb
          obtain ⟨ol, o1, o2, o3⟩ : ∃ ol : List Value, ol.length = l * size ∧ VRs i ((cs0.drop o).take (l * size)) ol ∧ ∀ w1 : World, w1.heap = w.heap → (Builtin.firstCells size l s').run P w1 = .ok ol.toArray w1 := by
            have hlsz : l * size ≤ c * size := Nat.mul_le_mul_right _ k3
            rcases ho with q | ⟨q1, q⟩
            · subst q
              obtain ⟨ol, o1, o2, o3⟩ := hR.readN hp hb (l * size) o (by omega)
              refine ⟨ol, o1, o2, fun w1 hh => ?_⟩
              subst es'
              simp only [Builtin.firstCells]
              exact run_loadCells_heap (l := #[]) hh rfl o1 o3
            · subst q1
              refine ⟨[], by simp, by simpa using VRs.nil, fun w1 hh => ?_⟩
              subst es'
              simp [Builtin.firstCells, loadCells, loadCellsFrom]
          have hes' : p.es = size := hes.trans k1
          have hlsz : l * size ≤ c * size := Nat.mul_le_mul_right _ k3
          have holdlen : ((cs0.drop o).take (l * size)).length = l * size := by simp; omega
          by_cases hin : l + n ≤ c'
          · -- the model writes into room that the logical machine does not know
            by_cases hz0 : n = 0 ∧ l = 0 ∧ c' = 0
            · obtain ⟨rfl, rfl, rfl⟩ := hz0
              have hnews : news = [] := List.eq_nil_of_length_eq_zero (by simpa using hlen)
              have hnews' : news' = [] := List.eq_nil_of_length_eq_zero (by simpa using hlen')
              subst hnews hnews'
              have hmv := hR.moved (o := o) (es' := size) (c' := []) hp hb k7 (by simp at hlsz; omega) (by simp) (fun k v hk => by simp at hk)
              refine ⟨_, w, i.upd H.length ⟨p.pb, p.sh + o, p.ext - o, size, false⟩, inplace _ _ _ w es' hin ?_, .slice H.length 0 (0 + 0) (0 + 0) o' 0 ⟨p.pb, p.sh + o, p.ext - o, size, false⟩ (Inj.upd_self _ _ _) (Nat.le_refl _) (by omega) (.inr ⟨rfl, .inr rfl⟩) ?_, by simpa using hmv, ⟨Inj.le_upd hR.new_none, by simp, fun k hk hnn => ⟨?_, ?_⟩, Below.refl B w⟩⟩
              · simp [storeCells, Sem.run_pure]
              · intro _
                rcases hroom hro with q | q
                · left; show size = 0; omega
                · right; show o' + 0 * size ≤ p.sh + o + (p.ext - o); omega
              · rw [Inj.upd_ne _ _ (by omega)]; exact hnn
              · rw [List.getElem?_append_left (by simpa using hk), List.getElem?_set_ne (fun q => by subst q; rw [hp] at hnn; cases hnn)]
            have ho' : o' = p.sh + o := by
              rcases ho with q | ⟨q1, q | q⟩
              · exact q
              · rw [hro] at q; cases q
              · omega
            subst ho'
            have hroom' : p.sh + o + c' * size ≤ p.sh + p.ext := by
              rcases hroom hro with q | q
              · omega
              · rwa [hes'] at q
            have hcap : (l + n) * size ≤ c' * size := Nat.mul_le_mul_right _ hin
            rw [Nat.add_mul] at hcap
            have hmv := hR.moved (o := o) (es' := size) (c' := (cs0.drop o).take (l * size)) hp hb k7 (by omega) (by rw [holdlen]; omega) (fun k v hk => by
              rw [List.getElem?_take] at hk
              split at hk
              · rwa [List.getElem?_drop] at hk
              · cases hk)
            obtain ⟨w', a1, a2, a3⟩ := Rel.putsNew (P := P) (base := p.sh + o + l * size) (k := 0) (b := H.length) (es := size) (hv.mono (Inj.le_upd hR.new_none)) (c := (cs0.drop o).take (l * size)) hmv (Inj.upd_self _ _ _) (by simp) (by rw [holdlen, hlen]; show l * size + n * size ≤ p.ext - o; omega) (by rw [holdlen]; show p.sh + o + l * size + 0 = p.sh + o + l * size; omega) hR.lim_le h1
            have eH : (H.set b LObj.dead ++ [LObj.row false size ((cs0.drop o).take (l * size))]).set H.length (LObj.row false size ((cs0.drop o).take (l * size) ++ news)) = H.set b .dead ++ [.row false size ((cs0.drop o).take (l * size) ++ news)] := by
              rw [List.set_append_right _ _ (by simp)]
              simp
            rw [eH] at a2
            refine ⟨_, w', i.upd H.length ⟨p.pb, p.sh + o, p.ext - o, size, false⟩, inplace _ _ _ w' es' hin ?_, .slice H.length 0 (l + n) (l + n) (p.sh + o) c' ⟨p.pb, p.sh + o, p.ext - o, size, false⟩ (Inj.upd_self _ _ _) (Nat.le_refl _) hin (.inl rfl) (fun _ => .inr (by show p.sh + o + c' * size ≤ p.sh + o + (p.ext - o); omega)), a2, ⟨Inj.le_upd hR.new_none, by simp, fun k hk hnn => ⟨?_, ?_⟩, a3⟩⟩
            · simp only [add_lit]; exact a1
            · rw [Inj.upd_ne _ _ (by omega)]; exact hnn
            · rw [List.getElem?_append_left (by simpa using hk), List.getElem?_set_ne (fun q => by subst q; rw [hp] at hnn; cases hnn)]
          · obtain ⟨cap', cs, hge, hrun, rest, hrl, hcs⟩ := grow _ l c' ol es' (by omega) k4 k5 o3
            have hsz2 : cs.size = cap' * size := by
              rw [← Array.length_toList, hcs, List.length_append, List.length_append, o1, hlen', hrl, ← Nat.add_mul, ← Nat.add_mul]; congr 1; omega
            have hm : Makes i w (w.drew.alloc (.cells cs e (0, 0))) (.row false size ((cs0.drop o).take (l * size) ++ news)) (fun b => .slice (some ⟨b, 0, none⟩) (l + n) (l + n)) (.slice (some ⟨w.heap.size, 0, none⟩) (l + n) cap') ⟨w.heap.size, 0, cs.size, size, false⟩ := by
              refine Makes.of (.inr rfl) rfl (fun b j _ hb => slice0 hb rfl rfl (Nat.le_refl _) hge (.inr (by rw [hsz2]; exact Nat.le_refl _))) (fun j hj => ?_)
              refine ⟨rfl, rfl, cs, e, (0, 0), heap_alloc_new w.drew _, by simp, ?_, ?_, fun _ k _ hh => by simp at hh⟩
              · show ((cs0.drop o).take (l * size) ++ news).length ≤ cs.size
                rw [List.length_append, holdlen, hlen, hsz2, ← Nat.add_mul]; exact Nat.mul_le_mul_right _ hge
              · intro k v hk
                obtain ⟨v', h1, h2⟩ := (o2.append hv).get hk
                refine ⟨v', ?_, h2.mono hj⟩
                have : cs.toList[k]? = some v' := by
                  rw [hcs, List.getElem?_append_left (List.getElem?_eq_some_iff.1 h1).1]; exact h1
                simpa using this
            obtain ⟨r1, r2, r3⟩ := hm.new (hR.kill b)
            simp only [List.length_set] at r1 r2 r3
            refine ⟨_, _, _, hrun, r3, r1, ⟨r2.le, by simp, fun k hk hnn => ⟨?_, ?_⟩, r2.below⟩⟩
            · rw [Inj.upd_ne _ _ (by omega)]; exact hnn
            · rw [List.getElem?_append_left (by simpa using hk), List.getElem?_set_ne (fun q => by subst q; rw [hp] at hnn; cases hnn)]
        · cases hl
      · cases hl
  · cases hl
end
end Go.LK
