/- The operations that write memory. -/
import Derived.Test.YtopjhhcncjleaaaLJ
namespace Go.LK
open Go Go.RowKit
set_option linter.unusedVariables false
set_option linter.unusedSimpArgs false

section
variable {P : Program} {B : Nat} {L : List Nat} {i : Inj} {H : LHeap} {w : World}

theorem Rel.place {b : Nat} {o : LObj} {p : Place} (h : Rel B L i H w) (hn : i b = none) (hb : H[b]? = some o) (hlb : lmax L ≤ b) (hpb : B ≤ p.pb)
    (hold : Holds (i.upd b p) p w o)
    (hap : ∀ k p' o', k ≠ b → i k = some p' → H[k]? = some o' → o'.live = true → p.pb ≠ p'.pb ∨ p.sh + p.ext ≤ p'.sh ∨ p'.sh + p'.ext ≤ p.sh ∨ p.ext = 0 ∨ p'.ext = 0) :
    Rel B L (i.upd b p) H w := by
  have inv : ∀ k p', (i.upd b p) k = some p' → (k = b ∧ p' = p) ∨ (k ≠ b ∧ i k = some p') := by
    intro k p' hk
    by_cases e : k = b
    · subst e; rw [Inj.upd_self] at hk; cases hk; exact .inl ⟨rfl, rfl⟩
    · rw [Inj.upd_ne _ _ e] at hk; exact .inr ⟨e, hk⟩
  have hlen : b < H.length := by
    rcases Nat.lt_or_ge b H.length with h1 | h1
    · exact h1
    · rw [List.getElem?_eq_none h1] at hb; cases hb
  refine ⟨?_, h.lim_le, h.base, ?_, ?_, ?_⟩
  · intro k p' hk
    rcases inv k p' hk with ⟨rfl, _⟩ | ⟨_, hk⟩
    · exact hlen
    · exact h.bound k p' hk
  · intro k p' o' hk ho
    rcases inv k p' hk with ⟨rfl, rfl⟩ | ⟨hne, hk⟩
    · rw [hb] at ho; cases ho
      rw [cutAt_ge (by omega)]; exact hold
    · exact (h.holds k p' o' hk ho).mono (ifcut_mono (Inj.le_upd hn)) rfl
  · intro k p' o' hk ho hl hro
    rcases inv k p' hk with ⟨rfl, rfl⟩ | ⟨hne, hk⟩
    · exact hpb
    · exact h.above k p' o' hk ho hl hro
  · intro k k' p1 p2 o1 o2 hne h1 h2 g1 g2 l1 l2 hro
    rcases inv k p1 h1 with ⟨rfl, rfl⟩ | ⟨n1, j1⟩ <;> rcases inv k' p2 h2 with ⟨rfl, rfl⟩ | ⟨n2, j2⟩
    · exact absurd rfl hne
    · exact hap k' p2 o2 n2 j2 g2 l2
    · have := hap k p1 o1 n1 j1 g1 l1
      rcases this with q | q | q | q | q
      · exact .inl (Ne.symm q)
      · exact .inr (.inr (.inl q))
      · exact .inr (.inl q)
      · exact .inr (.inr (.inr (.inr q)))
      · exact .inr (.inr (.inr (.inl q)))
    · exact h.apart k k' p1 p2 o1 o2 hne j1 j2 g1 g2 l1 l2 hro

theorem Rel.moved {b o es es' : Nat} {c c' : List Value} {p : Place} (h : Rel B L i H w) (hp : i b = some p) (hb : H[b]? = some (.row false es c)) (hlb : lmax L ≤ b) (ho : o ≤ p.ext) (hl : c'.length ≤ p.ext - o)
    (hc : ∀ k v, c'[k]? = some v → c[o + k]? = some v) :
    Rel B L (i.upd H.length ⟨p.pb, p.sh + o, p.ext - o, es', false⟩) (H.set b .dead ++ [.row false es' c']) w := by
  obtain ⟨hro, hes, cs, e, fz, hw, hsz, hlen, hcs, hfz⟩ := h.row hp hb
  have h1 : Rel B L i (H.set b .dead ++ [.row false es' c']) w := (h.kill b).push
  have hbl : b < H.length := h.bound b p hp
  refine h1.place (o := .row false es' c') h.new_none (by simp) h.lim_le (h.above b p _ hp hb rfl hro) ?_ ?_
  · refine ⟨rfl, rfl, cs, e, fz, hw, by show p.sh + o + (p.ext - o) ≤ cs.size; omega, hl, ?_, fun _ => hfz rfl⟩
    intro k v hk
    obtain ⟨v', a1, a2⟩ := hcs (o + k) v (hc k v hk)
    refine ⟨v', by rw [← a1]; congr 1; exact Nat.add_assoc _ _ _, ?_⟩
    rw [cutAt_ge (by omega)] at a2
    exact a2.mono (Inj.le_upd h.new_none)
  · intro k p' o' hk hik hok hlive
    have hkl := h.bound k p' hik
    rw [List.getElem?_append_left (by simpa using hkl)] at hok
    have hkb : k ≠ b := by
      intro q; subst q
      rw [List.getElem?_set_self hkl] at hok; cases hok; cases hlive
    rw [List.getElem?_set_ne (Ne.symm hkb)] at hok
    have := h.apart b k p p' _ _ (Ne.symm hkb) hp hik hb hok rfl hlive hro
    rcases this with q | q | q | q | q
    · exact .inl q
    · exact .inr (.inl (by show p.sh + o + (p.ext - o) ≤ p'.sh; omega))
    · exact .inr (.inr (.inl (by show p'.sh + p'.ext ≤ p.sh + o; omega)))
    · exact .inr (.inr (.inr (.inl (by show p.ext - o = 0; omega))))
    · exact .inr (.inr (.inr (.inr q)))

theorem run_store1 {a : Addr} {v u : Value} (h1 : w.cell? a = some u) (h2 : w.frozen? a = false) (hv : v.oneCell' = true) : (store a v).run P w = .ok () (w.setCell a v) := by
  rw [run_store P w a v .plain hv, h1, h2]; rfl

theorem Rel.puts {b es base : Nat} {p : Place} : ∀ {vs vs' : List Value}, VRs i vs vs' → ∀ {k o : Nat} {c : List Value} {H : LHeap} {w : World}, Rel B L i H w → i b = some p → H[b]? = some (.row false es c) →
    o + vs.length ≤ p.ext → base + k = p.sh + o → (lmax L ≤ b ∨ vs.all scalar = true) → vs.all Value.oneCell' = true →
    ∃ w', (storeCells ⟨p.pb, base, none⟩ vs' k).run P w = .ok () w' ∧ Rel B L i (H.set b (.row false es (setMany c o vs))) w' ∧ Below B w w'
  | _, _, .nil, k, o, c, H, w, h, hp, hb, _, _, _, _ => by
    refine ⟨w, rfl, ?_, Below.refl B w⟩
    have : H.set b (.row false es (setMany c o [])) = H := by
      apply List.ext_getElem?
      intro j
      by_cases e : j = b
      · subst e
        rw [List.getElem?_set_self (h.bound j p hp), hb]; rfl
      · rw [List.getElem?_set_ne (Ne.symm e)]
    rw [this]; exact h
  | v :: vs, v' :: vs', .cons hv t, k, o, c, H, w, h, hp, hb, hlen, hbase, hs, h1 => by
    simp only [List.all_cons, Bool.and_eq_true] at h1
    simp only [List.length_cons] at hlen
    have hs1 : lmax L ≤ b ∨ scalar v = true := hs.imp id fun q => by simp only [List.all_cons, Bool.and_eq_true] at q; exact q.1
    have hs2 : lmax L ≤ b ∨ vs.all scalar = true := hs.imp id fun q => by simp only [List.all_cons, Bool.and_eq_true] at q; exact q.2
    obtain ⟨u, a1, a2, a3, a4⟩ := h.write hp hb (by omega : o < p.ext) hv hs1
    have hbl : b < H.length := h.bound b p hp
    obtain ⟨w', b1, b2, b3⟩ := Rel.puts t (base := base) (k := k + 1) (o := o + 1) (c := c.set o v) a3 hp (List.getElem?_set_self hbl) (by omega) (by omega) hs2 h1.2
    refine ⟨w', ?_, ?_, a4.trans b3⟩
    · simp only [storeCells, Sem.run_bind]
      rw [add_lit, hbase, run_store1 a1 a2 (hv.oneCell h1.1), Result.andThen_ok]
      exact b1
    · rw [List.set_set] at b2; exact b2
theorem Rel.putsNew {b es base : Nat} {p : Place} : ∀ {vs vs' : List Value}, VRs i vs vs' → ∀ {k : Nat} {c : List Value} {H : LHeap} {w : World}, Rel B L i H w → i b = some p → H[b]? = some (.row false es c) →
    c.length + vs.length ≤ p.ext → base + k = p.sh + c.length → lmax L ≤ b → vs.all Value.oneCell' = true →
    ∃ w', (storeCells ⟨p.pb, base, none⟩ vs' k).run P w = .ok () w' ∧ Rel B L i (H.set b (.row false es (c ++ vs))) w' ∧ Below B w w'
  | _, _, .nil, k, c, H, w, h, hp, hb, _, _, _, _ => by
    refine ⟨w, rfl, ?_, Below.refl B w⟩
    have : H.set b (.row false es (c ++ [])) = H := by
      apply List.ext_getElem?
      intro j
      by_cases e : j = b
      · subst e
        rw [List.getElem?_set_self (h.bound j p hp), hb]; simp
      · rw [List.getElem?_set_ne (Ne.symm e)]
    rw [this]; exact h
  | v :: vs, v' :: vs', .cons hv t, k, c, H, w, h, hp, hb, hlen, hbase, hs, h1 => by
    simp only [List.all_cons, Bool.and_eq_true] at h1
    simp only [List.length_cons] at hlen
    obtain ⟨u, a1, a2, a3, a4⟩ := h.writeNew hp hb (by omega) hv (.inl hs)
    have hbl : b < H.length := h.bound b p hp
    obtain ⟨w', b1, b2, b3⟩ := Rel.putsNew t (base := base) (k := k + 1) (c := c ++ [v]) a3 hp (List.getElem?_set_self hbl) (by simp; omega) (by simp; omega) hs h1.2
    refine ⟨w', ?_, ?_, a4.trans b3⟩
    · simp only [storeCells, Sem.run_bind]
      rw [add_lit, hbase, run_store1 a1 a2 (hv.oneCell h1.1), Result.andThen_ok]
      exact b1
    · rw [List.set_set, List.append_assoc] at b2; exact b2

theorem lput_inv {b o : Nat} {vs : List Value} {H' : LHeap} (h : lput (lmax L) H b o vs = some H') : ∃ es c, H[b]? = some (.row false es c) ∧ o + vs.length ≤ c.length ∧ (lmax L ≤ b ∨ vs.all scalar = true) ∧ vs.all Value.oneCell' = true ∧
    H' = H.set b (.row false es (setMany c o vs)) := by
  unfold lput at h
  split at h
  · rename_i es c hb
    split at h
    · rename_i hk
      cases h
      exact ⟨es, c, hb, hk.1, hk.2.1, hk.2.2, rfl⟩
    · cases h
  · cases h
theorem next_set (hR : Rel B L i H w) {b : Nat} {p : Place} (hp : i b = some p) {o : LObj} {w' : World} (hb : Below B w w') : Next B i H w i (H.set b o) w' :=
  ⟨Inj.le_refl i, by simp, fun k hk hn => ⟨hn, List.getElem?_set_ne (fun e => by subst e; rw [hp] at hn; cases hn)⟩, hb⟩
theorem Rel.put {b o base k : Nat} {p : Place} {vs vs' : List Value} {H' : LHeap} (hR : Rel B L i H w) (hl : lput (lmax L) H b o vs = some H') (hp : i b = some p) (hv : VRs i vs vs') (hbase : base + k = p.sh + o) :
    ∃ w', (storeCells ⟨p.pb, base, none⟩ vs' k).run P w = .ok () w' ∧ Rel B L i H' w' ∧ Next B i H w i H' w' := by
  obtain ⟨es, c, hb, hlen, hs, h1, rfl⟩ := lput_inv hl
  obtain ⟨_, _, _, _, _, _, _, hle, _⟩ := hR.row hp hb
  obtain ⟨w', a1, a2, a3⟩ := Rel.puts (P := P) hv hR hp hb (by omega) hbase hs h1
  exact ⟨w', a1, a2, next_set hR hp a3⟩

theorem run_storeVar {t : TypeId} {n : Nat} (hn : sizeT P t = some n) {a : Addr} {v : Value} (hs : v.cells.size = n) {w w' : World} (h : (storeCells a v.cells.toList).run P w = .ok () w') : (storeVar t a v).run P w = .ok () w' := by
  unfold storeVar
  simp only [Sem.run_bind, run_sizeOf hn w, Result.andThen_ok, hs, ne_eq, not_true_eq_false, if_false, Sem.run_pure, h]
end
end Go.LK
