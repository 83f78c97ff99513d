/- Layer 12 (seglru) in blocks of its own: what each call does, to be taken one by one. -/
import Derived.Test.YtgdlndpjfejmcaaGreatPSa
import Derived.Test.YtgdlndpjfejmcaaGreatPB
namespace Go.Proofs.YtgdlndpjfejmcaaGreat.Seg
open Go.RowKit
set_option linter.unusedVariables false
set_option maxRecDepth 100000
def SG (p : Nat) (L : Nat → List Int) (A : Int → Bool) (N : Nat) (w : World) (S : Nat → Prop) : Prop := SegAt w S p L A N
/-- Insert, on the rows. -/
def insL (L : Nat → List Int) (id : Int) : Nat → List Int := if rowOf 3 L id < 0 then frontL 3 L 0 id else L
/-- Touch, on who is active. -/
def touA (L : Nat → List Int) (A : Int → Bool) (id : Int) : Int → Bool := if 0 ≤ rowOf 3 L id then setB' A id true else A
section
variable {w0 w w' : World} {S : Nat → Prop} {p : Nat} {L L' : Nat → List Int} {A A' : Int → Bool} {N N' : Nat}
theorem sg_drewN (h : Sep (SG p L A N) w0 w S) (k : Nat) : Sep (SG p L A N) w0 (w.drewN k) S := ⟨SegAt.frame h.at_ fun _ _ _ => rfl, h.fr.drewN k, h.lo, h.hi⟩
theorem sg_keep (h : Sep (SG p L A N) w0 w S) {F : Nat → Prop} (hF : Fr F w w') (hd : ∀ b, b < w.heap.size → S b → ¬ F b) (h0 : ∀ b, b < w0.heap.size → ¬ F b) : Sep (SG p L A N) w0 w' S :=
  h.keep hF hd h0 (fun hA hf => SegAt.frame hA hf)
theorem sg_below (h : Sep (SG p L A N) w0 w S) (hB : Below w.heap.size w w') : Sep (SG p L A N) w0 w' S :=
  sg_keep h (Fr.of_below hB) (fun b hb _ => by omega) (fun b hb => by have := h.fr.size; omega)
theorem sg_alloc (h : Sep (SG p L A N) w0 w S) (o : Obj) : Sep (SG p L A N) w0 (w.alloc o) S := sg_below h (((Fr.refl (fun _ => False) w).alloc o).belowAll)
theorem sg_more (h : Sep (SG p L A N) w0 w S) (hN : N ≤ N') : Sep (SG p L A N') w0 w S := h.as (fun hA => SegAt.more hA hN)
theorem new_sg (hF : Fr (From w0.heap.size) w0 w) :
    Calls Tryz.prog 24 #[] w fun e w' => ∃ p S, e = .returned (.pointer (some ⟨p, 0, none⟩)) ∧ Sep (SG p (fun _ => []) (fun _ => false) 0) w0 w' S ∧ (∀ b, S b → w.heap.size ≤ b) ∧ Fr (fun _ => False) w w' :=
  (seg_new w).mono fun e w' ⟨p, he, hA, hG⟩ => ⟨p, _, he, Sep.new hF hA (fun b q => q) hG, fun b q => q.1, hG⟩
theorem insert_sg (h : Sep (SG p L A N) w0 w S) (id : Int) (hN : N < 1000000) :
    Calls Tryz.prog 96 #[.pointer (some ⟨p, 0, none⟩), .int .i64 id] w fun e w' => e = .returned (.bool (decide (rowOf 3 L id < 0) && mayIn 3 0 id)) ∧ Sep (SG p (insL L id) A (N + 1)) w0 w' (grow S w w') ∧ Fr S w w' :=
  (seg_insert S p L A N id w h.at_ hN).mono fun e w' ⟨he, hA, hF⟩ => ⟨he, h.next hA hF, hF⟩
theorem touch_sg (h : Sep (SG p L A N) w0 w S) (id : Int) :
    Calls Tryz.prog 99 #[.pointer (some ⟨p, 0, none⟩), .int .i64 id] w fun e w' => e = .returned (.bool (decide (0 ≤ rowOf 3 L id))) ∧ Sep (SG p L (touA L A id) N) w0 w' (grow S w w') ∧ Fr S w w' :=
  (seg_touch S p L A N id w h.at_).mono fun e w' ⟨he, hA, hF⟩ => ⟨he, h.next (SegAt.mono hA fun b _ q => Or.inl q) hF, hF⟩
theorem remove_sg (h : Sep (SG p L A N) w0 w S) (id : Int) (hN : N ≤ 1000000) :
    Calls Tryz.prog 97 #[.pointer (some ⟨p, 0, none⟩), .int .i64 id] w fun e w' => e = .returned (.bool (decide (0 ≤ rowOf 3 L id))) ∧ Sep (SG p (del L id) (setB' A id false) N) w0 w' (grow S w w') ∧ Fr S w w' :=
  (seg_remove S p L A N id w h.at_ hN).mono fun e w' ⟨he, hA, hF⟩ => ⟨he, h.next hA hF, hF⟩
theorem step_sg (h : Sep (SG p L A N) w0 w S) (hN : N < 1000000) :
    Calls Tryz.prog 98 #[.pointer (some ⟨p, 0, none⟩)] w fun e w' => e = .returned (.bool (decide (0 ≤ whoF L A))) ∧ Sep (SG p (stepL L A) (stepA L A) (N + 1)) w0 w' (grow S w w') ∧ Fr S w w' :=
  (seg_step S p L A N w h.at_ hN).mono fun e w' ⟨he, hA, hF⟩ => ⟨he, h.next hA hF, hF⟩
theorem victim_sg (h : Sep (SG p L A N) w0 w S) :
    Calls Tryz.prog 100 #[.pointer (some ⟨p, 0, none⟩)] w fun e w' => ∃ k, e = .returned (.int .i64 (vict L)) ∧ w' = w.drewN k ∧ Sep (SG p L A N) w0 w' S :=
  (seg_victim S p L A N w h.at_).mono fun e w' ⟨he, k, hk⟩ => ⟨k, he, hk, hk ▸ sg_drewN h k⟩
theorem sg_rows (h : Sep (SG p L A N) w0 w S) : (∀ r, r < 3 → (L r).Nodup) ∧ (∀ r s, r < 3 → s < 3 → ∀ x, x ∈ L r → x ∈ L s → s = r) ∧ (∀ r, (L r).length ≤ N) ∧ (∀ r, 3 ≤ r → L r = []) ∧ (∀ r x, r < 3 → x ∈ L r → 0 ≤ x ∧ x ≤ 4194303) := by
  obtain ⟨g, Sr, hR, _, _⟩ := SegAt.rowsAt h.at_
  exact ⟨fun r hr => hR.nodup hr, fun r s hr hs x h1 h2 => hR.disj hr hs h1 h2, hR.len_le, fun r hr => hR.nil hr, fun r x hr hx => hR.range hr hx⟩
end
end Go.Proofs.YtgdlndpjfejmcaaGreat.Seg
/- The segmented rows beside arrays and slices; who stands, whatever is done. -/
namespace Go.Proofs.YtgdlndpjfejmcaaGreat.Seg
open Go.RowKit
set_option linter.unusedVariables false
set_option maxRecDepth 100000
theorem sg_held_set {w0 W : World} {p : Nat} {L : Nat → List Int} {A : Int → Bool} {N : Nat} {S : Nat → Prop} {T : TypeId} {b off m cap : Nat} {xs : List Value} (hS : Sep (SG p L A N) w0 W S) (h : Held w0 W S T 1 (.slice (some ⟨b, off, none⟩) m cap) m xs) {i : Nat} (hi : i < m) (u : Value) :
    Held w0 (W.setCell ⟨b, off + i, none⟩ u) S T 1 (.slice (some ⟨b, off, none⟩) m cap) m (xs.set i u) ∧ Sep (SG p L A N) w0 (W.setCell ⟨b, off + i, none⟩ u) S := by
  have hx : i < xs.length := by have := h.1; omega
  obtain ⟨b', off', cap', hv, hSb, _⟩ := Sl.pos h (by omega)
  simp at hv
  obtain ⟨⟨rfl, rfl⟩, rfl⟩ := hv
  exact ⟨Sl.set h hx u, sg_keep hS (F := fun k => k = b) (Fr.setCell (Fr.refl (fun k => k = b) W) (p := ⟨b, off + i, none⟩) (fun _ => rfl) u) (fun k _ s q => hSb.1 (q ▸ s)) (fun k hk q => by have := hSb.2; omega)⟩
theorem rowOf_nonneg {n : Nat} {L : Nat → List Int} {id : Int} : 0 ≤ rowOf n L id ↔ id ∈ flat L n := by
  rw [mem_flat]
  unfold rowOf
  rcases h : (List.range n).find? (fun r => decide (id ∈ L r)) with _ | r
  · constructor
    · intro h; simp at h
    · rintro ⟨r, hr, hm⟩
      exact absurd hm (by simpa using List.find?_eq_none.1 h r (List.mem_range.2 hr))
  · have h1 := List.find?_some h
    have h2 := List.mem_of_find?_eq_some h
    exact ⟨fun _ => ⟨r, List.mem_range.1 h2, by simpa using h1⟩, fun _ => by simp⟩
theorem mem_putF {n r : Nat} (hr : r < n) {L : Nat → List Int} {id x : Int} : x ∈ flat (putF (del L id) r id) n ↔ x = id ∨ x ∈ flat L n := by
  rw [mem_flat, mem_flat]
  constructor
  · rintro ⟨s, hs, hx⟩
    unfold putF at hx
    split at hx
    · rcases List.mem_cons.1 hx with q | q
      · exact Or.inl q
      · exact Or.inr ⟨s, hs, (List.mem_filter.1 q).1⟩
    · exact Or.inr ⟨s, hs, (List.mem_filter.1 hx).1⟩
  · intro h
    by_cases e : x = id
    · exact ⟨r, hr, by unfold putF; rw [if_pos rfl, e]; simp⟩
    · rcases h with h | ⟨s, hs, hx⟩
      · exact absurd h e
      · refine ⟨s, hs, ?_⟩
        have : x ∈ del L id s := List.mem_filter.2 ⟨hx, by simpa using e⟩
        unfold putF
        split
        · exact List.mem_cons_of_mem _ this
        · exact this
theorem mem_front {n : Nat} {L : Nat → List Int} {r : Nat} {id x : Int} (hr : r < n) (h : 0 ≤ id ∧ id ≤ 4194303) : x ∈ flat (frontL n L r id) n ↔ x = id ∨ x ∈ flat L n := by
  have hm : mayIn n r id = true := decide_eq_true ⟨by omega, by omega, h⟩
  unfold frontL
  rw [hm, if_pos rfl, Int.toNat_natCast]
  exact mem_putF hr
theorem ins_mem {L : Nat → List Int} {id x : Int} (h : 0 ≤ id ∧ id ≤ 4194303) : x ∈ flat (insL L id) 3 ↔ x = id ∨ x ∈ flat L 3 := by
  unfold insL
  by_cases hr : rowOf 3 L id < 0
  · rw [if_pos hr]; exact mem_front (r := 0) (by decide) h
  · rw [if_neg hr]
    have : id ∈ flat L 3 := rowOf_nonneg.1 (by omega)
    exact ⟨Or.inr, fun q => q.elim (fun q => q ▸ this) (fun q => q)⟩
theorem step_mem {L : Nat → List Int} {A : Int → Bool} {x : Int} (hrg : ∀ x, x ∈ flat L 3 → 0 ≤ x ∧ x ≤ 4194303) : x ∈ flat (stepL L A) 3 ↔ x ∈ flat L 3 := by
  unfold stepL
  by_cases h0 : whoF L A < 0
  · rw [if_pos h0]
  · rw [if_neg h0]
    obtain ⟨r, hr, hm⟩ := whoF_in (L := L) (A := A) (by omega)
    have hin : whoF L A ∈ flat L 3 := mem_flat.2 ⟨r, hr, hm⟩
    have h := hrg _ hin
    have key : ∀ r : Nat, r < 3 → (x ∈ flat (frontL 3 L r (whoF L A)) 3 ↔ x ∈ flat L 3) := fun r hr => by
      rw [mem_front hr h]
      exact ⟨fun q => q.elim (fun q => q ▸ hin) (fun q => q), Or.inr⟩
    split
    · exact key 1 (by decide)
    · exact key 2 (by decide)
theorem sg_flat {w0 w : World} {S : Nat → Prop} {p : Nat} {L : Nat → List Int} {A : Int → Bool} {N : Nat} (h : Sep (SG p L A N) w0 w S) : (flat L 3).Nodup := by
  obtain ⟨h1, h2, _⟩ := sg_rows h
  exact flat_nodup 3 h1 h2
end Go.Proofs.YtgdlndpjfejmcaaGreat.Seg
/- Steps come to an end, plainly. -/
namespace Go.Proofs.YtgdlndpjfejmcaaGreat.Seg
set_option linter.unusedVariables false
set_option maxRecDepth 100000
/-- What lies ahead: it falls with each step. -/
def ahead (L : Nat → List Int) (A : Int → Bool) : Nat := 2 * (flat L 3).countP A + 2 * (L 0).length + (L 1).length
theorem flat_three (L : Nat → List Int) : flat L 3 = L 0 ++ L 1 ++ L 2 := by
  rw [flat_succ, flat_succ, flat_succ, flat_zero]; simp
theorem tot_flat (L : Nat → List Int) : (flat L 3).length = tot L := by rw [flat_three]; simp [tot]; omega
theorem ahead_le (L : Nat → List Int) (A : Int → Bool) : ahead L A ≤ 4 * tot L := by
  have h1 := List.countP_le_length (p := A) (l := flat L 3)
  rw [tot_flat] at h1
  unfold ahead tot at *
  omega
theorem countP_off {A : Int → Bool} {l : List Int} {x : Int} (hn : l.Nodup) (hx : x ∈ l) : l.countP (setB' A x false) + (if A x = true then 1 else 0) = l.countP A := by
  obtain ⟨u, v, rfl⟩ := List.append_of_mem hx
  have h1 : ∀ y ∈ u, y ≠ x := fun y hy e => (List.nodup_append.1 hn).2.2 y hy x (by simp) e
  have h2 : ∀ y ∈ v, y ≠ x := fun y hy e => by subst e; exact (List.nodup_cons.1 (List.nodup_append.1 hn).2.1).1 hy
  have e1 : u.countP (setB' A x false) = u.countP A := List.countP_congr fun y hy => by unfold setB'; rw [if_neg (h1 y hy)]
  have e2 : v.countP (setB' A x false) = v.countP A := List.countP_congr fun y hy => by unfold setB'; rw [if_neg (h2 y hy)]
  rw [List.countP_append, List.countP_append, List.countP_cons, List.countP_cons, e1, e2]
  have e3 : setB' A x false x = false := by unfold setB'; rw [if_pos rfl]
  rw [e3]
  cases A x <;> simp <;> omega
theorem len_filter_mem {l : List Int} (hn : l.Nodup) {x : Int} (h : x ∈ l) : (l.filter (· != x)).length + 1 = l.length := by
  have := len_take hn h
  have := List.length_pos_of_mem h
  omega
theorem del_len {L : Nat → List Int} (hn : ∀ r, r < 3 → (L r).Nodup) (hd : ∀ r s, r < 3 → s < 3 → ∀ x, x ∈ L r → x ∈ L s → s = r) {r : Nat} (hr : r < 3) {x : Int} (hx : x ∈ L r) :
    (del L x r).length + 1 = (L r).length ∧ ∀ s, s < 3 → s ≠ r → (del L x s).length = (L s).length := by
  refine ⟨len_filter_mem (hn r hr) hx, fun s hs hne => ?_⟩
  show ((L s).filter (· != x)).length = _
  rw [List.filter_eq_self.2 (fun y hy => by simp only [bne_iff_ne, ne_eq]; intro e; subst e; exact hne (hd r s hr hs _ hx hy))]
/-- A step's effect, where there is somebody. -/
theorem step_ahead {L : Nat → List Int} {A : Int → Bool} (hn : ∀ r, r < 3 → (L r).Nodup) (hd : ∀ r s, r < 3 → s < 3 → ∀ x, x ∈ L r → x ∈ L s → s = r) (hrg : ∀ x, x ∈ flat L 3 → 0 ≤ x ∧ x ≤ 4194303)
    (hnd : (flat L 3).Nodup) (hnd' : (flat (stepL L A) 3).Nodup) (h0 : 0 ≤ whoF L A) : ahead (stepL L A) (stepA L A) < ahead L A ∧ tot (stepL L A) = tot L := by
  have hmem : ∀ x, x ∈ flat (stepL L A) 3 ↔ x ∈ flat L 3 := fun x => step_mem hrg
  have hperm := (List.perm_ext_iff_of_nodup hnd' hnd).2 hmem
  have htot : tot (stepL L A) = tot L := by rw [← tot_flat, ← tot_flat, hperm.length_eq]
  refine ⟨?_, htot⟩
  obtain ⟨x, hx⟩ : ∃ x, whoF L A = x := ⟨_, rfl⟩
  have hcnt := hperm.countP_eq (stepA L A)
  unfold ahead
  rw [hcnt]
  have hnw : ¬ x < 0 := by omega
  have hA : stepA L A = setB' A x false := by unfold stepA; rw [hx, if_neg hnw]
  obtain ⟨r0, hr0, hxr0⟩ := whoF_in h0
  have hxf : x ∈ flat L 3 := mem_flat.2 ⟨r0, hr0, by rw [← hx]; exact hxr0⟩
  have hoff := countP_off (A := A) hnd hxf
  rw [hA]
  have hL : stepL L A = putF (del L x) (if A x = true then 1 else 2) x := by
    unfold stepL
    rw [hx, if_neg hnw]
    unfold frontL
    have hm : mayIn 3 (if A x = true then 1 else 2) x = true := by
      cases A x
      · exact decide_eq_true ⟨by decide, by decide, hrg x hxf⟩
      · exact decide_eq_true ⟨by decide, by decide, hrg x hxf⟩
    rw [hm, if_pos rfl]
    cases A x <;> rfl
  rw [hL]
  -- where it stood
  have hwho : (x ∈ L 0) ∨ (x ∈ L 1) ∨ (x ∈ L 2 ∧ A x = true) := by
    unfold whoF at hx
    by_cases c1 : 20 * tot L / 100 < (L 0).length
    · rw [if_pos c1] at hx
      left; rw [← hx]; exact lastOf_mem0 (by omega)
    · rw [if_neg c1] at hx
      by_cases c2 : 40 * tot L / 100 < (L 1).length
      · rw [if_pos c2] at hx
        right; left; rw [← hx]; exact lastOf_mem0 (by omega)
      · rw [if_neg c2] at hx
        by_cases c3 : A (lastOf (L 2)) = true
        · rw [if_pos c3] at hx
          right; right; exact ⟨by rw [← hx]; exact lastOf_mem0 (by omega), by rw [← hx]; exact c3⟩
        · rw [if_neg c3] at hx; omega
  rcases hwho with h | h | ⟨h, ha⟩
  · obtain ⟨d1, d2⟩ := del_len hn hd (by decide) h
    have d3 := d2 1 (by decide) (by decide)
    cases ha : A x
    · rw [ha] at hoff
      simp only [Bool.false_eq_true, if_false] at hoff ⊢
      show _ + 2 * (del L x 0).length + (del L x 1).length < _
      omega
    · rw [ha] at hoff
      simp only [if_true] at hoff ⊢
      show _ + 2 * (del L x 0).length + (x :: del L x 1).length < _
      simp only [List.length_cons]
      omega
  · obtain ⟨d1, d2⟩ := del_len hn hd (by decide) h
    have d3 := d2 0 (by decide) (by decide)
    cases ha : A x
    · rw [ha] at hoff
      simp only [Bool.false_eq_true, if_false] at hoff ⊢
      show _ + 2 * (del L x 0).length + (del L x 1).length < _
      omega
    · rw [ha] at hoff
      simp only [if_true] at hoff ⊢
      show _ + 2 * (del L x 0).length + (x :: del L x 1).length < _
      simp only [List.length_cons]
      omega
  · obtain ⟨d1, d2⟩ := del_len hn hd (by decide) h
    have d3 := d2 0 (by decide) (by decide)
    have d4 := d2 1 (by decide) (by decide)
    rw [ha] at hoff
    simp only [ha, if_true] at hoff ⊢
    show _ + 2 * (del L x 0).length + (x :: del L x 1).length < _
    simp only [List.length_cons]
    omega
theorem step_tot {L : Nat → List Int} {A : Int → Bool} (hrg : ∀ x, x ∈ flat L 3 → 0 ≤ x ∧ x ≤ 4194303) (hnd : (flat L 3).Nodup) (hnd' : (flat (stepL L A) 3).Nodup) : tot (stepL L A) = tot L := by
  rw [← tot_flat, ← tot_flat, ((List.perm_ext_iff_of_nodup hnd' hnd).2 (fun x => step_mem hrg)).length_eq]
theorem lastOf_ge {l : List Int} (h : l ≠ []) (hr : ∀ x, x ∈ l → 0 ≤ x) : 0 ≤ lastOf l := by
  unfold lastOf
  rw [List.getLastD_eq_getLast?, List.getLast?_eq_some_getLast h]
  exact hr _ (List.getLast_mem h)
/-- Where nobody goes on, each row has its share. -/
theorem still_shares {L : Nat → List Int} {A : Int → Bool} (hrg : ∀ x, x ∈ flat L 3 → 0 ≤ x ∧ x ≤ 4194303) (h0 : ¬ 0 ≤ whoF L A) :
    (L 0).length ≤ 20 * tot L / 100 ∧ (L 1).length ≤ 40 * tot L / 100 ∧ (L 2 ≠ [] → A (lastOf (L 2)) = false ∧ vict L = lastOf (L 2)) := by
  have hge : ∀ r, r < 3 → L r ≠ [] → 0 ≤ lastOf (L r) := fun r hr hne => lastOf_ge hne fun x hx => (hrg x (mem_flat.2 ⟨r, hr, hx⟩)).1
  unfold whoF at h0
  by_cases c1 : 20 * tot L / 100 < (L 0).length
  · rw [if_pos c1] at h0
    exact absurd (hge 0 (by decide) (fun e => by rw [e] at c1; simp at c1)) h0
  · rw [if_neg c1] at h0
    by_cases c2 : 40 * tot L / 100 < (L 1).length
    · rw [if_pos c2] at h0
      exact absurd (hge 1 (by decide) (fun e => by rw [e] at c2; simp at c2)) h0
    · rw [if_neg c2] at h0
      refine ⟨by omega, by omega, fun hne => ?_⟩
      have h2 := hge 2 (by decide) hne
      refine ⟨?_, by unfold vict; rw [if_pos h2]⟩
      by_cases c3 : A (lastOf (L 2)) = true
      · rw [if_pos c3] at h0; exact absurd h2 h0
      · simpa using c3
theorem ins_tot {L : Nat → List Int} {id : Int} (h : 0 ≤ id ∧ id ≤ 4194303) : tot (insL L id) = tot L + if rowOf 3 L id < 0 then 1 else 0 := by
  unfold insL
  by_cases hr : rowOf 3 L id < 0
  · rw [if_pos hr, if_pos hr]
    have hno : id ∉ flat L 3 := fun q => by have := rowOf_nonneg.2 q; omega
    have hm : mayIn 3 0 id = true := decide_eq_true ⟨by decide, by decide, h⟩
    unfold frontL
    rw [hm, if_pos rfl]
    have hd : ∀ s, s < 3 → del L id s = L s := fun s hs => by
      show (L s).filter _ = _
      rw [List.filter_eq_self]; intro y hy; simp only [bne_iff_ne, ne_eq]; intro e; subst e; exact hno (mem_flat.2 ⟨s, hs, hy⟩)
    show (id :: del L id 0).length + (del L id 1).length + (del L id 2).length = _
    rw [hd 0 (by decide), hd 1 (by decide), hd 2 (by decide)]
    simp [tot]; omega
  · rw [if_neg hr, if_neg hr]; rfl
end Go.Proofs.YtgdlndpjfejmcaaGreat.Seg
