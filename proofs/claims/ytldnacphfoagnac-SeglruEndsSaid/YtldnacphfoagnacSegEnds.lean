/- Steps come to an end, plainly. -/
import Derived.Test.YtldnacphfoagnacSegMore
namespace Go.Proofs.Ytldnacphfoagnac
set_option linter.unusedVariables false
/-- What lies ahead: it falls with each step. -/
def ahead (L : Nat → List Int) (A : Int → Bool) : Nat := 2 * (flat L 3).countP A + 2 * (L 0).length + (L 1).length
theorem flat_three (L : Nat → List Int) : flat L 3 = L 0 ++ L 1 ++ L 2 := by
  rw [flat_succ, flat_succ, flat_succ, flat_zero]; simp
theorem tot_flat (L : Nat → List Int) : (flat L 3).length = tot L := by rw [flat_three]; simp [tot]; omega
theorem ahead_le (L : Nat → List Int) (A : Int → Bool) : ahead L A ≤ 4 * tot L := by
  have h1 := List.countP_le_length (p := A) (l := flat L 3)
  rw [tot_flat] at h1
  unfold ahead tot at *
  omega
theorem countP_off {A : Int → Bool} {l : List Int} {x : Int} (hn : l.Nodup) (hx : x ∈ l) : l.countP (setB' A x false) + (if A x = true then 1 else 0) = l.countP A := by
  obtain ⟨u, v, rfl⟩ := List.append_of_mem hx
  have h1 : ∀ y ∈ u, y ≠ x := fun y hy e => (List.nodup_append.1 hn).2.2 y hy x (by simp) e
  have h2 : ∀ y ∈ v, y ≠ x := fun y hy e => by subst e; exact (List.nodup_cons.1 (List.nodup_append.1 hn).2.1).1 hy
  have e1 : u.countP (setB' A x false) = u.countP A := List.countP_congr fun y hy => by unfold setB'; rw [if_neg (h1 y hy)]
  have e2 : v.countP (setB' A x false) = v.countP A := List.countP_congr fun y hy => by unfold setB'; rw [if_neg (h2 y hy)]
  rw [List.countP_append, List.countP_append, List.countP_cons, List.countP_cons, e1, e2]
  have e3 : setB' A x false x = false := by unfold setB'; rw [if_pos rfl]
  rw [e3]
  cases A x <;> simp <;> omega
theorem len_filter_mem {l : List Int} (hn : l.Nodup) {x : Int} (h : x ∈ l) : (l.filter (· != x)).length + 1 = l.length := by
  have := len_take hn h
  have := List.length_pos_of_mem h
  omega
theorem del_len {L : Nat → List Int} (hn : ∀ r, r < 3 → (L r).Nodup) (hd : ∀ r s, r < 3 → s < 3 → ∀ x, x ∈ L r → x ∈ L s → s = r) {r : Nat} (hr : r < 3) {x : Int} (hx : x ∈ L r) :
    (del L x r).length + 1 = (L r).length ∧ ∀ s, s < 3 → s ≠ r → (del L x s).length = (L s).length := by
  refine ⟨len_filter_mem (hn r hr) hx, fun s hs hne => ?_⟩
  show ((L s).filter (· != x)).length = _
  rw [List.filter_eq_self.2 (fun y hy => by simp only [bne_iff_ne, ne_eq]; intro e; subst e; exact hne (hd r s hr hs _ hx hy))]
/-- A step's effect, where there is somebody. -/
theorem step_ahead {L : Nat → List Int} {A : Int → Bool} (hn : ∀ r, r < 3 → (L r).Nodup) (hd : ∀ r s, r < 3 → s < 3 → ∀ x, x ∈ L r → x ∈ L s → s = r) (hrg : ∀ x, x ∈ flat L 3 → 0 ≤ x ∧ x ≤ 4194303)
    (hnd : (flat L 3).Nodup) (hnd' : (flat (stepL L A) 3).Nodup) (h0 : 0 ≤ whoF L A) : ahead (stepL L A) (stepA L A) < ahead L A ∧ tot (stepL L A) = tot L := by
  have hmem : ∀ x, x ∈ flat (stepL L A) 3 ↔ x ∈ flat L 3 := fun x => step_mem hrg
  have hperm := (List.perm_ext_iff_of_nodup hnd' hnd).2 hmem
  have htot : tot (stepL L A) = tot L := by rw [← tot_flat, ← tot_flat, hperm.length_eq]
  refine ⟨?_, htot⟩
  obtain ⟨x, hx⟩ : ∃ x, whoF L A = x := ⟨_, rfl⟩
  have hcnt := hperm.countP_eq (stepA L A)
  unfold ahead
  rw [hcnt]
  have hnw : ¬ x < 0 := by omega
  have hA : stepA L A = setB' A x false := by unfold stepA; rw [hx, if_neg hnw]
  obtain ⟨r0, hr0, hxr0⟩ := whoF_in h0
  have hxf : x ∈ flat L 3 := mem_flat.2 ⟨r0, hr0, by rw [← hx]; exact hxr0⟩
  have hoff := countP_off (A := A) hnd hxf
  rw [hA]
  have hL : stepL L A = putF (del L x) (if A x = true then 1 else 2) x := by
    unfold stepL
    rw [hx, if_neg hnw]
    unfold frontL
    have hm : mayIn 3 (if A x = true then 1 else 2) x = true := by
      cases A x
      · exact decide_eq_true ⟨by decide, by decide, hrg x hxf⟩
      · exact decide_eq_true ⟨by decide, by decide, hrg x hxf⟩
    rw [hm, if_pos rfl]
    cases A x <;> rfl
  rw [hL]
  -- where it stood
  have hwho : (x ∈ L 0) ∨ (x ∈ L 1) ∨ (x ∈ L 2 ∧ A x = true) := by
    unfold whoF at hx
    by_cases c1 : 20 * tot L / 100 < (L 0).length
    · rw [if_pos c1] at hx
      left; rw [← hx]; exact lastOf_mem (by omega)
    · rw [if_neg c1] at hx
      by_cases c2 : 40 * tot L / 100 < (L 1).length
      · rw [if_pos c2] at hx
        right; left; rw [← hx]; exact lastOf_mem (by omega)
      · rw [if_neg c2] at hx
        by_cases c3 : A (lastOf (L 2)) = true
        · rw [if_pos c3] at hx
          right; right; exact ⟨by rw [← hx]; exact lastOf_mem (by omega), by rw [← hx]; exact c3⟩
        · rw [if_neg c3] at hx; omega
  rcases hwho with h | h | ⟨h, ha⟩
  · obtain ⟨d1, d2⟩ := del_len hn hd (by decide) h
    have d3 := d2 1 (by decide) (by decide)
    cases ha : A x
    · rw [ha] at hoff
      simp only [Bool.false_eq_true, if_false] at hoff ⊢
      show _ + 2 * (del L x 0).length + (del L x 1).length < _
      omega
    · rw [ha] at hoff
      simp only [if_true] at hoff ⊢
      show _ + 2 * (del L x 0).length + (x :: del L x 1).length < _
      simp only [List.length_cons]
      omega
  · obtain ⟨d1, d2⟩ := del_len hn hd (by decide) h
    have d3 := d2 0 (by decide) (by decide)
    cases ha : A x
    · rw [ha] at hoff
      simp only [Bool.false_eq_true, if_false] at hoff ⊢
      show _ + 2 * (del L x 0).length + (del L x 1).length < _
      omega
    · rw [ha] at hoff
      simp only [if_true] at hoff ⊢
      show _ + 2 * (del L x 0).length + (x :: del L x 1).length < _
      simp only [List.length_cons]
      omega
  · obtain ⟨d1, d2⟩ := del_len hn hd (by decide) h
    have d3 := d2 0 (by decide) (by decide)
    have d4 := d2 1 (by decide) (by decide)
    rw [ha] at hoff
    simp only [ha, if_true] at hoff ⊢
    show _ + 2 * (del L x 0).length + (x :: del L x 1).length < _
    simp only [List.length_cons]
    omega
theorem step_tot {L : Nat → List Int} {A : Int → Bool} (hrg : ∀ x, x ∈ flat L 3 → 0 ≤ x ∧ x ≤ 4194303) (hnd : (flat L 3).Nodup) (hnd' : (flat (stepL L A) 3).Nodup) : tot (stepL L A) = tot L := by
  rw [← tot_flat, ← tot_flat, ((List.perm_ext_iff_of_nodup hnd' hnd).2 (fun x => step_mem hrg)).length_eq]
theorem lastOf_ge {l : List Int} (h : l ≠ []) (hr : ∀ x, x ∈ l → 0 ≤ x) : 0 ≤ lastOf l := by
  unfold lastOf
  rw [List.getLastD_eq_getLast?, List.getLast?_eq_some_getLast h]
  exact hr _ (List.getLast_mem h)
/-- Where nobody goes on, each row has its share. -/
theorem still_shares {L : Nat → List Int} {A : Int → Bool} (hrg : ∀ x, x ∈ flat L 3 → 0 ≤ x ∧ x ≤ 4194303) (h0 : ¬ 0 ≤ whoF L A) :
    (L 0).length ≤ 20 * tot L / 100 ∧ (L 1).length ≤ 40 * tot L / 100 ∧ (L 2 ≠ [] → A (lastOf (L 2)) = false ∧ vict L = lastOf (L 2)) := by
  have hge : ∀ r, r < 3 → L r ≠ [] → 0 ≤ lastOf (L r) := fun r hr hne => lastOf_ge hne fun x hx => (hrg x (mem_flat.2 ⟨r, hr, hx⟩)).1
  unfold whoF at h0
  by_cases c1 : 20 * tot L / 100 < (L 0).length
  · rw [if_pos c1] at h0
    exact absurd (hge 0 (by decide) (fun e => by rw [e] at c1; simp at c1)) h0
  · rw [if_neg c1] at h0
    by_cases c2 : 40 * tot L / 100 < (L 1).length
    · rw [if_pos c2] at h0
      exact absurd (hge 1 (by decide) (fun e => by rw [e] at c2; simp at c2)) h0
    · rw [if_neg c2] at h0
      refine ⟨by omega, by omega, fun hne => ?_⟩
      have h2 := hge 2 (by decide) hne
      refine ⟨?_, by unfold vict; rw [if_pos h2]⟩
      by_cases c3 : A (lastOf (L 2)) = true
      · rw [if_pos c3] at h0; exact absurd h2 h0
      · simpa using c3
theorem ins_tot {L : Nat → List Int} {id : Int} (h : 0 ≤ id ∧ id ≤ 4194303) : tot (insL L id) = tot L + if rowOf 3 L id < 0 then 1 else 0 := by
  unfold insL
  by_cases hr : rowOf 3 L id < 0
  · rw [if_pos hr, if_pos hr]
    have hno : id ∉ flat L 3 := fun q => by have := rowOf_nonneg.2 q; omega
    have hm : mayIn 3 0 id = true := decide_eq_true ⟨by decide, by decide, h⟩
    unfold frontL
    rw [hm, if_pos rfl]
    have hd : ∀ s, s < 3 → del L id s = L s := fun s hs => by
      show (L s).filter _ = _
      rw [List.filter_eq_self]; intro y hy; simp only [bne_iff_ne, ne_eq]; intro e; subst e; exact hno (mem_flat.2 ⟨s, hs, hy⟩)
    show (id :: del L id 0).length + (del L id 1).length + (del L id 2).length = _
    rw [hd 0 (by decide), hd 1 (by decide), hd 2 (by decide)]
    simp [tot]; omega
  · rw [if_neg hr, if_neg hr]; rfl
end Go.Proofs.Ytldnacphfoagnac
