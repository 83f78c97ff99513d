/- Layer 15 (policy), the plain kind: who was asked for longest ago. -/
import Derived.Test.YtldnacphfoagnafPolIn
namespace Go.Proofs.Ytldnacphfoagnaf
open Go.RowKit
set_option linter.unusedVariables false
def setF (f : Int → Int) (j b : Int) : Int → Int := fun k => if k = j then b else f k
structure PP (k : Nat) (l : List Int) (f : Int → Int) : Prop where
  nd : l.Nodup
  low : Low 32 l
  pos : ∀ j : Int, 0 ≤ j → j < 32 → (0 < f j ↔ j ∈ l)
  rng : ∀ j, 0 ≤ f j ∧ f j ≤ k
  srt : l.Pairwise (fun a b => f b < f a)
theorem PP.start : PP 0 [] (fun _ => 0) := ⟨List.nodup_nil, fun x hx => (by cases hx), fun j _ _ => ⟨fun q => absurd q (by simp), fun q => (by cases q)⟩, fun j => ⟨Int.le_refl 0, Int.le_refl 0⟩, List.Pairwise.nil⟩
theorem PP.up {k : Nat} {l : List Int} {f : Int → Int} (h : PP k l f) {m : Int} (hm : 0 ≤ m ∧ m < 32) : PP (k + 1) (m :: l.filter (· != m)) (setF f m (k + 1)) := by
  have hne : ∀ x ∈ l.filter (· != m), x ≠ m ∧ x ∈ l := fun x hx => by
    have := List.mem_filter.1 hx
    exact ⟨by simpa using this.2, this.1⟩
  have hf : ∀ x, x ≠ m → setF f m (k + 1) x = f x := fun x hx => if_neg hx
  have hs : setF f m (k + 1) m = k + 1 := if_pos rfl
  refine ⟨List.nodup_cons.2 ⟨fun q => (hne m q).1 rfl, h.nd.filter _⟩, fun x hx => ?_, fun j h0 h1 => ?_, fun j => ?_, List.pairwise_cons.2 ⟨fun x hx => ?_, ?_⟩⟩
  · rcases List.mem_cons.1 hx with q | q
    · exact q ▸ hm
    · exact h.low x (hne x q).2
  · by_cases e : j = m
    · rw [e, hs]; exact ⟨fun _ => List.mem_cons_self, fun _ => by omega⟩
    · rw [hf j e, h.pos j h0 h1, List.mem_cons]
      constructor
      · intro q; exact Or.inr (List.mem_filter.2 ⟨q, by simpa using e⟩)
      · intro q; exact (hne j (q.resolve_left e)).2
  · by_cases e : j = m
    · rw [e, hs]; omega
    · rw [hf j e]; have := h.rng j; omega
  · rw [hs, hf x (hne x hx).1]; have := h.rng x; omega
  · refine (h.srt.filter _).imp_of_mem ?_
    intro a b ha hb q
    rw [hf a (hne a ha).1, hf b (hne b hb).1]
    exact q
theorem PP.drop {k : Nat} {l : List Int} {f : Int → Int} (h : PP k l f) (u : Int) : PP k (l.filter (· != u)) (setF f u 0) := by
  have hne : ∀ x ∈ l.filter (· != u), x ≠ u ∧ x ∈ l := fun x hx => by
    have := List.mem_filter.1 hx
    exact ⟨by simpa using this.2, this.1⟩
  have hf : ∀ x, x ≠ u → setF f u 0 x = f x := fun x hx => if_neg hx
  have hs : setF f u 0 u = 0 := if_pos rfl
  refine ⟨h.nd.filter _, fun x hx => h.low x (hne x hx).2, fun j h0 h1 => ?_, fun j => ?_, ?_⟩
  · by_cases e : j = u
    · rw [e, hs]
      exact ⟨fun q => absurd q (by omega), fun q => absurd rfl (hne u q).1⟩
    · rw [hf j e, h.pos j h0 h1]
      exact ⟨fun q => List.mem_filter.2 ⟨q, by simpa using e⟩, fun q => (hne j q).2⟩
  · by_cases e : j = u
    · rw [e, hs]; omega
    · rw [hf j e]; exact h.rng j
  · refine (h.srt.filter _).imp_of_mem ?_
    intro a b ha hb q
    rw [hf a (hne a ha).1, hf b (hne b hb).1]
    exact q
/-- The last of the row was asked for longest ago. -/
theorem least_last {f : Int → Int} : ∀ {l : List Int}, l.Pairwise (fun a b => f b < f a) → l ≠ [] → ∀ x ∈ l, f (lastOf l) ≤ f x
  | [], _, h, _, _ => absurd rfl h
  | [a], _, _, x, hx => by
    rw [List.mem_singleton.1 hx]; exact Int.le_refl _
  | a :: b :: l, hs, _, x, hx => by
    have e : lastOf (a :: b :: l) = lastOf (b :: l) := rfl
    have h2 := (List.pairwise_cons.1 hs)
    have ih := least_last h2.2 (by simp)
    rw [e]
    rcases List.mem_cons.1 hx with q | q
    · rw [q]
      have := h2.1 _ (lastOf_mem (l := b :: l) (by simp))
      omega
    · exact ih x q
theorem srt_inj {f : Int → Int} : ∀ {l : List Int}, l.Pairwise (fun a b => f b < f a) → ∀ x ∈ l, ∀ y ∈ l, f x = f y → x = y
  | [], _, x, hx, _, _, _ => by cases hx
  | a :: l, hs, x, hx, y, hy, e => by
    have h2 := List.pairwise_cons.1 hs
    rcases List.mem_cons.1 hx with q | q
    · rcases List.mem_cons.1 hy with r | r
      · rw [q, r]
      · have := h2.1 y r; rw [q] at e; omega
    · rcases List.mem_cons.1 hy with r | r
      · have := h2.1 x q; rw [r] at e; omega
      · exact srt_inj h2.2 x q y r e
theorem PP.least {k : Nat} {l : List Int} {f : Int → Int} (h : PP k l f) (hl : l ≠ []) {u : Int} (hu : u ∈ l) (hm : ∀ x ∈ l, f u ≤ f x) : u = lastOf l := by
  have h1 := least_last h.srt hl u hu
  have h2 := hm _ (lastOf_mem hl)
  exact srt_inj h.srt u hu _ (lastOf_mem hl) (by omega)
/-- So far the least. -/
def Lst (f : Int → Int) (j : Nat) (v : Int) : Prop := (v = -1 ∧ ∀ i : Nat, i < j → ¬ 0 < f i) ∨ (∃ u : Nat, v = u ∧ u < j ∧ 0 < f u ∧ ∀ i : Nat, i < j → 0 < f i → f u ≤ f i)
theorem Lst.zero (f : Int → Int) : Lst f 0 (-1) := Or.inl ⟨rfl, fun i hi => absurd hi (Nat.not_lt_zero i)⟩
theorem Lst.same {f : Int → Int} {j : Nat} {v : Int} (h : Lst f j v) (hn : ¬ 0 < f j ∨ (0 ≤ v ∧ ¬ f j < f v)) : Lst f (j + 1) v := by
  rcases h with ⟨hv, h⟩ | ⟨u, hv, hu, hp, h⟩
  · refine Or.inl ⟨hv, fun i hi => ?_⟩
    by_cases e : i = j
    · rw [e]; exact hn.elim id (fun q => by omega)
    · exact h i (by omega)
  · refine Or.inr ⟨u, hv, by omega, hp, fun i hi hpi => ?_⟩
    by_cases e : i = j
    · rw [e] at hpi ⊢
      rcases hn with q | q
      · exact absurd hpi q
      · rw [hv] at q; omega
    · exact h i (by omega) hpi
theorem Lst.new {f : Int → Int} {j : Nat} {v : Int} (h : Lst f j v) (hp : 0 < f j) (hn : v < 0 ∨ f j < f v) : Lst f (j + 1) j := by
  refine Or.inr ⟨j, rfl, by omega, hp, fun i hi hpi => ?_⟩
  by_cases e : i = j
  · rw [e]; exact Int.le_refl _
  · rcases h with ⟨hv, h⟩ | ⟨u, hv, hu, _, h⟩
    · exact absurd hpi (h i (by omega))
    · have := h i (by omega) hpi
      rw [hv] at hn
      rcases hn with q | q <;> omega
theorem PP.want {k : Nat} {l : List Int} {f : Int → Int} (h : PP k l f) (hl : l ≠ []) {v : Int} (hv : Lst f 32 v) : v = lastOf l ∧ 0 ≤ v ∧ v < 32 ∧ v ∈ l := by
  have hx := lastOf_mem hl
  have hr := h.low _ hx
  have hp := (h.pos _ hr.1 hr.2).2 hx
  obtain ⟨y, hy⟩ : ∃ y : Nat, lastOf l = y := ⟨(lastOf l).toNat, by omega⟩
  rcases hv with ⟨_, hv⟩ | ⟨u, rfl, hu, hpu, hv⟩
  · rw [hy] at hp hr; exact absurd hp (hv y (by omega))
  · have hul : (u : Int) ∈ l := (h.pos u (by omega) (by omega)).1 hpu
    refine ⟨h.least hl hul fun x hx => ?_, by omega, by omega, hul⟩
    have hxr := h.low x hx
    obtain ⟨z, rfl⟩ : ∃ z : Nat, x = z := ⟨x.toNat, by omega⟩
    exact hv z (by omega) ((h.pos z (by omega) (by omega)).2 hx)
/-- The one row. -/
theorem one_row {L : Nat → List Int} {id : Int} : 0 ≤ rowOf 1 L id ↔ id ∈ L 0 := by
  rw [Seg.rowOf_nonneg, flat_succ, flat_zero, List.nil_append]
theorem pl_touB {L : Nat → List Int} {id : Int} (h : 0 ≤ id ∧ id ≤ 4194303) : (PK.pl L).touB id = decide (id ∈ L 0) := by
  show (decide (0 ≤ rowOf 1 L id) && mayIn 1 0 id) = _
  rw [may0 (by decide) h, Bool.and_true]
  exact decide_eq_decide.2 one_row
theorem pl_front {L : Nat → List Int} {id : Int} (h : 0 ≤ id ∧ id ≤ 4194303) : frontL 1 L 0 id 0 = id :: (L 0).filter (· != id) := by
  unfold frontL
  rw [may0 (by decide) h]
  rfl
theorem pl_tou {L : Nat → List Int} {id : Int} (h : 0 ≤ id ∧ id ≤ 4194303) : (id ∈ L 0 → touP L id 0 = id :: (L 0).filter (· != id)) ∧ (id ∉ L 0 → touP L id = L) := by
  unfold touP
  exact ⟨fun q => by rw [if_pos (one_row.2 q)]; exact pl_front h, fun q => by rw [if_neg (fun r => q (one_row.1 r))]⟩
theorem pl_ins {L : Nat → List Int} {id : Int} (h : 0 ≤ id ∧ id ≤ 4194303) (hn : id ∉ L 0) : insP L id 0 = id :: (L 0).filter (· != id) := by
  unfold insP
  rw [if_pos (by have := mt one_row.1 hn; omega)]
  exact pl_front h
/-- A number's cell. -/
theorem held_int {w0 w : World} {S : Nat → Prop} {T : TypeId} {b m c : Nat} {f : Int → Int} (h : Held w0 w S T 1 (.slice (some ⟨b, 0, none⟩) m c) m (ints m f)) {i : Nat} (hi : i < m) : w.cell? ⟨b, i, none⟩ = some (.int .i64 (f i)) ∧ w.frozen? ⟨b, i, none⟩ = false ∧ w0.heap.size ≤ b ∧ ¬ S b := by
  obtain ⟨tb', toff, tcap, hve, hSb, _, _, htx, htf⟩ := Sl.pos h (by omega)
  simp at hve
  obtain ⟨⟨rfl, rfl⟩, rfl⟩ := hve
  have hc2 := htx i (by rw [ints_len]; omega)
  rw [ints_get _ (by omega), Nat.zero_add] at hc2
  have hf2 := htf i
  exact ⟨hc2, hf2, hSb.2, hSb.1⟩
theorem ints_setF {m : Nat} (f : Int → Int) {i : Nat} (hi : i < m) (b : Int) : (ints m f).set i (.int .i64 b) = ints m (setF f i b) := ints_set f b hi
end Go.Proofs.Ytldnacphfoagnaf
