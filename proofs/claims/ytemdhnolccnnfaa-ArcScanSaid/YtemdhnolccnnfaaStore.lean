/- Stores into the elements of a slice. -/
import Derived.Test.YtemdhnolccnnfaaSl
namespace Go.Proofs.Ytemdhnolccnnfaa
open Go.RowKit
set_option linter.unusedVariables false
theorem Sl.set {w : World} {S : Nat → Prop} {T : TypeId} {sz n b off cap : Nat} {xs : List Value} (h : Sl w S T sz (.slice (some ⟨b, off, none⟩) n cap) n xs) {i : Nat} (hi : i < xs.length) (u : Value) :
    Sl (w.setCell ⟨b, off + i, none⟩ u) S T sz (.slice (some ⟨b, off, none⟩) n cap) n (xs.set i u) := by
  obtain ⟨h1, h2⟩ := h
  refine ⟨by rw [List.length_set]; exact h1, ?_⟩
  rcases h2 with ⟨h2, _⟩ | ⟨b', off', cap', c, hv, hS, hb, hc, hm, hs, hx⟩
  · cases h2
  · simp at hv
    obtain ⟨⟨rfl, rfl⟩, rfl⟩ := hv
    have hle : n * sz ≤ cap * sz := Nat.mul_le_mul_right _ hc
    refine Or.inr ⟨b, off, cap, c.setIfInBounds (off + i) u, rfl, hS, heap_setCell_same hb _ _, hc, hm, by simpa using hs, fun j hj => ?_⟩
    rw [List.length_set] at hj
    by_cases e : j = i
    · subst e
      rw [Array.getElem?_setIfInBounds_self_of_lt (by omega), List.getElem?_set_self hi]
    · rw [Array.getElem?_setIfInBounds_ne (by omega), List.getElem?_set_ne (fun q => e q.symm)]
      exact hx j hj
/-- It stays, where another block is stored into. -/
theorem Sl.set_other {w : World} {S : Nat → Prop} {T : TypeId} {sz : Nat} {v : Value} {n : Nat} {xs : List Value} (h : Sl w S T sz v n xs) {p : Addr} (hp : ¬ S p.block) (u : Value) : Sl (w.setCell p u) S T sz v n xs :=
  h.frame fun b hb hS => heap_setCell_other (fun e => hp (e ▸ hS)) u
theorem Sl.put_other {w : World} {S : Nat → Prop} {T : TypeId} {sz : Nat} {v : Value} {n : Nat} {xs : List Value} (h : Sl w S T sz v n xs) {b : Nat} (hp : ¬ S b) (o : Obj) : Sl (w.putObj b o) S T sz v n xs :=
  h.frame fun k hk hS => World.putObj_heap_other (fun e => hp (e ▸ hS))
/-- 's[:n-1]'. -/
theorem Sl.front {w : World} {S : Nat → Prop} {T : TypeId} {a : Option Addr} {n cap : Nat} {xs : List Value} {x : Value} (h : Sl w S T 1 (.slice a (n + 1) cap) (n + 1) (xs ++ [x])) :
    Sl w S T 1 (.slice a n cap) n xs := by
  obtain ⟨h1, h2⟩ := h
  simp at h1
  refine ⟨by omega, ?_⟩
  rcases h2 with ⟨h2, _⟩ | ⟨b', off', cap', c, hv, hS, hb, hc, hm, hs, hx⟩
  · simp at h2
  · simp at hv
    obtain ⟨rfl, rfl⟩ := hv
    refine Or.inr ⟨b', off', cap, c, rfl, hS, hb, by omega, hm, hs, fun j hj => ?_⟩
    rw [hx j (by simp; omega), List.getElem?_append_left hj]
theorem cell_set_other {w : World} {p q : Addr} (h : q.block ≠ p.block) (u : Value) : (w.setCell p u).cell? q = w.cell? q := World.cell?_of_block (w := w) (heap_setCell_other h u)
theorem fro_set_other {w : World} {p q : Addr} (h : q.block ≠ p.block) (u : Value) : (w.setCell p u).frozen? q = w.frozen? q := World.frozen?_of_block (w := w) (heap_setCell_other h u)
/-- So many places below m, none twice, are no more than m. -/
theorem nodup_lt_len : ∀ (m : Nat) (l : List Nat), l.Nodup → (∀ x ∈ l, x < m) → l.length ≤ m
  | 0, [], _, _ => Nat.le_refl _
  | 0, x :: l, _, h => absurd (h x (by simp)) (Nat.not_lt_zero _)
  | m + 1, l, hn, h => by
    have ih := nodup_lt_len m (l.filter (· != m)) (hn.filter _) fun x hx => by
      have h1 := h x (List.mem_filter.1 hx).1
      have h2 : x ≠ m := by simpa using (List.mem_filter.1 hx).2
      omega
    by_cases hm : m ∈ l
    · obtain ⟨u, v, rfl⟩ := List.append_of_mem hm
      have h1 : ∀ x ∈ u, x ≠ m := fun x hx e => (List.nodup_append.1 hn).2.2 x hx m (by simp) e
      have h2 : ∀ x ∈ v, x ≠ m := fun x hx e => by subst e; exact (List.nodup_cons.1 (List.nodup_append.1 hn).2.1).1 hx
      rw [List.filter_append, List.filter_cons, if_neg (by simp), List.filter_eq_self.2 (fun x hx => by simpa using h1 x hx), List.filter_eq_self.2 (fun x hx => by simpa using h2 x hx)] at ih
      simp at ih ⊢; omega
    · rw [List.filter_eq_self.2 (fun x hx => by simp only [bne_iff_ne, ne_eq]; intro e; subst e; exact hm hx)] at ih
      omega
end Go.Proofs.Ytemdhnolccnnfaa
