/- Two rows: laws that arc and sthree share. -/
import Derived.Test.YtemdhnolccnnfaaRowsMore
namespace Go.Proofs.Ytemdhnolccnnfaa
open Go.RowKit
set_option linter.unusedVariables false
theorem rowL_0 (L : Nat → List Int) : rowL L 0 = L 0 := rfl
theorem rowL_1 (L : Nat → List Int) : rowL L 1 = L 1 := rfl
theorem row_drewN {w : World} {S : Nat → Prop} {g n : Nat} {L : Nat → List Int} {N : Nat} (h : RowsAt w S g n L N) (k : Nat) : RowsAt (w.drewN k) S g n L N := h.frame fun _ _ _ => rfl
theorem rowOf_two {w : World} {S : Nat → Prop} {g : Nat} {L : Nat → List Int} {N : Nat} (h : RowsAt w S g 2 L N) (id : Int) :
    (rowOf 2 L id = 0 ∧ id ∈ L 0 ∧ id ∉ L 1) ∨ (rowOf 2 L id = 1 ∧ id ∈ L 1 ∧ id ∉ L 0) ∨ (rowOf 2 L id = -1 ∧ id ∉ L 0 ∧ id ∉ L 1) := by
  by_cases h0 : id ∈ L 0
  · exact Or.inl ⟨rowOf_some (r := 0) (by decide) h0 (fun s hs q => h.disj (by decide) hs h0 q), h0, fun h1 => by have := h.disj (r := 0) (s := 1) (by decide) (by decide) h0 h1; omega⟩
  · by_cases h1 : id ∈ L 1
    · exact Or.inr (Or.inl ⟨rowOf_some (r := 1) (by decide) h1 (fun s hs q => h.disj (by decide) hs h1 q), h1, h0⟩)
    · exact Or.inr (Or.inr ⟨rowOf_none (fun r hr q => by
        match r, hr, q with
        | 0, _, q => exact h0 q
        | 1, _, q => exact h1 q), h0, h1⟩)
theorem grow_grow {S : Nat → Prop} {a b c : World} (h1 : a.heap.size ≤ b.heap.size) (h2 : b.heap.size ≤ c.heap.size) {k : Nat} (h : grow (grow S a b) b c k) : grow S a c k := by
  rcases h with (h | h) | h
  · exact Or.inl h
  · exact Or.inr ⟨h.1, by omega⟩
  · exact Or.inr ⟨by omega, h.2⟩
theorem Fr.grown {S : Nat → Prop} {a b c : World} (h : Fr S a b) (k : Fr (grow S a b) b c) : Fr S a c := h.trans k (fun i hi q => q.elim id (fun q => by omega))
theorem rowOf2 (L : Nat → List Int) (id : Int) : rowOf 2 L id = if id ∈ L 0 then 0 else if id ∈ L 1 then 1 else -1 := by
  unfold rowOf
  by_cases h0 : id ∈ L 0
  · simp [List.range, List.range.loop, h0]
  · by_cases h1 : id ∈ L 1
    · simp [List.range, List.range.loop, h0, h1]
    · simp [List.range, List.range.loop, h0, h1]
theorem rowOf2_nn (L : Nat → List Int) (id : Int) : (0 ≤ rowOf 2 L id) ↔ (id ∈ L 0 ∨ id ∈ L 1) := by
  rw [rowOf2]
  by_cases h0 : id ∈ L 0
  · simp [h0]
  · by_cases h1 : id ∈ L 1
    · simp [h0, h1]
    · simp [h0, h1]
theorem front2 (L : Nat → List Int) (row id : Int) (hr : row = 0 ∨ row = 1) (h0 : 0 ≤ id) (h1 : id ≤ 4194303) : frontL 2 L row id = putF (del L id) row.toNat id := by
  unfold frontL
  rw [if_pos]
  exact decide_eq_true (by omega)
theorem filter_no {l : List Int} {x : Int} (h : x ∉ l) : l.filter (· != x) = l := List.filter_eq_self.2 fun y hy => by simp only [bne_iff_ne, ne_eq]; intro e; subst e; exact h hy
/-- Every one's id is one that may be. -/
def Wid (L : Nat → List Int) : Prop := ∀ r x, r < 2 → x ∈ L r → 0 ≤ x ∧ x ≤ 4194303
theorem putF_0 (L : Nat → List Int) (id : Int) : putF (del L id) 0 id 0 = id :: (L 0).filter (· != id) ∧ putF (del L id) 0 id 1 = (L 1).filter (· != id) := ⟨rfl, rfl⟩
theorem putF_1 (L : Nat → List Int) (id : Int) : putF (del L id) 1 id 0 = (L 0).filter (· != id) ∧ putF (del L id) 1 id 1 = id :: (L 1).filter (· != id) := ⟨rfl, rfl⟩
/-- So many from a number on. -/
def upA (a : Int) : Nat → List Int
  | 0 => []
  | n + 1 => (a + n) :: upA a n
theorem mem_upA {a x : Int} : ∀ {n : Nat}, x ∈ upA a n ↔ a ≤ x ∧ x < a + n
  | 0 => by simp [upA] <;> omega
  | n + 1 => by
    unfold upA
    rw [List.mem_cons, mem_upA]
    omega
theorem len_upA (a : Int) : ∀ n, (upA a n).length = n
  | 0 => rfl
  | n + 1 => by unfold upA; simp [len_upA a n]
theorem upA_last (a : Int) : ∀ n, upA a (n + 1) = upA (a + 1) n ++ [a]
  | 0 => by simp [upA]
  | n + 1 => by
    rw [upA, upA_last a n, upA]
    simp; omega
theorem lastOf_snoc (l : List Int) (x : Int) : lastOf (l ++ [x]) = x := by unfold lastOf; simp [List.getLastD_eq_getLast?]
theorem lastOf_upA (a : Int) (n : Nat) : lastOf (upA a (n + 1)) = a := by rw [upA_last, lastOf_snoc]
theorem lastOf_mem {l : List Int} (h : l ≠ []) : lastOf l ∈ l := by
  unfold lastOf
  rw [List.getLastD_eq_getLast?, List.getLast?_eq_some_getLast h]
  exact List.getLast_mem h
theorem del_upA (a : Int) (n : Nat) : (upA a (n + 1)).filter (· != a) = upA (a + 1) n := by
  rw [upA_last, List.filter_append, filter_no (by rw [mem_upA]; omega)]
  simp
theorem mem_front2 {L : Nat → List Int} {row id : Int} (hr : row = 0 ∨ row = 1) (h0 : 0 ≤ id) (h1 : id ≤ 4194303) (x : Int) : (x ∈ frontL 2 L row id 0 ∨ x ∈ frontL 2 L row id 1) ↔ (x = id ∨ x ∈ L 0 ∨ x ∈ L 1) := by
  rw [front2 L row id hr h0 h1]
  have e : ∀ r, x ∈ (L r).filter (· != id) ↔ x ∈ L r ∧ x ≠ id := fun r => by rw [List.mem_filter]; simp
  rcases hr with rfl | rfl
  · show (x ∈ id :: (L 0).filter (· != id) ∨ x ∈ (L 1).filter (· != id)) ↔ _
    rw [List.mem_cons, e, e]
    by_cases q : x = id <;> simp [q]
  · show (x ∈ (L 0).filter (· != id) ∨ x ∈ id :: (L 1).filter (· != id)) ↔ _
    rw [List.mem_cons, e, e]
    by_cases q : x = id <;> simp [q]
theorem mem_del2 (L : Nat → List Int) (id x : Int) : (x ∈ del L id 0 ∨ x ∈ del L id 1) ↔ (x ≠ id ∧ (x ∈ L 0 ∨ x ∈ L 1)) := by
  have e : ∀ r, x ∈ (L r).filter (· != id) ↔ x ∈ L r ∧ x ≠ id := fun r => by rw [List.mem_filter]; simp
  show (x ∈ (L 0).filter (· != id) ∨ x ∈ (L 1).filter (· != id)) ↔ _
  rw [e, e]
  by_cases q : x = id <;> simp [q]
end Go.Proofs.Ytemdhnolccnnfaa
