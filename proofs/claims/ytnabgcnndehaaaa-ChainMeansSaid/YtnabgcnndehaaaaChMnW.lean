/- Layer 9 (chain): an array of numbers beside a table. -/
import Derived.Test.YtnabgcnndehaaaaChFront
namespace Go.Proofs.Ytnabgcnndehaaaa
open Go.RowKit
set_option linter.unusedVariables false
theorem held_array {w0 W : World} {S : Nat → Prop} {T : TypeId} {n : Nat} (hn : n ≤ 4096) (cs : List Value) (hc : cs.length = n) (hS : ∀ b, S b → b < W.heap.size) (h0 : w0.heap.size ≤ W.heap.size) :
    Held w0 (W.alloc (.cells cs.toArray T)) S T 1 (.slice (some ⟨W.heap.size, 0, none⟩) n n) n cs := by
  refine ⟨by omega, Or.inr ⟨W.heap.size, 0, n, cs.toArray, rfl, ⟨fun s => by have := hS _ s; omega, h0⟩, heap_alloc_new _ _, Nat.le_refl _, by unfold maxLen; omega, by simp; omega, fun i hi => by simp⟩⟩
def nums (m : Nat) (H : Nat → Int) : List Value := (List.range m).map fun j => .int .i64 (H j)
theorem nums_len (m : Nat) (H : Nat → Int) : (nums m H).length = m := by simp [nums]
theorem nums_get {m j : Nat} (H : Nat → Int) (h : j < m) : (nums m H)[j]? = some (.int .i64 (H j)) := by simp [nums, h]
theorem nums_set {m j : Nat} (H : Nat → Int) (b : Int) (h : j < m) : (nums m H).set j (.int .i64 b) = nums m (putH H j b) := by
  apply List.ext_getElem?
  intro i
  rw [List.getElem?_set]
  by_cases e : j = i
  · subst e
    rw [if_pos rfl, if_pos (by rw [nums_len]; exact h), nums_get _ h]
    unfold putH; rw [if_pos rfl]
  · rw [if_neg e]
    by_cases hi : i < m
    · rw [nums_get _ hi, nums_get _ hi]
      unfold putH; rw [if_neg (fun q => e q.symm)]
    · rw [List.getElem?_eq_none (by rw [nums_len]; omega), List.getElem?_eq_none (by rw [nums_len]; omega)]
theorem nums_zero (m : Nat) : nums m (fun _ => 0) = List.replicate m (.int .i64 0) := by
  unfold nums
  apply List.ext_getElem
  · simp
  · intro i h1 h2; simp
theorem held_num {w0 w : World} {S : Nat → Prop} {T : TypeId} {b m cap : Nat} {H : Nat → Int} (h : Held w0 w S T 1 (.slice (some ⟨b, 0, none⟩) m cap) m (nums m H)) {i : Nat} (hi : i < m) :
    w.cell? ⟨b, i, none⟩ = some (.int .i64 (H i)) ∧ w.frozen? ⟨b, i, none⟩ = false := by
  obtain ⟨b', off', cap', hv, _, _, _, hx, hf⟩ := Sl.pos h (by omega)
  simp at hv
  obtain ⟨⟨rfl, rfl⟩, rfl⟩ := hv
  have := hx i (by rw [nums_len]; exact hi)
  rw [Nat.zero_add, nums_get H hi] at this
  exact ⟨this, hf i⟩
set_option maxRecDepth 100000 in
theorem zero_256 (w : World) : (zeroValue 37).run Try.prog w = .ok (.agg (List.replicate 256 (.int .i64 0)).toArray) w := by kernel_rfl
theorem mask_of (x : Int) (k : Nat) (hk : k < 4611686018427387904) : ∃ y : Nat, bits .and .i64 x (k : Int) = (y : Int) ∧ y ≤ k := and_mask x k hk
end Go.Proofs.Ytnabgcnndehaaaa
