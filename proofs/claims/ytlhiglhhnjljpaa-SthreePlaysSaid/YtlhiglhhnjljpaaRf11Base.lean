/- Slices of numbers, read. -/
import Derived.Test.YtlhiglhhnjljpaaGhost3
namespace Go.Proofs.Ytlhiglhhnjljpaa
open Go.RowKit
set_option linter.unusedVariables false
theorem sl_ints {w : World} {S : Nat → Prop} {T : TypeId} {v : Value} {n : Nat} {L : List Int} (hsl : Sl w S T 1 v n (u64s L)) :
    ∃ a cap, v = .slice a n cap ∧ ∀ k x, L[k]? = some x → ∃ b off, a = some ⟨b, off, none⟩ ∧ b < w.heap.size ∧ w.cell? ⟨b, off + k, none⟩ = some (.int .u64 x) := by
  obtain ⟨a, cap, rfl, _⟩ := hsl.shape
  refine ⟨a, cap, rfl, fun k x h => ?_⟩
  have hk := (List.getElem?_eq_some_iff.1 h).1
  have hn : n = L.length := by have := hsl.1; simp [u64s] at this; omega
  obtain ⟨b, off, cap', hv, hS, hb, _, hx, _⟩ := hsl.pos (by omega)
  simp at hv
  exact ⟨b, off, hv.1, hb, by rw [hx k (by simpa [u64s] using hk)]; simp [u64s, h]⟩
theorem sl_intsS {w : World} {S : Nat → Prop} {T : TypeId} {v : Value} {n : Nat} {L : List Int} (hsl : Sl w S T 1 v n (u64s L)) :
    ∃ a cap, v = .slice a n cap ∧ n = L.length ∧ ∀ k x, L[k]? = some x → ∃ b off, a = some ⟨b, off, none⟩ ∧ S b ∧ b < w.heap.size ∧ w.cell? ⟨b, off + k, none⟩ = some (.int .u64 x) := by
  obtain ⟨a, cap, rfl, _⟩ := hsl.shape
  have hn : n = L.length := by have := hsl.1; simp [u64s] at this; omega
  refine ⟨a, cap, rfl, hn, fun k x h => ?_⟩
  have hk := (List.getElem?_eq_some_iff.1 h).1
  obtain ⟨b, off, cap', hv, hS, hb, _, hx, _⟩ := hsl.pos (by omega)
  simp at hv
  exact ⟨b, off, hv.1, hS, hb, by rw [hx k (by simpa [u64s] using hk)]; simp [u64s, h]⟩
end Go.Proofs.Ytlhiglhhnjljpaa
