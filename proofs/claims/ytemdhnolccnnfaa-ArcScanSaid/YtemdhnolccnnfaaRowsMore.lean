/- Rows beside slices that are appended to, and arrays that are written. -/
import Derived.Test.YtemdhnolccnnfaaRowsSep
namespace Go.Proofs.Ytemdhnolccnnfaa
open Go.RowKit
set_option linter.unusedVariables false
theorem rw_held_app {w0 W w1 : World} {g n : Nat} {L : Nat → List Int} {N : Nat} {S : Nat → Prop} {T : TypeId} {v' : Value} {n' : Nat} {xs : List Value} (hS : Sep (RW g n L N) w0 W S) (hs : Sl w1 (grow (fun b => ¬ S b ∧ w0.heap.size ≤ b) W w1) T 1 v' n' xs)
    (hF : Fr (Arr (fun b => ¬ S b ∧ w0.heap.size ≤ b) W T) W w1) : Held w0 w1 S T 1 v' n' xs ∧ Sep (RW g n L N) w0 w1 S :=
  ⟨hs.mono fun b _ q => q.elim (fun q => q) (fun q => ⟨fun s => by have := hS.hi b s; omega, by have := hS.fr.size; omega⟩),
   rw_keep hS hF (fun b _ s q => q.1.1 s) (fun b hb q => by have := q.1.2; omega)⟩
theorem rw_alloc {w0 W : World} {g n : Nat} {L : Nat → List Int} {N : Nat} {S : Nat → Prop} (hS : Sep (RW g n L N) w0 W S) (o : Obj) : Sep (RW g n L N) w0 (W.alloc o) S := rw_below hS (((Fr.refl (fun _ => False) W).alloc o).belowAll)
/-- A store into what is held. -/
theorem rw_held_set {w0 W : World} {g n : Nat} {L : Nat → List Int} {N : Nat} {S : Nat → Prop} {T : TypeId} {b off m cap : Nat} {xs : List Value} (hS : Sep (RW g n L N) w0 W S) (h : Held w0 W S T 1 (.slice (some ⟨b, off, none⟩) m cap) m xs) {i : Nat} (hi : i < m) (u : Value) :
    Held w0 (W.setCell ⟨b, off + i, none⟩ u) S T 1 (.slice (some ⟨b, off, none⟩) m cap) m (xs.set i u) ∧ Sep (RW g n L N) w0 (W.setCell ⟨b, off + i, none⟩ u) S := by
  have hx : i < xs.length := by have := h.1; omega
  obtain ⟨b', off', cap', hv, hSb, _⟩ := Sl.pos h (by omega)
  simp at hv
  obtain ⟨⟨rfl, rfl⟩, rfl⟩ := hv
  exact ⟨Sl.set h hx u, rw_keep hS (F := fun k => k = b) (Fr.setCell (Fr.refl (fun k => k = b) W) (p := ⟨b, off + i, none⟩) (fun _ => rfl) u) (fun k _ s q => hSb.1 (q ▸ s)) (fun k hk q => by have := hSb.2; omega)⟩
/-- What is held in blocks of another type stays. -/
theorem Held.set_type {w0 W : World} {S : Nat → Prop} {T T' : TypeId} {sz : Nat} {v : Value} {n : Nat} {xs : List Value} (h : Held w0 W S T sz v n xs) {b off m cap : Nat} {ys : List Value} (hb : Held w0 W S T' 1 (.slice (some ⟨b, off, none⟩) m cap) m ys) (hT : T' ≠ T) (i : Nat) (u : Value) : Held w0 (W.setCell ⟨b, i, none⟩ u) S T sz v n xs := by
  rcases hb.2 with ⟨h2, _⟩ | ⟨b', off', cap', c, hv, hSb, hbk, _⟩
  · cases h2
  · simp at hv
    obtain ⟨⟨rfl, rfl⟩, rfl⟩ := hv
    exact Sl.setCell_other h hbk hT i u
/-- An array of the call's own, read as a slice. -/
theorem Held.array {w0 W : World} {S : Nat → Prop} {T : TypeId} {n : Nat} (hn : n ≤ 4096) (cs : List Value) (hc : cs.length = n) (hS : ∀ b, S b → b < W.heap.size) (h0 : w0.heap.size ≤ W.heap.size) :
    Held w0 (W.alloc (.cells cs.toArray T)) S T 1 (.slice (some ⟨W.heap.size, 0, none⟩) n n) n cs := by
  refine ⟨by omega, Or.inr ⟨W.heap.size, 0, n, cs.toArray, rfl, ⟨fun s => by have := hS _ s; omega, h0⟩, heap_alloc_new _ _, Nat.le_refl _, by unfold maxLen; omega, by simp; omega, fun i hi => by simp⟩⟩
end Go.Proofs.Ytemdhnolccnnfaa
