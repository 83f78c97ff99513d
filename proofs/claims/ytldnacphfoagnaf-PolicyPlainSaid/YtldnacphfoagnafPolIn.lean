/- Layer 15 (policy): who stands, and a row of marks. -/
import Derived.Test.YtldnacphfoagnafPolShown
namespace Go.Proofs.Ytldnacphfoagnaf
open Go.RowKit
set_option linter.unusedVariables false
/-- The marks of who stands. -/
def mkX (X : List Int) : Nat → Bool := fun j => decide ((j : Int) ∈ X)
def Low (m : Nat) (X : List Int) : Prop := ∀ x ∈ X, 0 ≤ x ∧ x < (m : Int)
theorem mkX_nil : mkX [] = fun _ => false := by funext j; simp [mkX]
theorem mkX_in {X : List Int} (m i : Nat) (hi : i < m) : (bools m (mkX X)).set i (.bool true) = bools m (mkX (if (i : Int) ∈ X then X else (i : Int) :: X)) := by
  rw [bools_set _ _ hi]
  apply bools_congr
  intro j hj
  unfold mkX
  by_cases e : j = i
  · rw [if_pos e, e]
    symm
    apply decide_eq_true
    split
    · assumption
    · exact List.mem_cons_self
  · rw [if_neg e]
    apply decide_eq_decide.2
    split
    · exact Iff.rfl
    · rw [List.mem_cons]
      exact ⟨Or.inr, fun q => q.resolve_left (by omega)⟩
theorem mkX_out {X : List Int} (m i : Nat) (hi : i < m) : (bools m (mkX X)).set i (.bool false) = bools m (mkX (X.filter (· != (i : Int)))) := by
  rw [bools_set _ _ hi]
  apply bools_congr
  intro j hj
  unfold mkX
  by_cases e : j = i
  · rw [if_pos e, e]
    symm
    apply decide_eq_false
    rw [List.mem_filter]
    simp
  · rw [if_neg e]
    apply decide_eq_decide.2
    rw [List.mem_filter]
    constructor
    · intro q; exact ⟨q, by simp; omega⟩
    · exact fun q => q.1
theorem Low.put {m : Nat} {X : List Int} (h : Low m X) {i : Nat} (hi : i < m) : Low m (if (i : Int) ∈ X then X else (i : Int) :: X) := by
  split
  · exact h
  · intro x hx
    rcases List.mem_cons.1 hx with q | q
    · omega
    · exact h x q
theorem Low.drop {m : Nat} {X : List Int} (h : Low m X) (i : Int) : Low m (X.filter (· != i)) := fun x hx => h x (List.mem_filter.1 hx).1
theorem len_put (X : List Int) (i : Int) : (if i ∈ X then X else i :: X).length = X.length + (if i ∈ X then 0 else 1) := by
  split <;> simp
theorem len_drop {X : List Int} (hn : X.Nodup) (i : Int) : (X.filter (· != i)).length + (if i ∈ X then 1 else 0) = X.length := by
  split
  · rename_i h
    have := Arc.lenf_in hn h
    omega
  · rename_i h
    rw [filter_no h]; rfl
/-- A mark's cell. -/
theorem held_mark {w0 w : World} {S : Nat → Prop} {T : TypeId} {b m c : Nat} {X : List Int} (h : Held w0 w S T 1 (.slice (some ⟨b, 0, none⟩) m c) m (bools m (mkX X))) {i : Nat} (hi : i < m) : w.cell? ⟨b, i, none⟩ = some (.bool (decide ((i : Int) ∈ X))) ∧ w.frozen? ⟨b, i, none⟩ = false ∧ w0.heap.size ≤ b ∧ ¬ S b := by
  obtain ⟨tb', toff, tcap, hve, hSb, _, _, htx, htf⟩ := Sl.pos h (by omega)
  simp at hve
  obtain ⟨⟨rfl, rfl⟩, rfl⟩ := hve
  have hc2 := htx i (by rw [bools_len]; omega)
  rw [bools_get _ (by omega), Nat.zero_add] at hc2
  have hf2 := htf i
  exact ⟨hc2, hf2, hSb.2, hSb.1⟩
end Go.Proofs.Ytldnacphfoagnaf
