/- The segmented rows beside arrays and slices; who stands, whatever is done. -/
import Derived.Test.YtldnacphfoagnacSegSep
import Derived.Test.YtldnacphfoagnacCount
namespace Go.Proofs.Ytldnacphfoagnac
open Go.RowKit
set_option linter.unusedVariables false
theorem sg_held_set {w0 W : World} {p : Nat} {L : Nat → List Int} {A : Int → Bool} {N : Nat} {S : Nat → Prop} {T : TypeId} {b off m cap : Nat} {xs : List Value} (hS : Sep (SG p L A N) w0 W S) (h : Held w0 W S T 1 (.slice (some ⟨b, off, none⟩) m cap) m xs) {i : Nat} (hi : i < m) (u : Value) :
    Held w0 (W.setCell ⟨b, off + i, none⟩ u) S T 1 (.slice (some ⟨b, off, none⟩) m cap) m (xs.set i u) ∧ Sep (SG p L A N) w0 (W.setCell ⟨b, off + i, none⟩ u) S := by
  have hx : i < xs.length := by have := h.1; omega
  obtain ⟨b', off', cap', hv, hSb, _⟩ := Sl.pos h (by omega)
  simp at hv
  obtain ⟨⟨rfl, rfl⟩, rfl⟩ := hv
  exact ⟨Sl.set h hx u, sg_keep hS (F := fun k => k = b) (Fr.setCell (Fr.refl (fun k => k = b) W) (p := ⟨b, off + i, none⟩) (fun _ => rfl) u) (fun k _ s q => hSb.1 (q ▸ s)) (fun k hk q => by have := hSb.2; omega)⟩
theorem rowOf_nonneg {n : Nat} {L : Nat → List Int} {id : Int} : 0 ≤ rowOf n L id ↔ id ∈ flat L n := by
  rw [mem_flat]
  unfold rowOf
  rcases h : (List.range n).find? (fun r => decide (id ∈ L r)) with _ | r
  · constructor
    · intro h; simp at h
    · rintro ⟨r, hr, hm⟩
      exact absurd hm (by simpa using List.find?_eq_none.1 h r (List.mem_range.2 hr))
  · have h1 := List.find?_some h
    have h2 := List.mem_of_find?_eq_some h
    exact ⟨fun _ => ⟨r, List.mem_range.1 h2, by simpa using h1⟩, fun _ => by simp⟩
theorem mem_putF {n r : Nat} (hr : r < n) {L : Nat → List Int} {id x : Int} : x ∈ flat (putF (del L id) r id) n ↔ x = id ∨ x ∈ flat L n := by
  rw [mem_flat, mem_flat]
  constructor
  · rintro ⟨s, hs, hx⟩
    unfold putF at hx
    split at hx
    · rcases List.mem_cons.1 hx with q | q
      · exact Or.inl q
      · exact Or.inr ⟨s, hs, (List.mem_filter.1 q).1⟩
    · exact Or.inr ⟨s, hs, (List.mem_filter.1 hx).1⟩
  · intro h
    by_cases e : x = id
    · exact ⟨r, hr, by unfold putF; rw [if_pos rfl, e]; simp⟩
    · rcases h with h | ⟨s, hs, hx⟩
      · exact absurd h e
      · refine ⟨s, hs, ?_⟩
        have : x ∈ del L id s := List.mem_filter.2 ⟨hx, by simpa using e⟩
        unfold putF
        split
        · exact List.mem_cons_of_mem _ this
        · exact this
theorem mem_front {n : Nat} {L : Nat → List Int} {r : Nat} {id x : Int} (hr : r < n) (h : 0 ≤ id ∧ id ≤ 4194303) : x ∈ flat (frontL n L r id) n ↔ x = id ∨ x ∈ flat L n := by
  have hm : mayIn n r id = true := decide_eq_true ⟨by omega, by omega, h⟩
  unfold frontL
  rw [hm, if_pos rfl, Int.toNat_natCast]
  exact mem_putF hr
theorem ins_mem {L : Nat → List Int} {id x : Int} (h : 0 ≤ id ∧ id ≤ 4194303) : x ∈ flat (insL L id) 3 ↔ x = id ∨ x ∈ flat L 3 := by
  unfold insL
  by_cases hr : rowOf 3 L id < 0
  · rw [if_pos hr]; exact mem_front (r := 0) (by decide) h
  · rw [if_neg hr]
    have : id ∈ flat L 3 := rowOf_nonneg.1 (by omega)
    exact ⟨Or.inr, fun q => q.elim (fun q => q ▸ this) (fun q => q)⟩
theorem step_mem {L : Nat → List Int} {A : Int → Bool} {x : Int} (hrg : ∀ x, x ∈ flat L 3 → 0 ≤ x ∧ x ≤ 4194303) : x ∈ flat (stepL L A) 3 ↔ x ∈ flat L 3 := by
  unfold stepL
  by_cases h0 : whoF L A < 0
  · rw [if_pos h0]
  · rw [if_neg h0]
    obtain ⟨r, hr, hm⟩ := whoF_in (L := L) (A := A) (by omega)
    have hin : whoF L A ∈ flat L 3 := mem_flat.2 ⟨r, hr, hm⟩
    have h := hrg _ hin
    have key : ∀ r : Nat, r < 3 → (x ∈ flat (frontL 3 L r (whoF L A)) 3 ↔ x ∈ flat L 3) := fun r hr => by
      rw [mem_front hr h]
      exact ⟨fun q => q.elim (fun q => q ▸ hin) (fun q => q), Or.inr⟩
    split
    · exact key 1 (by decide)
    · exact key 2 (by decide)
theorem sg_flat {w0 w : World} {S : Nat → Prop} {p : Nat} {L : Nat → List Int} {A : Int → Bool} {N : Nat} (h : Sep (SG p L A N) w0 w S) : (flat L 3).Nodup := by
  obtain ⟨h1, h2, _⟩ := sg_rows h
  exact flat_nodup 3 h1 h2
end Go.Proofs.Ytldnacphfoagnac
