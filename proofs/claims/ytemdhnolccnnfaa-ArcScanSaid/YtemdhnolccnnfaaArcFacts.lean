/- Layer 13 (arc): what each call turns, case by case. -/
import Derived.Test.YtemdhnolccnnfaaArcShown
import Derived.Test.YtemdhnolccnnfaaRowsMore
namespace Go.Proofs.Ytemdhnolccnnfaa
open Go.RowKit
set_option linter.unusedVariables false
theorem insOk_iff (s : ArcS) (id : Int) : insOk s id = decide ((id ∉ s.L 0 ∧ id ∉ s.L 1) ∧ 0 ≤ id ∧ id ≤ 4194303) := by
  unfold insOk
  have h := rowOf2_nn s.L id
  rw [Bool.eq_iff_iff, decide_eq_true_iff, decide_eq_true_iff]
  constructor
  · rintro ⟨h1, h2⟩
    have : ¬ (id ∈ s.L 0 ∨ id ∈ s.L 1) := fun q => by have := h.2 q; omega
    exact ⟨⟨fun q => this (.inl q), fun q => this (.inr q)⟩, h2⟩
  · rintro ⟨h1, h2⟩
    have : ¬ 0 ≤ rowOf 2 s.L id := fun q => (h.1 q).elim h1.1 h1.2
    exact ⟨by omega, h2⟩
theorem insOk_new {s : ArcS} {id : Int} (h0 : id ∉ s.L 0) (h1 : id ∉ s.L 1) (hid : 0 ≤ id ∧ id ≤ 4194303) : insOk s id = true := by
  rw [insOk_iff]; exact decide_eq_true ⟨⟨h0, h1⟩, hid⟩
theorem insA_no {s : ArcS} {id h : Int} (hn : insOk s id = false) : insA s id h = s := by unfold insA; rw [if_neg (by rw [hn]; decide)]
theorem insA_new {s : ArcS} {id h : Int} (hok : insOk s id = true) (g1 : h ∉ s.B1) (g2 : h ∉ s.B2) : insA s id h = { s with H := setH s.H id h, L := putF (del s.L id) 0 id } := by
  have hid := of_decide_eq_true hok
  unfold insA
  rw [if_pos hok, show insG s h = s from by unfold insG; rw [if_neg g1, if_neg g2], show insR s h = 0 from by unfold insR; rw [if_neg g1, if_neg g2], front2 _ _ _ (.inl rfl) hid.2.1 hid.2.2]
  rfl
theorem insA_b1 {s : ArcS} {id h : Int} (hok : insOk s id = true) (g1 : h ∈ s.B1) : insA s id h = { s with P := min (max (s.P + max 1 ((s.B2.length : Int) / (s.B1.length : Int))) 0) s.most, B1 := grem s.B1 h, H := setH s.H id h, L := putF (del s.L id) 1 id } := by
  have hid := of_decide_eq_true hok
  unfold insA
  rw [if_pos hok, show insG s h = _ from by unfold insG; rw [if_pos g1], show insR s h = 1 from by unfold insR; rw [if_pos g1], front2 _ _ _ (.inr rfl) hid.2.1 hid.2.2]
  rfl
theorem insA_b2 {s : ArcS} {id h : Int} (hok : insOk s id = true) (g1 : h ∉ s.B1) (g2 : h ∈ s.B2) : insA s id h = { s with P := min (max (s.P + - max 1 ((s.B1.length : Int) / (s.B2.length : Int))) 0) s.most, B2 := grem s.B2 h, H := setH s.H id h, L := putF (del s.L id) 1 id } := by
  have hid := of_decide_eq_true hok
  unfold insA
  rw [if_pos hok, show insG s h = _ from by unfold insG; rw [if_neg g1, if_pos g2], show insR s h = 1 from by unfold insR; rw [if_neg g1, if_pos g2], front2 _ _ _ (.inr rfl) hid.2.1 hid.2.2]
  rfl
theorem touchA_no {s : ArcS} {id : Int} (h0 : id ∉ s.L 0) (h1 : id ∉ s.L 1) : touchA s id = s := by
  unfold touchA; rw [if_neg (fun q => ((rowOf2_nn s.L id).1 q).elim h0 h1)]
theorem touchA_yes {s : ArcS} {id : Int} (hw : Wid s.L) (h : id ∈ s.L 0 ∨ id ∈ s.L 1) : touchA s id = { s with L := putF (del s.L id) 1 id } := by
  have hid : 0 ≤ id ∧ id ≤ 4194303 := h.elim (hw 0 id (by decide)) (hw 1 id (by decide))
  unfold touchA; rw [if_pos ((rowOf2_nn s.L id).2 h), front2 _ _ _ (.inr rfl) hid.1 hid.2]
  rfl
theorem evictA_0 {s : ArcS} {id : Int} (h0 : id ∈ s.L 0) : evictA s id = { s with L := del s.L id, H := setH s.H id 0, B1 := gadd s.m1 s.B1 (s.H id) } := by
  have hr : rowOf 2 s.L id = 0 := by rw [rowOf2, if_pos h0]
  unfold evictA evA; rw [hr]; rfl
theorem evictA_1 {s : ArcS} {id : Int} (h0 : id ∉ s.L 0) (h1 : id ∈ s.L 1) : evictA s id = { s with L := del s.L id, H := setH s.H id 0, B2 := gadd s.m2 s.B2 (s.H id) } := by
  have hr : rowOf 2 s.L id = 1 := by rw [rowOf2, if_neg h0, if_pos h1]
  unfold evictA evA; rw [hr]; rfl
/-- So many have come, each once. -/
structure BI (n k : Nat) (s : ArcS) : Prop where
  L0 : s.L 0 = upA 0 k
  L1 : s.L 1 = []
  B1 : s.B1 = []
  B2 : s.B2 = []
  m1 : s.m1 = n
  m2 : s.m2 = n
  most : s.most = n
  P : s.P = 0
  H : ∀ i : Int, 0 ≤ i → i < k → s.H i = i
theorem BI_start (n : Nat) : BI n 0 (capA arc0 n) := by
  have h : max (0 : Int) n = n := by omega
  refine ⟨rfl, rfl, by simp [capA, cut, arc0], by simp [capA, cut, arc0], h, h, h, ?_, fun i h0 h1 => by omega⟩
  show min (0 : Int) (max 0 (n : Int)) = 0
  omega
theorem BI_step {n k : Nat} {s : ArcS} (h : BI n k s) (hk : k < 100) : insOk s k = true ∧ BI n (k + 1) (insA s k k) := by
  have hn : (k : Int) ∉ s.L 0 := by rw [h.L0, mem_upA]; omega
  have hn1 : (k : Int) ∉ s.L 1 := by rw [h.L1]; simp
  have hok := insOk_new hn hn1 (by omega)
  refine ⟨hok, ?_⟩
  rw [insA_new hok (by rw [h.B1]; simp) (by rw [h.B2]; simp)]
  refine ⟨?_, ?_, h.B1, h.B2, h.m1, h.m2, h.most, h.P, fun i h0 h1 => ?_⟩
  · show (k : Int) :: (s.L 0).filter (· != (k : Int)) = _
    rw [filter_no hn, h.L0, show upA 0 (k + 1) = (0 + (k : Int)) :: upA 0 k from rfl, Int.zero_add]
  · show (s.L 1).filter _ = []
    rw [h.L1]; rfl
  · show setH s.H k k i = i
    unfold setH
    split
    · omega
    · exact h.H i h0 (by omega)
/-- A store into what is held. -/
theorem ar_held_set {w0 W : World} {p : Nat} {s : ArcS} {N M : Nat} {S : Nat → Prop} {T : TypeId} {b off m cap : Nat} {xs : List Value} (hS : Sep (AR p s N M) w0 W S) (h : Held w0 W S T 1 (.slice (some ⟨b, off, none⟩) m cap) m xs) {i : Nat} (hi : i < m) (u : Value) :
    Held w0 (W.setCell ⟨b, off + i, none⟩ u) S T 1 (.slice (some ⟨b, off, none⟩) m cap) m (xs.set i u) ∧ Sep (AR p s N M) w0 (W.setCell ⟨b, off + i, none⟩ u) S := by
  have hx : i < xs.length := by have := h.1; omega
  obtain ⟨b', off', cap', hv, hSb, _⟩ := Sl.pos h (by omega)
  simp at hv
  obtain ⟨⟨rfl, rfl⟩, rfl⟩ := hv
  exact ⟨Sl.set h hx u, ar_keep hS (F := fun k => k = b) (Fr.setCell (Fr.refl (fun k => k = b) W) (p := ⟨b, off + i, none⟩) (fun _ => rfl) u) (fun k _ s q => hSb.1 (q ▸ s)) (fun k hk q => by have := hSb.2; omega)⟩
end Go.Proofs.Ytemdhnolccnnfaa
