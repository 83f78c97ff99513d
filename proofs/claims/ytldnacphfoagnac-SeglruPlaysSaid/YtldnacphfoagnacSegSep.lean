/- Layer 12 (seglru) in blocks of its own: what each call does, to be taken one by one. -/
import Derived.Test.YtldnacphfoagnacSeg2
namespace Go.Proofs.Ytldnacphfoagnac
open Go.RowKit
set_option linter.unusedVariables false
def SG (p : Nat) (L : Nat → List Int) (A : Int → Bool) (N : Nat) (w : World) (S : Nat → Prop) : Prop := SegAt w S p L A N
/-- Insert, on the rows. -/
def insL (L : Nat → List Int) (id : Int) : Nat → List Int := if rowOf 3 L id < 0 then frontL 3 L 0 id else L
/-- Touch, on who is active. -/
def touA (L : Nat → List Int) (A : Int → Bool) (id : Int) : Int → Bool := if 0 ≤ rowOf 3 L id then setB' A id true else A
section
variable {w0 w w' : World} {S : Nat → Prop} {p : Nat} {L L' : Nat → List Int} {A A' : Int → Bool} {N N' : Nat}
theorem sg_drewN (h : Sep (SG p L A N) w0 w S) (k : Nat) : Sep (SG p L A N) w0 (w.drewN k) S := ⟨SegAt.frame h.at_ fun _ _ _ => rfl, h.fr.drewN k, h.lo, h.hi⟩
theorem sg_keep (h : Sep (SG p L A N) w0 w S) {F : Nat → Prop} (hF : Fr F w w') (hd : ∀ b, b < w.heap.size → S b → ¬ F b) (h0 : ∀ b, b < w0.heap.size → ¬ F b) : Sep (SG p L A N) w0 w' S :=
  h.keep hF hd h0 (fun hA hf => SegAt.frame hA hf)
theorem sg_below (h : Sep (SG p L A N) w0 w S) (hB : Below w.heap.size w w') : Sep (SG p L A N) w0 w' S :=
  sg_keep h (Fr.of_below hB) (fun b hb _ => by omega) (fun b hb => by have := h.fr.size; omega)
theorem sg_alloc (h : Sep (SG p L A N) w0 w S) (o : Obj) : Sep (SG p L A N) w0 (w.alloc o) S := sg_below h (((Fr.refl (fun _ => False) w).alloc o).belowAll)
theorem sg_more (h : Sep (SG p L A N) w0 w S) (hN : N ≤ N') : Sep (SG p L A N') w0 w S := h.as (fun hA => SegAt.more hA hN)
theorem new_sg (hF : Fr (From w0.heap.size) w0 w) :
    Calls Try.prog 9 #[] w fun e w' => ∃ p S, e = .returned (.pointer (some ⟨p, 0, none⟩)) ∧ Sep (SG p (fun _ => []) (fun _ => false) 0) w0 w' S ∧ (∀ b, S b → w.heap.size ≤ b) ∧ Fr (fun _ => False) w w' :=
  (seg_new w).mono fun e w' ⟨p, he, hA, hG⟩ => ⟨p, _, he, Sep.new hF hA (fun b q => q) hG, fun b q => q.1, hG⟩
theorem insert_sg (h : Sep (SG p L A N) w0 w S) (id : Int) (hN : N < 1000000) :
    Calls Try.prog 10 #[.pointer (some ⟨p, 0, none⟩), .int .i64 id] w fun e w' => e = .returned (.bool (decide (rowOf 3 L id < 0) && mayIn 3 0 id)) ∧ Sep (SG p (insL L id) A (N + 1)) w0 w' (grow S w w') ∧ Fr S w w' :=
  (seg_insert S p L A N id w h.at_ hN).mono fun e w' ⟨he, hA, hF⟩ => ⟨he, h.next hA hF, hF⟩
theorem touch_sg (h : Sep (SG p L A N) w0 w S) (id : Int) :
    Calls Try.prog 11 #[.pointer (some ⟨p, 0, none⟩), .int .i64 id] w fun e w' => e = .returned (.bool (decide (0 ≤ rowOf 3 L id))) ∧ Sep (SG p L (touA L A id) N) w0 w' (grow S w w') ∧ Fr S w w' :=
  (seg_touch S p L A N id w h.at_).mono fun e w' ⟨he, hA, hF⟩ => ⟨he, h.next (SegAt.mono hA fun b _ q => Or.inl q) hF, hF⟩
theorem remove_sg (h : Sep (SG p L A N) w0 w S) (id : Int) (hN : N ≤ 1000000) :
    Calls Try.prog 14 #[.pointer (some ⟨p, 0, none⟩), .int .i64 id] w fun e w' => e = .returned (.bool (decide (0 ≤ rowOf 3 L id))) ∧ Sep (SG p (del L id) (setB' A id false) N) w0 w' (grow S w w') ∧ Fr S w w' :=
  (seg_remove S p L A N id w h.at_ hN).mono fun e w' ⟨he, hA, hF⟩ => ⟨he, h.next hA hF, hF⟩
theorem step_sg (h : Sep (SG p L A N) w0 w S) (hN : N < 1000000) :
    Calls Try.prog 12 #[.pointer (some ⟨p, 0, none⟩)] w fun e w' => e = .returned (.bool (decide (0 ≤ whoF L A))) ∧ Sep (SG p (stepL L A) (stepA L A) (N + 1)) w0 w' (grow S w w') ∧ Fr S w w' :=
  (seg_step S p L A N w h.at_ hN).mono fun e w' ⟨he, hA, hF⟩ => ⟨he, h.next hA hF, hF⟩
theorem victim_sg (h : Sep (SG p L A N) w0 w S) :
    Calls Try.prog 13 #[.pointer (some ⟨p, 0, none⟩)] w fun e w' => ∃ k, e = .returned (.int .i64 (vict L)) ∧ w' = w.drewN k ∧ Sep (SG p L A N) w0 w' S :=
  (seg_victim S p L A N w h.at_).mono fun e w' ⟨he, k, hk⟩ => ⟨k, he, hk, hk ▸ sg_drewN h k⟩
theorem sg_rows (h : Sep (SG p L A N) w0 w S) : (∀ r, r < 3 → (L r).Nodup) ∧ (∀ r s, r < 3 → s < 3 → ∀ x, x ∈ L r → x ∈ L s → s = r) ∧ (∀ r, (L r).length ≤ N) ∧ (∀ r, 3 ≤ r → L r = []) ∧ (∀ r x, r < 3 → x ∈ L r → 0 ≤ x ∧ x ≤ 4194303) := by
  obtain ⟨g, Sr, hR, _, _⟩ := SegAt.rowsAt h.at_
  exact ⟨fun r hr => hR.nodup hr, fun r s hr hs x h1 h2 => hR.disj hr hs h1 h2, hR.len_le, fun r hr => hR.nil hr, fun r x hr hx => hR.range hr hx⟩
end
theorem active_sg {w0 w : World} {S : Nat → Prop} {p : Nat} {L : Nat → List Int} {A : Int → Bool} {N : Nat} (h : Sep (SG p L A N) w0 w S) (id : Int) :
    Calls Try.prog 16 #[.pointer (some ⟨p, 0, none⟩), .int .i64 id] w fun e w' => e = .returned (.bool (A id)) ∧ w = w' := seg_active S p L A N id w h.at_
/-- All, by way of the rows. -/
theorem all_sg {w0 w : World} {S : Nat → Prop} {p : Nat} {L : Nat → List Int} {A : Int → Bool} {N : Nat} (h : Sep (SG p L A N) w0 w S) (hN : N ≤ 1000000) :
    ∃ g, w.cell? ⟨p, 0, none⟩ = some (.pointer (some ⟨g, 0, none⟩)) ∧ ∀ row, Calls Try.prog 15 #[.pointer (some ⟨g, 0, none⟩), .int .i64 row] w fun e w' =>
      ∃ v, e = .returned v ∧ Held w0 w' S 3 1 v (rowL L row).length ((rowL L row).map (Value.int .i64)) ∧ Sep (SG p L A N) w0 w' S ∧ Fr (fun b => w.heap.size ≤ b) w w' := by
  obtain ⟨g, Sr, hR, hc, hS⟩ := SegAt.rowsAt h.at_
  exact ⟨g, hc, fun row => (rows_all Sr g 3 L N row w hR hN).mono fun e w' ⟨v, he, hs, hB⟩ => ⟨v, he, Held.new h hs, sg_below h hB, Fr.of_below hB⟩⟩
end Go.Proofs.Ytldnacphfoagnac
