/- Layer 13 (arc) in blocks of its own: what each call does, to be taken one by one. -/
import Derived.Test.YtemdhnolccnnfaaArc3
import Derived.Test.YtemdhnolccnnfaaArc4
import Derived.Test.YtemdhnolccnnfaaArc5
namespace Go.Proofs.Ytemdhnolccnnfaa
open Go.RowKit
set_option linter.unusedVariables false
def AR (p : Nat) (s : ArcS) (N M : Nat) (w : World) (S : Nat → Prop) : Prop := ArcAt w S p s N M
/-- Touch, off memory. -/
def touchA (s : ArcS) (id : Int) : ArcS := if 0 ≤ rowOf 2 s.L id then { s with L := frontL 2 s.L 1 id } else s
/-- Remove, off memory. -/
def remA (s : ArcS) (id : Int) : ArcS := { s with L := del s.L id, H := setH s.H id 0 }
section
variable {w0 w w' : World} {S : Nat → Prop} {p : Nat} {s : ArcS} {N N' M M' : Nat}
theorem ar_drewN (h : Sep (AR p s N M) w0 w S) (k : Nat) : Sep (AR p s N M) w0 (w.drewN k) S := ⟨ArcAt.frame h.at_ (Nat.le_refl _) fun _ _ _ => rfl, h.fr.drewN k, h.lo, h.hi⟩
theorem ar_keep (h : Sep (AR p s N M) w0 w S) {F : Nat → Prop} (hF : Fr F w w') (hd : ∀ b, b < w.heap.size → S b → ¬ F b) (h0 : ∀ b, b < w0.heap.size → ¬ F b) : Sep (AR p s N M) w0 w' S :=
  h.keep hF hd h0 (fun hA hf => ArcAt.frame hA hF.size hf)
theorem ar_below (h : Sep (AR p s N M) w0 w S) (hB : Below w.heap.size w w') : Sep (AR p s N M) w0 w' S :=
  ar_keep h (Fr.of_below hB) (fun b hb _ => by omega) (fun b hb => by have := h.fr.size; omega)
theorem ar_alloc (h : Sep (AR p s N M) w0 w S) (o : Obj) : Sep (AR p s N M) w0 (w.alloc o) S := ar_below h (((Fr.refl (fun _ => False) w).alloc o).belowAll)
theorem ar_more (h : Sep (AR p s N M) w0 w S) (hN : N ≤ N') (hM : M ≤ M') : Sep (AR p s N' M') w0 w S := h.as (fun hA => ArcAt.more hA hN hM)
theorem new_ar (hF : Fr (From w0.heap.size) w0 w) :
    Calls Try.prog 5 #[] w fun e w' => ∃ p S, e = .returned (.pointer (some ⟨p, 0, none⟩)) ∧ Sep (AR p arc0 0 0) w0 w' S ∧ (∀ b, S b → w.heap.size ≤ b) ∧ Fr (fun _ => False) w w' :=
  (arc_new w).mono fun e w' ⟨p, he, hA, hG⟩ => ⟨p, _, he, Sep.new hF hA (fun b q => q) hG, fun b q => q.1, hG⟩
theorem cap_ar (h : Sep (AR p s N M) w0 w S) (n : Int) (hM : M ≤ 1000000) :
    Calls Try.prog 6 #[.pointer (some ⟨p, 0, none⟩), .int .i64 n] w fun e w' => e = .returned (.tuple #[]) ∧ Sep (AR p (capA s n) N M) w0 w' (grow S w w') ∧ Fr S w w' :=
  (arc_cap S p s N M n w h.at_ hM).mono fun e w' ⟨he, hA, hF⟩ => ⟨he, h.next hA hF, hF⟩
theorem insert_ar (h : Sep (AR p s N M) w0 w S) (id hh : Int) (hN : N < 1000000) (hM : M ≤ 1000000) (hP : 0 ≤ s.P ∧ s.P ≤ 1000000000000) :
    Calls Try.prog 7 #[.pointer (some ⟨p, 0, none⟩), .int .i64 id, .int .u64 hh] w fun e w' => e = .returned (.bool (insOk s id)) ∧ Sep (AR p (insA s id hh) (N + 1) M) w0 w' (grow S w w') ∧ Fr S w w' :=
  (arc_insert S p s N M id hh w h.at_ hN hM hP).mono fun e w' ⟨he, hA, hF⟩ => ⟨he, h.next hA hF, hF⟩
theorem touch_ar (h : Sep (AR p s N M) w0 w S) (id : Int) (hN : N < 1000000) :
    Calls Try.prog 8 #[.pointer (some ⟨p, 0, none⟩), .int .i64 id] w fun e w' => e = .returned (.bool (decide (0 ≤ rowOf 2 s.L id))) ∧ Sep (AR p (touchA s id) (N + 1) M) w0 w' (grow S w w') ∧ Fr S w w' :=
  (arc_touch S p s N M id w h.at_ hN).mono fun e w' ⟨he, hA, hF⟩ => ⟨he, h.next hA hF, hF⟩
theorem remove_ar (h : Sep (AR p s N M) w0 w S) (id : Int) (hN : N ≤ 1000000) :
    Calls Try.prog 26 #[.pointer (some ⟨p, 0, none⟩), .int .i64 id] w fun e w' => e = .returned (.bool (decide (0 ≤ rowOf 2 s.L id))) ∧ Sep (AR p (remA s id) N M) w0 w' (grow S w w') ∧ Fr S w w' :=
  (arc_remove S p s N M id w h.at_ hN).mono fun e w' ⟨he, hA, hF⟩ => ⟨he, h.next hA hF, hF⟩
theorem evict_ar (h : Sep (AR p s N M) w0 w S) (id : Int) (hN : N ≤ 1000000) (hM : M < 1000000) :
    Calls Try.prog 11 #[.pointer (some ⟨p, 0, none⟩), .int .i64 id] w fun e w' => e = .returned (.bool (decide (0 ≤ rowOf 2 s.L id))) ∧ Sep (AR p (evictA s id) N (M + 1)) w0 w' (grow S w w') ∧ Fr S w w' :=
  (arc_evict S p s N M id w h.at_ hN hM).mono fun e w' ⟨he, hA, hF⟩ => ⟨he, h.next hA hF, hF⟩
theorem victim_ar (h : Sep (AR p s N M) w0 w S) (hh : Int) :
    Calls Try.prog 10 #[.pointer (some ⟨p, 0, none⟩), .int .u64 hh] w fun e w' => ∃ k, e = .returned (.int .i64 (victA s hh)) ∧ w' = w.drewN k ∧ Sep (AR p s N M) w0 w' S :=
  (arc_victim S p s N M hh w h.at_).mono fun e w' ⟨he, k, hk⟩ => ⟨k, he, hk, hk ▸ ar_drewN h k⟩
theorem target_ar (h : Sep (AR p s N M) w0 w S) :
    Calls Try.prog 12 #[.pointer (some ⟨p, 0, none⟩)] w fun e w' => e = .returned (.int .i64 s.P) ∧ w = w' := arc_target S p s N M w h.at_
theorem all_ar (h : Sep (AR p s N M) w0 w S) (hN : N ≤ 1000000) :
    ∃ g, w.cell? ⟨p, 0, none⟩ = some (.pointer (some ⟨g, 0, none⟩)) ∧ (∀ row, Calls Try.prog 9 #[.pointer (some ⟨g, 0, none⟩), .int .i64 row] w fun e w' =>
      ∃ v, e = .returned v ∧ Held w0 w' S 3 1 v (rowL s.L row).length ((rowL s.L row).map (Value.int .i64)) ∧ Sep (AR p s N M) w0 w' S ∧ Fr (fun b => w.heap.size ≤ b) w w') ∧ S p := by
  obtain ⟨g, b1, b2, m, l, o, Sr, S1, S2, hO⟩ := h.at_
  have c0 := cell_of_heap hO.hp 0
  simp at c0
  exact ⟨g, c0, fun row => (rows_all Sr g 2 s.L N row w hO.hR hN).mono fun e w' ⟨v, he, hs, hB⟩ => ⟨v, he, Held.new h hs, ar_below h hB, Fr.of_below hB⟩, hO.hSp⟩
theorem ar_drew (h : Sep (AR p s N M) w0 w S) : Sep (AR p s N M) w0 w.drew S := ⟨ArcAt.frame h.at_ (Nat.le_refl _) fun _ _ _ => rfl, h.fr.drew, h.lo, h.hi⟩
/-- All, where the rows lie at g. -/
theorem all_ar_at (h : Sep (AR p s N M) w0 w S) (hN : N ≤ 1000000) {g : Nat} (hc : w.cell? ⟨p, 0, none⟩ = some (.pointer (some ⟨g, 0, none⟩))) (row : Int) :
    Calls Try.prog 9 #[.pointer (some ⟨g, 0, none⟩), .int .i64 row] w fun e w' =>
      ∃ v, e = .returned v ∧ Held w0 w' S 3 1 v (rowL s.L row).length ((rowL s.L row).map (Value.int .i64)) ∧ Sep (AR p s N M) w0 w' S ∧ Fr (fun b => w.heap.size ≤ b) w w' ∧ w'.cell? ⟨p, 0, none⟩ = some (.pointer (some ⟨g, 0, none⟩)) := by
  obtain ⟨g', hc', hA, hp⟩ := all_ar h hN
  rw [hc] at hc'
  cases hc'
  refine (hA row).mono fun e w' ⟨v, he, hs, h', hF⟩ => ⟨v, he, hs, h', hF, ?_⟩
  exact (hF.cell (p := ⟨p, 0, none⟩) (h.hi p hp) (Nat.not_le.2 (h.hi p hp))).trans hc
theorem ar_rows (h : Sep (AR p s N M) w0 w S) : (∀ r, r < 2 → (s.L r).Nodup) ∧ (∀ r q, r < 2 → q < 2 → ∀ x, x ∈ s.L r → x ∈ s.L q → q = r) ∧ (∀ r, (s.L r).length ≤ N) ∧ (∀ r, 2 ≤ r → s.L r = []) ∧ (∀ r x, r < 2 → x ∈ s.L r → 0 ≤ x ∧ x ≤ 4194303) := by
  obtain ⟨g, b1, b2, m, l, o, Sr, S1, S2, hO⟩ := h.at_
  have hR := hO.hR
  exact ⟨fun r hr => hR.nodup hr, fun r s hr hs x h1 h2 => hR.disj hr hs h1 h2, hR.len_le, fun r hr => hR.nil hr, fun r x hr hx => hR.range hr hx⟩
end
end Go.Proofs.Ytemdhnolccnnfaa
