/- What must be in any case: layer 11's shown. -/
import Derived.Test.YtadnommidmgaiaaGhost3
namespace Go.Proofs.Ytadnommidmgaiaa
open Go.RowKit
set_option linter.unusedVariables false
/-- All that is new. -/
def From (n : Nat) (b : Nat) : Prop := n ≤ b
theorem Sl.two {w : World} {S : Nat → Prop} {T : TypeId} {v : Value} {x y : Value} (h : Sl w S T 1 v 2 [x, y]) :
    ∃ b off cap, v = .slice (some ⟨b, off, none⟩) 2 cap ∧ w.cell? ⟨b, off, none⟩ = some x ∧ w.cell? ⟨b, off + 1, none⟩ = some y := by
  obtain ⟨b, off, cap, hv, hS, hb, hc, hx, _⟩ := h.pos (by omega)
  exact ⟨b, off, cap, hv, hx 0 (by simp), hx 1 (by simp)⟩

theorem grow_from {B : Nat} {w w' : World} (hB : B ≤ w.heap.size) {b : Nat} (h : grow (From B) w w' b) : From B b := h.elim id (fun h => Nat.le_trans hB h.1)
/-- One structure that lies behind B, and what was there stays. -/
def Own (P : World → (Nat → Prop) → Prop) (w0 w : World) : Prop := P w (From w0.heap.size) ∧ Fr (From w0.heap.size) w0 w
theorem Own.start {P : World → (Nat → Prop) → Prop} {w0 w w' : World} {S : Nat → Prop} (hP : P w' S) (hS : ∀ b, S b → w.heap.size ≤ b) (hF : Fr (fun _ => False) w w') (h0 : Fr (From w0.heap.size) w0 w)
    (hm : ∀ S', P w' S → (∀ b, S b → S' b) → P w' S') : Own P w0 w' :=
  ⟨hm _ hP (fun b h => Nat.le_trans h0.size (hS b h)), h0.trans hF (fun _ _ h => h.elim)⟩
theorem Own.next {P P' : World → (Nat → Prop) → Prop} {w0 w w' : World} (h : Own P w0 w) (hP : P' w' (grow (From w0.heap.size) w w')) (hF : Fr (From w0.heap.size) w w')
    (hm : ∀ S', P' w' (grow (From w0.heap.size) w w') → (∀ b, grow (From w0.heap.size) w w' b → S' b) → P' w' S') : Own P' w0 w' :=
  ⟨hm _ hP (fun b hb => grow_from h.2.size hb), h.2.trans hF (fun _ _ h => h)⟩

theorem GhostAt.len_le {w : World} {S : Nat → Prop} {g : Nat} {most : Int} {L : List Int} {N : Nat} (h : GhostAt w S g most L N) : L.length ≤ N ∧ (L.length : Int) ≤ most ∧ 0 ≤ most := by
  obtain ⟨l, row, first, _, _, hL, h0, h1, h2, h3⟩ := h
  have := live_le l row first
  rw [hL] at this
  exact ⟨by omega, h3, h0⟩
def gh (g : Nat) (most : Int) (L : List Int) (N : Nat) (w : World) (S : Nat → Prop) : Prop := GhostAt w S g most L N
theorem gh_new {w0 w w' : World} {g : Nat} {most : Int} {L : List Int} {N : Nat} (h0 : Fr (From w0.heap.size) w0 w) (hG : GhostAt w' (fun b => w.heap.size ≤ b ∧ b < w'.heap.size) g most L N) (hF : Fr (fun _ => False) w w') : Own (gh g most L N) w0 w' :=
  Own.start (P := gh g most L N) hG (fun b h => h.1) hF h0 (fun S' hP h => GhostAt.mono hP (fun b _ hb => h b hb))
theorem gh_next {w0 w w' : World} {g : Nat} {most most' : Int} {L L' : List Int} {N N' : Nat} (h : Own (gh g most L N) w0 w) (hG : GhostAt w' (grow (From w0.heap.size) w w') g most' L' N') (hF : Fr (From w0.heap.size) w w') : Own (gh g most' L' N') w0 w' :=
  h.next (P' := gh g most' L' N') hG hF (fun S' hP h => GhostAt.mono hP (fun b _ hb => h b hb))
theorem gh_same {w0 w w' : World} {g : Nat} {most most' : Int} {L L' : List Int} {N N' : Nat} (h : Own (gh g most L N) w0 w) (hG : GhostAt w' (From w0.heap.size) g most' L' N') (hF : Fr (From w0.heap.size) w w') : Own (gh g most' L' N') w0 w' :=
  ⟨hG, h.2.trans hF (fun _ _ h => h)⟩
theorem gh_keep {w0 w w' : World} {g : Nat} {most : Int} {L : List Int} {N : Nat} (h : Own (gh g most L N) w0 w) (hF : Fr (fun b => w.heap.size ≤ b) w w') : Own (gh g most L N) w0 w' :=
  ⟨GhostAt.fr h.1 hF (fun b hb _ => by omega), h.2.trans hF (fun i hi h' => by have := h.2.size; omega)⟩
set_option maxHeartbeats 1000000 in
theorem shown_any (w : World) :
    Calls Try.prog 7 #[] w fun e w' => e = .returned (.bool true) ∧ Fr (fun _ => False) w w' := by
  go_enter Try.func7, Try.ntmps7
  go_wp2_with fail
  refine (new_at 2 w).mono ?_
  rintro e w1 ⟨g, rfl, hG, hF⟩
  have H1 := Lib.hid (gh_new (Fr.refl _ w) hG hF)
  clear hG hF
  go_wp2_with fail
  refine (add_at _ g 2 _ _ 1 _ H1.out.1 (by omega)).mono ?_
  rintro e w2 ⟨rfl, hG, hF⟩
  have H2 := Lib.hid (gh_next H1.out hG hF)
  clear hG hF
  go_wp2_with fail
  refine (add_at _ g 2 _ _ 2 _ H2.out.1 (by omega)).mono ?_
  rintro e w3 ⟨rfl, hG, hF⟩
  have H3 := Lib.hid (gh_next H2.out hG hF)
  clear hG hF
  go_wp2_with fail
  refine (add_at _ g 2 _ _ 3 _ H3.out.1 (by omega)).mono ?_
  rintro e w4 ⟨rfl, hG, hF⟩
  have H4 := Lib.hid (gh_next H3.out hG hF)
  clear hG hF
  go_wp2_with fail
  refine (add_at _ g 2 _ _ 2 _ H4.out.1 (by omega)).mono ?_
  rintro e w5 ⟨rfl, hG, hF⟩
  have H5 := Lib.hid (gh_next H4.out hG hF)
  clear hG hF
  go_wp2_with fail
  refine (all_at _ g 2 _ _ _ H5.out.1 (by omega)).mono ?_
  rintro e w6 ⟨v, rfl, hs, hF⟩
  have hL : gadd 2 (gadd 2 (gadd 2 (gadd 2 [] 1) 2) 3) 2 = [3, 2] := by decide
  have h6 := H5.out
  rw [hL] at h6 hs
  have hG6 : Own (gh g 2 [3, 2] (0 + 1 + 1 + 1 + 1)) w w6 := gh_keep h6 hF
  have H6 := Lib.hid hG6
  obtain ⟨b, off, cap, rfl, hc0, hc1⟩ := hs.two
  clear hL hs hF h6 hG6
  go_wp2_with fail
  refine (has_at _ g 2 _ _ 3 _ H6.out.1).mono ?_
  rintro e w7 ⟨rfl, rfl⟩
  go_wp2_with fail
  refine (has_at _ g 2 _ _ 1 _ H6.out.1).mono ?_
  rintro e w7 ⟨rfl, rfl⟩
  go_wp2_with fail
  refine (remove_at _ g 2 _ _ 3 _ H6.out.1 (by omega)).mono ?_
  rintro e w7 ⟨rfl, hG, hF⟩
  have hL : grem [3, 2] 3 = [2] := by decide
  rw [hL] at hG
  have H7 := Lib.hid (gh_same H6.out hG hF)
  clear hG hF hL
  go_wp2_with fail
  refine (len_at _ g 2 _ _ _ H7.out.1).mono ?_
  rintro e w8 ⟨rfl, rfl⟩
  go_wp2
  go_ret
  exact ⟨rfl, H7.out.2.mono (fun k hk h => by unfold From at h; omega)⟩
end Go.Proofs.Ytadnommidmgaiaa
