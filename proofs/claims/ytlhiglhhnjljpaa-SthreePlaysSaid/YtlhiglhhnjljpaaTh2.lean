/- Layer 14 (sthree): what each call does, two: Cap, Insert, Remove, Evict. -/
import Derived.Test.YtlhiglhhnjljpaaTh
namespace Go.Proofs.Ytlhiglhhnjljpaa
open Go.RowKit
set_option linter.unusedVariables false
def capT (s : ThS) (n : Int) : ThS := { s with most := max 0 n, mB := max 0 n, B := cut (max 0 n) s.B }
set_option maxHeartbeats 1000000 in
theorem th_cap (S : Nat → Prop) (p : Nat) (s : ThS) (N M : Nat) (n : Int) (w : World) (h : ThAt w S p s N M) (hM : M ≤ 1000000) :
    Calls Try.prog 15 #[.pointer (some ⟨p, 0, none⟩), .int .i64 n] w fun e w' => e = .returned (.tuple #[]) ∧ ThAt w' (grow S w w') p (capT s n) N M ∧ Fr S w w' := by
  obtain ⟨⟨g, b1, m, l, o, Sr, Sg, Sk, h⟩, hi⟩ := h
  have c1 := cell_of_heap h.hp 1
  have c2 := cell_of_heap h.hp 2
  have f2 := fro_of_heap h.hp 2
  simp at c1 c2
  obtain ⟨mx, hmx⟩ : ∃ mx, max 0 n = mx := ⟨_, rfl⟩
  unfold capT
  rw [hmx]
  have h0 : 0 ≤ mx := by omega
  have hA := (h.setMost mx).frame (w' := (w.setCell ⟨p, 2, none⟩ (.int .i64 mx)).drew) (Nat.le_refl _) fun _ _ _ => rfl
  have hl := limit_at Sg b1 s.mB s.B M mx _ hA.hG hM
  rw [Int.max_eq_right h0] at hl
  have d1 : (w.setCell ⟨p, 2, none⟩ (.int .i64 mx)).cell? ⟨p, 1, none⟩ = some (.pointer (some ⟨b1, 0, none⟩)) := by rw [cell_of_heap (h.setMost mx).hp]; rfl
  have d2 : (w.setCell ⟨p, 2, none⟩ (.int .i64 mx)).cell? ⟨p, 2, none⟩ = some (.int .i64 mx) := by rw [cell_of_heap (h.setMost mx).hp]; rfl
  have HL := Lib.hid (And.intro hA (And.intro hl (And.intro h.hSp hi)))
  clear hA hl h hi h0
  have hc : n < 0 ∧ mx = 0 ∨ n = 0 ∧ mx = 0 ∨ 0 < n ∧ mx = n := by omega
  clear hmx
  rcases hc with ⟨hn, hm⟩ | ⟨hn, hm⟩ | ⟨hn, hm⟩
  · subst hm
    go_enter Try.func15, Try.ntmps15
    go_wp2_with fail
    obtain ⟨wz, hwz⟩ : ∃ wz, w.setCell ⟨p, 2, none⟩ (.int .i64 0) = wz := ⟨_, rfl⟩
    rw [hwz] at d1 d2 HL ⊢
    have HW := Lib.hid hwz
    clear hwz
    go_still_tail 8, (by kernel_rfl)
    go_wp2_with fail
    refine HL.out.2.1.mono ?_
    rintro e w1 ⟨rfl, hG, hF⟩
    have H1 := Lib.hid (And.intro hG hF)
    clear hG hF
    go_wp2
    go_end0
    obtain ⟨hG, hF⟩ := H1.out
    have hz : wz.drew.heap.size = w.heap.size := by rw [← HW.out]; simp [World.setCell, World.drew]
    refine ⟨rfl, ⟨⟨g, b1, m, l, o, Sr, _, Sk, (HL.out.1.ghost (hG.mono fun b _ q => Or.inl q) hF).mono fun b _ q => q.imp (fun q => q) (fun q => by rw [hz] at q; exact q)⟩, ⟨HL.out.2.2.2.in_, HL.out.2.2.2.cnt⟩⟩, ?_⟩
    refine Fr.trans (b := wz.drew) ?_ hF (fun b _ q => HL.out.1.hSg b q)
    rw [← HW.out]
    exact ((Fr.refl S w).setCell (fun _ => HL.out.2.2.1) _).drew
  · subst hm; subst hn
    go_enter Try.func15, Try.ntmps15
    go_wp2_with fail
    obtain ⟨wz, hwz⟩ : ∃ wz, w.setCell ⟨p, 2, none⟩ (.int .i64 0) = wz := ⟨_, rfl⟩
    rw [hwz] at d1 d2 HL ⊢
    have HW := Lib.hid hwz
    clear hwz
    go_still_tail 8, (by kernel_rfl)
    go_wp2_with fail
    refine HL.out.2.1.mono ?_
    rintro e w1 ⟨rfl, hG, hF⟩
    have H1 := Lib.hid (And.intro hG hF)
    clear hG hF
    go_wp2
    go_end0
    obtain ⟨hG, hF⟩ := H1.out
    have hz : wz.drew.heap.size = w.heap.size := by rw [← HW.out]; simp [World.setCell, World.drew]
    refine ⟨rfl, ⟨⟨g, b1, m, l, o, Sr, _, Sk, (HL.out.1.ghost (hG.mono fun b _ q => Or.inl q) hF).mono fun b _ q => q.imp (fun q => q) (fun q => by rw [hz] at q; exact q)⟩, ⟨HL.out.2.2.2.in_, HL.out.2.2.2.cnt⟩⟩, ?_⟩
    refine Fr.trans (b := wz.drew) ?_ hF (fun b _ q => HL.out.1.hSg b q)
    rw [← HW.out]
    exact ((Fr.refl S w).setCell (fun _ => HL.out.2.2.1) _).drew
  · subst hm
    go_enter Try.func15, Try.ntmps15
    go_wp2_with fail
    obtain ⟨wz, hwz⟩ : ∃ wz, w.setCell ⟨p, 2, none⟩ (.int .i64 mx) = wz := ⟨_, rfl⟩
    rw [hwz] at d1 d2 HL ⊢
    have HW := Lib.hid hwz
    clear hwz
    go_still_tail 8, (by kernel_rfl)
    go_wp2_with fail
    refine HL.out.2.1.mono ?_
    rintro e w1 ⟨rfl, hG, hF⟩
    have H1 := Lib.hid (And.intro hG hF)
    clear hG hF
    go_wp2
    go_end0
    obtain ⟨hG, hF⟩ := H1.out
    have hz : wz.drew.heap.size = w.heap.size := by rw [← HW.out]; simp [World.setCell, World.drew]
    refine ⟨rfl, ⟨⟨g, b1, m, l, o, Sr, _, Sk, (HL.out.1.ghost (hG.mono fun b _ q => Or.inl q) hF).mono fun b _ q => q.imp (fun q => q) (fun q => by rw [hz] at q; exact q)⟩, ⟨HL.out.2.2.2.in_, HL.out.2.2.2.cnt⟩⟩, ?_⟩
    refine Fr.trans (b := wz.drew) ?_ hF (fun b _ q => HL.out.1.hSg b q)
    rw [← HW.out]
    exact ((Fr.refl S w).setCell (fun _ => HL.out.2.2.1) _).drew
end Go.Proofs.Ytlhiglhhnjljpaa
