/- Layer 12: what must be in any case. -/
import Derived.Test.YtldnacphfoagnacSegSep
namespace Go.Proofs.Ytldnacphfoagnac
open Go.RowKit
set_option linter.unusedVariables false
def shI : Nat → (Nat → List Int)
  | 0 => fun _ => []
  | k + 1 => insL (shI k) (k + 1)
def shS : Nat → (Nat → List Int) × (Int → Bool)
  | 0 => (shI 5, fun _ => false)
  | k + 1 => (stepL (shS k).1 (shS k).2, stepA (shS k).1 (shS k).2)
theorem sh0 : ∀ k, k < 4 → decide (0 ≤ whoF (shS k).1 (shS k).2) = true
  | 0, _ => by decide
  | 1, _ => by decide
  | 2, _ => by decide
  | 3, _ => by decide
theorem sh4 : decide (0 ≤ whoF (shS 4).1 (shS 4).2) = false := by decide
theorem shv : vict (shS 4).1 = 1 := by decide
set_option maxRecDepth 20000 in
theorem sht : decide (0 ≤ whoF (shS 4).1 (touA (shS 4).1 (shS 4).2 1)) = true := by decide
set_option maxRecDepth 20000 in
theorem shv2 : vict (stepL (shS 4).1 (touA (shS 4).1 (shS 4).2 1)) = 2 := by decide
set_option maxRecDepth 20000 in
theorem sha : stepA (shS 4).1 (touA (shS 4).1 (shS 4).2 1) 1 = false := by decide
theorem sg_keep_no {w0 w : World} {S : Nat → Prop} {p N : Nat} (h : Sep (SG p (stepL (shS 4).1 (shS 4).2) (stepA (shS 4).1 (shS 4).2) N) w0 w S) : Sep (SG p (shS 4).1 (shS 4).2 N) w0 w S := by
  have h0 : whoF (shS 4).1 (shS 4).2 < 0 := by have := of_decide_eq_false sh4; omega
  unfold stepL stepA at h
  rw [if_pos h0, if_pos h0] at h
  exact h
set_option maxRecDepth 100000 in
set_option maxHeartbeats 2000000 in
theorem shown_any (w : World) :
    Calls Try.prog 8 #[] w fun e w' => e = .returned (.bool true) ∧ Fr (fun _ => False) w w' := by
  go_enter Try.func8, Try.ntmps8
  go_wp2_with fail
  refine (new_sg (w0 := w) (Fr.refl _ _)).mono ?_
  rintro e w1 ⟨p, S, rfl, h, _, _⟩
  have H := Lib.hid h
  clear h
  go_wp2_with fail
  go_loopw [2] (fun s wr => ∃ (k : Nat) (S : Nat → Prop), k ≤ 5 ∧ s = .int .i64 ((k : Int) + 1) ∧ Sep (SG p (shI k) (fun _ => false) k) w wr S) (fun s _ => 7 - (intOf s).toNat)
  case atStart => exact ⟨0, S, by omega, rfl, H.out⟩
  case round =>
    clear H
    obtain ⟨k, S, hk, rfl, h⟩ := hrel
    have H := Lib.hid h
    clear h
    by_cases hlt : k < 5
    · go_wp2_with fail
      refine (insert_sg H.out ((k : Int) + 1) (by omega)).mono ?_
      rintro e w2 ⟨rfl, h, _⟩
      have H2 := Lib.hid h
      clear h
      go_wp2_with fail
      go_roundw
      case rel => exact ⟨k + 1, _, by omega, by go_num, H2.out⟩
      case measure => simp [intOf]; omega
    · obtain rfl : k = 5 := by omega
      have hge : ¬ ((5 : Int) + 1 ≤ 5) := by omega
      obtain ⟨wz, rfl⟩ : ∃ wz : World, wz = wr := ⟨_, rfl⟩
      go_wp2_with fail
      go_loopw [3] (fun s wr => ∃ (j : Nat) (S : Nat → Prop), j ≤ 4 ∧ s = .int .i64 j ∧ Sep (SG p (shS j).1 (shS j).2 (5 + j)) w wr S) (fun s _ => 9 - (intOf s).toNat)
      case atStart => exact ⟨0, S, by omega, rfl, H.out⟩
      case round =>
        clear H
        obtain ⟨j, S, hj, rfl, h⟩ := hrel
        have H := Lib.hid h
        clear h
        by_cases hjl : j < 4
        · have HD := Lib.hid (sh0 j hjl)
          go_wp2_with fail
          refine (step_sg H.out (by omega)).mono ?_
          rintro e w2 ⟨rfl, h, _⟩
          have H2 := Lib.hid h
          clear h
          rw [HD.out]
          go_wp2_with fail
          go_roundw
          case rel => exact ⟨j + 1, _, by omega, by go_num, H2.out⟩
          case measure => simp [intOf]; omega
        · obtain rfl : j = 4 := by omega
          go_wp2_with fail
          refine (step_sg H.out (by omega)).mono ?_
          rintro e w2 ⟨rfl, h, _⟩
          have H2 := Lib.hid (sg_keep_no h)
          clear h
          rw [sh4]
          go_wp2_with fail
          refine (victim_sg H2.out).mono ?_
          rintro e w3 ⟨q3, rfl, rfl, h⟩
          have H3 := Lib.hid h
          clear h
          rw [shv]
          go_wp2_with fail
          refine (touch_sg H3.out 1).mono ?_
          rintro e w4 ⟨rfl, h, _⟩
          have H4 := Lib.hid h
          clear h
          go_wp2_with fail
          refine (step_sg H4.out (by omega)).mono ?_
          rintro e w5 ⟨rfl, h, _⟩
          have H5 := Lib.hid h
          clear h
          rw [sht]
          go_wp2_with fail
          refine (victim_sg H5.out).mono ?_
          rintro e w6 ⟨q6, rfl, rfl, h⟩
          have H6 := Lib.hid h
          clear h
          rw [shv2]
          go_wp2_with fail
          refine (active_sg H6.out 1).mono ?_
          rintro e w7 ⟨rfl, rfl⟩
          have ha : stepA (shS 4).1 (touA (shS 4).1 (shS 4).2 1) 1 = false := sha
          rw [ha]
          go_wp2
          go_ret
          exact ⟨rfl, H6.out.fr.mono fun k hk q => by unfold From at q; omega⟩
end Go.Proofs.Ytldnacphfoagnac
