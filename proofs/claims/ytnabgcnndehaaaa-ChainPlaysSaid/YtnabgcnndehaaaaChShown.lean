/- Layer 9 (chain): the law's own first case. -/
import Derived.Test.YtnabgcnndehaaaaChSep
namespace Go.Proofs.Ytnabgcnndehaaaa
open Go.RowKit
set_option linter.unusedVariables false
def lt (k : Nat) : ByteArray := ByteArray.mk #[UInt8.ofNat (97 + k)]
def shS : Nat → ChS
  | 0 => ch0
  | k + 1 => setS (shS k) (lt k) k
def sh7 : ChS := setS (shS 6) (lt 6) 6
def sh8 : ChS := stepS sh7
def sh9 : ChS := delS sh8 (lt 2)
set_option maxRecDepth 100000 in
theorem sh6_pw : (shS 6).pw = 2 := by kernel_rfl
set_option maxRecDepth 100000 in
theorem sh6_n : (shS 6).n = 6 := by kernel_rfl
set_option maxRecDepth 100000 in
theorem sh6_m : movedS (shS 6) = -1 := by kernel_rfl
set_option maxRecDepth 100000 in
theorem sh7_pw : sh7.pw = 3 := by kernel_rfl
set_option maxRecDepth 100000 in
theorem sh7_m : movedS sh7 = 0 := by kernel_rfl
set_option maxRecDepth 100000 in
theorem sh7_l : look sh7 (lt 2) = some 2 := by kernel_rfl
set_option maxRecDepth 100000 in
theorem sh8_g : (stepS sh7).g = true := by kernel_rfl
set_option maxRecDepth 100000 in
theorem sh8_n : sh8.n = 7 := by kernel_rfl
set_option maxRecDepth 100000 in
theorem sh8_l : (look sh8 (lt 2)).isSome = true := by kernel_rfl
set_option maxRecDepth 100000 in
theorem sh9_l : (look sh9 (lt 2)).isSome = false := by kernel_rfl
set_option maxRecDepth 100000 in
theorem sh9_n : sh9.n = 6 := by kernel_rfl
/-- The letters stay. -/
def Kq (lb : Nat) (z : World) (S : Nat → Prop) : Prop := lb < z.heap.size ∧ ¬ S lb ∧ ∀ k, k < 6 → z.cell? ⟨lb, k, none⟩ = some (.string (lt k))
theorem Kq.step {lb : Nat} {z z' : World} {S : Nat → Prop} (h : Kq lb z S) (hF : Fr S z z') : Kq lb z' (grow S z z') :=
  ⟨Nat.lt_of_lt_of_le h.1 hF.size, fun q => q.elim h.2.1 (fun q => by have := h.1; have := q.1; omega), fun k hk => (hF.cell (p := ⟨lb, k, none⟩) h.1 h.2.1).trans (h.2.2 k hk)⟩
theorem shS_n : ∀ k, k ≤ 6 → -1000000 ≤ (shS k).n ∧ (shS k).n < 1000000 := by
  have h : ∀ k, -1 ≤ (shS k).n ∧ (shS k).n ≤ k := by
    intro k
    induction k with
    | zero => decide
    | succ k ih =>
      have := (look_set (s := shS k) (lt k) (lt k) k).2
      show -1 ≤ (setS (shS k) (lt k) k).n ∧ (setS (shS k) (lt k) k).n ≤ ((k + 1 : Nat) : Int)
      rw [this]
      split <;> omega
  intro k hk
  have := h k
  omega
set_option maxRecDepth 100000 in
set_option maxHeartbeats 4000000 in
theorem shown_any (w : World) : Calls Try.prog 8 #[] w fun e w' => e = .returned (.bool true) ∧ Fr (fun _ => False) w w' := by
  go_enter Try.func8, Try.ntmps8
  go_wp2_with fail
  refine (new_ct (w0 := w) (Fr.refl _ w)).mono ?_
  rintro e w1 ⟨t, S, rfl, h, _, _⟩
  have H := Lib.hid h
  clear h
  go_upto_block 0 with fail
  obtain ⟨o, ho⟩ : ∃ o, Obj.cells #[.string (ByteArray.mk #[97]), .string (ByteArray.mk #[98]), .string (ByteArray.mk #[99]), .string (ByteArray.mk #[100]), .string (ByteArray.mk #[101]), .string (ByteArray.mk #[102])] 9 = o := ⟨_, rfl⟩
  have h2 : Sep (CT t ch0) w (w1.alloc o) S := sep_fr (ct_frm t ch0) H.out ((Fr.refl _ w1).alloc o)
  have hq : Kq w1.heap.size (w1.alloc o) S := by
    refine ⟨by simp, fun g => by have := H.out.hi _ g; omega, fun k hk => ?_⟩
    rw [cell_of_heap (heap_alloc_new w1 o |>.trans (by rw [← ho]))]
    match k, hk with
    | 0, _ => rfl
    | 1, _ => rfl
    | 2, _ => rfl
    | 3, _ => rfl
    | 4, _ => rfl
    | 5, _ => rfl
  obtain ⟨lb, hlb⟩ : ∃ lb, w1.heap.size = lb := ⟨_, rfl⟩
  rw [hlb] at hq
  rw [ho, hlb]
  obtain ⟨w2, hw2⟩ : ∃ w2, w1.alloc o = w2 := ⟨_, rfl⟩
  rw [hw2] at h2 hq ⊢
  have H2 := Lib.hid (And.intro h2 hq)
  clear h2 hq hlb hw2 ho H
  go_wp2_with fail
  go_loopw [3] (fun i wr => ∃ (k : Nat) (S' : Nat → Prop), k ≤ 6 ∧ i = .int .i64 k ∧ Sep (CT t (shS k)) w wr S' ∧ Kq lb wr S') (fun i _ => 6 - (intOf i).toNat)
  case atStart => exact ⟨0, S, by omega, rfl, H2.out.1, H2.out.2⟩
  case round =>
    clear H2
    obtain ⟨k, S', hk, rfl, h, hq⟩ := hrel
    have Hk := Lib.hid (And.intro h hq)
    by_cases hlt : k < 6
    · have hc := hq.2.2 k hlt
      clear h hq
      go_wp2_with fail
      refine (set_ct Hk.out.1 (lt k) k (by show 1 ≤ _; omega) (shS_n k hk)).mono ?_
      rintro e w3 ⟨rfl, h, hF⟩
      have H3 := Lib.hid (And.intro (show Sep (CT t (shS (k + 1))) w w3 _ from h) (Hk.out.2.step hF))
      clear h hF
      go_wp2_with fail
      go_roundw
      case rel => exact ⟨k + 1, _, by omega, by go_num, H3.out.1, H3.out.2⟩
      case measure => simp [intOf]; omega
    · obtain rfl : k = 6 := by omega
      clear h hq hlt
      obtain ⟨w3, rfl⟩ : ∃ wo : World, wo = wr := ⟨_, rfl⟩
      go_wp2_with fail
      refine (power_ct Hk.out.1).mono ?_
      rintro e w4 ⟨rfl, rfl⟩
      rw [sh6_pw]
      go_wp2_with fail
      refine (len_ct Hk.out.1).mono ?_
      rintro e w4 ⟨rfl, rfl⟩
      rw [sh6_n]
      go_wp2_with fail
      refine (moved_ct Hk.out.1).mono ?_
      rintro e w4 ⟨rfl, rfl⟩
      rw [sh6_m]
      go_wp2_with fail
      refine (set_ct Hk.out.1 (lt 6) 6 (by show 1 ≤ _; omega) (shS_n 6 (by decide))).mono ?_
      rintro e w4 ⟨rfl, h, _⟩
      have H4 := Lib.hid (show Sep (CT t sh7) w w4 _ from h)
      clear h
      go_wp2_with fail
      refine (get_ct H4.out (lt 2) (by show 1 ≤ _; omega)).mono ?_
      rintro e w5 ⟨rfl, q, rfl, h⟩
      rw [sh7_l]
      have H5 := Lib.hid h
      clear h
      go_wp2_with fail
      refine (power_ct H5.out).mono ?_
      rintro e w6 ⟨rfl, rfl⟩
      rw [sh7_pw]
      go_wp2_with fail
      refine (moved_ct H5.out).mono ?_
      rintro e w6 ⟨rfl, rfl⟩
      rw [sh7_m]
      go_wp2_with fail
      refine (step_ct H5.out).mono ?_
      rintro e w6 ⟨rfl, h, _⟩
      rw [sh8_g]
      have H6 := Lib.hid (show Sep (CT t sh8) w w6 _ from h)
      clear h
      go_wp2_with fail
      refine (delete_ct H6.out (lt 2) (by show 1 ≤ _; omega) (by rw [sh8_n]; decide)).mono ?_
      rintro e w7 ⟨rfl, h, _⟩
      rw [sh8_l]
      have H7 := Lib.hid (show Sep (CT t sh9) w w7 _ from h)
      clear h
      go_wp2_with fail
      refine (delete_ct H7.out (lt 2) (by show 1 ≤ _; omega) (by rw [sh9_n]; decide)).mono ?_
      rintro e w8 ⟨rfl, h, _⟩
      rw [sh9_l]
      have H8 := Lib.hid h
      clear h
      go_wp2_with fail
      go_ret
      exact ⟨rfl, H8.out.fr.mono fun b hb q => by unfold From at q; omega⟩
end Go.Proofs.Ytnabgcnndehaaaa
