/- The reference of layer 10 (rows): First. -/
import Derived.Test.YtldnacphfoagnaaRfC
import Derived.Test.YtldnacphfoagnaaRowsFirst
namespace Go.Proofs.Ytldnacphfoagnaa
open Go.RowKit
set_option linter.unusedVariables false
theorem rf_first (S : Nat → Prop) (r n : Nat) (L : Nat → List Int) (row : Int) (w : World) (h : Rf w S r n L) (hN : (rowL L row).length ≤ 1000000) :
    Calls Try.prog 26 #[.pointer (some ⟨r, 0, none⟩), .int .i64 row] w fun e w' => e = .returned (.int .i64 (firstOf (rowL L row))) ∧ w = w' := by
  have HA := Lib.hid (rf_all S r n L row w h)
  clear h
  obtain ⟨l, hl⟩ : ∃ l, rowL L row = l := ⟨_, rfl⟩
  rw [hl] at HA hN ⊢
  clear hl
  match l, HA, hN with
  | [], HA, _ =>
    go_enter Try.func26, Try.ntmps26
    go_wp2_with fail
    refine HA.out.mono ?_
    rintro e w1 ⟨a, cap, rfl, _, rfl⟩
    go_wp2
    go_ret
    exact ⟨rfl, rfl⟩
  | x :: l, HA, hN =>
    have h0 : ((x :: l).length == 0) = false := rfl
    obtain ⟨m, hm⟩ : ∃ m, (x :: l).length = m := ⟨_, rfl⟩
    have hmp : 0 < m := by rw [← hm]; simp
    have h0' : ((m : Int) == 0) = false := by rw [beq_eq_false_iff_ne]; omega
    have h0'' : (m == 0) = false := by rw [beq_eq_false_iff_ne]; omega
    have hm1 : m ≤ 1000000 := hm ▸ hN
    go_enter Try.func26, Try.ntmps26
    go_wp2_with fail
    refine HA.out.mono ?_
    rintro e w1 ⟨a, cap, rfl, hs, rfl⟩
    obtain ⟨a', cap', hv, hat⟩ := sl_at hs
    simp at hv
    obtain ⟨rfl, rfl⟩ := hv
    obtain ⟨b, off, rfl, hb, _, hc, _⟩ := hat 0 x rfl
    rw [hm]
    rw [Nat.add_zero] at hc
    clear hat hs hm hN h0 HA
    go_wp2
    go_ret
    exact ⟨rfl, rfl⟩
end Go.Proofs.Ytldnacphfoagnaa
