/- Layer 10 (rows): Front and Back, whatever comes. -/
import Derived.Test.YtemdhnolccnnfaaRowsNew
namespace Go.Proofs.Ytemdhnolccnnfaa
open Go.RowKit
set_option linter.unusedVariables false
def frontL (n : Nat) (L : Nat → List Int) (row id : Int) : Nat → List Int := if mayIn n row id then putF (del L id) row.toNat id else L
def backL (n : Nat) (L : Nat → List Int) (row id : Int) : Nat → List Int := if mayIn n row id then putB (del L id) row.toNat id else L
set_option maxHeartbeats 1000000 in
theorem rows_front_no (S : Nat → Prop) (g n : Nat) (L : Nat → List Int) (N : Nat) (row id : Int) (w : World) (hG : RowsAt w S g n L N) (hno : mayIn n row id = false) :
    Calls Try.prog 20 #[.pointer (some ⟨g, 0, none⟩), .int .i64 row, .int .i64 id] w fun e w' => e = .returned (.bool false) ∧ w = w' := by
  have hm := (mayIn_iff hno).2 rfl
  have HC := Lib.hid (rows_has S g n L N row w hG)
  clear hno hG
  by_cases h : 0 ≤ row ∧ row < (n : Int)
  · have HD := Lib.hid (decide_eq_true h)
    by_cases h0 : id < 0
    · clear hm h
      go_enter Try.func20, Try.ntmps20
      go_wp2_with (go_at_call 21; refine HC.out.mono ?_; rintro e w' ⟨rfl, rfl⟩; rw [HD.out])
      go_ret
      exact ⟨rfl, rfl⟩
    · have h1 : 4194303 < id := by omega
      have h2 : decide (id < 0) = false := decide_eq_false h0
      clear hm h h0
      go_enter Try.func20, Try.ntmps20
      go_wp2_with (go_at_call 21; refine HC.out.mono ?_; rintro e w' ⟨rfl, rfl⟩; rw [HD.out])
      go_ret
      exact ⟨rfl, rfl⟩
  · have HD := Lib.hid (decide_eq_false h)
    clear hm h
    go_enter Try.func20, Try.ntmps20
    go_wp2_with (go_at_call 21; refine HC.out.mono ?_; rintro e w' ⟨rfl, rfl⟩; rw [HD.out])
    go_ret
    exact ⟨rfl, rfl⟩
/-- Front (J1). -/
theorem rows_front (S : Nat → Prop) (g n : Nat) (L : Nat → List Int) (N : Nat) (row id : Int) (w : World) (hG : RowsAt w S g n L N) (hN1 : N < 1000000) :
    Calls Try.prog 20 #[.pointer (some ⟨g, 0, none⟩), .int .i64 row, .int .i64 id] w fun e w' => e = .returned (.bool (mayIn n row id)) ∧ RowsAt w' (grow S w w') g n (frontL n L row id) (N + 1) ∧ Fr S w w' := by
  rcases hm : mayIn n row id with _ | _
  · refine (rows_front_no S g n L N row id w hG hm).mono fun e w' ⟨he, hw⟩ => ?_
    subst hw
    unfold frontL
    rw [hm]
    exact ⟨he, (hG.mono fun b _ h => Or.inl h).more (Nat.le_succ _), Fr.refl _ _⟩
  · obtain ⟨h1, h2⟩ := (mayIn_iff hm).1 rfl
    obtain ⟨r, rfl⟩ : ∃ r : Nat, row = r := ⟨row.toNat, by omega⟩
    unfold frontL
    rw [hm, if_pos rfl, Int.toNat_natCast]
    exact rows_front_ok S g n L N r id w hG (by omega) h2 hN1
end Go.Proofs.Ytemdhnolccnnfaa
