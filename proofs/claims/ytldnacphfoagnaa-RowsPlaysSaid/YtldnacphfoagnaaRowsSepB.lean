/- Rows in blocks of their own: First and Back. -/
import Derived.Test.YtldnacphfoagnaaRowsSep
import Derived.Test.YtldnacphfoagnaaRowsAnyB
import Derived.Test.YtldnacphfoagnaaRowsFirst
namespace Go.Proofs.Ytldnacphfoagnaa
open Go.RowKit
set_option linter.unusedVariables false
section
variable {w0 w w' : World} {S : Nat → Prop} {g n : Nat} {L L' : Nat → List Int} {N N' : Nat}
theorem back_rw (h : Sep (RW g n L N) w0 w S) (row id : Int) (hN : N < 1000000) :
    Calls Try.prog 10 #[.pointer (some ⟨g, 0, none⟩), .int .i64 row, .int .i64 id] w fun e w' => e = .returned (.bool (mayIn n row id)) ∧ Sep (RW g n (backL n L row id) (N + 1)) w0 w' (grow S w w') ∧ Fr S w w' :=
  (rows_back _ g n L N row id w h.at_ hN).mono fun e w' ⟨he, hA, hF⟩ => ⟨he, h.next hA hF, hF⟩
theorem first_rw (h : Sep (RW g n L N) w0 w S) (row : Int) :
    Calls Try.prog 25 #[.pointer (some ⟨g, 0, none⟩), .int .i64 row] w fun e w' => ∃ k, e = .returned (.int .i64 (firstOf (rowL L row))) ∧ w' = w.drewN k ∧ Sep (RW g n L N) w0 w' S :=
  (rows_first _ g n L N row w h.at_).mono fun e w' ⟨he, k, hk⟩ => ⟨k, he, hk, hk ▸ rw_drewN h k⟩
end
end Go.Proofs.Ytldnacphfoagnaa
