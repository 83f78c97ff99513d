/- Rows that lie behind a world: what each call does, to be taken one by one. -/
import Derived.Test.YtldnacphfoagnaaRowsAll
import Derived.Test.YtldnacphfoagnaaRowsAny
import Derived.Test.YtldnacphfoagnaaRowsAnyB
import Derived.Test.YtldnacphfoagnaaRowsFirst
import Derived.Test.YtldnacphfoagnaaOwn
namespace Go.Proofs.Ytldnacphfoagnaa
open Go.RowKit
set_option linter.unusedVariables false
/-- Rows that lie behind w0; what lay there lies as it lay. -/
structure RO (w0 w : World) (g n : Nat) (L : Nat → List Int) (N : Nat) : Prop where
  at_ : RowsAt w (From w0.heap.size) g n L N
  fr : Fr (From w0.heap.size) w0 w
section
variable {w0 w w' : World} {g n : Nat} {L L' : Nat → List Int} {N N' : Nat}
theorem RO.next (h : RO w0 w g n L N) (hA : RowsAt w' (grow (From w0.heap.size) w w') g n L' N') (hF : Fr (From w0.heap.size) w w') : RO w0 w' g n L' N' :=
  ⟨hA.mono fun b _ q => grow_from h.fr.size q, h.fr.trans hF fun _ _ q => q⟩
theorem RO.more (h : RO w0 w g n L N) (hN : N ≤ N') : RO w0 w g n L N' := ⟨h.at_.more hN, h.fr⟩
theorem RO.drewN (h : RO w0 w g n L N) (k : Nat) : RO w0 (w.drewN k) g n L N := ⟨h.at_.frame fun _ _ _ => rfl, h.fr.drewN k⟩
/-- What is new elsewhere does not matter. -/
theorem RO.keep (h : RO w0 w g n L N) {F : Nat → Prop} (hF : Fr F w w') (hd : ∀ b, b < w.heap.size → ¬ F b) : RO w0 w' g n L N :=
  ⟨h.at_.fr hF fun b hb _ => hd b hb, h.fr.trans hF fun b hb q => absurd q (hd b (Nat.lt_of_lt_of_le hb h.fr.size))⟩
theorem RO.below (h : RO w0 w g n L N) : Below w0.heap.size w0 w := h.fr.below (Nat.le_refl _) fun b _ q => q
theorem new_ro (n : Nat) (h1 : 1 ≤ n) (h8 : n ≤ 8) (hF : Fr (From w0.heap.size) w0 w) :
    Calls Try.prog 9 #[.int .i64 n] w fun e w' => ∃ g, e = .returned (.pointer (some ⟨g, 0, none⟩)) ∧ RO w0 w' g n (fun _ => []) 0 :=
  (rows_new n h1 h8 w).mono fun e w' ⟨g, he, hA, hG⟩ => ⟨g, he, hA.mono fun b _ q => Nat.le_trans hF.size q.1, hF.trans hG fun _ _ q => q.elim⟩
theorem front_ro (h : RO w0 w g n L N) (row id : Int) (hN : N < 1000000) :
    Calls Try.prog 13 #[.pointer (some ⟨g, 0, none⟩), .int .i64 row, .int .i64 id] w fun e w' => e = .returned (.bool (mayIn n row id)) ∧ RO w0 w' g n (frontL n L row id) (N + 1) :=
  (rows_front _ g n L N row id w h.at_ hN).mono fun e w' ⟨he, hA, hF⟩ => ⟨he, h.next hA hF⟩
theorem back_ro (h : RO w0 w g n L N) (row id : Int) (hN : N < 1000000) :
    Calls Try.prog 10 #[.pointer (some ⟨g, 0, none⟩), .int .i64 row, .int .i64 id] w fun e w' => e = .returned (.bool (mayIn n row id)) ∧ RO w0 w' g n (backL n L row id) (N + 1) :=
  (rows_back _ g n L N row id w h.at_ hN).mono fun e w' ⟨he, hA, hF⟩ => ⟨he, h.next hA hF⟩
theorem take_ro (h : RO w0 w g n L N) (id : Int) (hN : N ≤ 1000000) :
    Calls Try.prog 17 #[.pointer (some ⟨g, 0, none⟩), .int .i64 id] w fun e w' => e = .returned (.bool (decide (0 ≤ rowOf n L id))) ∧ RO w0 w' g n (del L id) N :=
  (rows_take _ g n L N id w h.at_ hN).mono fun e w' ⟨he, hA, hF⟩ => ⟨he, h.next hA hF⟩
theorem row_ro (h : RO w0 w g n L N) (id : Int) :
    Calls Try.prog 19 #[.pointer (some ⟨g, 0, none⟩), .int .i64 id] w fun e w' => e = .returned (.int .i64 (rowOf n L id)) ∧ w = w' := rows_row _ g n L N id w h.at_
theorem len_ro (h : RO w0 w g n L N) (row : Int) :
    Calls Try.prog 23 #[.pointer (some ⟨g, 0, none⟩), .int .i64 row] w fun e w' => e = .returned (.int .i64 (rowL L row).length) ∧ w = w' := rows_len _ g n L N row w h.at_
theorem first_ro (h : RO w0 w g n L N) (row : Int) :
    Calls Try.prog 25 #[.pointer (some ⟨g, 0, none⟩), .int .i64 row] w fun e w' => ∃ k, e = .returned (.int .i64 (firstOf (rowL L row))) ∧ w' = w.drewN k ∧ RO w0 w' g n L N :=
  (rows_first _ g n L N row w h.at_).mono fun e w' ⟨he, k, hk⟩ => ⟨k, he, hk, hk ▸ h.drewN k⟩
theorem last_ro (h : RO w0 w g n L N) (row : Int) :
    Calls Try.prog 12 #[.pointer (some ⟨g, 0, none⟩), .int .i64 row] w fun e w' => ∃ k, e = .returned (.int .i64 (lastOf (rowL L row))) ∧ w' = w.drewN k ∧ RO w0 w' g n L N :=
  (rows_last _ g n L N row w h.at_).mono fun e w' ⟨he, k, hk⟩ => ⟨k, he, hk, hk ▸ h.drewN k⟩
theorem all_ro (h : RO w0 w g n L N) (row : Int) (hN : N ≤ 1000000) :
    Calls Try.prog 11 #[.pointer (some ⟨g, 0, none⟩), .int .i64 row] w fun e w' => ∃ v, e = .returned v ∧ Sl w' (fun b => w.heap.size ≤ b) 3 1 v (rowL L row).length ((rowL L row).map (Value.int .i64)) ∧ RO w0 w' g n L N ∧ Below w.heap.size w w' :=
  (rows_all _ g n L N row w h.at_ hN).mono fun e w' ⟨v, he, hs, hB⟩ => ⟨v, he, hs, h.keep (Fr.of_below hB) (fun b hb => by omega), hB⟩
end
end Go.Proofs.Ytldnacphfoagnaa
