/- Rows in blocks of their own: what each call does, to be taken one by one. -/
import Derived.Test.YtemdhnolccnnfaaRowsAll
import Derived.Test.YtemdhnolccnnfaaRowsAny
import Derived.Test.YtemdhnolccnnfaaSep
namespace Go.Proofs.Ytemdhnolccnnfaa
open Go.RowKit
set_option linter.unusedVariables false
def RW (g n : Nat) (L : Nat → List Int) (N : Nat) (w : World) (S : Nat → Prop) : Prop := RowsAt w S g n L N
section
variable {w0 w w' : World} {S : Nat → Prop} {g n : Nat} {L L' : Nat → List Int} {N N' : Nat}
theorem rw_drewN (h : Sep (RW g n L N) w0 w S) (k : Nat) : Sep (RW g n L N) w0 (w.drewN k) S := ⟨RowsAt.frame h.at_ fun _ _ _ => rfl, h.fr.drewN k, h.lo, h.hi⟩
theorem rw_keep (h : Sep (RW g n L N) w0 w S) {F : Nat → Prop} (hF : Fr F w w') (hd : ∀ b, b < w.heap.size → S b → ¬ F b) (h0 : ∀ b, b < w0.heap.size → ¬ F b) : Sep (RW g n L N) w0 w' S :=
  h.keep hF hd h0 (fun hA hf => RowsAt.frame hA hf)
theorem rw_below (h : Sep (RW g n L N) w0 w S) (hB : Below w.heap.size w w') : Sep (RW g n L N) w0 w' S :=
  rw_keep h (Fr.of_below hB) (fun b hb _ => by omega) (fun b hb => by have := h.fr.size; omega)
theorem rw_more (h : Sep (RW g n L N) w0 w S) (hN : N ≤ N') : Sep (RW g n L N') w0 w S := h.as (fun hA => RowsAt.more hA hN)
theorem new_rw (n : Nat) (h1 : 1 ≤ n) (h8 : n ≤ 8) (hF : Fr (From w0.heap.size) w0 w) :
    Calls Try.prog 13 #[.int .i64 n] w fun e w' => ∃ g S, e = .returned (.pointer (some ⟨g, 0, none⟩)) ∧ Sep (RW g n (fun _ => []) 0) w0 w' S ∧ (∀ b, S b → w.heap.size ≤ b) ∧ Fr (fun _ => False) w w' :=
  (rows_new n h1 h8 w).mono fun e w' ⟨g, he, hA, hG⟩ => ⟨g, _, he, Sep.new hF hA (fun b q => q) hG, fun b q => q.1, hG⟩
theorem front_rw (h : Sep (RW g n L N) w0 w S) (row id : Int) (hN : N < 1000000) :
    Calls Try.prog 20 #[.pointer (some ⟨g, 0, none⟩), .int .i64 row, .int .i64 id] w fun e w' => e = .returned (.bool (mayIn n row id)) ∧ Sep (RW g n (frontL n L row id) (N + 1)) w0 w' (grow S w w') ∧ Fr S w w' :=
  (rows_front _ g n L N row id w h.at_ hN).mono fun e w' ⟨he, hA, hF⟩ => ⟨he, h.next hA hF, hF⟩
theorem take_rw (h : Sep (RW g n L N) w0 w S) (id : Int) (hN : N ≤ 1000000) :
    Calls Try.prog 28 #[.pointer (some ⟨g, 0, none⟩), .int .i64 id] w fun e w' => e = .returned (.bool (decide (0 ≤ rowOf n L id))) ∧ Sep (RW g n (del L id) N) w0 w' (grow S w w') ∧ Fr S w w' :=
  (rows_take _ g n L N id w h.at_ hN).mono fun e w' ⟨he, hA, hF⟩ => ⟨he, h.next hA hF, hF⟩
theorem row_rw (h : Sep (RW g n L N) w0 w S) (id : Int) :
    Calls Try.prog 16 #[.pointer (some ⟨g, 0, none⟩), .int .i64 id] w fun e w' => e = .returned (.int .i64 (rowOf n L id)) ∧ w = w' := rows_row _ g n L N id w h.at_
theorem len_rw (h : Sep (RW g n L N) w0 w S) (row : Int) :
    Calls Try.prog 23 #[.pointer (some ⟨g, 0, none⟩), .int .i64 row] w fun e w' => e = .returned (.int .i64 (rowL L row).length) ∧ w = w' := rows_len _ g n L N row w h.at_
theorem last_rw (h : Sep (RW g n L N) w0 w S) (row : Int) :
    Calls Try.prog 24 #[.pointer (some ⟨g, 0, none⟩), .int .i64 row] w fun e w' => ∃ k, e = .returned (.int .i64 (lastOf (rowL L row))) ∧ w' = w.drewN k ∧ Sep (RW g n L N) w0 w' S :=
  (rows_last _ g n L N row w h.at_).mono fun e w' ⟨he, k, hk⟩ => ⟨k, he, hk, hk ▸ rw_drewN h k⟩
theorem all_rw (h : Sep (RW g n L N) w0 w S) (row : Int) (hN : N ≤ 1000000) :
    Calls Try.prog 9 #[.pointer (some ⟨g, 0, none⟩), .int .i64 row] w fun e w' => ∃ v, e = .returned v ∧ Held w0 w' S 3 1 v (rowL L row).length ((rowL L row).map (Value.int .i64)) ∧ Sep (RW g n L N) w0 w' S ∧ Fr (fun b => w.heap.size ≤ b) w w' :=
  (rows_all _ g n L N row w h.at_ hN).mono fun e w' ⟨v, he, hs, hB⟩ => ⟨v, he, Held.new h hs, rw_below h hB, Fr.of_below hB⟩
end
end Go.Proofs.Ytemdhnolccnnfaa
