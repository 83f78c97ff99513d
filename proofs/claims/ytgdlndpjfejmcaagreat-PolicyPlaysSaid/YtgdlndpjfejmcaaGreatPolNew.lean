/- Layer 15 (policy): New. -/
import Derived.Test.YtgdlndpjfejmcaaGreatPolK
namespace Go.Proofs.YtgdlndpjfejmcaaGreat
open Go.RowKit
set_option linter.unusedVariables false
set_option maxRecDepth 100000
def PK.new : Nat → PK
  | 0 => .pl (fun _ => [])
  | 1 => .sg (fun _ => []) (fun _ => false)
  | 2 => .ar Arc.arc0
  | _ => .th Thr.th0
/-- One of a kind, in blocks behind w. -/
theorem pol_made {w w1 : World} {T : TypeId} {x : Value} {k : PK} (hI : Inn k 0 0 T x w1 (fun b => w.heap.size ≤ b ∧ b < w1.heap.size)) (hF : Fr (fun _ => False) w w1) (w' : World) (hw : w' = w1.alloc (.cells #[.iface T x] 44)) :
    PolAt w' (fun b => w.heap.size ≤ b ∧ b < w'.heap.size) w1.heap.size k 0 0 ∧ Fr (fun _ => False) w w' := by
  subst hw
  have hz := hF.size
  refine ⟨⟨T, x, fun b => w.heap.size ≤ b ∧ b < w1.heap.size, ⟨hz, by simp⟩, fun q => by have := q.2; omega, fun b q => ⟨q.1, by have := q.2; simp; omega⟩, heap_alloc_new _ _, hI.alloc _⟩, hF.alloc _⟩
theorem pol_new0 (w : World) : Calls Tryz.prog 5 #[.int .i64 0] w fun e w' => ∃ p, e = .returned (.pointer (some ⟨p, 0, none⟩)) ∧ PolAt w' (fun b => w.heap.size ≤ b ∧ b < w'.heap.size) p (PK.new 0) 0 0 ∧ Fr (fun _ => False) w w' := by
  go_enter Tryz.func5, Tryz.ntmps5
  go_wp2_with fail
  refine (rows_new 1 (by decide) (by decide) _).mono ?_
  rintro e w1 ⟨g, rfl, hA, hF⟩
  have H1 := Lib.hid (And.intro hA hF)
  clear hA hF
  go_wp2
  go_ret
  exact ⟨_, rfl, pol_made (k := PK.pl fun _ => []) ⟨rfl, g, rfl, H1.out.1⟩ H1.out.2 _ rfl⟩
theorem pol_new1 (w : World) : Calls Tryz.prog 5 #[.int .i64 1] w fun e w' => ∃ p, e = .returned (.pointer (some ⟨p, 0, none⟩)) ∧ PolAt w' (fun b => w.heap.size ≤ b ∧ b < w'.heap.size) p (PK.new 1) 0 0 ∧ Fr (fun _ => False) w w' := by
  go_enter Tryz.func5, Tryz.ntmps5
  go_wp2_with fail
  refine (Seg.seg_new _).mono ?_
  rintro e w1 ⟨g, rfl, hA, hF⟩
  have H1 := Lib.hid (And.intro hA hF)
  clear hA hF
  go_wp2
  go_ret
  exact ⟨_, rfl, pol_made (k := PK.sg (fun _ => []) (fun _ => false)) ⟨rfl, g, rfl, H1.out.1⟩ H1.out.2 _ rfl⟩
theorem pol_new2 (w : World) : Calls Tryz.prog 5 #[.int .i64 2] w fun e w' => ∃ p, e = .returned (.pointer (some ⟨p, 0, none⟩)) ∧ PolAt w' (fun b => w.heap.size ≤ b ∧ b < w'.heap.size) p (PK.new 2) 0 0 ∧ Fr (fun _ => False) w w' := by
  go_enter Tryz.func5, Tryz.ntmps5
  go_wp2_with fail
  refine (Arc.arc_new _).mono ?_
  rintro e w1 ⟨g, rfl, hA, hF⟩
  have H1 := Lib.hid (And.intro hA hF)
  clear hA hF
  go_wp2
  go_ret
  exact ⟨_, rfl, pol_made (k := PK.ar Arc.arc0) ⟨rfl, g, rfl, H1.out.1⟩ H1.out.2 _ rfl⟩
theorem pol_new3 (w : World) : Calls Tryz.prog 5 #[.int .i64 3] w fun e w' => ∃ p, e = .returned (.pointer (some ⟨p, 0, none⟩)) ∧ PolAt w' (fun b => w.heap.size ≤ b ∧ b < w'.heap.size) p (PK.new 3) 0 0 ∧ Fr (fun _ => False) w w' := by
  go_enter Tryz.func5, Tryz.ntmps5
  go_wp2_with fail
  refine (Thr.th_new _).mono ?_
  rintro e w1 ⟨g, rfl, hA, hF⟩
  have H1 := Lib.hid (And.intro hA hF)
  clear hA hF
  go_wp2
  go_ret
  exact ⟨_, rfl, pol_made (k := PK.th Thr.th0) ⟨rfl, g, rfl, H1.out.1⟩ H1.out.2 _ rfl⟩
theorem pol_new (n : Nat) (hn : n ≤ 3) (w : World) : Calls Tryz.prog 5 #[.int .i64 n] w fun e w' => ∃ p, e = .returned (.pointer (some ⟨p, 0, none⟩)) ∧ PolAt w' (fun b => w.heap.size ≤ b ∧ b < w'.heap.size) p (PK.new n) 0 0 ∧ Fr (fun _ => False) w w' := by
  match n, hn with
  | 0, _ => exact pol_new0 w
  | 1, _ => exact pol_new1 w
  | 2, _ => exact pol_new2 w
  | 3, _ => exact pol_new3 w
theorem pol_new_no (n : Int) (hn : n < 0 ∨ 3 < n) (w : World) : Calls Tryz.prog 5 #[.int .i64 n] w fun e w' => e = .returned (.pointer none) ∧ w = w' := by
  have h0 : (n == 0) = false := by rw [beq_eq_false_iff_ne]; omega
  have h1 : (n == 1) = false := by rw [beq_eq_false_iff_ne]; omega
  have h2 : (n == 2) = false := by rw [beq_eq_false_iff_ne]; omega
  have h3 : (n == 3) = false := by rw [beq_eq_false_iff_ne]; omega
  go_enter Tryz.func5, Tryz.ntmps5
  go_wp2
  go_ret
  exact ⟨rfl, rfl⟩
end Go.Proofs.YtgdlndpjfejmcaaGreat
