/- TopWins: the small runs. -/
import Derived.Test.YtejebgdikoehmaaGreatDoorWiA
import Derived.KernelRfl
namespace Go.Proofs.YtejebgdikoehmaaGreatDoor
open Go
set_option linter.unusedVariables false
set_option maxRecDepth 100000
def winsTk : Nat → List (Nat × Nat) := fun c => match c with
  | 0 => [(702, 1103), (703, 1060), (704, 1061)]
  | 1 => [(752, 1103), (753, 1060), (754, 1061)]
  | 2 => [(802, 1103), (803, 1060), (804, 1061)]
  | 3 => [(852, 1103), (853, 1060), (854, 1061)]
  | _ => []
def winsLk : Nat → List (Nat × Nat) := fun c => match c with
  | 0 => [(705, 1024)]
  | 1 => [(755, 1024)]
  | 2 => [(805, 1024)]
  | 3 => [(855, 1024)]
  | _ => []
theorem wins_wfB : [0, 1, 2, 3, 4].all (fun k => wfB (winsL.B k 0) && evOk (winsL.ev k 0)) = true := by kernel_rfl
theorem wins_wfC : r4.all (fun c => [0, 1, 2, 3, 4, 5, 6].all fun s => wfC c (winsL.C c s)) = true := by kernel_rfl
theorem wins_take0 : r4.all (fun c => smallOk winsL 0 c 0 1 none (some c) none none (.int .i64 c) (winsTk c) okA) = true := by kernel_rfl
theorem wins_idle0 : r4.all (fun c => [1, 2, 3, 4, 5, 6].all fun s => smallOk winsL 0 c s s none none none none (.int .i64 c) [] okA) = true := by kernel_rfl
theorem wins_lock0 : r4.all (fun c => smallOk winsL 0 c 1 2 (some c) (some c) (some none) (some (some 0)) (.chan (some 0)) (winsLk c) okA) = true := by kernel_rfl
theorem wins_block0 : r4.all (fun c => [1, 2, 3].all fun h => smallOk winsL 0 c 1 1 (some c) (some c) (some (some h)) (some (some h)) (.chan (some 0)) [] okA) = true := by kernel_rfl
theorem wins_leave0 : r4.all (fun c => [3, 5].all fun s => smallOk winsL 0 c s (s + 1) (some c) none (some (some 0)) (some none) (.chan (some 0)) [] okA) = true := by kernel_rfl
theorem wins_take1 : r4.all (fun c => smallOk winsL 1 c 0 1 none (some c) none none (.int .i64 c) (winsTk c) okA) = true := by kernel_rfl
theorem wins_idle1 : r4.all (fun c => [1, 2, 3, 4, 5, 6].all fun s => smallOk winsL 1 c s s none none none none (.int .i64 c) [] okA) = true := by kernel_rfl
theorem wins_lock1 : r4.all (fun c => smallOk winsL 1 c 1 2 (some c) (some c) (some none) (some (some 1)) (.chan (some 0)) (winsLk c) okA) = true := by kernel_rfl
theorem wins_block1 : r4.all (fun c => [0, 2, 3].all fun h => smallOk winsL 1 c 1 1 (some c) (some c) (some (some h)) (some (some h)) (.chan (some 0)) [] okA) = true := by kernel_rfl
theorem wins_leave1 : r4.all (fun c => [3, 5].all fun s => smallOk winsL 1 c s (s + 1) (some c) none (some (some 1)) (some none) (.chan (some 0)) [] okA) = true := by kernel_rfl
theorem wins_take2 : r4.all (fun c => smallOk winsL 2 c 0 1 none (some c) none none (.int .i64 c) (winsTk c) okA) = true := by kernel_rfl
theorem wins_idle2 : r4.all (fun c => [1, 2, 3, 4, 5, 6].all fun s => smallOk winsL 2 c s s none none none none (.int .i64 c) [] okA) = true := by kernel_rfl
theorem wins_lock2 : r4.all (fun c => smallOk winsL 2 c 1 2 (some c) (some c) (some none) (some (some 2)) (.chan (some 0)) (winsLk c) okA) = true := by kernel_rfl
theorem wins_block2 : r4.all (fun c => [0, 1, 3].all fun h => smallOk winsL 2 c 1 1 (some c) (some c) (some (some h)) (some (some h)) (.chan (some 0)) [] okA) = true := by kernel_rfl
theorem wins_leave2 : r4.all (fun c => [3, 5].all fun s => smallOk winsL 2 c s (s + 1) (some c) none (some (some 2)) (some none) (.chan (some 0)) [] okA) = true := by kernel_rfl
theorem wins_take3 : r4.all (fun c => smallOk winsL 3 c 0 1 none (some c) none none (.int .i64 c) (winsTk c) okA) = true := by kernel_rfl
theorem wins_idle3 : r4.all (fun c => [1, 2, 3, 4, 5, 6].all fun s => smallOk winsL 3 c s s none none none none (.int .i64 c) [] okA) = true := by kernel_rfl
theorem wins_lock3 : r4.all (fun c => smallOk winsL 3 c 1 2 (some c) (some c) (some none) (some (some 3)) (.chan (some 0)) (winsLk c) okA) = true := by kernel_rfl
theorem wins_block3 : r4.all (fun c => [0, 1, 2].all fun h => smallOk winsL 3 c 1 1 (some c) (some c) (some (some h)) (some (some h)) (.chan (some 0)) [] okA) = true := by kernel_rfl
theorem wins_leave3 : r4.all (fun c => [3, 5].all fun s => smallOk winsL 3 c s (s + 1) (some c) none (some (some 3)) (some none) (.chan (some 0)) [] okA) = true := by kernel_rfl
end Go.Proofs.YtejebgdikoehmaaGreatDoor
