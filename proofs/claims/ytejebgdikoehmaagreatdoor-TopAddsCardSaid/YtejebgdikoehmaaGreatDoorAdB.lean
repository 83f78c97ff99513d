/- TopAdds, the adds: the small runs. -/
import Derived.Test.YtejebgdikoehmaaGreatDoorAdA
import Derived.KernelRfl
namespace Go.Proofs.YtejebgdikoehmaaGreatDoor
open Go
set_option linter.unusedVariables false
set_option maxRecDepth 100000
def addsTk : Nat → List (Nat × Nat) := fun c => match c with
  | 0 => [(702, 1152), (703, 1100)]
  | 1 => [(752, 1152), (753, 1100)]
  | 2 => [(802, 1152), (803, 1100)]
  | 3 => [(852, 1152), (853, 1100)]
  | _ => []
def addsLk : Nat → List (Nat × Nat) := fun c => match c with
  | 0 => [(704, 1024)]
  | 1 => [(754, 1024)]
  | 2 => [(804, 1024)]
  | 3 => [(854, 1024)]
  | _ => []
theorem adds_wfB : r4.all (fun w1 => r4.all fun win => [0, 1, 2, 3, 4].all fun k => wfB ((addsL w1).B k win) && evOk ((addsL w1).ev k win)) = true := by kernel_rfl
theorem adds_wfC : r4.all (fun c => [0, 1, 2, 3, 4, 5, 6].all fun s => wfC c ((addsL 0).C c s)) = true := by kernel_rfl
theorem adds_take0 : r4.all (fun c => smallOk (addsL 0) 0 c 0 1 none (some c) none none (.int .i64 c) (addsTk c) okA) = true := by kernel_rfl
theorem adds_idle0 : r4.all (fun c => [1, 2, 3, 4, 5, 6].all fun s => smallOk (addsL 0) 0 c s s none none none none (.int .i64 c) [] okA) = true := by kernel_rfl
theorem adds_lock0 : r4.all (fun c => smallOk (addsL 0) 0 c 1 2 (some c) (some c) (some none) (some (some 0)) (.chan (some 0)) (addsLk c) okA) = true := by kernel_rfl
theorem adds_block0 : r4.all (fun c => [1, 2, 3].all fun h => smallOk (addsL 0) 0 c 1 1 (some c) (some c) (some (some h)) (some (some h)) (.chan (some 0)) [] okA) = true := by kernel_rfl
theorem adds_leave0 : r4.all (fun c => [3, 5].all fun s => smallOk (addsL 0) 0 c s (s + 1) (some c) none (some (some 0)) (some none) (.chan (some 0)) [] okA) = true := by kernel_rfl
theorem adds_take1 : r4.all (fun c => smallOk (addsL 0) 1 c 0 1 none (some c) none none (.int .i64 c) (addsTk c) okA) = true := by kernel_rfl
theorem adds_idle1 : r4.all (fun c => [1, 2, 3, 4, 5, 6].all fun s => smallOk (addsL 0) 1 c s s none none none none (.int .i64 c) [] okA) = true := by kernel_rfl
theorem adds_lock1 : r4.all (fun c => smallOk (addsL 0) 1 c 1 2 (some c) (some c) (some none) (some (some 1)) (.chan (some 0)) (addsLk c) okA) = true := by kernel_rfl
theorem adds_block1 : r4.all (fun c => [0, 2, 3].all fun h => smallOk (addsL 0) 1 c 1 1 (some c) (some c) (some (some h)) (some (some h)) (.chan (some 0)) [] okA) = true := by kernel_rfl
theorem adds_leave1 : r4.all (fun c => [3, 5].all fun s => smallOk (addsL 0) 1 c s (s + 1) (some c) none (some (some 1)) (some none) (.chan (some 0)) [] okA) = true := by kernel_rfl
theorem adds_take2 : r4.all (fun c => smallOk (addsL 0) 2 c 0 1 none (some c) none none (.int .i64 c) (addsTk c) okA) = true := by kernel_rfl
theorem adds_idle2 : r4.all (fun c => [1, 2, 3, 4, 5, 6].all fun s => smallOk (addsL 0) 2 c s s none none none none (.int .i64 c) [] okA) = true := by kernel_rfl
theorem adds_lock2 : r4.all (fun c => smallOk (addsL 0) 2 c 1 2 (some c) (some c) (some none) (some (some 2)) (.chan (some 0)) (addsLk c) okA) = true := by kernel_rfl
theorem adds_block2 : r4.all (fun c => [0, 1, 3].all fun h => smallOk (addsL 0) 2 c 1 1 (some c) (some c) (some (some h)) (some (some h)) (.chan (some 0)) [] okA) = true := by kernel_rfl
theorem adds_leave2 : r4.all (fun c => [3, 5].all fun s => smallOk (addsL 0) 2 c s (s + 1) (some c) none (some (some 2)) (some none) (.chan (some 0)) [] okA) = true := by kernel_rfl
theorem adds_take3 : r4.all (fun c => smallOk (addsL 0) 3 c 0 1 none (some c) none none (.int .i64 c) (addsTk c) okA) = true := by kernel_rfl
theorem adds_idle3 : r4.all (fun c => [1, 2, 3, 4, 5, 6].all fun s => smallOk (addsL 0) 3 c s s none none none none (.int .i64 c) [] okA) = true := by kernel_rfl
theorem adds_lock3 : r4.all (fun c => smallOk (addsL 0) 3 c 1 2 (some c) (some c) (some none) (some (some 3)) (.chan (some 0)) (addsLk c) okA) = true := by kernel_rfl
theorem adds_block3 : r4.all (fun c => [0, 1, 2].all fun h => smallOk (addsL 0) 3 c 1 1 (some c) (some c) (some (some h)) (some (some h)) (.chan (some 0)) [] okA) = true := by kernel_rfl
theorem adds_leave3 : r4.all (fun c => [3, 5].all fun s => smallOk (addsL 0) 3 c s (s + 1) (some c) none (some (some 3)) (some none) (.chan (some 0)) [] okA) = true := by kernel_rfl
end Go.Proofs.YtejebgdikoehmaaGreatDoor
