/- TopWins: the commands. -/
import Derived.Test.YtejebgdikoehmaaGreatDoorWiA
import Derived.KernelRfl
namespace Go.Proofs.YtejebgdikoehmaaGreatDoor
open Go
set_option linter.unusedVariables false
set_option maxRecDepth 100000
def winsDo0 : Nat → List (Nat × Nat) := fun c => match c with
  | 0 => [(7, 1610), (68, 1530), (706, 1670)]
  | 1 => [(7, 1610), (68, 1530), (756, 1670)]
  | 2 => [(7, 1610), (68, 1530), (806, 1670)]
  | 3 => [(7, 1610), (68, 1530), (856, 1670)]
  | _ => []
def winsDo1 : Nat → List (Nat × Nat) := fun c => match c with
  | 0 => [(7, 1609), (706, 1669)]
  | 1 => [(7, 1609), (756, 1669)]
  | 2 => [(7, 1609), (806, 1669)]
  | 3 => [(7, 1609), (856, 1669)]
  | _ => []
def winsDo2 : Nat → List (Nat × Nat) := fun c => match c with
  | 0 => [(7, 1609), (706, 1669)]
  | 1 => [(7, 1609), (756, 1669)]
  | 2 => [(7, 1609), (806, 1669)]
  | 3 => [(7, 1609), (856, 1669)]
  | _ => []
def winsDo3 : Nat → List (Nat × Nat) := fun c => match c with
  | 0 => [(7, 1609), (706, 1669)]
  | 1 => [(7, 1609), (756, 1669)]
  | 2 => [(7, 1609), (806, 1669)]
  | 3 => [(7, 1609), (856, 1669)]
  | _ => []
theorem wins_do0_0 : doOk winsL 0 5 0 0 1 0 (winsDo0 0) = true := by kernel_rfl
theorem wins_do0_1 : doOk winsL 1 5 0 0 1 1 (winsDo0 1) = true := by kernel_rfl
theorem wins_do0_2 : doOk winsL 2 5 0 0 1 2 (winsDo0 2) = true := by kernel_rfl
theorem wins_do0_3 : doOk winsL 3 5 0 0 1 3 (winsDo0 3) = true := by kernel_rfl
theorem wins_do1_0 : doOk winsL 0 3 1 0 2 0 (winsDo1 0) = true := by kernel_rfl
theorem wins_do1_1 : doOk winsL 1 3 1 0 2 0 (winsDo1 1) = true := by kernel_rfl
theorem wins_do1_2 : doOk winsL 2 3 1 0 2 0 (winsDo1 2) = true := by kernel_rfl
theorem wins_do1_3 : doOk winsL 3 3 1 0 2 0 (winsDo1 3) = true := by kernel_rfl
theorem wins_do2_0 : doOk winsL 0 3 2 0 3 0 (winsDo2 0) = true := by kernel_rfl
theorem wins_do2_1 : doOk winsL 1 3 2 0 3 0 (winsDo2 1) = true := by kernel_rfl
theorem wins_do2_2 : doOk winsL 2 3 2 0 3 0 (winsDo2 2) = true := by kernel_rfl
theorem wins_do2_3 : doOk winsL 3 3 2 0 3 0 (winsDo2 3) = true := by kernel_rfl
theorem wins_do3_0 : doOk winsL 0 3 3 0 4 0 (winsDo3 0) = true := by kernel_rfl
theorem wins_do3_1 : doOk winsL 1 3 3 0 4 0 (winsDo3 1) = true := by kernel_rfl
theorem wins_do3_2 : doOk winsL 2 3 3 0 4 0 (winsDo3 2) = true := by kernel_rfl
theorem wins_do3_3 : doOk winsL 3 3 3 0 4 0 (winsDo3 3) = true := by kernel_rfl
end Go.Proofs.YtejebgdikoehmaaGreatDoor
