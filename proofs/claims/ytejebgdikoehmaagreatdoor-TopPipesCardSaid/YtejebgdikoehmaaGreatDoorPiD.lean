/- TopPipes: requests are taken (1 to 8 sets and gets). -/
import Derived.Test.YtejebgdikoehmaaGreatDoorPiQ
import Derived.KernelRfl
namespace Go.Proofs.YtejebgdikoehmaaGreatDoor
open Go
set_option linter.unusedVariables false
set_option maxRecDepth 100000
theorem pip_take1_0 : [0, 1].all (fun j => stepOk callB 13 (wArgs 0) (sel kT (pS 1 ⟨j, 0, 0⟩)) (sel kT (pS 1 ⟨j, 1, 0⟩)) (lTk j) 1000 okA) = true := by kernel_rfl
theorem pip_take1_1 : [0, 1].all (fun j => stepOk callB 13 (wArgs 1) (sel kT (pS 1 ⟨j, 0, 0⟩)) (sel kT (pS 1 ⟨j, 1, 1⟩)) (lTk j) 1000 okA) = true := by kernel_rfl
theorem pip_take1_2 : [0, 1].all (fun j => stepOk callB 13 (wArgs 2) (sel kT (pS 1 ⟨j, 0, 0⟩)) (sel kT (pS 1 ⟨j, 1, 2⟩)) (lTk j) 1000 okA) = true := by kernel_rfl
theorem pip_take1_3 : [0, 1].all (fun j => stepOk callB 13 (wArgs 3) (sel kT (pS 1 ⟨j, 0, 0⟩)) (sel kT (pS 1 ⟨j, 1, 3⟩)) (lTk j) 1000 okA) = true := by kernel_rfl
theorem pip_take2_0 : [0, 1, 2, 3].all (fun j => stepOk callB 13 (wArgs 0) (sel kT (pS 2 ⟨j, 0, 0⟩)) (sel kT (pS 2 ⟨j, 1, 0⟩)) (lTk j) 1000 okA) = true := by kernel_rfl
theorem pip_take2_1 : [0, 1, 2, 3].all (fun j => stepOk callB 13 (wArgs 1) (sel kT (pS 2 ⟨j, 0, 0⟩)) (sel kT (pS 2 ⟨j, 1, 1⟩)) (lTk j) 1000 okA) = true := by kernel_rfl
theorem pip_take2_2 : [0, 1, 2, 3].all (fun j => stepOk callB 13 (wArgs 2) (sel kT (pS 2 ⟨j, 0, 0⟩)) (sel kT (pS 2 ⟨j, 1, 2⟩)) (lTk j) 1000 okA) = true := by kernel_rfl
theorem pip_take2_3 : [0, 1, 2, 3].all (fun j => stepOk callB 13 (wArgs 3) (sel kT (pS 2 ⟨j, 0, 0⟩)) (sel kT (pS 2 ⟨j, 1, 3⟩)) (lTk j) 1000 okA) = true := by kernel_rfl
theorem pip_take3_0 : [0, 1, 2, 3, 4, 5].all (fun j => stepOk callB 13 (wArgs 0) (sel kT (pS 3 ⟨j, 0, 0⟩)) (sel kT (pS 3 ⟨j, 1, 0⟩)) (lTk j) 1000 okA) = true := by kernel_rfl
theorem pip_take3_1 : [0, 1, 2, 3, 4, 5].all (fun j => stepOk callB 13 (wArgs 1) (sel kT (pS 3 ⟨j, 0, 0⟩)) (sel kT (pS 3 ⟨j, 1, 1⟩)) (lTk j) 1000 okA) = true := by kernel_rfl
theorem pip_take3_2 : [0, 1, 2, 3, 4, 5].all (fun j => stepOk callB 13 (wArgs 2) (sel kT (pS 3 ⟨j, 0, 0⟩)) (sel kT (pS 3 ⟨j, 1, 2⟩)) (lTk j) 1000 okA) = true := by kernel_rfl
theorem pip_take3_3 : [0, 1, 2, 3, 4, 5].all (fun j => stepOk callB 13 (wArgs 3) (sel kT (pS 3 ⟨j, 0, 0⟩)) (sel kT (pS 3 ⟨j, 1, 3⟩)) (lTk j) 1000 okA) = true := by kernel_rfl
theorem pip_take4_0 : [0, 1, 2, 3, 4, 5, 6, 7].all (fun j => stepOk callB 13 (wArgs 0) (sel kT (pS 4 ⟨j, 0, 0⟩)) (sel kT (pS 4 ⟨j, 1, 0⟩)) (lTk j) 1000 okA) = true := by kernel_rfl
theorem pip_take4_1 : [0, 1, 2, 3, 4, 5, 6, 7].all (fun j => stepOk callB 13 (wArgs 1) (sel kT (pS 4 ⟨j, 0, 0⟩)) (sel kT (pS 4 ⟨j, 1, 1⟩)) (lTk j) 1000 okA) = true := by kernel_rfl
theorem pip_take4_2 : [0, 1, 2, 3, 4, 5, 6, 7].all (fun j => stepOk callB 13 (wArgs 2) (sel kT (pS 4 ⟨j, 0, 0⟩)) (sel kT (pS 4 ⟨j, 1, 2⟩)) (lTk j) 1000 okA) = true := by kernel_rfl
theorem pip_take4_3 : [0, 1, 2, 3, 4, 5, 6, 7].all (fun j => stepOk callB 13 (wArgs 3) (sel kT (pS 4 ⟨j, 0, 0⟩)) (sel kT (pS 4 ⟨j, 1, 3⟩)) (lTk j) 1000 okA) = true := by kernel_rfl
theorem pip_take5_0 : [0, 1, 2, 3, 4, 5, 6, 7, 8, 9].all (fun j => stepOk callB 13 (wArgs 0) (sel kT (pS 5 ⟨j, 0, 0⟩)) (sel kT (pS 5 ⟨j, 1, 0⟩)) (lTk j) 1000 okA) = true := by kernel_rfl
theorem pip_take5_1 : [0, 1, 2, 3, 4, 5, 6, 7, 8, 9].all (fun j => stepOk callB 13 (wArgs 1) (sel kT (pS 5 ⟨j, 0, 0⟩)) (sel kT (pS 5 ⟨j, 1, 1⟩)) (lTk j) 1000 okA) = true := by kernel_rfl
theorem pip_take5_2 : [0, 1, 2, 3, 4, 5, 6, 7, 8, 9].all (fun j => stepOk callB 13 (wArgs 2) (sel kT (pS 5 ⟨j, 0, 0⟩)) (sel kT (pS 5 ⟨j, 1, 2⟩)) (lTk j) 1000 okA) = true := by kernel_rfl
theorem pip_take5_3 : [0, 1, 2, 3, 4, 5, 6, 7, 8, 9].all (fun j => stepOk callB 13 (wArgs 3) (sel kT (pS 5 ⟨j, 0, 0⟩)) (sel kT (pS 5 ⟨j, 1, 3⟩)) (lTk j) 1000 okA) = true := by kernel_rfl
theorem pip_take6_0 : [0, 1, 2, 3, 4, 5, 6, 7, 8, 9, 10, 11].all (fun j => stepOk callB 13 (wArgs 0) (sel kT (pS 6 ⟨j, 0, 0⟩)) (sel kT (pS 6 ⟨j, 1, 0⟩)) (lTk j) 1000 okA) = true := by kernel_rfl
theorem pip_take6_1 : [0, 1, 2, 3, 4, 5, 6, 7, 8, 9, 10, 11].all (fun j => stepOk callB 13 (wArgs 1) (sel kT (pS 6 ⟨j, 0, 0⟩)) (sel kT (pS 6 ⟨j, 1, 1⟩)) (lTk j) 1000 okA) = true := by kernel_rfl
theorem pip_take6_2 : [0, 1, 2, 3, 4, 5, 6, 7, 8, 9, 10, 11].all (fun j => stepOk callB 13 (wArgs 2) (sel kT (pS 6 ⟨j, 0, 0⟩)) (sel kT (pS 6 ⟨j, 1, 2⟩)) (lTk j) 1000 okA) = true := by kernel_rfl
theorem pip_take6_3 : [0, 1, 2, 3, 4, 5, 6, 7, 8, 9, 10, 11].all (fun j => stepOk callB 13 (wArgs 3) (sel kT (pS 6 ⟨j, 0, 0⟩)) (sel kT (pS 6 ⟨j, 1, 3⟩)) (lTk j) 1000 okA) = true := by kernel_rfl
theorem pip_take7_0 : [0, 1, 2, 3, 4, 5, 6, 7, 8, 9, 10, 11, 12, 13].all (fun j => stepOk callB 13 (wArgs 0) (sel kT (pS 7 ⟨j, 0, 0⟩)) (sel kT (pS 7 ⟨j, 1, 0⟩)) (lTk j) 1000 okA) = true := by kernel_rfl
theorem pip_take7_1 : [0, 1, 2, 3, 4, 5, 6, 7, 8, 9, 10, 11, 12, 13].all (fun j => stepOk callB 13 (wArgs 1) (sel kT (pS 7 ⟨j, 0, 0⟩)) (sel kT (pS 7 ⟨j, 1, 1⟩)) (lTk j) 1000 okA) = true := by kernel_rfl
theorem pip_take7_2 : [0, 1, 2, 3, 4, 5, 6, 7, 8, 9, 10, 11, 12, 13].all (fun j => stepOk callB 13 (wArgs 2) (sel kT (pS 7 ⟨j, 0, 0⟩)) (sel kT (pS 7 ⟨j, 1, 2⟩)) (lTk j) 1000 okA) = true := by kernel_rfl
theorem pip_take7_3 : [0, 1, 2, 3, 4, 5, 6, 7, 8, 9, 10, 11, 12, 13].all (fun j => stepOk callB 13 (wArgs 3) (sel kT (pS 7 ⟨j, 0, 0⟩)) (sel kT (pS 7 ⟨j, 1, 3⟩)) (lTk j) 1000 okA) = true := by kernel_rfl
theorem pip_take8_0 : [0, 1, 2, 3, 4, 5, 6, 7, 8, 9, 10, 11, 12, 13, 14, 15].all (fun j => stepOk callB 13 (wArgs 0) (sel kT (pS 8 ⟨j, 0, 0⟩)) (sel kT (pS 8 ⟨j, 1, 0⟩)) (lTk j) 1000 okA) = true := by kernel_rfl
theorem pip_take8_1 : [0, 1, 2, 3, 4, 5, 6, 7, 8, 9, 10, 11, 12, 13, 14, 15].all (fun j => stepOk callB 13 (wArgs 1) (sel kT (pS 8 ⟨j, 0, 0⟩)) (sel kT (pS 8 ⟨j, 1, 1⟩)) (lTk j) 1000 okA) = true := by kernel_rfl
theorem pip_take8_2 : [0, 1, 2, 3, 4, 5, 6, 7, 8, 9, 10, 11, 12, 13, 14, 15].all (fun j => stepOk callB 13 (wArgs 2) (sel kT (pS 8 ⟨j, 0, 0⟩)) (sel kT (pS 8 ⟨j, 1, 2⟩)) (lTk j) 1000 okA) = true := by kernel_rfl
theorem pip_take8_3 : [0, 1, 2, 3, 4, 5, 6, 7, 8, 9, 10, 11, 12, 13, 14, 15].all (fun j => stepOk callB 13 (wArgs 3) (sel kT (pS 8 ⟨j, 0, 0⟩)) (sel kT (pS 8 ⟨j, 1, 3⟩)) (lTk j) 1000 okA) = true := by kernel_rfl
end Go.Proofs.YtejebgdikoehmaaGreatDoor
