/- TopPipes: requests are taken (14 to 15 sets and gets). -/
import Derived.Test.YtejebgdikoehmaaGreatDoorPiQ
import Derived.KernelRfl
namespace Go.Proofs.YtejebgdikoehmaaGreatDoor
open Go
set_option linter.unusedVariables false
set_option maxRecDepth 100000
theorem pip_take14_0 : [0, 1, 2, 3, 4, 5, 6, 7, 8, 9, 10, 11, 12, 13, 14, 15, 16, 17, 18, 19, 20, 21, 22, 23, 24, 25, 26, 27].all (fun j => stepOk callB 13 (wArgs 0) (sel kT (pS 14 ⟨j, 0, 0⟩)) (sel kT (pS 14 ⟨j, 1, 0⟩)) (lTk j) 1000 okA) = true := by kernel_rfl
theorem pip_take14_1 : [0, 1, 2, 3, 4, 5, 6, 7, 8, 9, 10, 11, 12, 13, 14, 15, 16, 17, 18, 19, 20, 21, 22, 23, 24, 25, 26, 27].all (fun j => stepOk callB 13 (wArgs 1) (sel kT (pS 14 ⟨j, 0, 0⟩)) (sel kT (pS 14 ⟨j, 1, 1⟩)) (lTk j) 1000 okA) = true := by kernel_rfl
theorem pip_take14_2 : [0, 1, 2, 3, 4, 5, 6, 7, 8, 9, 10, 11, 12, 13, 14, 15, 16, 17, 18, 19, 20, 21, 22, 23, 24, 25, 26, 27].all (fun j => stepOk callB 13 (wArgs 2) (sel kT (pS 14 ⟨j, 0, 0⟩)) (sel kT (pS 14 ⟨j, 1, 2⟩)) (lTk j) 1000 okA) = true := by kernel_rfl
theorem pip_take14_3 : [0, 1, 2, 3, 4, 5, 6, 7, 8, 9, 10, 11, 12, 13, 14, 15, 16, 17, 18, 19, 20, 21, 22, 23, 24, 25, 26, 27].all (fun j => stepOk callB 13 (wArgs 3) (sel kT (pS 14 ⟨j, 0, 0⟩)) (sel kT (pS 14 ⟨j, 1, 3⟩)) (lTk j) 1000 okA) = true := by kernel_rfl
theorem pip_take15_0 : [0, 1, 2, 3, 4, 5, 6, 7, 8, 9, 10, 11, 12, 13, 14, 15, 16, 17, 18, 19, 20, 21, 22, 23, 24, 25, 26, 27, 28, 29].all (fun j => stepOk callB 13 (wArgs 0) (sel kT (pS 15 ⟨j, 0, 0⟩)) (sel kT (pS 15 ⟨j, 1, 0⟩)) (lTk j) 1000 okA) = true := by kernel_rfl
theorem pip_take15_1 : [0, 1, 2, 3, 4, 5, 6, 7, 8, 9, 10, 11, 12, 13, 14, 15, 16, 17, 18, 19, 20, 21, 22, 23, 24, 25, 26, 27, 28, 29].all (fun j => stepOk callB 13 (wArgs 1) (sel kT (pS 15 ⟨j, 0, 0⟩)) (sel kT (pS 15 ⟨j, 1, 1⟩)) (lTk j) 1000 okA) = true := by kernel_rfl
theorem pip_take15_2 : [0, 1, 2, 3, 4, 5, 6, 7, 8, 9, 10, 11, 12, 13, 14, 15, 16, 17, 18, 19, 20, 21, 22, 23, 24, 25, 26, 27, 28, 29].all (fun j => stepOk callB 13 (wArgs 2) (sel kT (pS 15 ⟨j, 0, 0⟩)) (sel kT (pS 15 ⟨j, 1, 2⟩)) (lTk j) 1000 okA) = true := by kernel_rfl
theorem pip_take15_3 : [0, 1, 2, 3, 4, 5, 6, 7, 8, 9, 10, 11, 12, 13, 14, 15, 16, 17, 18, 19, 20, 21, 22, 23, 24, 25, 26, 27, 28, 29].all (fun j => stepOk callB 13 (wArgs 3) (sel kT (pS 15 ⟨j, 0, 0⟩)) (sel kT (pS 15 ⟨j, 1, 3⟩)) (lTk j) 1000 okA) = true := by kernel_rfl
end Go.Proofs.YtejebgdikoehmaaGreatDoor
