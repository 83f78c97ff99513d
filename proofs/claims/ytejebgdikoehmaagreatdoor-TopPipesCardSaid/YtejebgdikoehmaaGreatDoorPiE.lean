/- TopPipes: requests are taken (9 to 11 sets and gets). -/
import Derived.Test.YtejebgdikoehmaaGreatDoorPiQ
import Derived.KernelRfl
namespace Go.Proofs.YtejebgdikoehmaaGreatDoor
open Go
set_option linter.unusedVariables false
set_option maxRecDepth 100000
theorem pip_take9_0 : [0, 1, 2, 3, 4, 5, 6, 7, 8, 9, 10, 11, 12, 13, 14, 15, 16, 17].all (fun j => stepOk callB 13 (wArgs 0) (sel kT (pS 9 ⟨j, 0, 0⟩)) (sel kT (pS 9 ⟨j, 1, 0⟩)) (lTk j) 1000 okA) = true := by kernel_rfl
theorem pip_take9_1 : [0, 1, 2, 3, 4, 5, 6, 7, 8, 9, 10, 11, 12, 13, 14, 15, 16, 17].all (fun j => stepOk callB 13 (wArgs 1) (sel kT (pS 9 ⟨j, 0, 0⟩)) (sel kT (pS 9 ⟨j, 1, 1⟩)) (lTk j) 1000 okA) = true := by kernel_rfl
theorem pip_take9_2 : [0, 1, 2, 3, 4, 5, 6, 7, 8, 9, 10, 11, 12, 13, 14, 15, 16, 17].all (fun j => stepOk callB 13 (wArgs 2) (sel kT (pS 9 ⟨j, 0, 0⟩)) (sel kT (pS 9 ⟨j, 1, 2⟩)) (lTk j) 1000 okA) = true := by kernel_rfl
theorem pip_take9_3 : [0, 1, 2, 3, 4, 5, 6, 7, 8, 9, 10, 11, 12, 13, 14, 15, 16, 17].all (fun j => stepOk callB 13 (wArgs 3) (sel kT (pS 9 ⟨j, 0, 0⟩)) (sel kT (pS 9 ⟨j, 1, 3⟩)) (lTk j) 1000 okA) = true := by kernel_rfl
theorem pip_take10_0 : [0, 1, 2, 3, 4, 5, 6, 7, 8, 9, 10, 11, 12, 13, 14, 15, 16, 17, 18, 19].all (fun j => stepOk callB 13 (wArgs 0) (sel kT (pS 10 ⟨j, 0, 0⟩)) (sel kT (pS 10 ⟨j, 1, 0⟩)) (lTk j) 1000 okA) = true := by kernel_rfl
theorem pip_take10_1 : [0, 1, 2, 3, 4, 5, 6, 7, 8, 9, 10, 11, 12, 13, 14, 15, 16, 17, 18, 19].all (fun j => stepOk callB 13 (wArgs 1) (sel kT (pS 10 ⟨j, 0, 0⟩)) (sel kT (pS 10 ⟨j, 1, 1⟩)) (lTk j) 1000 okA) = true := by kernel_rfl
theorem pip_take10_2 : [0, 1, 2, 3, 4, 5, 6, 7, 8, 9, 10, 11, 12, 13, 14, 15, 16, 17, 18, 19].all (fun j => stepOk callB 13 (wArgs 2) (sel kT (pS 10 ⟨j, 0, 0⟩)) (sel kT (pS 10 ⟨j, 1, 2⟩)) (lTk j) 1000 okA) = true := by kernel_rfl
theorem pip_take10_3 : [0, 1, 2, 3, 4, 5, 6, 7, 8, 9, 10, 11, 12, 13, 14, 15, 16, 17, 18, 19].all (fun j => stepOk callB 13 (wArgs 3) (sel kT (pS 10 ⟨j, 0, 0⟩)) (sel kT (pS 10 ⟨j, 1, 3⟩)) (lTk j) 1000 okA) = true := by kernel_rfl
theorem pip_take11_0 : [0, 1, 2, 3, 4, 5, 6, 7, 8, 9, 10, 11, 12, 13, 14, 15, 16, 17, 18, 19, 20, 21].all (fun j => stepOk callB 13 (wArgs 0) (sel kT (pS 11 ⟨j, 0, 0⟩)) (sel kT (pS 11 ⟨j, 1, 0⟩)) (lTk j) 1000 okA) = true := by kernel_rfl
theorem pip_take11_1 : [0, 1, 2, 3, 4, 5, 6, 7, 8, 9, 10, 11, 12, 13, 14, 15, 16, 17, 18, 19, 20, 21].all (fun j => stepOk callB 13 (wArgs 1) (sel kT (pS 11 ⟨j, 0, 0⟩)) (sel kT (pS 11 ⟨j, 1, 1⟩)) (lTk j) 1000 okA) = true := by kernel_rfl
theorem pip_take11_2 : [0, 1, 2, 3, 4, 5, 6, 7, 8, 9, 10, 11, 12, 13, 14, 15, 16, 17, 18, 19, 20, 21].all (fun j => stepOk callB 13 (wArgs 2) (sel kT (pS 11 ⟨j, 0, 0⟩)) (sel kT (pS 11 ⟨j, 1, 2⟩)) (lTk j) 1000 okA) = true := by kernel_rfl
theorem pip_take11_3 : [0, 1, 2, 3, 4, 5, 6, 7, 8, 9, 10, 11, 12, 13, 14, 15, 16, 17, 18, 19, 20, 21].all (fun j => stepOk callB 13 (wArgs 3) (sel kT (pS 11 ⟨j, 0, 0⟩)) (sel kT (pS 11 ⟨j, 1, 3⟩)) (lTk j) 1000 okA) = true := by kernel_rfl
end Go.Proofs.YtejebgdikoehmaaGreatDoor
