/- TopPipes: answers; nothing to take. -/
import Derived.Test.YtejebgdikoehmaaGreatDoorPiQ
import Derived.KernelRfl
namespace Go.Proofs.YtejebgdikoehmaaGreatDoor
open Go
set_option linter.unusedVariables false
set_option maxRecDepth 100000
theorem pip_leave0_0 : [0, 1, 2, 3, 4, 5, 6, 7, 8, 9].all (fun j => stepOk callB 13 (wArgs 0) (hideAt 701 (pS 0 ⟨j, 3, 0⟩)) (hideAt 701 (pS 0 ⟨j + 1, 0, 0⟩)) [] 1000 okA) = true := by kernel_rfl
theorem pip_leave0_1 : [10, 11, 12, 13, 14, 15, 16, 17, 18, 19].all (fun j => stepOk callB 13 (wArgs 0) (hideAt 701 (pS 0 ⟨j, 3, 0⟩)) (hideAt 701 (pS 0 ⟨j + 1, 0, 0⟩)) [] 1000 okA) = true := by kernel_rfl
theorem pip_leave0_2 : [20, 21, 22, 23, 24, 25, 26, 27, 28, 29].all (fun j => stepOk callB 13 (wArgs 0) (hideAt 701 (pS 0 ⟨j, 3, 0⟩)) (hideAt 701 (pS 0 ⟨j + 1, 0, 0⟩)) [] 1000 okA) = true := by kernel_rfl
theorem pip_leave1_0 : [0, 1, 2, 3, 4, 5, 6, 7, 8, 9].all (fun j => stepOk callB 13 (wArgs 1) (hideAt 701 (pS 0 ⟨j, 3, 1⟩)) (hideAt 701 (pS 0 ⟨j + 1, 0, 0⟩)) [] 1000 okA) = true := by kernel_rfl
theorem pip_leave1_1 : [10, 11, 12, 13, 14, 15, 16, 17, 18, 19].all (fun j => stepOk callB 13 (wArgs 1) (hideAt 701 (pS 0 ⟨j, 3, 1⟩)) (hideAt 701 (pS 0 ⟨j + 1, 0, 0⟩)) [] 1000 okA) = true := by kernel_rfl
theorem pip_leave1_2 : [20, 21, 22, 23, 24, 25, 26, 27, 28, 29].all (fun j => stepOk callB 13 (wArgs 1) (hideAt 701 (pS 0 ⟨j, 3, 1⟩)) (hideAt 701 (pS 0 ⟨j + 1, 0, 0⟩)) [] 1000 okA) = true := by kernel_rfl
theorem pip_leave2_0 : [0, 1, 2, 3, 4, 5, 6, 7, 8, 9].all (fun j => stepOk callB 13 (wArgs 2) (hideAt 701 (pS 0 ⟨j, 3, 2⟩)) (hideAt 701 (pS 0 ⟨j + 1, 0, 0⟩)) [] 1000 okA) = true := by kernel_rfl
theorem pip_leave2_1 : [10, 11, 12, 13, 14, 15, 16, 17, 18, 19].all (fun j => stepOk callB 13 (wArgs 2) (hideAt 701 (pS 0 ⟨j, 3, 2⟩)) (hideAt 701 (pS 0 ⟨j + 1, 0, 0⟩)) [] 1000 okA) = true := by kernel_rfl
theorem pip_leave2_2 : [20, 21, 22, 23, 24, 25, 26, 27, 28, 29].all (fun j => stepOk callB 13 (wArgs 2) (hideAt 701 (pS 0 ⟨j, 3, 2⟩)) (hideAt 701 (pS 0 ⟨j + 1, 0, 0⟩)) [] 1000 okA) = true := by kernel_rfl
theorem pip_leave3_0 : [0, 1, 2, 3, 4, 5, 6, 7, 8, 9].all (fun j => stepOk callB 13 (wArgs 3) (hideAt 701 (pS 0 ⟨j, 3, 3⟩)) (hideAt 701 (pS 0 ⟨j + 1, 0, 0⟩)) [] 1000 okA) = true := by kernel_rfl
theorem pip_leave3_1 : [10, 11, 12, 13, 14, 15, 16, 17, 18, 19].all (fun j => stepOk callB 13 (wArgs 3) (hideAt 701 (pS 0 ⟨j, 3, 3⟩)) (hideAt 701 (pS 0 ⟨j + 1, 0, 0⟩)) [] 1000 okA) = true := by kernel_rfl
theorem pip_leave3_2 : [20, 21, 22, 23, 24, 25, 26, 27, 28, 29].all (fun j => stepOk callB 13 (wArgs 3) (hideAt 701 (pS 0 ⟨j, 3, 3⟩)) (hideAt 701 (pS 0 ⟨j + 1, 0, 0⟩)) [] 1000 okA) = true := by kernel_rfl
theorem pip_idle0 : [0, 1, 2, 3].all (fun w => stepOk callB 13 (wArgs w) (sel kT (pS 0 ⟨0, 0, 0⟩)) (sel kT (pS 0 ⟨0, 0, 0⟩)) [] 1000 okA) = true := by kernel_rfl
theorem pip_idle1 : [0, 1, 2, 3].all (fun w => stepOk callB 13 (wArgs w) (sel kT (pS 1 ⟨2, 0, 0⟩)) (sel kT (pS 1 ⟨2, 0, 0⟩)) [] 1000 okA) = true := by kernel_rfl
theorem pip_idle2 : [0, 1, 2, 3].all (fun w => stepOk callB 13 (wArgs w) (sel kT (pS 2 ⟨4, 0, 0⟩)) (sel kT (pS 2 ⟨4, 0, 0⟩)) [] 1000 okA) = true := by kernel_rfl
theorem pip_idle3 : [0, 1, 2, 3].all (fun w => stepOk callB 13 (wArgs w) (sel kT (pS 3 ⟨6, 0, 0⟩)) (sel kT (pS 3 ⟨6, 0, 0⟩)) [] 1000 okA) = true := by kernel_rfl
theorem pip_idle4 : [0, 1, 2, 3].all (fun w => stepOk callB 13 (wArgs w) (sel kT (pS 4 ⟨8, 0, 0⟩)) (sel kT (pS 4 ⟨8, 0, 0⟩)) [] 1000 okA) = true := by kernel_rfl
theorem pip_idle5 : [0, 1, 2, 3].all (fun w => stepOk callB 13 (wArgs w) (sel kT (pS 5 ⟨10, 0, 0⟩)) (sel kT (pS 5 ⟨10, 0, 0⟩)) [] 1000 okA) = true := by kernel_rfl
theorem pip_idle6 : [0, 1, 2, 3].all (fun w => stepOk callB 13 (wArgs w) (sel kT (pS 6 ⟨12, 0, 0⟩)) (sel kT (pS 6 ⟨12, 0, 0⟩)) [] 1000 okA) = true := by kernel_rfl
theorem pip_idle7 : [0, 1, 2, 3].all (fun w => stepOk callB 13 (wArgs w) (sel kT (pS 7 ⟨14, 0, 0⟩)) (sel kT (pS 7 ⟨14, 0, 0⟩)) [] 1000 okA) = true := by kernel_rfl
theorem pip_idle8 : [0, 1, 2, 3].all (fun w => stepOk callB 13 (wArgs w) (sel kT (pS 8 ⟨16, 0, 0⟩)) (sel kT (pS 8 ⟨16, 0, 0⟩)) [] 1000 okA) = true := by kernel_rfl
theorem pip_idle9 : [0, 1, 2, 3].all (fun w => stepOk callB 13 (wArgs w) (sel kT (pS 9 ⟨18, 0, 0⟩)) (sel kT (pS 9 ⟨18, 0, 0⟩)) [] 1000 okA) = true := by kernel_rfl
theorem pip_idle10 : [0, 1, 2, 3].all (fun w => stepOk callB 13 (wArgs w) (sel kT (pS 10 ⟨20, 0, 0⟩)) (sel kT (pS 10 ⟨20, 0, 0⟩)) [] 1000 okA) = true := by kernel_rfl
theorem pip_idle11 : [0, 1, 2, 3].all (fun w => stepOk callB 13 (wArgs w) (sel kT (pS 11 ⟨22, 0, 0⟩)) (sel kT (pS 11 ⟨22, 0, 0⟩)) [] 1000 okA) = true := by kernel_rfl
theorem pip_idle12 : [0, 1, 2, 3].all (fun w => stepOk callB 13 (wArgs w) (sel kT (pS 12 ⟨24, 0, 0⟩)) (sel kT (pS 12 ⟨24, 0, 0⟩)) [] 1000 okA) = true := by kernel_rfl
theorem pip_idle13 : [0, 1, 2, 3].all (fun w => stepOk callB 13 (wArgs w) (sel kT (pS 13 ⟨26, 0, 0⟩)) (sel kT (pS 13 ⟨26, 0, 0⟩)) [] 1000 okA) = true := by kernel_rfl
theorem pip_idle14 : [0, 1, 2, 3].all (fun w => stepOk callB 13 (wArgs w) (sel kT (pS 14 ⟨28, 0, 0⟩)) (sel kT (pS 14 ⟨28, 0, 0⟩)) [] 1000 okA) = true := by kernel_rfl
theorem pip_idle15 : [0, 1, 2, 3].all (fun w => stepOk callB 13 (wArgs w) (sel kT (pS 15 ⟨30, 0, 0⟩)) (sel kT (pS 15 ⟨30, 0, 0⟩)) [] 1000 okA) = true := by kernel_rfl
end Go.Proofs.YtejebgdikoehmaaGreatDoor
