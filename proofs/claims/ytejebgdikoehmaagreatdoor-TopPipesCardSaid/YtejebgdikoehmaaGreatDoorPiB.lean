/- TopPipes: the small runs. -/
import Derived.Test.YtejebgdikoehmaaGreatDoorPiQ
import Derived.KernelRfl
namespace Go.Proofs.YtejebgdikoehmaaGreatDoor
open Go
set_option linter.unusedVariables false
set_option maxRecDepth 100000
def r30 : List Nat := [0, 1, 2, 3, 4, 5, 6, 7, 8, 9, 10, 11, 12, 13, 14, 15, 16, 17, 18, 19, 20, 21, 22, 23, 24, 25, 26, 27, 28, 29]
theorem r30_all {p : Nat → Bool} (h : r30.all p = true) : ∀ j, j < 30 → p j = true := fun j hj => List.all_eq_true.1 h j (by
  rcases (show j = 0 ∨ j = 1 ∨ j = 2 ∨ j = 3 ∨ j = 4 ∨ j = 5 ∨ j = 6 ∨ j = 7 ∨ j = 8 ∨ j = 9 ∨ j = 10 ∨ j = 11 ∨ j = 12 ∨ j = 13 ∨ j = 14 ∨ j = 15 ∨ j = 16 ∨ j = 17 ∨ j = 18 ∨ j = 19 ∨ j = 20 ∨ j = 21 ∨ j = 22 ∨ j = 23 ∨ j = 24 ∨ j = 25 ∨ j = 26 ∨ j = 27 ∨ j = 28 ∨ j = 29 by omega) with rfl | rfl | rfl | rfl | rfl | rfl | rfl | rfl | rfl | rfl | rfl | rfl | rfl | rfl | rfl | rfl | rfl | rfl | rfl | rfl | rfl | rfl | rfl | rfl | rfl | rfl | rfl | rfl | rfl | rfl <;> simp [r30])
theorem pip_wf0 : [0, 1, 2, 3, 4, 5, 6, 7, 8, 9, 10, 11, 12, 13, 14, 15, 16, 17, 18, 19, 20, 21, 22, 23, 24, 25, 26, 27, 28, 29, 30].all (fun d => wfB (pipB 0 d)) = true := by kernel_rfl
theorem pip_wf1 : [0, 1, 2, 3, 4, 5, 6, 7, 8, 9, 10, 11, 12, 13, 14, 15, 16, 17, 18, 19, 20, 21, 22, 23, 24, 25, 26, 27, 28, 29, 30].all (fun d => wfB (pipB 1 d)) = true := by kernel_rfl
theorem pip_wf2 : [0, 1, 2, 3, 4, 5, 6, 7, 8, 9, 10, 11, 12, 13, 14, 15, 16, 17, 18, 19, 20, 21, 22, 23, 24, 25, 26, 27, 28, 29, 30].all (fun d => wfB (pipB 2 d)) = true := by kernel_rfl
theorem pip_wf3 : [0, 1, 2, 3, 4, 5, 6, 7, 8, 9, 10, 11, 12, 13, 14, 15, 16, 17, 18, 19, 20, 21, 22, 23, 24, 25, 26, 27, 28, 29, 30].all (fun d => wfB (pipB 3 d)) = true := by kernel_rfl
theorem pip_busy1_0_1 : r30.all (fun j => stepOk callB 13 (wArgs 1) (sel kBz (pS 0 ⟨j, 1, 0⟩)) (sel kBz (pS 0 ⟨j, 1, 0⟩)) [] 1000 okA) = true := by kernel_rfl
theorem pip_busy2_0_1 : r30.all (fun j => stepOk callB 13 (wArgs 1) (sel kBz (pS 0 ⟨j, 2, 0⟩)) (sel kBz (pS 0 ⟨j, 2, 0⟩)) [] 1000 okA) = true := by kernel_rfl
theorem pip_busy3_0_1 : r30.all (fun j => stepOk callB 13 (wArgs 1) (sel kBz (pS 0 ⟨j, 3, 0⟩)) (sel kBz (pS 0 ⟨j, 3, 0⟩)) [] 1000 okA) = true := by kernel_rfl
theorem pip_busy1_0_2 : r30.all (fun j => stepOk callB 13 (wArgs 2) (sel kBz (pS 0 ⟨j, 1, 0⟩)) (sel kBz (pS 0 ⟨j, 1, 0⟩)) [] 1000 okA) = true := by kernel_rfl
theorem pip_busy2_0_2 : r30.all (fun j => stepOk callB 13 (wArgs 2) (sel kBz (pS 0 ⟨j, 2, 0⟩)) (sel kBz (pS 0 ⟨j, 2, 0⟩)) [] 1000 okA) = true := by kernel_rfl
theorem pip_busy3_0_2 : r30.all (fun j => stepOk callB 13 (wArgs 2) (sel kBz (pS 0 ⟨j, 3, 0⟩)) (sel kBz (pS 0 ⟨j, 3, 0⟩)) [] 1000 okA) = true := by kernel_rfl
theorem pip_busy1_0_3 : r30.all (fun j => stepOk callB 13 (wArgs 3) (sel kBz (pS 0 ⟨j, 1, 0⟩)) (sel kBz (pS 0 ⟨j, 1, 0⟩)) [] 1000 okA) = true := by kernel_rfl
theorem pip_busy2_0_3 : r30.all (fun j => stepOk callB 13 (wArgs 3) (sel kBz (pS 0 ⟨j, 2, 0⟩)) (sel kBz (pS 0 ⟨j, 2, 0⟩)) [] 1000 okA) = true := by kernel_rfl
theorem pip_busy3_0_3 : r30.all (fun j => stepOk callB 13 (wArgs 3) (sel kBz (pS 0 ⟨j, 3, 0⟩)) (sel kBz (pS 0 ⟨j, 3, 0⟩)) [] 1000 okA) = true := by kernel_rfl
theorem pip_busy1_1_0 : r30.all (fun j => stepOk callB 13 (wArgs 0) (sel kBz (pS 0 ⟨j, 1, 1⟩)) (sel kBz (pS 0 ⟨j, 1, 1⟩)) [] 1000 okA) = true := by kernel_rfl
theorem pip_busy2_1_0 : r30.all (fun j => stepOk callB 13 (wArgs 0) (sel kBz (pS 0 ⟨j, 2, 1⟩)) (sel kBz (pS 0 ⟨j, 2, 1⟩)) [] 1000 okA) = true := by kernel_rfl
theorem pip_busy3_1_0 : r30.all (fun j => stepOk callB 13 (wArgs 0) (sel kBz (pS 0 ⟨j, 3, 1⟩)) (sel kBz (pS 0 ⟨j, 3, 1⟩)) [] 1000 okA) = true := by kernel_rfl
theorem pip_busy1_1_2 : r30.all (fun j => stepOk callB 13 (wArgs 2) (sel kBz (pS 0 ⟨j, 1, 1⟩)) (sel kBz (pS 0 ⟨j, 1, 1⟩)) [] 1000 okA) = true := by kernel_rfl
theorem pip_busy2_1_2 : r30.all (fun j => stepOk callB 13 (wArgs 2) (sel kBz (pS 0 ⟨j, 2, 1⟩)) (sel kBz (pS 0 ⟨j, 2, 1⟩)) [] 1000 okA) = true := by kernel_rfl
theorem pip_busy3_1_2 : r30.all (fun j => stepOk callB 13 (wArgs 2) (sel kBz (pS 0 ⟨j, 3, 1⟩)) (sel kBz (pS 0 ⟨j, 3, 1⟩)) [] 1000 okA) = true := by kernel_rfl
theorem pip_busy1_1_3 : r30.all (fun j => stepOk callB 13 (wArgs 3) (sel kBz (pS 0 ⟨j, 1, 1⟩)) (sel kBz (pS 0 ⟨j, 1, 1⟩)) [] 1000 okA) = true := by kernel_rfl
theorem pip_busy2_1_3 : r30.all (fun j => stepOk callB 13 (wArgs 3) (sel kBz (pS 0 ⟨j, 2, 1⟩)) (sel kBz (pS 0 ⟨j, 2, 1⟩)) [] 1000 okA) = true := by kernel_rfl
theorem pip_busy3_1_3 : r30.all (fun j => stepOk callB 13 (wArgs 3) (sel kBz (pS 0 ⟨j, 3, 1⟩)) (sel kBz (pS 0 ⟨j, 3, 1⟩)) [] 1000 okA) = true := by kernel_rfl
theorem pip_busy1_2_0 : r30.all (fun j => stepOk callB 13 (wArgs 0) (sel kBz (pS 0 ⟨j, 1, 2⟩)) (sel kBz (pS 0 ⟨j, 1, 2⟩)) [] 1000 okA) = true := by kernel_rfl
theorem pip_busy2_2_0 : r30.all (fun j => stepOk callB 13 (wArgs 0) (sel kBz (pS 0 ⟨j, 2, 2⟩)) (sel kBz (pS 0 ⟨j, 2, 2⟩)) [] 1000 okA) = true := by kernel_rfl
theorem pip_busy3_2_0 : r30.all (fun j => stepOk callB 13 (wArgs 0) (sel kBz (pS 0 ⟨j, 3, 2⟩)) (sel kBz (pS 0 ⟨j, 3, 2⟩)) [] 1000 okA) = true := by kernel_rfl
theorem pip_busy1_2_1 : r30.all (fun j => stepOk callB 13 (wArgs 1) (sel kBz (pS 0 ⟨j, 1, 2⟩)) (sel kBz (pS 0 ⟨j, 1, 2⟩)) [] 1000 okA) = true := by kernel_rfl
theorem pip_busy2_2_1 : r30.all (fun j => stepOk callB 13 (wArgs 1) (sel kBz (pS 0 ⟨j, 2, 2⟩)) (sel kBz (pS 0 ⟨j, 2, 2⟩)) [] 1000 okA) = true := by kernel_rfl
theorem pip_busy3_2_1 : r30.all (fun j => stepOk callB 13 (wArgs 1) (sel kBz (pS 0 ⟨j, 3, 2⟩)) (sel kBz (pS 0 ⟨j, 3, 2⟩)) [] 1000 okA) = true := by kernel_rfl
theorem pip_busy1_2_3 : r30.all (fun j => stepOk callB 13 (wArgs 3) (sel kBz (pS 0 ⟨j, 1, 2⟩)) (sel kBz (pS 0 ⟨j, 1, 2⟩)) [] 1000 okA) = true := by kernel_rfl
theorem pip_busy2_2_3 : r30.all (fun j => stepOk callB 13 (wArgs 3) (sel kBz (pS 0 ⟨j, 2, 2⟩)) (sel kBz (pS 0 ⟨j, 2, 2⟩)) [] 1000 okA) = true := by kernel_rfl
theorem pip_busy3_2_3 : r30.all (fun j => stepOk callB 13 (wArgs 3) (sel kBz (pS 0 ⟨j, 3, 2⟩)) (sel kBz (pS 0 ⟨j, 3, 2⟩)) [] 1000 okA) = true := by kernel_rfl
theorem pip_busy1_3_0 : r30.all (fun j => stepOk callB 13 (wArgs 0) (sel kBz (pS 0 ⟨j, 1, 3⟩)) (sel kBz (pS 0 ⟨j, 1, 3⟩)) [] 1000 okA) = true := by kernel_rfl
theorem pip_busy2_3_0 : r30.all (fun j => stepOk callB 13 (wArgs 0) (sel kBz (pS 0 ⟨j, 2, 3⟩)) (sel kBz (pS 0 ⟨j, 2, 3⟩)) [] 1000 okA) = true := by kernel_rfl
theorem pip_busy3_3_0 : r30.all (fun j => stepOk callB 13 (wArgs 0) (sel kBz (pS 0 ⟨j, 3, 3⟩)) (sel kBz (pS 0 ⟨j, 3, 3⟩)) [] 1000 okA) = true := by kernel_rfl
theorem pip_busy1_3_1 : r30.all (fun j => stepOk callB 13 (wArgs 1) (sel kBz (pS 0 ⟨j, 1, 3⟩)) (sel kBz (pS 0 ⟨j, 1, 3⟩)) [] 1000 okA) = true := by kernel_rfl
theorem pip_busy2_3_1 : r30.all (fun j => stepOk callB 13 (wArgs 1) (sel kBz (pS 0 ⟨j, 2, 3⟩)) (sel kBz (pS 0 ⟨j, 2, 3⟩)) [] 1000 okA) = true := by kernel_rfl
theorem pip_busy3_3_1 : r30.all (fun j => stepOk callB 13 (wArgs 1) (sel kBz (pS 0 ⟨j, 3, 3⟩)) (sel kBz (pS 0 ⟨j, 3, 3⟩)) [] 1000 okA) = true := by kernel_rfl
theorem pip_busy1_3_2 : r30.all (fun j => stepOk callB 13 (wArgs 2) (sel kBz (pS 0 ⟨j, 1, 3⟩)) (sel kBz (pS 0 ⟨j, 1, 3⟩)) [] 1000 okA) = true := by kernel_rfl
theorem pip_busy2_3_2 : r30.all (fun j => stepOk callB 13 (wArgs 2) (sel kBz (pS 0 ⟨j, 2, 3⟩)) (sel kBz (pS 0 ⟨j, 2, 3⟩)) [] 1000 okA) = true := by kernel_rfl
theorem pip_busy3_3_2 : r30.all (fun j => stepOk callB 13 (wArgs 2) (sel kBz (pS 0 ⟨j, 3, 3⟩)) (sel kBz (pS 0 ⟨j, 3, 3⟩)) [] 1000 okA) = true := by kernel_rfl
theorem pip_lock0 : r30.all (fun j => stepOk callB 13 (wArgs 0) (sel kLk (pS 0 ⟨j, 1, 0⟩)) (sel kLk (pS 0 ⟨j, 2, 0⟩)) lLk 1000 okA) = true := by kernel_rfl
theorem pip_lock1 : r30.all (fun j => stepOk callB 13 (wArgs 1) (sel kLk (pS 0 ⟨j, 1, 1⟩)) (sel kLk (pS 0 ⟨j, 2, 1⟩)) lLk 1000 okA) = true := by kernel_rfl
theorem pip_lock2 : r30.all (fun j => stepOk callB 13 (wArgs 2) (sel kLk (pS 0 ⟨j, 1, 2⟩)) (sel kLk (pS 0 ⟨j, 2, 2⟩)) lLk 1000 okA) = true := by kernel_rfl
theorem pip_lock3 : r30.all (fun j => stepOk callB 13 (wArgs 3) (sel kLk (pS 0 ⟨j, 1, 3⟩)) (sel kLk (pS 0 ⟨j, 2, 3⟩)) lLk 1000 okA) = true := by kernel_rfl
end Go.Proofs.YtejebgdikoehmaaGreatDoor
