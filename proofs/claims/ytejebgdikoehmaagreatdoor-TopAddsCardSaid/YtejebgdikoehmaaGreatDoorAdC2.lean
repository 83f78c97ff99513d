/- TopAdds, the adds: the commands, part 2. -/
import Derived.Test.YtejebgdikoehmaaGreatDoorAdA
import Derived.KernelRfl
namespace Go.Proofs.YtejebgdikoehmaaGreatDoor
open Go
set_option linter.unusedVariables false
set_option maxRecDepth 100000
theorem adds_do0_0_2 : doOk (addsL 0) 2 5 0 0 1 2 [(7, 1790), (39, 1741), (55, 1646), (56, 1552), (57, 1362), (58, 1689), (59, 1360), (60, 1739), (805, 1840)] = true := by kernel_rfl
theorem adds_do1_2_0 : doOk (addsL 0) 0 3 1 2 2 2 [(7, 1526), (705, 1576)] = true := by kernel_rfl
theorem adds_do1_2_1 : doOk (addsL 0) 1 3 1 2 2 2 [(7, 1526), (755, 1576)] = true := by kernel_rfl
theorem adds_do1_2_3 : doOk (addsL 0) 3 3 1 2 2 2 [(7, 1526), (855, 1576)] = true := by kernel_rfl
theorem adds_do2_2_0 : doOk (addsL 0) 0 3 2 2 3 2 [(7, 1526), (705, 1576)] = true := by kernel_rfl
theorem adds_do2_2_1 : doOk (addsL 0) 1 3 2 2 3 2 [(7, 1526), (755, 1576)] = true := by kernel_rfl
theorem adds_do2_2_3 : doOk (addsL 0) 3 3 2 2 3 2 [(7, 1526), (855, 1576)] = true := by kernel_rfl
theorem adds_do3_2_0 : doOk (addsL 0) 0 3 3 2 4 2 [(7, 1526), (705, 1576)] = true := by kernel_rfl
theorem adds_do3_2_1 : doOk (addsL 0) 1 3 3 2 4 2 [(7, 1526), (755, 1576)] = true := by kernel_rfl
theorem adds_do3_2_3 : doOk (addsL 0) 3 3 3 2 4 2 [(7, 1526), (855, 1576)] = true := by kernel_rfl
end Go.Proofs.YtejebgdikoehmaaGreatDoor
