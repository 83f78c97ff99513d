/- TopAdds, the deletes: the commands. -/
import Derived.Test.YtejebgdikoehmaaGreatDoorAdE
import Derived.KernelRfl
namespace Go.Proofs.YtejebgdikoehmaaGreatDoor
open Go
set_option linter.unusedVariables false
set_option maxRecDepth 100000
theorem dels_do0_0_0 : doOk (delsL 0) 0 5 0 0 1 0 [(7, 1460), (61, 1406), (705, 1514)] = true := by kernel_rfl
theorem dels_do0_0_1 : doOk (delsL 0) 1 5 0 0 1 1 [(7, 1460), (61, 1406), (755, 1514)] = true := by kernel_rfl
theorem dels_do0_0_2 : doOk (delsL 0) 2 5 0 0 1 2 [(7, 1460), (61, 1406), (805, 1514)] = true := by kernel_rfl
theorem dels_do0_0_3 : doOk (delsL 0) 3 5 0 0 1 3 [(7, 1460), (61, 1406), (855, 1514)] = true := by kernel_rfl
theorem dels_do0_1_0 : doOk (delsL 1) 0 5 0 0 1 0 [(7, 1460), (61, 1406), (705, 1514)] = true := by kernel_rfl
theorem dels_do0_1_1 : doOk (delsL 1) 1 5 0 0 1 1 [(7, 1460), (61, 1406), (755, 1514)] = true := by kernel_rfl
theorem dels_do0_1_2 : doOk (delsL 1) 2 5 0 0 1 2 [(7, 1460), (61, 1406), (805, 1514)] = true := by kernel_rfl
theorem dels_do0_1_3 : doOk (delsL 1) 3 5 0 0 1 3 [(7, 1460), (61, 1406), (855, 1514)] = true := by kernel_rfl
theorem dels_do0_2_0 : doOk (delsL 2) 0 5 0 0 1 0 [(7, 1460), (61, 1406), (705, 1514)] = true := by kernel_rfl
theorem dels_do0_2_1 : doOk (delsL 2) 1 5 0 0 1 1 [(7, 1460), (61, 1406), (755, 1514)] = true := by kernel_rfl
theorem dels_do0_2_2 : doOk (delsL 2) 2 5 0 0 1 2 [(7, 1460), (61, 1406), (805, 1514)] = true := by kernel_rfl
theorem dels_do0_2_3 : doOk (delsL 2) 3 5 0 0 1 3 [(7, 1460), (61, 1406), (855, 1514)] = true := by kernel_rfl
theorem dels_do0_3_0 : doOk (delsL 3) 0 5 0 0 1 0 [(7, 1460), (61, 1406), (705, 1514)] = true := by kernel_rfl
theorem dels_do0_3_1 : doOk (delsL 3) 1 5 0 0 1 1 [(7, 1460), (61, 1406), (755, 1514)] = true := by kernel_rfl
theorem dels_do0_3_2 : doOk (delsL 3) 2 5 0 0 1 2 [(7, 1460), (61, 1406), (805, 1514)] = true := by kernel_rfl
theorem dels_do0_3_3 : doOk (delsL 3) 3 5 0 0 1 3 [(7, 1460), (61, 1406), (855, 1514)] = true := by kernel_rfl
theorem dels_do1_0_1 : doOk (delsL 0) 1 3 1 0 2 0 [(7, 1200), (755, 1255)] = true := by kernel_rfl
theorem dels_do1_0_2 : doOk (delsL 0) 2 3 1 0 2 0 [(7, 1200), (805, 1255)] = true := by kernel_rfl
theorem dels_do1_0_3 : doOk (delsL 0) 3 3 1 0 2 0 [(7, 1200), (855, 1255)] = true := by kernel_rfl
theorem dels_do2_0_1 : doOk (delsL 0) 1 3 2 0 3 0 [(7, 1200), (755, 1255)] = true := by kernel_rfl
theorem dels_do2_0_2 : doOk (delsL 0) 2 3 2 0 3 0 [(7, 1200), (805, 1255)] = true := by kernel_rfl
theorem dels_do2_0_3 : doOk (delsL 0) 3 3 2 0 3 0 [(7, 1200), (855, 1255)] = true := by kernel_rfl
theorem dels_do3_0_1 : doOk (delsL 0) 1 3 3 0 4 0 [(7, 1200), (755, 1255)] = true := by kernel_rfl
theorem dels_do3_0_2 : doOk (delsL 0) 2 3 3 0 4 0 [(7, 1200), (805, 1255)] = true := by kernel_rfl
theorem dels_do3_0_3 : doOk (delsL 0) 3 3 3 0 4 0 [(7, 1200), (855, 1255)] = true := by kernel_rfl
theorem dels_do1_1_0 : doOk (delsL 0) 0 3 1 1 2 1 [(7, 1200), (705, 1255)] = true := by kernel_rfl
theorem dels_do2_1_0 : doOk (delsL 0) 0 3 2 1 3 1 [(7, 1200), (705, 1255)] = true := by kernel_rfl
theorem dels_do3_1_0 : doOk (delsL 0) 0 3 3 1 4 1 [(7, 1200), (705, 1255)] = true := by kernel_rfl
end Go.Proofs.YtejebgdikoehmaaGreatDoor
