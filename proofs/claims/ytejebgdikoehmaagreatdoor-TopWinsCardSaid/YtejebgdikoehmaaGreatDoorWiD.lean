/- TopWins: its body, but for picked. -/
import Derived.Test.YtejebgdikoehmaaGreatDoorWiA
import Derived.KernelRfl
namespace Go.Proofs.YtejebgdikoehmaaGreatDoor
open Go
set_option linter.unusedVariables false
set_option maxRecDepth 100000
noncomputable def winsCode : Code := (Tryz.f3.body).getD .skip
noncomputable def nthC : Nat → Code → Code
  | 0, c => headOf c
  | k + 1, c => nthC k (tailOf c)
noncomputable def dropC : Nat → Code → Code
  | 0, c => c
  | k + 1, c => dropC k (tailOf c)
noncomputable def wins1 : List Code := [nthC 0 winsCode, nthC 1 winsCode]
noncomputable def wins2 : List Code := [nthC 2 winsCode, nthC 3 winsCode, nthC 4 winsCode, nthC 5 winsCode, nthC 6 winsCode]
noncomputable def winsOps : Array Oper := opsOf (nthC 7 winsCode)
def callOf : Op → Option Call
  | .call c => some c
  | _ => none
noncomputable def winsO : Oper := (winsOps[2]?).getD ⟨none, .move (.tmp 0), 0, "", ⟨[]⟩, none⟩
noncomputable def winsCl : Call := (callOf winsO.op).getD ⟨.value (.tmp 0), ⟨[]⟩, ⟨[]⟩⟩
noncomputable def winsEnd : Code := dropC 8 winsCode
theorem wins_body : Tryz.f3.body = some (seqs wins1 (seqs wins2 (.seq (.region 12 winsOps false) winsEnd))) := by kernel_rfl
theorem wins_ok1 : wins1.all (codeOk E0 47) = true := by kernel_rfl
theorem wins_ok2 : wins2.all (codeOk E0 47) = true := by kernel_rfl
theorem wins_ok3 : winsOps.toList.all (dstOk 47) = true := by kernel_rfl
theorem wins_ok4 : codeOk E0 47 winsEnd = true := by kernel_rfl
theorem wins_ops : winsOps[2]? = some winsO ∧ winsOps.size = 3 := ⟨by kernel_rfl, by kernel_rfl⟩
theorem wins_call : winsO.op = .call winsCl ∧ winsCl.callee = .value (.func 10) ∧ winsO.guard = none ∧ winsO.dst = some 31 := ⟨by kernel_rfl, by kernel_rfl, by kernel_rfl, by kernel_rfl⟩
theorem wins_moves (S : St) : sOps E0 callB winsOps.toList (winsOps.toList.take 2) (stsL T04) S = some (stsL ((30, .chan (some 1)) :: (29, .pointer (some ⟨2, 0, none⟩)) :: T04), S) := by kernel_rfl
theorem wins_args : evalL (stsL ((30, .chan (some 1)) :: (29, .pointer (some ⟨2, 0, none⟩)) :: T04)) winsCl.args.toList = some [.pointer (some ⟨2, 0, none⟩), .chan (some 1), .int .i64 20] := by kernel_rfl
theorem wins_seg1 : segOk wins1 [(0, .chan (some 1))] [] [(0, .chan (some 1)), (3, .bool true)] [] [] = true := by kernel_rfl
theorem wins_seg2 : segOk wins2 [(0, .chan (some 1)), (3, .bool true)] [] T04 (winsL.full a0) [(0, 1193), (1, 1202), (2, 1198), (3, 1028), (4, 1188), (5, 1201), (6, 1282), (7, 2959), (8, 1071), (9, 1010), (10, 1008), (11, 1026), (12, 1187), (13, 1027), (14, 1075), (15, 1068), (16, 1069), (17, 2076), (18, 1009), (19, 1025), (20, 1102), (21, 1130), (22, 1158), (23, 1186), (24, 1978), (25, 1788), (26, 2119), (27, 1101), (28, 1129), (29, 1157), (30, 1185), (31, 1786), (32, 1091), (33, 1097), (34, 1099), (35, 1100), (36, 1119), (37, 1125), (38, 1127), (39, 1128), (40, 1147), (41, 1153), (42, 1155), (43, 1156), (44, 1175), (45, 1181), (46, 1183), (47, 1184), (48, 2170), (49, 1089), (50, 1090), (51, 1096), (52, 1098), (53, 1123), (54, 1117), (55, 1118), (56, 1124), (57, 1126), (58, 1151), (59, 1145), (60, 1146), (61, 1152), (62, 1154), (63, 1179), (64, 1173), (65, 1174), (66, 1180), (67, 1182), (700, 1230), (701, 1236), (750, 1245), (751, 1251), (800, 1260), (801, 1266), (850, 1275), (851, 1281)] = true := by kernel_rfl
theorem wins_end0 : endOk winsEnd [(4, .pointer (some ⟨2, 0, none⟩))] (winsL.full (fin 0)) 2 = true := by kernel_rfl
theorem wins_end1 : endOk winsEnd [(4, .pointer (some ⟨2, 0, none⟩))] (winsL.full (fin 1)) 2 = true := by kernel_rfl
theorem wins_end2 : endOk winsEnd [(4, .pointer (some ⟨2, 0, none⟩))] (winsL.full (fin 2)) 2 = true := by kernel_rfl
theorem wins_end3 : endOk winsEnd [(4, .pointer (some ⟨2, 0, none⟩))] (winsL.full (fin 3)) 2 = true := by kernel_rfl
end Go.Proofs.YtejebgdikoehmaaGreatDoor
