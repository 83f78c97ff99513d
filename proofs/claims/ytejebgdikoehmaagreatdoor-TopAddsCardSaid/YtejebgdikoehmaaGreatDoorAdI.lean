/- TopAdds: its body, but for picked. -/
import Derived.Test.YtejebgdikoehmaaGreatDoorAdE
import Derived.KernelRfl
namespace Go.Proofs.YtejebgdikoehmaaGreatDoor
open Go
set_option linter.unusedVariables false
set_option maxRecDepth 100000
noncomputable def addsCode : Code := (Tryz.f4.body).getD .skip
noncomputable def nthC : Nat → Code → Code
  | 0, c => headOf c
  | k + 1, c => nthC k (tailOf c)
noncomputable def dropC : Nat → Code → Code
  | 0, c => c
  | k + 1, c => dropC k (tailOf c)
def callOf : Op → Option Call
  | .call c => some c
  | _ => none
noncomputable def adds1 : List Code := [nthC 0 addsCode, nthC 1 addsCode]
noncomputable def adds2 : List Code := [nthC 2 addsCode, nthC 3 addsCode, nthC 4 addsCode]
noncomputable def adds3 : List Code := [nthC 6 addsCode, nthC 7 addsCode, nthC 8 addsCode, nthC 9 addsCode, nthC 10 addsCode]
noncomputable def addsOps1 : Array Oper := opsOf (nthC 5 addsCode)
noncomputable def addsOps2 : Array Oper := opsOf (nthC 11 addsCode)
noncomputable def addsO1 : Oper := (addsOps1[2]?).getD ⟨none, .move (.tmp 0), 0, "", ⟨[]⟩, none⟩
noncomputable def addsCl1 : Call := (callOf addsO1.op).getD ⟨.value (.tmp 0), ⟨[]⟩, ⟨[]⟩⟩
noncomputable def addsO2 : Oper := (addsOps2[2]?).getD ⟨none, .move (.tmp 0), 0, "", ⟨[]⟩, none⟩
noncomputable def addsCl2 : Call := (callOf addsO2.op).getD ⟨.value (.tmp 0), ⟨[]⟩, ⟨[]⟩⟩
noncomputable def addsEnd : Code := dropC 12 addsCode
theorem adds_body : Tryz.f4.body = some (seqs adds1 (seqs adds2 (.seq (.region 9 addsOps1 false) (seqs adds3 (.seq (.region 26 addsOps2 false) addsEnd))))) := by kernel_rfl
theorem adds_ok1 : adds1.all (codeOk E0 93) = true := by kernel_rfl
theorem adds_ok2 : adds2.all (codeOk E0 93) = true := by kernel_rfl
theorem adds_ok3 : adds3.all (codeOk E0 93) = true := by kernel_rfl
theorem adds_dst1 : addsOps1.toList.all (dstOk 93) = true := by kernel_rfl
theorem adds_dst2 : addsOps2.toList.all (dstOk 93) = true := by kernel_rfl
theorem adds_ok4 : codeOk E0 93 addsEnd = true := by kernel_rfl
theorem adds_ops1 : addsOps1[2]? = some addsO1 ∧ addsOps1.size = 3 := ⟨by kernel_rfl, by kernel_rfl⟩
theorem adds_call1 : addsO1.op = .call addsCl1 ∧ addsCl1.callee = .value (.func 10) ∧ addsO1.guard = none ∧ addsO1.dst = some 35 := ⟨by kernel_rfl, by kernel_rfl, by kernel_rfl, by kernel_rfl⟩
theorem adds_moves1 (S : St) : sOps E0 callB addsOps1.toList (addsOps1.toList.take 2) (stsL T04) S = some (stsL ((34, .chan (some 1)) :: (33, .pointer (some ⟨2, 0, none⟩)) :: T04), S) := by kernel_rfl
theorem adds_args1 : evalL (stsL ((34, .chan (some 1)) :: (33, .pointer (some ⟨2, 0, none⟩)) :: T04)) addsCl1.args.toList = some [.pointer (some ⟨2, 0, none⟩), .chan (some 1), .int .i64 20] := by kernel_rfl
theorem adds_ops2 : addsOps2[2]? = some addsO2 ∧ addsOps2.size = 3 := ⟨by kernel_rfl, by kernel_rfl⟩
theorem adds_call2 : addsO2.op = .call addsCl2 ∧ addsCl2.callee = .value (.func 10) ∧ addsO2.guard = none ∧ addsO2.dst = some 77 := ⟨by kernel_rfl, by kernel_rfl, by kernel_rfl, by kernel_rfl⟩
theorem adds_moves2 (S : St) : sOps E0 callB addsOps2.toList (addsOps2.toList.take 2) (stsL T04) S = some (stsL ((76, .chan (some 1)) :: (75, .pointer (some ⟨2, 0, none⟩)) :: T04), S) := by kernel_rfl
theorem adds_args2 : evalL (stsL ((76, .chan (some 1)) :: (75, .pointer (some ⟨2, 0, none⟩)) :: T04)) addsCl2.args.toList = some [.pointer (some ⟨2, 0, none⟩), .chan (some 1), .int .i64 20] := by kernel_rfl
theorem adds_seg1 : segOk adds1 [(0, .chan (some 1))] [] [(0, .chan (some 1)), (3, .bool true)] [] [] = true := by kernel_rfl
theorem adds_seg2 : segOk adds2 [(0, .chan (some 1)), (3, .bool true)] [] T04 ((addsL 0).full a0) [(0, 1183), (1, 1192), (2, 1188), (3, 1026), (4, 1178), (5, 1191), (6, 1272), (8, 1069), (9, 1010), (10, 1008), (11, 1024), (12, 1177), (13, 1025), (14, 1073), (15, 1066), (16, 1067), (17, 1009), (18, 1023), (19, 1098), (20, 1124), (21, 1150), (22, 1176), (23, 1097), (24, 1123), (25, 1149), (26, 1175), (27, 1089), (28, 1095), (29, 1096), (30, 1115), (31, 1121), (32, 1122), (33, 1141), (34, 1147), (35, 1148), (36, 1167), (37, 1173), (38, 1174), (39, 1093), (40, 1087), (41, 1088), (42, 1094), (43, 1119), (44, 1113), (45, 1114), (46, 1120), (47, 1145), (48, 1139), (49, 1140), (50, 1146), (51, 1171), (52, 1165), (53, 1166), (54, 1172), (700, 1220), (701, 1226), (750, 1235), (751, 1241), (800, 1250), (801, 1256), (850, 1265), (851, 1271)] = true := by kernel_rfl
theorem adds_mid0 : segOk adds3 T04 ((addsL 0).full (fin 0)) T04 ((delsL 0).full a0) [(7, 1700)] = true := by kernel_rfl
theorem adds_mid1 : segOk adds3 T04 ((addsL 0).full (fin 1)) T04 ((delsL 1).full a0) [(7, 1700)] = true := by kernel_rfl
theorem adds_mid2 : segOk adds3 T04 ((addsL 0).full (fin 2)) T04 ((delsL 2).full a0) [(7, 1700)] = true := by kernel_rfl
theorem adds_mid3 : segOk adds3 T04 ((addsL 0).full (fin 3)) T04 ((delsL 3).full a0) [(7, 1700)] = true := by kernel_rfl
theorem adds_end0 : endOk addsEnd [(4, .pointer (some ⟨2, 0, none⟩))] ((delsL 0).full (fin 0)) 2 = true := by kernel_rfl
theorem adds_end1 : endOk addsEnd [(4, .pointer (some ⟨2, 0, none⟩))] ((delsL 0).full (fin 1)) 2 = true := by kernel_rfl
theorem adds_end2 : endOk addsEnd [(4, .pointer (some ⟨2, 0, none⟩))] ((delsL 0).full (fin 2)) 2 = true := by kernel_rfl
theorem adds_end3 : endOk addsEnd [(4, .pointer (some ⟨2, 0, none⟩))] ((delsL 0).full (fin 3)) 2 = true := by kernel_rfl
end Go.Proofs.YtejebgdikoehmaaGreatDoor
