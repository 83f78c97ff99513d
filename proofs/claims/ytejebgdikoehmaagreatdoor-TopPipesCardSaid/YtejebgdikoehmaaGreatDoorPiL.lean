/- TopPipes: the town, the feeding, the end. -/
import Derived.Test.YtejebgdikoehmaaGreatDoorPiQ
import Derived.Test.YtejebgdikoehmaaGreatDoorPiR
import Derived.KernelRfl
namespace Go.Proofs.YtejebgdikoehmaaGreatDoor
open Go
set_option linter.unusedVariables false
set_option maxRecDepth 100000
noncomputable def pipCode : Code := (Tryz.f5.body).getD .skip
noncomputable def nthC : Nat → Code → Code
  | 0, c => headOf c
  | k + 1, c => nthC k (tailOf c)
noncomputable def dropC : Nat → Code → Code
  | 0, c => c
  | k + 1, c => dropC k (tailOf c)
noncomputable def pipFeed : Code := tailOf (nthC 6 pipCode)
def kFd : Nat → Bool := fun i => Nat.beq i 2 || Nat.beq i 6 || Nat.beq i 700 || Nat.beq i 701
def srvN : SObj := .cells [.pointer (some ⟨3, 0, none⟩), .pointer (some ⟨4, 0, none⟩), .pointer (some ⟨5, 0, none⟩), .int .i64 1, .slice none 0 0, .slice (some ⟨0, 0, none⟩) 4 4, .slice (some ⟨1, 0, none⟩) 4 4, .slice none 0 0] 59 0 0 0
/-- Behind server.New; behind the opening of a connection. -/
def nP (kind : Nat) : Part := (0, rowO (rowC (rowF ⟨0, 0, 0⟩))) :: (1, strO (strC none)) :: (2, srvN) :: pipB kind 0
def tP (kind : Nat) : Part := pS 0 ⟨0, 0, 0⟩ ++ pipB kind 0
theorem pip_okFeed : codeOk E0 73 pipFeed = true := by kernel_rfl
theorem pip_works : callOk1 6 [] [] (.bool true) [] [] = true := by kernel_rfl
theorem pip_new0 : callOk2 14 [.agg ⟨[.int .i64 1, .int .i64 512, .int .i64 200, .int .i64 0]⟩, .int .i64 4, .int .i64 4, .int .i64 5] [] (.pointer (some ⟨2, 0, none⟩)) (.int .i64 (Int.ofNat 0)) (nP 0) [(0, 1153), (1, 1162), (2, 1158), (3, 1020), (4, 1148), (5, 1161), (8, 1063), (9, 1010), (10, 1008), (11, 1018), (12, 1147), (13, 1019), (14, 1067), (15, 1060), (16, 1061), (17, 1009), (18, 1017), (19, 1086), (20, 1106), (21, 1126), (22, 1146), (23, 1083), (24, 1103), (25, 1123), (26, 1143), (27, 1085), (28, 1081), (29, 1082), (30, 1105), (31, 1101), (32, 1102), (33, 1125), (34, 1121), (35, 1122), (36, 1145), (37, 1141), (38, 1142)] = true := by kernel_rfl
theorem pip_open0 : callOk1 15 [.pointer (some ⟨2, 0, none⟩)] (nP 0) (.int .i64 0) (tP 0) [(6, 1014), (700, 1007), (701, 1013)] = true := by kernel_rfl
theorem pip_new1 : callOk2 14 [.agg ⟨[.int .i64 1, .int .i64 512, .int .i64 200, .int .i64 1]⟩, .int .i64 4, .int .i64 4, .int .i64 5] [] (.pointer (some ⟨2, 0, none⟩)) (.int .i64 (Int.ofNat 0)) (nP 1) [(0, 1183), (1, 1192), (2, 1188), (3, 1026), (4, 1178), (5, 1191), (8, 1069), (9, 1010), (10, 1008), (11, 1024), (12, 1177), (13, 1025), (14, 1073), (15, 1066), (16, 1067), (17, 1009), (18, 1023), (19, 1098), (20, 1124), (21, 1150), (22, 1176), (23, 1097), (24, 1123), (25, 1149), (26, 1175), (27, 1089), (28, 1096), (29, 1115), (30, 1122), (31, 1141), (32, 1148), (33, 1167), (34, 1174), (35, 1095), (36, 1087), (37, 1088), (38, 1121), (39, 1113), (40, 1114), (41, 1147), (42, 1139), (43, 1140), (44, 1173), (45, 1165), (46, 1166)] = true := by kernel_rfl
theorem pip_open1 : callOk1 15 [.pointer (some ⟨2, 0, none⟩)] (nP 1) (.int .i64 0) (tP 1) [(6, 1014), (700, 1007), (701, 1013)] = true := by kernel_rfl
theorem pip_new2 : callOk2 14 [.agg ⟨[.int .i64 1, .int .i64 512, .int .i64 200, .int .i64 2]⟩, .int .i64 4, .int .i64 4, .int .i64 5] [] (.pointer (some ⟨2, 0, none⟩)) (.int .i64 (Int.ofNat 0)) (nP 2) [(0, 1193), (1, 1202), (2, 1198), (3, 1028), (4, 1188), (5, 1201), (8, 1071), (9, 1010), (10, 1008), (11, 1026), (12, 1187), (13, 1027), (14, 1075), (15, 1068), (16, 1069), (17, 1009), (18, 1025), (19, 1102), (20, 1130), (21, 1158), (22, 1186), (23, 1101), (24, 1129), (25, 1157), (26, 1185), (27, 1091), (28, 1097), (29, 1099), (30, 1100), (31, 1119), (32, 1125), (33, 1127), (34, 1128), (35, 1147), (36, 1153), (37, 1155), (38, 1156), (39, 1175), (40, 1181), (41, 1183), (42, 1184), (43, 1095), (44, 1089), (45, 1090), (46, 1096), (47, 1098), (48, 1123), (49, 1117), (50, 1118), (51, 1124), (52, 1126), (53, 1151), (54, 1145), (55, 1146), (56, 1152), (57, 1154), (58, 1179), (59, 1173), (60, 1174), (61, 1180), (62, 1182)] = true := by kernel_rfl
theorem pip_open2 : callOk1 15 [.pointer (some ⟨2, 0, none⟩)] (nP 2) (.int .i64 0) (tP 2) [(6, 1014), (700, 1007), (701, 1013)] = true := by kernel_rfl
theorem pip_new3 : callOk2 14 [.agg ⟨[.int .i64 1, .int .i64 512, .int .i64 200, .int .i64 3]⟩, .int .i64 4, .int .i64 4, .int .i64 5] [] (.pointer (some ⟨2, 0, none⟩)) (.int .i64 (Int.ofNat 0)) (nP 3) [(0, 1183), (1, 1192), (2, 1188), (3, 1026), (4, 1178), (5, 1191), (8, 1069), (9, 1010), (10, 1008), (11, 1024), (12, 1177), (13, 1025), (14, 1073), (15, 1066), (16, 1067), (17, 1009), (18, 1023), (19, 1098), (20, 1124), (21, 1150), (22, 1176), (23, 1097), (24, 1123), (25, 1149), (26, 1175), (27, 1089), (28, 1095), (29, 1096), (30, 1115), (31, 1121), (32, 1122), (33, 1141), (34, 1147), (35, 1148), (36, 1167), (37, 1173), (38, 1174), (39, 1093), (40, 1087), (41, 1088), (42, 1094), (43, 1119), (44, 1113), (45, 1114), (46, 1120), (47, 1145), (48, 1139), (49, 1140), (50, 1146), (51, 1171), (52, 1165), (53, 1166), (54, 1172)] = true := by kernel_rfl
theorem pip_open3 : callOk1 15 [.pointer (some ⟨2, 0, none⟩)] (nP 3) (.int .i64 0) (tP 3) [(6, 1014), (700, 1007), (701, 1013)] = true := by kernel_rfl
theorem pip_feed0 : segOk1 pipFeed [(0, .int .i64 0), (1, .chan (some 1)), (8, .pointer (some ⟨2, 0, none⟩)), (9, bs []), (10, .int .i64 0)] (sel kFd (pS 0 ⟨0, 0, 0⟩)) [(1, .chan (some 1)), (8, .pointer (some ⟨2, 0, none⟩)), (9, bs (out 0))] (sel kFd (pS 0 ⟨0, 0, 0⟩)) = true := by kernel_rfl
theorem pip_end0 : callOk1 11 [.pointer (some ⟨2, 0, none⟩), .int .i64 0, .int .i64 1048576] (sel kFd (pS 0 ⟨0, 0, 0⟩)) (bs (out 0)) [] [] = true := by kernel_rfl
theorem pip_feed1 : segOk1 pipFeed [(0, .int .i64 1), (1, .chan (some 1)), (8, .pointer (some ⟨2, 0, none⟩)), (9, bs []), (10, .int .i64 0)] (sel kFd (pS 0 ⟨0, 0, 0⟩)) [(1, .chan (some 1)), (8, .pointer (some ⟨2, 0, none⟩)), (9, bs (out 2))] (sel kFd (pS 1 ⟨0, 0, 0⟩)) = true := by kernel_rfl
theorem pip_end1 : callOk1 11 [.pointer (some ⟨2, 0, none⟩), .int .i64 0, .int .i64 1048576] (sel kFd (pS 1 ⟨2, 0, 0⟩)) (bs (out 2)) [] [] = true := by kernel_rfl
theorem pip_feed2 : segOk1 pipFeed [(0, .int .i64 2), (1, .chan (some 1)), (8, .pointer (some ⟨2, 0, none⟩)), (9, bs []), (10, .int .i64 0)] (sel kFd (pS 0 ⟨0, 0, 0⟩)) [(1, .chan (some 1)), (8, .pointer (some ⟨2, 0, none⟩)), (9, bs (out 4))] (sel kFd (pS 2 ⟨0, 0, 0⟩)) = true := by kernel_rfl
theorem pip_end2 : callOk1 11 [.pointer (some ⟨2, 0, none⟩), .int .i64 0, .int .i64 1048576] (sel kFd (pS 2 ⟨4, 0, 0⟩)) (bs (out 4)) [] [] = true := by kernel_rfl
theorem pip_feed3 : segOk1 pipFeed [(0, .int .i64 3), (1, .chan (some 1)), (8, .pointer (some ⟨2, 0, none⟩)), (9, bs []), (10, .int .i64 0)] (sel kFd (pS 0 ⟨0, 0, 0⟩)) [(1, .chan (some 1)), (8, .pointer (some ⟨2, 0, none⟩)), (9, bs (out 6))] (sel kFd (pS 3 ⟨0, 0, 0⟩)) = true := by kernel_rfl
theorem pip_end3 : callOk1 11 [.pointer (some ⟨2, 0, none⟩), .int .i64 0, .int .i64 1048576] (sel kFd (pS 3 ⟨6, 0, 0⟩)) (bs (out 6)) [] [] = true := by kernel_rfl
theorem pip_feed4 : segOk1 pipFeed [(0, .int .i64 4), (1, .chan (some 1)), (8, .pointer (some ⟨2, 0, none⟩)), (9, bs []), (10, .int .i64 0)] (sel kFd (pS 0 ⟨0, 0, 0⟩)) [(1, .chan (some 1)), (8, .pointer (some ⟨2, 0, none⟩)), (9, bs (out 8))] (sel kFd (pS 4 ⟨0, 0, 0⟩)) = true := by kernel_rfl
theorem pip_end4 : callOk1 11 [.pointer (some ⟨2, 0, none⟩), .int .i64 0, .int .i64 1048576] (sel kFd (pS 4 ⟨8, 0, 0⟩)) (bs (out 8)) [] [] = true := by kernel_rfl
theorem pip_feed5 : segOk1 pipFeed [(0, .int .i64 5), (1, .chan (some 1)), (8, .pointer (some ⟨2, 0, none⟩)), (9, bs []), (10, .int .i64 0)] (sel kFd (pS 0 ⟨0, 0, 0⟩)) [(1, .chan (some 1)), (8, .pointer (some ⟨2, 0, none⟩)), (9, bs (out 10))] (sel kFd (pS 5 ⟨0, 0, 0⟩)) = true := by kernel_rfl
theorem pip_end5 : callOk1 11 [.pointer (some ⟨2, 0, none⟩), .int .i64 0, .int .i64 1048576] (sel kFd (pS 5 ⟨10, 0, 0⟩)) (bs (out 10)) [] [] = true := by kernel_rfl
theorem pip_feed6 : segOk1 pipFeed [(0, .int .i64 6), (1, .chan (some 1)), (8, .pointer (some ⟨2, 0, none⟩)), (9, bs []), (10, .int .i64 0)] (sel kFd (pS 0 ⟨0, 0, 0⟩)) [(1, .chan (some 1)), (8, .pointer (some ⟨2, 0, none⟩)), (9, bs (out 12))] (sel kFd (pS 6 ⟨0, 0, 0⟩)) = true := by kernel_rfl
theorem pip_end6 : callOk1 11 [.pointer (some ⟨2, 0, none⟩), .int .i64 0, .int .i64 1048576] (sel kFd (pS 6 ⟨12, 0, 0⟩)) (bs (out 12)) [] [] = true := by kernel_rfl
theorem pip_feed7 : segOk1 pipFeed [(0, .int .i64 7), (1, .chan (some 1)), (8, .pointer (some ⟨2, 0, none⟩)), (9, bs []), (10, .int .i64 0)] (sel kFd (pS 0 ⟨0, 0, 0⟩)) [(1, .chan (some 1)), (8, .pointer (some ⟨2, 0, none⟩)), (9, bs (out 14))] (sel kFd (pS 7 ⟨0, 0, 0⟩)) = true := by kernel_rfl
theorem pip_end7 : callOk1 11 [.pointer (some ⟨2, 0, none⟩), .int .i64 0, .int .i64 1048576] (sel kFd (pS 7 ⟨14, 0, 0⟩)) (bs (out 14)) [] [] = true := by kernel_rfl
theorem pip_feed8 : segOk1 pipFeed [(0, .int .i64 8), (1, .chan (some 1)), (8, .pointer (some ⟨2, 0, none⟩)), (9, bs []), (10, .int .i64 0)] (sel kFd (pS 0 ⟨0, 0, 0⟩)) [(1, .chan (some 1)), (8, .pointer (some ⟨2, 0, none⟩)), (9, bs (out 16))] (sel kFd (pS 8 ⟨0, 0, 0⟩)) = true := by kernel_rfl
theorem pip_end8 : callOk1 11 [.pointer (some ⟨2, 0, none⟩), .int .i64 0, .int .i64 1048576] (sel kFd (pS 8 ⟨16, 0, 0⟩)) (bs (out 16)) [] [] = true := by kernel_rfl
theorem pip_feed9 : segOk1 pipFeed [(0, .int .i64 9), (1, .chan (some 1)), (8, .pointer (some ⟨2, 0, none⟩)), (9, bs []), (10, .int .i64 0)] (sel kFd (pS 0 ⟨0, 0, 0⟩)) [(1, .chan (some 1)), (8, .pointer (some ⟨2, 0, none⟩)), (9, bs (out 18))] (sel kFd (pS 9 ⟨0, 0, 0⟩)) = true := by kernel_rfl
theorem pip_end9 : callOk1 11 [.pointer (some ⟨2, 0, none⟩), .int .i64 0, .int .i64 1048576] (sel kFd (pS 9 ⟨18, 0, 0⟩)) (bs (out 18)) [] [] = true := by kernel_rfl
theorem pip_feed10 : segOk1 pipFeed [(0, .int .i64 10), (1, .chan (some 1)), (8, .pointer (some ⟨2, 0, none⟩)), (9, bs []), (10, .int .i64 0)] (sel kFd (pS 0 ⟨0, 0, 0⟩)) [(1, .chan (some 1)), (8, .pointer (some ⟨2, 0, none⟩)), (9, bs (out 20))] (sel kFd (pS 10 ⟨0, 0, 0⟩)) = true := by kernel_rfl
theorem pip_end10 : callOk1 11 [.pointer (some ⟨2, 0, none⟩), .int .i64 0, .int .i64 1048576] (sel kFd (pS 10 ⟨20, 0, 0⟩)) (bs (out 20)) [] [] = true := by kernel_rfl
theorem pip_feed11 : segOk1 pipFeed [(0, .int .i64 11), (1, .chan (some 1)), (8, .pointer (some ⟨2, 0, none⟩)), (9, bs []), (10, .int .i64 0)] (sel kFd (pS 0 ⟨0, 0, 0⟩)) [(1, .chan (some 1)), (8, .pointer (some ⟨2, 0, none⟩)), (9, bs (out 22))] (sel kFd (pS 11 ⟨0, 0, 0⟩)) = true := by kernel_rfl
theorem pip_end11 : callOk1 11 [.pointer (some ⟨2, 0, none⟩), .int .i64 0, .int .i64 1048576] (sel kFd (pS 11 ⟨22, 0, 0⟩)) (bs (out 22)) [] [] = true := by kernel_rfl
theorem pip_feed12 : segOk1 pipFeed [(0, .int .i64 12), (1, .chan (some 1)), (8, .pointer (some ⟨2, 0, none⟩)), (9, bs []), (10, .int .i64 0)] (sel kFd (pS 0 ⟨0, 0, 0⟩)) [(1, .chan (some 1)), (8, .pointer (some ⟨2, 0, none⟩)), (9, bs (out 24))] (sel kFd (pS 12 ⟨0, 0, 0⟩)) = true := by kernel_rfl
theorem pip_end12 : callOk1 11 [.pointer (some ⟨2, 0, none⟩), .int .i64 0, .int .i64 1048576] (sel kFd (pS 12 ⟨24, 0, 0⟩)) (bs (out 24)) [] [] = true := by kernel_rfl
theorem pip_feed13 : segOk1 pipFeed [(0, .int .i64 13), (1, .chan (some 1)), (8, .pointer (some ⟨2, 0, none⟩)), (9, bs []), (10, .int .i64 0)] (sel kFd (pS 0 ⟨0, 0, 0⟩)) [(1, .chan (some 1)), (8, .pointer (some ⟨2, 0, none⟩)), (9, bs (out 26))] (sel kFd (pS 13 ⟨0, 0, 0⟩)) = true := by kernel_rfl
theorem pip_end13 : callOk1 11 [.pointer (some ⟨2, 0, none⟩), .int .i64 0, .int .i64 1048576] (sel kFd (pS 13 ⟨26, 0, 0⟩)) (bs (out 26)) [] [] = true := by kernel_rfl
theorem pip_feed14 : segOk1 pipFeed [(0, .int .i64 14), (1, .chan (some 1)), (8, .pointer (some ⟨2, 0, none⟩)), (9, bs []), (10, .int .i64 0)] (sel kFd (pS 0 ⟨0, 0, 0⟩)) [(1, .chan (some 1)), (8, .pointer (some ⟨2, 0, none⟩)), (9, bs (out 28))] (sel kFd (pS 14 ⟨0, 0, 0⟩)) = true := by kernel_rfl
theorem pip_end14 : callOk1 11 [.pointer (some ⟨2, 0, none⟩), .int .i64 0, .int .i64 1048576] (sel kFd (pS 14 ⟨28, 0, 0⟩)) (bs (out 28)) [] [] = true := by kernel_rfl
theorem pip_feed15 : segOk1 pipFeed [(0, .int .i64 15), (1, .chan (some 1)), (8, .pointer (some ⟨2, 0, none⟩)), (9, bs []), (10, .int .i64 0)] (sel kFd (pS 0 ⟨0, 0, 0⟩)) [(1, .chan (some 1)), (8, .pointer (some ⟨2, 0, none⟩)), (9, bs (out 30))] (sel kFd (pS 15 ⟨0, 0, 0⟩)) = true := by kernel_rfl
theorem pip_end15 : callOk1 11 [.pointer (some ⟨2, 0, none⟩), .int .i64 0, .int .i64 1048576] (sel kFd (pS 15 ⟨30, 0, 0⟩)) (bs (out 30)) [] [] = true := by kernel_rfl
end Go.Proofs.YtejebgdikoehmaaGreatDoor
