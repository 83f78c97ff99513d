/- TopWins: what lies in memory. -/
import Derived.Test.YtejebgdikoehmaaGreatDoorToO
namespace Go.Proofs.YtejebgdikoehmaaGreatDoor
open Go
set_option linter.unusedVariables false
set_option maxRecDepth 100000
def rp (n : Nat) (v : Value) : List Value := List.replicate n v
def winsF : Part := [(3, .cells [.pointer (some ⟨8, 0, none⟩), .pointer (some ⟨9, 0, none⟩), .slice (some ⟨10, 0, none⟩) 4 1000000004, .pointer (some ⟨11, 0, none⟩), .slice (some ⟨12, 0, none⟩) 4 1000000004, .int .u64 (Int.ofNat 2), .int .i64 (Int.ofNat 0), .map (some 13)] 116 0 0 0),
  (4, .cells ([.int .i64 (Int.ofNat 5)] ++ rp 64 (.int .i64 (Int.ofNat 0)) ++ [.pointer none]) 122 0 0 0),
  (8, .cells [.pointer (some ⟨9, 0, none⟩), .slice (some ⟨14, 0, none⟩) 4 1000000004, .slice (some ⟨15, 0, none⟩) 4 4, .map (some 16)] 182 0 0 0),
  (9, .cells [.int .i64 (Int.ofNat 512), .slice (some ⟨17, 0, none⟩) 512 1000000512, .slice (some ⟨18, 0, none⟩) 1 1] 156 0 0 0),
  (10, .cells [.int .i64 (Int.ofNat 64), .int .i64 (Int.ofNat 128), .int .i64 (Int.ofNat 256), .int .i64 (Int.ofNat 512)] 3 0 0 1),
  (11, .cells [.int .i64 (Int.ofNat 2), .slice none 0 0, .slice (some ⟨19, 0, none⟩) 4 4, .int .i64 (Int.ofNat 0), .int .i64 (Int.ofNat 1)] 177 0 0 0),
  (12, .cells [.pointer (some ⟨20, 0, none⟩), .pointer (some ⟨21, 0, none⟩), .pointer (some ⟨22, 0, none⟩), .pointer (some ⟨23, 0, none⟩)] 108 0 0 1),
  (13, .map [] 0),
  (14, .cells [.int .i64 (Int.ofNat 64), .int .i64 (Int.ofNat 128), .int .i64 (Int.ofNat 256), .int .i64 (Int.ofNat 512)] 3 0 0 1),
  (15, .cells [.slice (some ⟨24, 0, none⟩) 7 1000000008, .slice none 0 0, .slice none 0 0, .slice none 0 0] 22 0 0 0),
  (16, .map [⟨.int .i64 (Int.ofNat 0), .pointer (some ⟨25, 0, none⟩), 0⟩] 1),
  (18, .cells [.int .i64 (Int.ofNat 1)] 3 0 0 0),
  (19, .cells [.pointer none, .pointer none, .pointer (some ⟨26, 0, none⟩), .pointer none] 238 0 0 0),
  (20, .cells [.iface 169 (.pointer (some ⟨27, 0, none⟩))] 164 0 0 0),
  (21, .cells [.iface 169 (.pointer (some ⟨28, 0, none⟩))] 164 0 0 0),
  (22, .cells [.iface 169 (.pointer (some ⟨29, 0, none⟩))] 164 0 0 0),
  (23, .cells [.iface 169 (.pointer (some ⟨30, 0, none⟩))] 164 0 0 0),
  (24, .cells [.int .i64 (Int.ofNat 7), .int .i64 (Int.ofNat 6), .int .i64 (Int.ofNat 5), .int .i64 (Int.ofNat 4), .int .i64 (Int.ofNat 3), .int .i64 (Int.ofNat 2), .int .i64 (Int.ofNat 1), .int .i64 (Int.ofNat 0)] 3 0 0 1),
  (25, .cells [.slice (some ⟨31, 0, none⟩) 8 8, .int .i64 (Int.ofNat 1), .bool false] 296 0 0 0),
  (26, .cells [.string ⟨⟨[107]⟩⟩, .int .u64 (Int.ofNat 12638198195671924106), .int .i64 (Int.ofNat 0), .pointer none] 240 0 0 0),
  (27, .cells [.pointer (some ⟨32, 0, none⟩), .pointer (some ⟨33, 0, none⟩), .pointer (some ⟨34, 0, none⟩), .int .i64 (Int.ofNat 8), .int .i64 (Int.ofNat 0), .map (some 35)] 266 0 0 0),
  (28, .cells [.pointer (some ⟨36, 0, none⟩), .pointer (some ⟨37, 0, none⟩), .pointer (some ⟨38, 0, none⟩), .int .i64 (Int.ofNat 0), .int .i64 (Int.ofNat 0), .map (some 39)] 266 0 0 0),
  (29, .cells [.pointer (some ⟨40, 0, none⟩), .pointer (some ⟨41, 0, none⟩), .pointer (some ⟨42, 0, none⟩), .int .i64 (Int.ofNat 0), .int .i64 (Int.ofNat 0), .map (some 43)] 266 0 0 0),
  (30, .cells [.pointer (some ⟨44, 0, none⟩), .pointer (some ⟨45, 0, none⟩), .pointer (some ⟨46, 0, none⟩), .int .i64 (Int.ofNat 0), .int .i64 (Int.ofNat 0), .map (some 47)] 266 0 0 0),
  (31, .cells [.bool true, .bool false, .bool false, .bool false, .bool false, .bool false, .bool false, .bool false] 4 0 0 0),
  (33, .cells [.int .i64 (Int.ofNat 8), .map (some 51), .slice none 0 0, .int .i64 (Int.ofNat 0)] 326 0 0 0),
  (34, .cells [.int .i64 (Int.ofNat 8), .map (some 52), .slice none 0 0, .int .i64 (Int.ofNat 0)] 326 0 0 0),
  (35, .map [⟨.int .i64 (Int.ofNat 0), .int .u64 (Int.ofNat 12638198195671924106), 0⟩] 1),
  (36, .cells [.slice (some ⟨53, 0, none⟩) 2 1000000002, .slice none 0 0, .map (some 54), .slice (some ⟨55, 0, none⟩) 2 2] 256 0 0 0),
  (37, .cells [.int .i64 (Int.ofNat 0), .map (some 56), .slice none 0 0, .int .i64 (Int.ofNat 0)] 326 0 0 0),
  (38, .cells [.int .i64 (Int.ofNat 0), .map (some 57), .slice none 0 0, .int .i64 (Int.ofNat 0)] 326 0 0 0),
  (39, .map [] 0),
  (40, .cells [.slice (some ⟨58, 0, none⟩) 2 1000000002, .slice none 0 0, .map (some 59), .slice (some ⟨60, 0, none⟩) 2 2] 256 0 0 0),
  (41, .cells [.int .i64 (Int.ofNat 0), .map (some 61), .slice none 0 0, .int .i64 (Int.ofNat 0)] 326 0 0 0),
  (42, .cells [.int .i64 (Int.ofNat 0), .map (some 62), .slice none 0 0, .int .i64 (Int.ofNat 0)] 326 0 0 0),
  (43, .map [] 0),
  (44, .cells [.slice (some ⟨63, 0, none⟩) 2 1000000002, .slice none 0 0, .map (some 64), .slice (some ⟨65, 0, none⟩) 2 2] 256 0 0 0),
  (45, .cells [.int .i64 (Int.ofNat 0), .map (some 66), .slice none 0 0, .int .i64 (Int.ofNat 0)] 326 0 0 0),
  (46, .cells [.int .i64 (Int.ofNat 0), .map (some 67), .slice none 0 0, .int .i64 (Int.ofNat 0)] 326 0 0 0),
  (47, .map [] 0),
  (51, .map [] 0),
  (52, .map [] 0),
  (53, .cells [.int .i64 (Int.negSucc 0), .int .i64 (Int.ofNat 0), .int .i64 (Int.ofNat 0), .int .i64 (Int.ofNat 0), .int .i64 (Int.negSucc 0), .int .i64 (Int.ofNat 1), .int .i64 (Int.ofNat 1), .int .i64 (Int.ofNat 1)] 258 0 0 4),
  (54, .map [] 0),
  (55, .cells [.int .i64 (Int.ofNat 0), .int .i64 (Int.ofNat 0)] 3 0 0 0),
  (56, .map [] 0),
  (57, .map [] 0),
  (58, .cells [.int .i64 (Int.negSucc 0), .int .i64 (Int.ofNat 0), .int .i64 (Int.ofNat 0), .int .i64 (Int.ofNat 0), .int .i64 (Int.negSucc 0), .int .i64 (Int.ofNat 1), .int .i64 (Int.ofNat 1), .int .i64 (Int.ofNat 1)] 258 0 0 4),
  (59, .map [] 0),
  (60, .cells [.int .i64 (Int.ofNat 0), .int .i64 (Int.ofNat 0)] 3 0 0 0),
  (61, .map [] 0),
  (62, .map [] 0),
  (63, .cells [.int .i64 (Int.negSucc 0), .int .i64 (Int.ofNat 0), .int .i64 (Int.ofNat 0), .int .i64 (Int.ofNat 0), .int .i64 (Int.negSucc 0), .int .i64 (Int.ofNat 1), .int .i64 (Int.ofNat 1), .int .i64 (Int.ofNat 1)] 258 0 0 4),
  (64, .map [] 0),
  (65, .cells [.int .i64 (Int.ofNat 0), .int .i64 (Int.ofNat 0)] 3 0 0 0),
  (66, .map [] 0),
  (67, .map [] 0)]
def winsV : Nat → Part := fun k => match k with
  | 0 => [(5, .cells [.int .u64 (Int.ofNat 0), .int .u64 (Int.ofNat 1), .int .u64 (Int.ofNat 0), .int .u64 (Int.ofNat 0), .int .u64 (Int.ofNat 0), .int .u64 (Int.ofNat 0), .int .u64 (Int.ofNat 1), .int .u64 (Int.ofNat 0), .int .u64 (Int.ofNat 0), .int .u64 (Int.ofNat 0), .int .u64 (Int.ofNat 0), .int .u64 (Int.ofNat 0), .int .u64 (Int.ofNat 0), .int .u64 (Int.ofNat 0), .int .u64 (Int.ofNat 0), .int .u64 (Int.ofNat 0), .int .u64 (Int.ofNat 0), .int .u64 (Int.ofNat 0)] 125 0 0 0),
  (7, .cells (rp 70 (.chan (some 0))) 89 0 0 35),
  (17, .cells ([.int .u8 (Int.ofNat 1), .int .u8 (Int.ofNat 1), .int .u8 (Int.ofNat 0), .int .u8 (Int.ofNat 0), .int .u8 (Int.ofNat 0), .int .u8 (Int.ofNat 0), .int .u8 (Int.ofNat 0), .int .u8 (Int.ofNat 0), .int .u8 (Int.ofNat 1)] ++ rp 15 (.int .u8 (Int.ofNat 0)) ++ [.int .u8 (Int.ofNat 2)] ++ rp 15 (.int .u8 (Int.ofNat 0)) ++ [.int .u8 (Int.ofNat 107), .int .u8 (Int.ofNat 118)] ++ rp 470 (.int .u8 (Int.ofNat 0))) 5 0 0 1),
  (32, .cells [.slice (some ⟨48, 0, none⟩) 3 1000000003, .slice none 0 0, .map (some 49), .slice (some ⟨50, 0, none⟩) 2 2] 256 0 0 0),
  (48, .cells [.int .i64 (Int.negSucc 0), .int .i64 (Int.ofNat 0), .int .i64 (Int.ofNat 2), .int .i64 (Int.ofNat 2), .int .i64 (Int.negSucc 0), .int .i64 (Int.ofNat 1), .int .i64 (Int.ofNat 1), .int .i64 (Int.ofNat 1), .int .i64 (Int.ofNat 0), .int .i64 (Int.ofNat 0), .int .i64 (Int.ofNat 0), .int .i64 (Int.ofNat 0)] 258 0 0 4),
  (49, .map [⟨.int .i64 (Int.ofNat 0), .int .i64 (Int.ofNat 2), 0⟩] 1),
  (50, .cells [.int .i64 (Int.ofNat 1), .int .i64 (Int.ofNat 0)] 3 0 0 0)]
  | 1 => [(5, .cells [.int .u64 (Int.ofNat 1), .int .u64 (Int.ofNat 1), .int .u64 (Int.ofNat 0), .int .u64 (Int.ofNat 0), .int .u64 (Int.ofNat 1), .int .u64 (Int.ofNat 0), .int .u64 (Int.ofNat 1), .int .u64 (Int.ofNat 0), .int .u64 (Int.ofNat 0), .int .u64 (Int.ofNat 0), .int .u64 (Int.ofNat 0), .int .u64 (Int.ofNat 0), .int .u64 (Int.ofNat 0), .int .u64 (Int.ofNat 0), .int .u64 (Int.ofNat 0), .int .u64 (Int.ofNat 0), .int .u64 (Int.ofNat 0), .int .u64 (Int.ofNat 0)] 125 0 0 0),
  (7, .cells (rp 105 (.chan (some 0))) 89 0 0 35),
  (17, .cells ([.int .u8 (Int.ofNat 1), .int .u8 (Int.ofNat 3), .int .u8 (Int.ofNat 0), .int .u8 (Int.ofNat 0), .int .u8 (Int.ofNat 0), .int .u8 (Int.ofNat 0), .int .u8 (Int.ofNat 0), .int .u8 (Int.ofNat 0), .int .u8 (Int.ofNat 1)] ++ rp 15 (.int .u8 (Int.ofNat 0)) ++ [.int .u8 (Int.ofNat 2), .int .u8 (Int.ofNat 0), .int .u8 (Int.ofNat 0), .int .u8 (Int.ofNat 0), .int .u8 (Int.ofNat 0), .int .u8 (Int.ofNat 0), .int .u8 (Int.ofNat 0), .int .u8 (Int.ofNat 0), .int .u8 (Int.ofNat 1), .int .u8 (Int.ofNat 0), .int .u8 (Int.ofNat 0), .int .u8 (Int.ofNat 0), .int .u8 (Int.ofNat 0), .int .u8 (Int.ofNat 0), .int .u8 (Int.ofNat 0), .int .u8 (Int.ofNat 0), .int .u8 (Int.ofNat 107), .int .u8 (Int.ofNat 118)] ++ rp 470 (.int .u8 (Int.ofNat 0))) 5 0 0 1),
  (32, .cells [.slice (some ⟨48, 0, none⟩) 3 1000000003, .slice (some ⟨68, 0, none⟩) 0 1000000001, .map (some 49), .slice (some ⟨50, 0, none⟩) 2 2] 256 0 0 0),
  (48, .cells [.int .i64 (Int.negSucc 0), .int .i64 (Int.ofNat 0), .int .i64 (Int.ofNat 0), .int .i64 (Int.ofNat 0), .int .i64 (Int.negSucc 0), .int .i64 (Int.ofNat 1), .int .i64 (Int.ofNat 2), .int .i64 (Int.ofNat 2), .int .i64 (Int.ofNat 0), .int .i64 (Int.ofNat 1), .int .i64 (Int.ofNat 1), .int .i64 (Int.ofNat 1)] 258 0 0 4),
  (49, .map [⟨.int .i64 (Int.ofNat 0), .int .i64 (Int.ofNat 2), 1⟩] 2),
  (50, .cells [.int .i64 (Int.ofNat 0), .int .i64 (Int.ofNat 1)] 3 0 0 0),
  (68, .cells [.int .i64 (Int.ofNat 2)] 3 0 0 1)]
  | 2 => [(5, .cells [.int .u64 (Int.ofNat 2), .int .u64 (Int.ofNat 1), .int .u64 (Int.ofNat 0), .int .u64 (Int.ofNat 0), .int .u64 (Int.ofNat 2), .int .u64 (Int.ofNat 0), .int .u64 (Int.ofNat 1), .int .u64 (Int.ofNat 0), .int .u64 (Int.ofNat 0), .int .u64 (Int.ofNat 0), .int .u64 (Int.ofNat 0), .int .u64 (Int.ofNat 0), .int .u64 (Int.ofNat 0), .int .u64 (Int.ofNat 0), .int .u64 (Int.ofNat 0), .int .u64 (Int.ofNat 0), .int .u64 (Int.ofNat 0), .int .u64 (Int.ofNat 0)] 125 0 0 0),
  (7, .cells (rp 140 (.chan (some 0))) 89 0 0 35),
  (17, .cells ([.int .u8 (Int.ofNat 1), .int .u8 (Int.ofNat 3), .int .u8 (Int.ofNat 0), .int .u8 (Int.ofNat 0), .int .u8 (Int.ofNat 0), .int .u8 (Int.ofNat 0), .int .u8 (Int.ofNat 0), .int .u8 (Int.ofNat 0), .int .u8 (Int.ofNat 1)] ++ rp 15 (.int .u8 (Int.ofNat 0)) ++ [.int .u8 (Int.ofNat 2), .int .u8 (Int.ofNat 0), .int .u8 (Int.ofNat 0), .int .u8 (Int.ofNat 0), .int .u8 (Int.ofNat 0), .int .u8 (Int.ofNat 0), .int .u8 (Int.ofNat 0), .int .u8 (Int.ofNat 0), .int .u8 (Int.ofNat 1), .int .u8 (Int.ofNat 0), .int .u8 (Int.ofNat 0), .int .u8 (Int.ofNat 0), .int .u8 (Int.ofNat 0), .int .u8 (Int.ofNat 0), .int .u8 (Int.ofNat 0), .int .u8 (Int.ofNat 0), .int .u8 (Int.ofNat 107), .int .u8 (Int.ofNat 118)] ++ rp 470 (.int .u8 (Int.ofNat 0))) 5 0 0 1),
  (32, .cells [.slice (some ⟨48, 0, none⟩) 3 1000000003, .slice (some ⟨68, 0, none⟩) 0 1000000001, .map (some 49), .slice (some ⟨50, 0, none⟩) 2 2] 256 0 0 0),
  (48, .cells [.int .i64 (Int.negSucc 0), .int .i64 (Int.ofNat 0), .int .i64 (Int.ofNat 0), .int .i64 (Int.ofNat 0), .int .i64 (Int.negSucc 0), .int .i64 (Int.ofNat 1), .int .i64 (Int.ofNat 2), .int .i64 (Int.ofNat 2), .int .i64 (Int.ofNat 0), .int .i64 (Int.ofNat 1), .int .i64 (Int.ofNat 1), .int .i64 (Int.ofNat 1)] 258 0 0 4),
  (49, .map [⟨.int .i64 (Int.ofNat 0), .int .i64 (Int.ofNat 2), 2⟩] 3),
  (50, .cells [.int .i64 (Int.ofNat 0), .int .i64 (Int.ofNat 1)] 3 0 0 0),
  (68, .cells [.int .i64 (Int.ofNat 2)] 3 0 0 1)]
  | 3 => [(5, .cells [.int .u64 (Int.ofNat 3), .int .u64 (Int.ofNat 1), .int .u64 (Int.ofNat 0), .int .u64 (Int.ofNat 0), .int .u64 (Int.ofNat 3), .int .u64 (Int.ofNat 0), .int .u64 (Int.ofNat 1), .int .u64 (Int.ofNat 0), .int .u64 (Int.ofNat 0), .int .u64 (Int.ofNat 0), .int .u64 (Int.ofNat 0), .int .u64 (Int.ofNat 0), .int .u64 (Int.ofNat 0), .int .u64 (Int.ofNat 0), .int .u64 (Int.ofNat 0), .int .u64 (Int.ofNat 0), .int .u64 (Int.ofNat 0), .int .u64 (Int.ofNat 0)] 125 0 0 0),
  (7, .cells (rp 175 (.chan (some 0))) 89 0 0 35),
  (17, .cells ([.int .u8 (Int.ofNat 1), .int .u8 (Int.ofNat 3), .int .u8 (Int.ofNat 0), .int .u8 (Int.ofNat 0), .int .u8 (Int.ofNat 0), .int .u8 (Int.ofNat 0), .int .u8 (Int.ofNat 0), .int .u8 (Int.ofNat 0), .int .u8 (Int.ofNat 1)] ++ rp 15 (.int .u8 (Int.ofNat 0)) ++ [.int .u8 (Int.ofNat 2), .int .u8 (Int.ofNat 0), .int .u8 (Int.ofNat 0), .int .u8 (Int.ofNat 0), .int .u8 (Int.ofNat 0), .int .u8 (Int.ofNat 0), .int .u8 (Int.ofNat 0), .int .u8 (Int.ofNat 0), .int .u8 (Int.ofNat 1), .int .u8 (Int.ofNat 0), .int .u8 (Int.ofNat 0), .int .u8 (Int.ofNat 0), .int .u8 (Int.ofNat 0), .int .u8 (Int.ofNat 0), .int .u8 (Int.ofNat 0), .int .u8 (Int.ofNat 0), .int .u8 (Int.ofNat 107), .int .u8 (Int.ofNat 118)] ++ rp 470 (.int .u8 (Int.ofNat 0))) 5 0 0 1),
  (32, .cells [.slice (some ⟨48, 0, none⟩) 3 1000000003, .slice (some ⟨68, 0, none⟩) 0 1000000001, .map (some 49), .slice (some ⟨50, 0, none⟩) 2 2] 256 0 0 0),
  (48, .cells [.int .i64 (Int.negSucc 0), .int .i64 (Int.ofNat 0), .int .i64 (Int.ofNat 0), .int .i64 (Int.ofNat 0), .int .i64 (Int.negSucc 0), .int .i64 (Int.ofNat 1), .int .i64 (Int.ofNat 2), .int .i64 (Int.ofNat 2), .int .i64 (Int.ofNat 0), .int .i64 (Int.ofNat 1), .int .i64 (Int.ofNat 1), .int .i64 (Int.ofNat 1)] 258 0 0 4),
  (49, .map [⟨.int .i64 (Int.ofNat 0), .int .i64 (Int.ofNat 2), 3⟩] 4),
  (50, .cells [.int .i64 (Int.ofNat 0), .int .i64 (Int.ofNat 1)] 3 0 0 0),
  (68, .cells [.int .i64 (Int.ofNat 2)] 3 0 0 1)]
  | 4 => [(5, .cells [.int .u64 (Int.ofNat 4), .int .u64 (Int.ofNat 1), .int .u64 (Int.ofNat 0), .int .u64 (Int.ofNat 0), .int .u64 (Int.ofNat 4), .int .u64 (Int.ofNat 0), .int .u64 (Int.ofNat 1), .int .u64 (Int.ofNat 0), .int .u64 (Int.ofNat 0), .int .u64 (Int.ofNat 0), .int .u64 (Int.ofNat 0), .int .u64 (Int.ofNat 0), .int .u64 (Int.ofNat 0), .int .u64 (Int.ofNat 0), .int .u64 (Int.ofNat 0), .int .u64 (Int.ofNat 0), .int .u64 (Int.ofNat 0), .int .u64 (Int.ofNat 0)] 125 0 0 0),
  (7, .cells (rp 210 (.chan (some 0))) 89 0 0 35),
  (17, .cells ([.int .u8 (Int.ofNat 1), .int .u8 (Int.ofNat 3), .int .u8 (Int.ofNat 0), .int .u8 (Int.ofNat 0), .int .u8 (Int.ofNat 0), .int .u8 (Int.ofNat 0), .int .u8 (Int.ofNat 0), .int .u8 (Int.ofNat 0), .int .u8 (Int.ofNat 1)] ++ rp 15 (.int .u8 (Int.ofNat 0)) ++ [.int .u8 (Int.ofNat 2), .int .u8 (Int.ofNat 0), .int .u8 (Int.ofNat 0), .int .u8 (Int.ofNat 0), .int .u8 (Int.ofNat 0), .int .u8 (Int.ofNat 0), .int .u8 (Int.ofNat 0), .int .u8 (Int.ofNat 0), .int .u8 (Int.ofNat 1), .int .u8 (Int.ofNat 0), .int .u8 (Int.ofNat 0), .int .u8 (Int.ofNat 0), .int .u8 (Int.ofNat 0), .int .u8 (Int.ofNat 0), .int .u8 (Int.ofNat 0), .int .u8 (Int.ofNat 0), .int .u8 (Int.ofNat 107), .int .u8 (Int.ofNat 118)] ++ rp 470 (.int .u8 (Int.ofNat 0))) 5 0 0 1),
  (32, .cells [.slice (some ⟨48, 0, none⟩) 3 1000000003, .slice (some ⟨68, 0, none⟩) 0 1000000001, .map (some 49), .slice (some ⟨50, 0, none⟩) 2 2] 256 0 0 0),
  (48, .cells [.int .i64 (Int.negSucc 0), .int .i64 (Int.ofNat 0), .int .i64 (Int.ofNat 0), .int .i64 (Int.ofNat 0), .int .i64 (Int.negSucc 0), .int .i64 (Int.ofNat 1), .int .i64 (Int.ofNat 2), .int .i64 (Int.ofNat 2), .int .i64 (Int.ofNat 0), .int .i64 (Int.ofNat 1), .int .i64 (Int.ofNat 1), .int .i64 (Int.ofNat 1)] 258 0 0 4),
  (49, .map [⟨.int .i64 (Int.ofNat 0), .int .i64 (Int.ofNat 2), 4⟩] 5),
  (50, .cells [.int .i64 (Int.ofNat 0), .int .i64 (Int.ofNat 1)] 3 0 0 0),
  (68, .cells [.int .i64 (Int.ofNat 2)] 3 0 0 1)]
  | _ => []
def winsE : Nat → Value := fun k => match k with
  | 0 => .slice (some ⟨7, 0, none⟩) 2 1000000002
  | 1 => .slice (some ⟨7, 0, none⟩) 3 1000000003
  | 2 => .slice (some ⟨7, 0, none⟩) 4 1000000004
  | 3 => .slice (some ⟨7, 0, none⟩) 5 1000000005
  | 4 => .slice (some ⟨7, 0, none⟩) 6 1000000006
  | _ => .nilIface
def winsC0 : Nat → Part := fun k => match k with
  | 0 => [(700, .cells [.pointer (some ⟨701, 0, none⟩), .int .i64 (Int.ofNat 2), .bool false] 49 0 0 0),
  (701, .cells [.string ⟨⟨[109, 103, 32, 107, 32, 118, 13, 10]⟩⟩, .string ⟨⟨[]⟩⟩, .int .i64 (Int.ofNat 0), .bool false] 92 0 0 0)]
  | 1 => [(700, .cells [.pointer (some ⟨701, 0, none⟩), .int .i64 (Int.ofNat 3), .bool true] 49 0 0 0),
  (701, .cells [.string ⟨⟨[]⟩⟩, .string ⟨⟨[]⟩⟩, .int .i64 (Int.ofNat 0), .bool false] 92 0 0 0),
  (702, .cells [.int .i64 (Int.ofNat 1), .slice (some ⟨703, 0, none⟩) 1 1, .bool false, .bool false, .string ⟨⟨[]⟩⟩, .string ⟨⟨[]⟩⟩, .int .i64 (Int.ofNat 0), .bool false, .string ⟨⟨[109, 103]⟩⟩, .slice (some ⟨704, 0, none⟩) 1 1000000001, .string ⟨⟨[107]⟩⟩, .int .i64 (Int.ofNat 0), .int .i64 (Int.ofNat 3), .int .i64 (Int.ofNat 0), .slice none 0 0, .int .i64 (Int.ofNat 0), .slice none 0 0] 67 0 0 0),
  (703, .cells [.int .i64 (Int.ofNat 1), .int .i64 (Int.ofNat 0), .string ⟨⟨[107]⟩⟩, .string ⟨⟨[]⟩⟩, .int .u32 (Int.ofNat 0), .int .i64 (Int.ofNat 0), .bool false, .int .u64 (Int.ofNat 0), .bool false, .int .u64 (Int.ofNat 0), .int .u64 (Int.ofNat 0), .bool false, .bool false, .int .i64 (Int.ofNat 0), .int .i64 (Int.negSucc 0), .bool false] 83 0 0 0),
  (704, .cells [.string ⟨⟨[118]⟩⟩] 9 0 0 1)]
  | 2 => [(700, .cells [.pointer (some ⟨701, 0, none⟩), .int .i64 (Int.ofNat 3), .bool true] 49 0 0 0),
  (701, .cells [.string ⟨⟨[]⟩⟩, .string ⟨⟨[]⟩⟩, .int .i64 (Int.ofNat 0), .bool false] 92 0 0 0),
  (702, .cells [.int .i64 (Int.ofNat 1), .slice (some ⟨703, 0, none⟩) 1 1, .bool false, .bool false, .string ⟨⟨[]⟩⟩, .string ⟨⟨[]⟩⟩, .int .i64 (Int.ofNat 0), .bool false, .string ⟨⟨[109, 103]⟩⟩, .slice (some ⟨704, 0, none⟩) 1 1000000001, .string ⟨⟨[107]⟩⟩, .int .i64 (Int.ofNat 0), .int .i64 (Int.ofNat 3), .int .i64 (Int.ofNat 0), .slice none 0 0, .int .i64 (Int.ofNat 1), .slice (some ⟨705, 0, none⟩) 1 1] 67 0 0 0),
  (703, .cells [.int .i64 (Int.ofNat 1), .int .i64 (Int.ofNat 0), .string ⟨⟨[107]⟩⟩, .string ⟨⟨[]⟩⟩, .int .u32 (Int.ofNat 0), .int .i64 (Int.ofNat 0), .bool false, .int .u64 (Int.ofNat 0), .bool false, .int .u64 (Int.ofNat 0), .int .u64 (Int.ofNat 0), .bool false, .bool false, .int .i64 (Int.ofNat 0), .int .i64 (Int.negSucc 0), .bool false] 83 0 0 0),
  (704, .cells [.string ⟨⟨[118]⟩⟩] 9 0 0 1),
  (705, .cells [.int .i64 (Int.ofNat 0)] 3 0 0 0)]
  | 3 => [(700, .cells [.pointer (some ⟨701, 0, none⟩), .int .i64 (Int.ofNat 3), .bool true] 49 0 0 0),
  (701, .cells [.string ⟨⟨[]⟩⟩, .string ⟨⟨[]⟩⟩, .int .i64 (Int.ofNat 0), .bool false] 92 0 0 0),
  (702, .cells [.int .i64 (Int.ofNat 1), .slice (some ⟨703, 0, none⟩) 1 1, .bool false, .bool false, .string ⟨⟨[]⟩⟩, .string ⟨⟨[]⟩⟩, .int .i64 (Int.ofNat 0), .bool false, .string ⟨⟨[109, 103]⟩⟩, .slice (some ⟨704, 0, none⟩) 1 1000000001, .string ⟨⟨[107]⟩⟩, .int .i64 (Int.ofNat 0), .int .i64 (Int.ofNat 3), .int .i64 (Int.ofNat 0), .slice (some ⟨706, 0, none⟩) 1 1000000001, .int .i64 (Int.ofNat 2), .slice (some ⟨705, 0, none⟩) 1 1] 67 0 0 0),
  (703, .cells [.int .i64 (Int.ofNat 1), .int .i64 (Int.ofNat 0), .string ⟨⟨[107]⟩⟩, .string ⟨⟨[]⟩⟩, .int .u32 (Int.ofNat 0), .int .i64 (Int.ofNat 0), .bool false, .int .u64 (Int.ofNat 0), .bool false, .int .u64 (Int.ofNat 0), .int .u64 (Int.ofNat 0), .bool false, .bool false, .int .i64 (Int.ofNat 0), .int .i64 (Int.negSucc 0), .bool false] 83 0 0 0),
  (704, .cells [.string ⟨⟨[118]⟩⟩] 9 0 0 1),
  (705, .cells [.int .i64 (Int.ofNat 0)] 3 0 0 0),
  (706, .cells [.int .i64 (Int.ofNat 1), .string ⟨⟨[107]⟩⟩, .int .u32 (Int.ofNat 0), .string ⟨⟨[118]⟩⟩, .int .i64 (Int.ofNat 0), .int .u64 (Int.ofNat 2), .int .i64 (Int.ofNat 1), .bool true, .bool true, .int .u64 (Int.ofNat 0), .bool false, .bool true, .bool true] 87 0 0 13)]
  | 4 => [(700, .cells [.pointer (some ⟨701, 0, none⟩), .int .i64 (Int.ofNat 3), .bool false] 49 0 0 0),
  (701, .cells [.string ⟨⟨[]⟩⟩, .string ⟨⟨[86, 65, 32, 49, 32, 88, 32, 90, 13, 10, 118, 13, 10]⟩⟩, .int .i64 (Int.ofNat 0), .bool false] 92 0 0 0)]
  | 5 => [(700, .cells [.pointer (some ⟨701, 0, none⟩), .int .i64 (Int.ofNat 3), .bool true] 49 0 0 0),
  (701, .cells [.string ⟨⟨[]⟩⟩, .string ⟨⟨[]⟩⟩, .int .i64 (Int.ofNat 0), .bool false] 92 0 0 0),
  (702, .cells [.int .i64 (Int.ofNat 1), .slice (some ⟨703, 0, none⟩) 1 1, .bool false, .bool false, .string ⟨⟨[]⟩⟩, .string ⟨⟨[]⟩⟩, .int .i64 (Int.ofNat 0), .bool false, .string ⟨⟨[109, 103]⟩⟩, .slice (some ⟨704, 0, none⟩) 1 1000000001, .string ⟨⟨[107]⟩⟩, .int .i64 (Int.ofNat 0), .int .i64 (Int.ofNat 3), .int .i64 (Int.ofNat 0), .slice (some ⟨706, 0, none⟩) 1 1000000001, .int .i64 (Int.ofNat 2), .slice (some ⟨705, 0, none⟩) 1 1] 67 0 0 0),
  (703, .cells [.int .i64 (Int.ofNat 1), .int .i64 (Int.ofNat 0), .string ⟨⟨[107]⟩⟩, .string ⟨⟨[]⟩⟩, .int .u32 (Int.ofNat 0), .int .i64 (Int.ofNat 0), .bool false, .int .u64 (Int.ofNat 0), .bool false, .int .u64 (Int.ofNat 0), .int .u64 (Int.ofNat 0), .bool false, .bool false, .int .i64 (Int.ofNat 0), .int .i64 (Int.negSucc 0), .bool false] 83 0 0 0),
  (704, .cells [.string ⟨⟨[118]⟩⟩] 9 0 0 1),
  (705, .cells [.int .i64 (Int.ofNat 0)] 3 0 0 0),
  (706, .cells [.int .i64 (Int.ofNat 1), .string ⟨⟨[107]⟩⟩, .int .u32 (Int.ofNat 0), .string ⟨⟨[118]⟩⟩, .int .i64 (Int.ofNat 0), .int .u64 (Int.ofNat 2), .int .i64 (Int.ofNat 1), .bool true, .bool true, .int .u64 (Int.ofNat 0), .bool true, .bool true, .bool false] 87 0 0 13)]
  | 6 => [(700, .cells [.pointer (some ⟨701, 0, none⟩), .int .i64 (Int.ofNat 3), .bool false] 49 0 0 0),
  (701, .cells [.string ⟨⟨[]⟩⟩, .string ⟨⟨[86, 65, 32, 49, 32, 87, 32, 88, 13, 10, 118, 13, 10]⟩⟩, .int .i64 (Int.ofNat 0), .bool false] 92 0 0 0)]
  | _ => []
def winsC1 : Nat → Part := fun k => match k with
  | 0 => [(750, .cells [.pointer (some ⟨751, 0, none⟩), .int .i64 (Int.ofNat 0), .bool false] 49 0 0 0),
  (751, .cells [.string ⟨⟨[109, 103, 32, 107, 32, 118, 13, 10]⟩⟩, .string ⟨⟨[]⟩⟩, .int .i64 (Int.ofNat 0), .bool false] 92 0 0 0)]
  | 1 => [(750, .cells [.pointer (some ⟨751, 0, none⟩), .int .i64 (Int.ofNat 1), .bool true] 49 0 0 0),
  (751, .cells [.string ⟨⟨[]⟩⟩, .string ⟨⟨[]⟩⟩, .int .i64 (Int.ofNat 0), .bool false] 92 0 0 0),
  (752, .cells [.int .i64 (Int.ofNat 1), .slice (some ⟨753, 0, none⟩) 1 1, .bool false, .bool false, .string ⟨⟨[]⟩⟩, .string ⟨⟨[]⟩⟩, .int .i64 (Int.ofNat 0), .bool false, .string ⟨⟨[109, 103]⟩⟩, .slice (some ⟨754, 0, none⟩) 1 1000000001, .string ⟨⟨[107]⟩⟩, .int .i64 (Int.ofNat 1), .int .i64 (Int.ofNat 1), .int .i64 (Int.ofNat 0), .slice none 0 0, .int .i64 (Int.ofNat 0), .slice none 0 0] 67 0 0 0),
  (753, .cells [.int .i64 (Int.ofNat 1), .int .i64 (Int.ofNat 0), .string ⟨⟨[107]⟩⟩, .string ⟨⟨[]⟩⟩, .int .u32 (Int.ofNat 0), .int .i64 (Int.ofNat 0), .bool false, .int .u64 (Int.ofNat 0), .bool false, .int .u64 (Int.ofNat 0), .int .u64 (Int.ofNat 0), .bool false, .bool false, .int .i64 (Int.ofNat 0), .int .i64 (Int.negSucc 0), .bool false] 83 0 0 0),
  (754, .cells [.string ⟨⟨[118]⟩⟩] 9 0 0 1)]
  | 2 => [(750, .cells [.pointer (some ⟨751, 0, none⟩), .int .i64 (Int.ofNat 1), .bool true] 49 0 0 0),
  (751, .cells [.string ⟨⟨[]⟩⟩, .string ⟨⟨[]⟩⟩, .int .i64 (Int.ofNat 0), .bool false] 92 0 0 0),
  (752, .cells [.int .i64 (Int.ofNat 1), .slice (some ⟨753, 0, none⟩) 1 1, .bool false, .bool false, .string ⟨⟨[]⟩⟩, .string ⟨⟨[]⟩⟩, .int .i64 (Int.ofNat 0), .bool false, .string ⟨⟨[109, 103]⟩⟩, .slice (some ⟨754, 0, none⟩) 1 1000000001, .string ⟨⟨[107]⟩⟩, .int .i64 (Int.ofNat 1), .int .i64 (Int.ofNat 1), .int .i64 (Int.ofNat 0), .slice none 0 0, .int .i64 (Int.ofNat 1), .slice (some ⟨755, 0, none⟩) 1 1] 67 0 0 0),
  (753, .cells [.int .i64 (Int.ofNat 1), .int .i64 (Int.ofNat 0), .string ⟨⟨[107]⟩⟩, .string ⟨⟨[]⟩⟩, .int .u32 (Int.ofNat 0), .int .i64 (Int.ofNat 0), .bool false, .int .u64 (Int.ofNat 0), .bool false, .int .u64 (Int.ofNat 0), .int .u64 (Int.ofNat 0), .bool false, .bool false, .int .i64 (Int.ofNat 0), .int .i64 (Int.negSucc 0), .bool false] 83 0 0 0),
  (754, .cells [.string ⟨⟨[118]⟩⟩] 9 0 0 1),
  (755, .cells [.int .i64 (Int.ofNat 0)] 3 0 0 0)]
  | 3 => [(750, .cells [.pointer (some ⟨751, 0, none⟩), .int .i64 (Int.ofNat 1), .bool true] 49 0 0 0),
  (751, .cells [.string ⟨⟨[]⟩⟩, .string ⟨⟨[]⟩⟩, .int .i64 (Int.ofNat 0), .bool false] 92 0 0 0),
  (752, .cells [.int .i64 (Int.ofNat 1), .slice (some ⟨753, 0, none⟩) 1 1, .bool false, .bool false, .string ⟨⟨[]⟩⟩, .string ⟨⟨[]⟩⟩, .int .i64 (Int.ofNat 0), .bool false, .string ⟨⟨[109, 103]⟩⟩, .slice (some ⟨754, 0, none⟩) 1 1000000001, .string ⟨⟨[107]⟩⟩, .int .i64 (Int.ofNat 1), .int .i64 (Int.ofNat 1), .int .i64 (Int.ofNat 0), .slice (some ⟨756, 0, none⟩) 1 1000000001, .int .i64 (Int.ofNat 2), .slice (some ⟨755, 0, none⟩) 1 1] 67 0 0 0),
  (753, .cells [.int .i64 (Int.ofNat 1), .int .i64 (Int.ofNat 0), .string ⟨⟨[107]⟩⟩, .string ⟨⟨[]⟩⟩, .int .u32 (Int.ofNat 0), .int .i64 (Int.ofNat 0), .bool false, .int .u64 (Int.ofNat 0), .bool false, .int .u64 (Int.ofNat 0), .int .u64 (Int.ofNat 0), .bool false, .bool false, .int .i64 (Int.ofNat 0), .int .i64 (Int.negSucc 0), .bool false] 83 0 0 0),
  (754, .cells [.string ⟨⟨[118]⟩⟩] 9 0 0 1),
  (755, .cells [.int .i64 (Int.ofNat 0)] 3 0 0 0),
  (756, .cells [.int .i64 (Int.ofNat 1), .string ⟨⟨[107]⟩⟩, .int .u32 (Int.ofNat 0), .string ⟨⟨[118]⟩⟩, .int .i64 (Int.ofNat 0), .int .u64 (Int.ofNat 2), .int .i64 (Int.ofNat 1), .bool true, .bool true, .int .u64 (Int.ofNat 0), .bool false, .bool true, .bool true] 87 0 0 13)]
  | 4 => [(750, .cells [.pointer (some ⟨751, 0, none⟩), .int .i64 (Int.ofNat 1), .bool false] 49 0 0 0),
  (751, .cells [.string ⟨⟨[]⟩⟩, .string ⟨⟨[86, 65, 32, 49, 32, 88, 32, 90, 13, 10, 118, 13, 10]⟩⟩, .int .i64 (Int.ofNat 0), .bool false] 92 0 0 0)]
  | 5 => [(750, .cells [.pointer (some ⟨751, 0, none⟩), .int .i64 (Int.ofNat 1), .bool true] 49 0 0 0),
  (751, .cells [.string ⟨⟨[]⟩⟩, .string ⟨⟨[]⟩⟩, .int .i64 (Int.ofNat 0), .bool false] 92 0 0 0),
  (752, .cells [.int .i64 (Int.ofNat 1), .slice (some ⟨753, 0, none⟩) 1 1, .bool false, .bool false, .string ⟨⟨[]⟩⟩, .string ⟨⟨[]⟩⟩, .int .i64 (Int.ofNat 0), .bool false, .string ⟨⟨[109, 103]⟩⟩, .slice (some ⟨754, 0, none⟩) 1 1000000001, .string ⟨⟨[107]⟩⟩, .int .i64 (Int.ofNat 1), .int .i64 (Int.ofNat 1), .int .i64 (Int.ofNat 0), .slice (some ⟨756, 0, none⟩) 1 1000000001, .int .i64 (Int.ofNat 2), .slice (some ⟨755, 0, none⟩) 1 1] 67 0 0 0),
  (753, .cells [.int .i64 (Int.ofNat 1), .int .i64 (Int.ofNat 0), .string ⟨⟨[107]⟩⟩, .string ⟨⟨[]⟩⟩, .int .u32 (Int.ofNat 0), .int .i64 (Int.ofNat 0), .bool false, .int .u64 (Int.ofNat 0), .bool false, .int .u64 (Int.ofNat 0), .int .u64 (Int.ofNat 0), .bool false, .bool false, .int .i64 (Int.ofNat 0), .int .i64 (Int.negSucc 0), .bool false] 83 0 0 0),
  (754, .cells [.string ⟨⟨[118]⟩⟩] 9 0 0 1),
  (755, .cells [.int .i64 (Int.ofNat 0)] 3 0 0 0),
  (756, .cells [.int .i64 (Int.ofNat 1), .string ⟨⟨[107]⟩⟩, .int .u32 (Int.ofNat 0), .string ⟨⟨[118]⟩⟩, .int .i64 (Int.ofNat 0), .int .u64 (Int.ofNat 2), .int .i64 (Int.ofNat 1), .bool true, .bool true, .int .u64 (Int.ofNat 0), .bool true, .bool true, .bool false] 87 0 0 13)]
  | 6 => [(750, .cells [.pointer (some ⟨751, 0, none⟩), .int .i64 (Int.ofNat 1), .bool false] 49 0 0 0),
  (751, .cells [.string ⟨⟨[]⟩⟩, .string ⟨⟨[86, 65, 32, 49, 32, 87, 32, 88, 13, 10, 118, 13, 10]⟩⟩, .int .i64 (Int.ofNat 0), .bool false] 92 0 0 0)]
  | _ => []
def winsC2 : Nat → Part := fun k => match k with
  | 0 => [(800, .cells [.pointer (some ⟨801, 0, none⟩), .int .i64 (Int.ofNat 0), .bool false] 49 0 0 0),
  (801, .cells [.string ⟨⟨[109, 103, 32, 107, 32, 118, 13, 10]⟩⟩, .string ⟨⟨[]⟩⟩, .int .i64 (Int.ofNat 0), .bool false] 92 0 0 0)]
  | 1 => [(800, .cells [.pointer (some ⟨801, 0, none⟩), .int .i64 (Int.ofNat 1), .bool true] 49 0 0 0),
  (801, .cells [.string ⟨⟨[]⟩⟩, .string ⟨⟨[]⟩⟩, .int .i64 (Int.ofNat 0), .bool false] 92 0 0 0),
  (802, .cells [.int .i64 (Int.ofNat 1), .slice (some ⟨803, 0, none⟩) 1 1, .bool false, .bool false, .string ⟨⟨[]⟩⟩, .string ⟨⟨[]⟩⟩, .int .i64 (Int.ofNat 0), .bool false, .string ⟨⟨[109, 103]⟩⟩, .slice (some ⟨804, 0, none⟩) 1 1000000001, .string ⟨⟨[107]⟩⟩, .int .i64 (Int.ofNat 2), .int .i64 (Int.ofNat 1), .int .i64 (Int.ofNat 0), .slice none 0 0, .int .i64 (Int.ofNat 0), .slice none 0 0] 67 0 0 0),
  (803, .cells [.int .i64 (Int.ofNat 1), .int .i64 (Int.ofNat 0), .string ⟨⟨[107]⟩⟩, .string ⟨⟨[]⟩⟩, .int .u32 (Int.ofNat 0), .int .i64 (Int.ofNat 0), .bool false, .int .u64 (Int.ofNat 0), .bool false, .int .u64 (Int.ofNat 0), .int .u64 (Int.ofNat 0), .bool false, .bool false, .int .i64 (Int.ofNat 0), .int .i64 (Int.negSucc 0), .bool false] 83 0 0 0),
  (804, .cells [.string ⟨⟨[118]⟩⟩] 9 0 0 1)]
  | 2 => [(800, .cells [.pointer (some ⟨801, 0, none⟩), .int .i64 (Int.ofNat 1), .bool true] 49 0 0 0),
  (801, .cells [.string ⟨⟨[]⟩⟩, .string ⟨⟨[]⟩⟩, .int .i64 (Int.ofNat 0), .bool false] 92 0 0 0),
  (802, .cells [.int .i64 (Int.ofNat 1), .slice (some ⟨803, 0, none⟩) 1 1, .bool false, .bool false, .string ⟨⟨[]⟩⟩, .string ⟨⟨[]⟩⟩, .int .i64 (Int.ofNat 0), .bool false, .string ⟨⟨[109, 103]⟩⟩, .slice (some ⟨804, 0, none⟩) 1 1000000001, .string ⟨⟨[107]⟩⟩, .int .i64 (Int.ofNat 2), .int .i64 (Int.ofNat 1), .int .i64 (Int.ofNat 0), .slice none 0 0, .int .i64 (Int.ofNat 1), .slice (some ⟨805, 0, none⟩) 1 1] 67 0 0 0),
  (803, .cells [.int .i64 (Int.ofNat 1), .int .i64 (Int.ofNat 0), .string ⟨⟨[107]⟩⟩, .string ⟨⟨[]⟩⟩, .int .u32 (Int.ofNat 0), .int .i64 (Int.ofNat 0), .bool false, .int .u64 (Int.ofNat 0), .bool false, .int .u64 (Int.ofNat 0), .int .u64 (Int.ofNat 0), .bool false, .bool false, .int .i64 (Int.ofNat 0), .int .i64 (Int.negSucc 0), .bool false] 83 0 0 0),
  (804, .cells [.string ⟨⟨[118]⟩⟩] 9 0 0 1),
  (805, .cells [.int .i64 (Int.ofNat 0)] 3 0 0 0)]
  | 3 => [(800, .cells [.pointer (some ⟨801, 0, none⟩), .int .i64 (Int.ofNat 1), .bool true] 49 0 0 0),
  (801, .cells [.string ⟨⟨[]⟩⟩, .string ⟨⟨[]⟩⟩, .int .i64 (Int.ofNat 0), .bool false] 92 0 0 0),
  (802, .cells [.int .i64 (Int.ofNat 1), .slice (some ⟨803, 0, none⟩) 1 1, .bool false, .bool false, .string ⟨⟨[]⟩⟩, .string ⟨⟨[]⟩⟩, .int .i64 (Int.ofNat 0), .bool false, .string ⟨⟨[109, 103]⟩⟩, .slice (some ⟨804, 0, none⟩) 1 1000000001, .string ⟨⟨[107]⟩⟩, .int .i64 (Int.ofNat 2), .int .i64 (Int.ofNat 1), .int .i64 (Int.ofNat 0), .slice (some ⟨806, 0, none⟩) 1 1000000001, .int .i64 (Int.ofNat 2), .slice (some ⟨805, 0, none⟩) 1 1] 67 0 0 0),
  (803, .cells [.int .i64 (Int.ofNat 1), .int .i64 (Int.ofNat 0), .string ⟨⟨[107]⟩⟩, .string ⟨⟨[]⟩⟩, .int .u32 (Int.ofNat 0), .int .i64 (Int.ofNat 0), .bool false, .int .u64 (Int.ofNat 0), .bool false, .int .u64 (Int.ofNat 0), .int .u64 (Int.ofNat 0), .bool false, .bool false, .int .i64 (Int.ofNat 0), .int .i64 (Int.negSucc 0), .bool false] 83 0 0 0),
  (804, .cells [.string ⟨⟨[118]⟩⟩] 9 0 0 1),
  (805, .cells [.int .i64 (Int.ofNat 0)] 3 0 0 0),
  (806, .cells [.int .i64 (Int.ofNat 1), .string ⟨⟨[107]⟩⟩, .int .u32 (Int.ofNat 0), .string ⟨⟨[118]⟩⟩, .int .i64 (Int.ofNat 0), .int .u64 (Int.ofNat 2), .int .i64 (Int.ofNat 1), .bool true, .bool true, .int .u64 (Int.ofNat 0), .bool false, .bool true, .bool true] 87 0 0 13)]
  | 4 => [(800, .cells [.pointer (some ⟨801, 0, none⟩), .int .i64 (Int.ofNat 1), .bool false] 49 0 0 0),
  (801, .cells [.string ⟨⟨[]⟩⟩, .string ⟨⟨[86, 65, 32, 49, 32, 88, 32, 90, 13, 10, 118, 13, 10]⟩⟩, .int .i64 (Int.ofNat 0), .bool false] 92 0 0 0)]
  | 5 => [(800, .cells [.pointer (some ⟨801, 0, none⟩), .int .i64 (Int.ofNat 1), .bool true] 49 0 0 0),
  (801, .cells [.string ⟨⟨[]⟩⟩, .string ⟨⟨[]⟩⟩, .int .i64 (Int.ofNat 0), .bool false] 92 0 0 0),
  (802, .cells [.int .i64 (Int.ofNat 1), .slice (some ⟨803, 0, none⟩) 1 1, .bool false, .bool false, .string ⟨⟨[]⟩⟩, .string ⟨⟨[]⟩⟩, .int .i64 (Int.ofNat 0), .bool false, .string ⟨⟨[109, 103]⟩⟩, .slice (some ⟨804, 0, none⟩) 1 1000000001, .string ⟨⟨[107]⟩⟩, .int .i64 (Int.ofNat 2), .int .i64 (Int.ofNat 1), .int .i64 (Int.ofNat 0), .slice (some ⟨806, 0, none⟩) 1 1000000001, .int .i64 (Int.ofNat 2), .slice (some ⟨805, 0, none⟩) 1 1] 67 0 0 0),
  (803, .cells [.int .i64 (Int.ofNat 1), .int .i64 (Int.ofNat 0), .string ⟨⟨[107]⟩⟩, .string ⟨⟨[]⟩⟩, .int .u32 (Int.ofNat 0), .int .i64 (Int.ofNat 0), .bool false, .int .u64 (Int.ofNat 0), .bool false, .int .u64 (Int.ofNat 0), .int .u64 (Int.ofNat 0), .bool false, .bool false, .int .i64 (Int.ofNat 0), .int .i64 (Int.negSucc 0), .bool false] 83 0 0 0),
  (804, .cells [.string ⟨⟨[118]⟩⟩] 9 0 0 1),
  (805, .cells [.int .i64 (Int.ofNat 0)] 3 0 0 0),
  (806, .cells [.int .i64 (Int.ofNat 1), .string ⟨⟨[107]⟩⟩, .int .u32 (Int.ofNat 0), .string ⟨⟨[118]⟩⟩, .int .i64 (Int.ofNat 0), .int .u64 (Int.ofNat 2), .int .i64 (Int.ofNat 1), .bool true, .bool true, .int .u64 (Int.ofNat 0), .bool true, .bool true, .bool false] 87 0 0 13)]
  | 6 => [(800, .cells [.pointer (some ⟨801, 0, none⟩), .int .i64 (Int.ofNat 1), .bool false] 49 0 0 0),
  (801, .cells [.string ⟨⟨[]⟩⟩, .string ⟨⟨[86, 65, 32, 49, 32, 87, 32, 88, 13, 10, 118, 13, 10]⟩⟩, .int .i64 (Int.ofNat 0), .bool false] 92 0 0 0)]
  | _ => []
def winsC3 : Nat → Part := fun k => match k with
  | 0 => [(850, .cells [.pointer (some ⟨851, 0, none⟩), .int .i64 (Int.ofNat 0), .bool false] 49 0 0 0),
  (851, .cells [.string ⟨⟨[109, 103, 32, 107, 32, 118, 13, 10]⟩⟩, .string ⟨⟨[]⟩⟩, .int .i64 (Int.ofNat 0), .bool false] 92 0 0 0)]
  | 1 => [(850, .cells [.pointer (some ⟨851, 0, none⟩), .int .i64 (Int.ofNat 1), .bool true] 49 0 0 0),
  (851, .cells [.string ⟨⟨[]⟩⟩, .string ⟨⟨[]⟩⟩, .int .i64 (Int.ofNat 0), .bool false] 92 0 0 0),
  (852, .cells [.int .i64 (Int.ofNat 1), .slice (some ⟨853, 0, none⟩) 1 1, .bool false, .bool false, .string ⟨⟨[]⟩⟩, .string ⟨⟨[]⟩⟩, .int .i64 (Int.ofNat 0), .bool false, .string ⟨⟨[109, 103]⟩⟩, .slice (some ⟨854, 0, none⟩) 1 1000000001, .string ⟨⟨[107]⟩⟩, .int .i64 (Int.ofNat 3), .int .i64 (Int.ofNat 1), .int .i64 (Int.ofNat 0), .slice none 0 0, .int .i64 (Int.ofNat 0), .slice none 0 0] 67 0 0 0),
  (853, .cells [.int .i64 (Int.ofNat 1), .int .i64 (Int.ofNat 0), .string ⟨⟨[107]⟩⟩, .string ⟨⟨[]⟩⟩, .int .u32 (Int.ofNat 0), .int .i64 (Int.ofNat 0), .bool false, .int .u64 (Int.ofNat 0), .bool false, .int .u64 (Int.ofNat 0), .int .u64 (Int.ofNat 0), .bool false, .bool false, .int .i64 (Int.ofNat 0), .int .i64 (Int.negSucc 0), .bool false] 83 0 0 0),
  (854, .cells [.string ⟨⟨[118]⟩⟩] 9 0 0 1)]
  | 2 => [(850, .cells [.pointer (some ⟨851, 0, none⟩), .int .i64 (Int.ofNat 1), .bool true] 49 0 0 0),
  (851, .cells [.string ⟨⟨[]⟩⟩, .string ⟨⟨[]⟩⟩, .int .i64 (Int.ofNat 0), .bool false] 92 0 0 0),
  (852, .cells [.int .i64 (Int.ofNat 1), .slice (some ⟨853, 0, none⟩) 1 1, .bool false, .bool false, .string ⟨⟨[]⟩⟩, .string ⟨⟨[]⟩⟩, .int .i64 (Int.ofNat 0), .bool false, .string ⟨⟨[109, 103]⟩⟩, .slice (some ⟨854, 0, none⟩) 1 1000000001, .string ⟨⟨[107]⟩⟩, .int .i64 (Int.ofNat 3), .int .i64 (Int.ofNat 1), .int .i64 (Int.ofNat 0), .slice none 0 0, .int .i64 (Int.ofNat 1), .slice (some ⟨855, 0, none⟩) 1 1] 67 0 0 0),
  (853, .cells [.int .i64 (Int.ofNat 1), .int .i64 (Int.ofNat 0), .string ⟨⟨[107]⟩⟩, .string ⟨⟨[]⟩⟩, .int .u32 (Int.ofNat 0), .int .i64 (Int.ofNat 0), .bool false, .int .u64 (Int.ofNat 0), .bool false, .int .u64 (Int.ofNat 0), .int .u64 (Int.ofNat 0), .bool false, .bool false, .int .i64 (Int.ofNat 0), .int .i64 (Int.negSucc 0), .bool false] 83 0 0 0),
  (854, .cells [.string ⟨⟨[118]⟩⟩] 9 0 0 1),
  (855, .cells [.int .i64 (Int.ofNat 0)] 3 0 0 0)]
  | 3 => [(850, .cells [.pointer (some ⟨851, 0, none⟩), .int .i64 (Int.ofNat 1), .bool true] 49 0 0 0),
  (851, .cells [.string ⟨⟨[]⟩⟩, .string ⟨⟨[]⟩⟩, .int .i64 (Int.ofNat 0), .bool false] 92 0 0 0),
  (852, .cells [.int .i64 (Int.ofNat 1), .slice (some ⟨853, 0, none⟩) 1 1, .bool false, .bool false, .string ⟨⟨[]⟩⟩, .string ⟨⟨[]⟩⟩, .int .i64 (Int.ofNat 0), .bool false, .string ⟨⟨[109, 103]⟩⟩, .slice (some ⟨854, 0, none⟩) 1 1000000001, .string ⟨⟨[107]⟩⟩, .int .i64 (Int.ofNat 3), .int .i64 (Int.ofNat 1), .int .i64 (Int.ofNat 0), .slice (some ⟨856, 0, none⟩) 1 1000000001, .int .i64 (Int.ofNat 2), .slice (some ⟨855, 0, none⟩) 1 1] 67 0 0 0),
  (853, .cells [.int .i64 (Int.ofNat 1), .int .i64 (Int.ofNat 0), .string ⟨⟨[107]⟩⟩, .string ⟨⟨[]⟩⟩, .int .u32 (Int.ofNat 0), .int .i64 (Int.ofNat 0), .bool false, .int .u64 (Int.ofNat 0), .bool false, .int .u64 (Int.ofNat 0), .int .u64 (Int.ofNat 0), .bool false, .bool false, .int .i64 (Int.ofNat 0), .int .i64 (Int.negSucc 0), .bool false] 83 0 0 0),
  (854, .cells [.string ⟨⟨[118]⟩⟩] 9 0 0 1),
  (855, .cells [.int .i64 (Int.ofNat 0)] 3 0 0 0),
  (856, .cells [.int .i64 (Int.ofNat 1), .string ⟨⟨[107]⟩⟩, .int .u32 (Int.ofNat 0), .string ⟨⟨[118]⟩⟩, .int .i64 (Int.ofNat 0), .int .u64 (Int.ofNat 2), .int .i64 (Int.ofNat 1), .bool true, .bool true, .int .u64 (Int.ofNat 0), .bool false, .bool true, .bool true] 87 0 0 13)]
  | 4 => [(850, .cells [.pointer (some ⟨851, 0, none⟩), .int .i64 (Int.ofNat 1), .bool false] 49 0 0 0),
  (851, .cells [.string ⟨⟨[]⟩⟩, .string ⟨⟨[86, 65, 32, 49, 32, 88, 32, 90, 13, 10, 118, 13, 10]⟩⟩, .int .i64 (Int.ofNat 0), .bool false] 92 0 0 0)]
  | 5 => [(850, .cells [.pointer (some ⟨851, 0, none⟩), .int .i64 (Int.ofNat 1), .bool true] 49 0 0 0),
  (851, .cells [.string ⟨⟨[]⟩⟩, .string ⟨⟨[]⟩⟩, .int .i64 (Int.ofNat 0), .bool false] 92 0 0 0),
  (852, .cells [.int .i64 (Int.ofNat 1), .slice (some ⟨853, 0, none⟩) 1 1, .bool false, .bool false, .string ⟨⟨[]⟩⟩, .string ⟨⟨[]⟩⟩, .int .i64 (Int.ofNat 0), .bool false, .string ⟨⟨[109, 103]⟩⟩, .slice (some ⟨854, 0, none⟩) 1 1000000001, .string ⟨⟨[107]⟩⟩, .int .i64 (Int.ofNat 3), .int .i64 (Int.ofNat 1), .int .i64 (Int.ofNat 0), .slice (some ⟨856, 0, none⟩) 1 1000000001, .int .i64 (Int.ofNat 2), .slice (some ⟨855, 0, none⟩) 1 1] 67 0 0 0),
  (853, .cells [.int .i64 (Int.ofNat 1), .int .i64 (Int.ofNat 0), .string ⟨⟨[107]⟩⟩, .string ⟨⟨[]⟩⟩, .int .u32 (Int.ofNat 0), .int .i64 (Int.ofNat 0), .bool false, .int .u64 (Int.ofNat 0), .bool false, .int .u64 (Int.ofNat 0), .int .u64 (Int.ofNat 0), .bool false, .bool false, .int .i64 (Int.ofNat 0), .int .i64 (Int.negSucc 0), .bool false] 83 0 0 0),
  (854, .cells [.string ⟨⟨[118]⟩⟩] 9 0 0 1),
  (855, .cells [.int .i64 (Int.ofNat 0)] 3 0 0 0),
  (856, .cells [.int .i64 (Int.ofNat 1), .string ⟨⟨[107]⟩⟩, .int .u32 (Int.ofNat 0), .string ⟨⟨[118]⟩⟩, .int .i64 (Int.ofNat 0), .int .u64 (Int.ofNat 2), .int .i64 (Int.ofNat 1), .bool true, .bool true, .int .u64 (Int.ofNat 0), .bool true, .bool true, .bool false] 87 0 0 13)]
  | 6 => [(850, .cells [.pointer (some ⟨851, 0, none⟩), .int .i64 (Int.ofNat 1), .bool false] 49 0 0 0),
  (851, .cells [.string ⟨⟨[]⟩⟩, .string ⟨⟨[86, 65, 32, 49, 32, 87, 32, 88, 13, 10, 118, 13, 10]⟩⟩, .int .i64 (Int.ofNat 0), .bool false] 92 0 0 0)]
  | _ => []
def winsC : Nat → Nat → Part := fun c => match c with
  | 0 => winsC0
  | 1 => winsC1
  | 2 => winsC2
  | _ => winsC3
def winsL : Lay := ⟨fun k _ => winsV k ++ winsF, winsC, fun k _ => winsE k⟩
end Go.Proofs.YtejebgdikoehmaaGreatDoor
