/- A row of one and the same. -/
import Derived.Test.YtejebgdikoehmaaGreatDoorToO
namespace Go.Proofs.YtejebgdikoehmaaGreatDoor
open Go
set_option linter.unusedVariables false
set_option maxRecDepth 100000
def rp (n : Nat) (v : Value) : List Value := List.replicate n v
end Go.Proofs.YtejebgdikoehmaaGreatDoor
namespace Go.Proofs.YtejebgdikoehmaaGreatDoor
open Go
set_option linter.unusedVariables false
set_option maxRecDepth 100000
def addsF : Part := [(4, .cells ([.int .i64 (Int.ofNat 5)] ++ rp 64 (.int .i64 (Int.ofNat 0)) ++ [.pointer none]) 122 0 0 0),
  (8, .cells [.pointer (some ⟨9, 0, none⟩), .slice (some ⟨14, 0, none⟩) 4 1000000004, .slice (some ⟨15, 0, none⟩) 4 4, .map (some 16)] 182 0 0 0),
  (10, .cells [.int .i64 (Int.ofNat 64), .int .i64 (Int.ofNat 128), .int .i64 (Int.ofNat 256), .int .i64 (Int.ofNat 512)] 3 0 0 1),
  (12, .cells [.pointer (some ⟨19, 0, none⟩), .pointer (some ⟨20, 0, none⟩), .pointer (some ⟨21, 0, none⟩), .pointer (some ⟨22, 0, none⟩)] 108 0 0 1),
  (13, .map [] 0),
  (14, .cells [.int .i64 (Int.ofNat 64), .int .i64 (Int.ofNat 128), .int .i64 (Int.ofNat 256), .int .i64 (Int.ofNat 512)] 3 0 0 1),
  (19, .cells [.iface 174 (.agg ⟨[.pointer (some ⟨23, 0, none⟩)]⟩)] 164 0 0 0),
  (20, .cells [.iface 174 (.agg ⟨[.pointer (some ⟨24, 0, none⟩)]⟩)] 164 0 0 0),
  (21, .cells [.iface 174 (.agg ⟨[.pointer (some ⟨25, 0, none⟩)]⟩)] 164 0 0 0),
  (22, .cells [.iface 174 (.agg ⟨[.pointer (some ⟨26, 0, none⟩)]⟩)] 164 0 0 0),
  (24, .cells [.pointer (some ⟨30, 0, none⟩), .pointer (some ⟨31, 0, none⟩), .int .i64 (Int.ofNat 0), .map (some 32)] 269 0 0 0),
  (25, .cells [.pointer (some ⟨33, 0, none⟩), .pointer (some ⟨34, 0, none⟩), .int .i64 (Int.ofNat 0), .map (some 35)] 269 0 0 0),
  (26, .cells [.pointer (some ⟨36, 0, none⟩), .pointer (some ⟨37, 0, none⟩), .int .i64 (Int.ofNat 0), .map (some 38)] 269 0 0 0),
  (30, .cells [.slice (some ⟨43, 0, none⟩) 2 1000000002, .slice none 0 0, .map (some 44), .slice (some ⟨45, 0, none⟩) 2 2] 256 0 0 0),
  (31, .cells [.int .i64 (Int.ofNat 0), .map (some 46), .slice none 0 0, .int .i64 (Int.ofNat 0)] 326 0 0 0),
  (32, .map [] 0),
  (33, .cells [.slice (some ⟨47, 0, none⟩) 2 1000000002, .slice none 0 0, .map (some 48), .slice (some ⟨49, 0, none⟩) 2 2] 256 0 0 0),
  (34, .cells [.int .i64 (Int.ofNat 0), .map (some 50), .slice none 0 0, .int .i64 (Int.ofNat 0)] 326 0 0 0),
  (35, .map [] 0),
  (36, .cells [.slice (some ⟨51, 0, none⟩) 2 1000000002, .slice none 0 0, .map (some 52), .slice (some ⟨53, 0, none⟩) 2 2] 256 0 0 0),
  (37, .cells [.int .i64 (Int.ofNat 0), .map (some 54), .slice none 0 0, .int .i64 (Int.ofNat 0)] 326 0 0 0),
  (38, .map [] 0),
  (42, .map [] 0),
  (43, .cells [.int .i64 (Int.negSucc 0), .int .i64 (Int.ofNat 0), .int .i64 (Int.ofNat 0), .int .i64 (Int.ofNat 0), .int .i64 (Int.negSucc 0), .int .i64 (Int.ofNat 1), .int .i64 (Int.ofNat 1), .int .i64 (Int.ofNat 1)] 258 0 0 4),
  (44, .map [] 0),
  (45, .cells [.int .i64 (Int.ofNat 0), .int .i64 (Int.ofNat 0)] 3 0 0 0),
  (46, .map [] 0),
  (47, .cells [.int .i64 (Int.negSucc 0), .int .i64 (Int.ofNat 0), .int .i64 (Int.ofNat 0), .int .i64 (Int.ofNat 0), .int .i64 (Int.negSucc 0), .int .i64 (Int.ofNat 1), .int .i64 (Int.ofNat 1), .int .i64 (Int.ofNat 1)] 258 0 0 4),
  (48, .map [] 0),
  (49, .cells [.int .i64 (Int.ofNat 0), .int .i64 (Int.ofNat 0)] 3 0 0 0),
  (50, .map [] 0),
  (51, .cells [.int .i64 (Int.negSucc 0), .int .i64 (Int.ofNat 0), .int .i64 (Int.ofNat 0), .int .i64 (Int.ofNat 0), .int .i64 (Int.negSucc 0), .int .i64 (Int.ofNat 1), .int .i64 (Int.ofNat 1), .int .i64 (Int.ofNat 1)] 258 0 0 4),
  (52, .map [] 0),
  (53, .cells [.int .i64 (Int.ofNat 0), .int .i64 (Int.ofNat 0)] 3 0 0 0),
  (54, .map [] 0)]
def addsB0 : Nat → Part := fun win => [(3, .cells [.pointer (some ⟨8, 0, none⟩), .pointer (some ⟨9, 0, none⟩), .slice (some ⟨10, 0, none⟩) 4 1000000004, .pointer (some ⟨11, 0, none⟩), .slice (some ⟨12, 0, none⟩) 4 1000000004, .int .u64 (Int.ofNat 0), .int .i64 (Int.ofNat 0), .map (some 13)] 116 0 0 0),
  (5, .cells [.int .u64 (Int.ofNat 0), .int .u64 (Int.ofNat 0), .int .u64 (Int.ofNat 0), .int .u64 (Int.ofNat 0), .int .u64 (Int.ofNat 0), .int .u64 (Int.ofNat 0), .int .u64 (Int.ofNat 0), .int .u64 (Int.ofNat 0), .int .u64 (Int.ofNat 0), .int .u64 (Int.ofNat 0), .int .u64 (Int.ofNat 0), .int .u64 (Int.ofNat 0), .int .u64 (Int.ofNat 0), .int .u64 (Int.ofNat 0), .int .u64 (Int.ofNat 0), .int .u64 (Int.ofNat 0), .int .u64 (Int.ofNat 0), .int .u64 (Int.ofNat 0)] 125 0 0 0),
  (9, .cells [.int .i64 (Int.ofNat 512), .slice none 0 0, .slice (some ⟨17, 0, none⟩) 1 1] 156 0 0 0),
  (11, .cells [.int .i64 (Int.ofNat 2), .slice none 0 0, .slice (some ⟨18, 0, none⟩) 4 4, .int .i64 (Int.ofNat 0), .int .i64 (Int.ofNat 0)] 177 0 0 0),
  (15, .cells [.slice none 0 0, .slice none 0 0, .slice none 0 0, .slice none 0 0] 22 0 0 0),
  (16, .map [] 0),
  (17, .cells [.int .i64 (Int.ofNat 0)] 3 0 0 0),
  (18, .cells [.pointer none, .pointer none, .pointer none, .pointer none] 238 0 0 0),
  (23, .cells [.pointer (some ⟨27, 0, none⟩), .pointer (some ⟨28, 0, none⟩), .int .i64 (Int.ofNat 0), .map (some 29)] 269 0 0 0),
  (27, .cells [.slice (some ⟨39, 0, none⟩) 2 1000000002, .slice none 0 0, .map (some 40), .slice (some ⟨41, 0, none⟩) 2 2] 256 0 0 0),
  (28, .cells [.int .i64 (Int.ofNat 0), .map (some 42), .slice none 0 0, .int .i64 (Int.ofNat 0)] 326 0 0 0),
  (29, .map [] 0),
  (39, .cells [.int .i64 (Int.negSucc 0), .int .i64 (Int.ofNat 0), .int .i64 (Int.ofNat 0), .int .i64 (Int.ofNat 0), .int .i64 (Int.negSucc 0), .int .i64 (Int.ofNat 1), .int .i64 (Int.ofNat 1), .int .i64 (Int.ofNat 1)] 258 0 0 4),
  (40, .map [] 0),
  (41, .cells [.int .i64 (Int.ofNat 0), .int .i64 (Int.ofNat 0)] 3 0 0 0)]
def addsV : Nat → Nat → Nat → Part := fun w1 k win => match k with
  | 0 => addsB0 w1
  | 1 => [(3, .cells [.pointer (some ⟨8, 0, none⟩), .pointer (some ⟨9, 0, none⟩), .slice (some ⟨10, 0, none⟩) 4 1000000004, .pointer (some ⟨11, 0, none⟩), .slice (some ⟨12, 0, none⟩) 4 1000000004, .int .u64 (Int.ofNat 1), .int .i64 (Int.ofNat 0), .map (some 13)] 116 0 0 0),
  (5, .cells [.int .u64 (Int.ofNat 0), .int .u64 (Int.ofNat 1), .int .u64 (Int.ofNat 0), .int .u64 (Int.ofNat 0), .int .u64 (Int.ofNat 0), .int .u64 (Int.ofNat 0), .int .u64 (Int.ofNat 0), .int .u64 (Int.ofNat 0), .int .u64 (Int.ofNat 0), .int .u64 (Int.ofNat 0), .int .u64 (Int.ofNat 0), .int .u64 (Int.ofNat 0), .int .u64 (Int.ofNat 0), .int .u64 (Int.ofNat 0), .int .u64 (Int.ofNat 0), .int .u64 (Int.ofNat 0), .int .u64 (Int.ofNat 0), .int .u64 (Int.ofNat 0)] 125 0 0 0),
  (7, .cells (rp 35 (.chan (some 0))) 89 0 0 35),
  (9, .cells [.int .i64 (Int.ofNat 512), .slice (some ⟨55, 0, none⟩) 512 1000000512, .slice (some ⟨17, 0, none⟩) 1 1] 156 0 0 0),
  (11, .cells [.int .i64 (Int.ofNat 2), .slice none 0 0, .slice (some ⟨18, 0, none⟩) 4 4, .int .i64 (Int.ofNat 0), .int .i64 (Int.ofNat 1)] 177 0 0 0),
  (15, .cells [.slice (some ⟨56, 0, none⟩) 7 1000000008, .slice none 0 0, .slice none 0 0, .slice none 0 0] 22 0 0 0),
  (16, .map [⟨.int .i64 (Int.ofNat 0), .pointer (some ⟨57, 0, none⟩), 0⟩] 1),
  (17, .cells [.int .i64 (Int.ofNat 1)] 3 0 0 0),
  (18, .cells [.pointer none, .pointer none, .pointer (some ⟨58, 0, none⟩), .pointer none] 238 0 0 0),
  (23, .cells [.pointer (some ⟨27, 0, none⟩), .pointer (some ⟨28, 0, none⟩), .int .i64 (Int.ofNat 8), .map (some 29)] 269 0 0 0),
  (27, .cells [.slice (some ⟨39, 0, none⟩) 3 1000000003, .slice none 0 0, .map (some 40), .slice (some ⟨41, 0, none⟩) 2 2] 256 0 0 0),
  (28, .cells [.int .i64 (Int.ofNat 8), .map (some 42), .slice none 0 0, .int .i64 (Int.ofNat 0)] 326 0 0 0),
  (29, .map [⟨.int .i64 (Int.ofNat 0), .pointer (some ⟨60, 0, none⟩), 0⟩] 1),
  (39, .cells [.int .i64 (Int.negSucc 0), .int .i64 (Int.ofNat 0), .int .i64 (Int.ofNat 2), .int .i64 (Int.ofNat 2), .int .i64 (Int.negSucc 0), .int .i64 (Int.ofNat 1), .int .i64 (Int.ofNat 1), .int .i64 (Int.ofNat 1), .int .i64 (Int.ofNat 0), .int .i64 (Int.ofNat 0), .int .i64 (Int.ofNat 0), .int .i64 (Int.ofNat 0)] 258 0 0 4),
  (40, .map [⟨.int .i64 (Int.ofNat 0), .int .i64 (Int.ofNat 2), 0⟩] 1),
  (41, .cells [.int .i64 (Int.ofNat 1), .int .i64 (Int.ofNat 0)] 3 0 0 0),
  (55, .cells ([.int .u8 (Int.ofNat 1), .int .u8 (Int.ofNat 0), .int .u8 (Int.ofNat 0), .int .u8 (Int.ofNat 0), .int .u8 (Int.ofNat 0), .int .u8 (Int.ofNat 0), .int .u8 (Int.ofNat 0), .int .u8 (Int.ofNat 0), .int .u8 (Int.ofNat 1)] ++ rp 15 (.int .u8 (Int.ofNat 0)) ++ [.int .u8 (Int.ofNat 1)] ++ rp 15 (.int .u8 (Int.ofNat 0)) ++ [.int .u8 (Int.ofNat 107), .int .u8 (Int.ofNat (48 + win))] ++ rp 470 (.int .u8 (Int.ofNat 0))) 5 0 0 1),
  (56, .cells [.int .i64 (Int.ofNat 7), .int .i64 (Int.ofNat 6), .int .i64 (Int.ofNat 5), .int .i64 (Int.ofNat 4), .int .i64 (Int.ofNat 3), .int .i64 (Int.ofNat 2), .int .i64 (Int.ofNat 1), .int .i64 (Int.ofNat 0)] 3 0 0 1),
  (57, .cells [.slice (some ⟨59, 0, none⟩) 8 8, .int .i64 (Int.ofNat 1), .bool false] 296 0 0 0),
  (58, .cells [.string ⟨⟨[107]⟩⟩, .int .u64 (Int.ofNat 12638198195671924106), .int .i64 (Int.ofNat 0), .pointer none] 240 0 0 0),
  (59, .cells [.bool true, .bool false, .bool false, .bool false, .bool false, .bool false, .bool false, .bool false] 4 0 0 0),
  (60, .cells [.int .u64 (Int.ofNat 12638198195671924106), .int .i64 (Int.ofNat 0)] 416 0 0 0)]
  | 2 => [(3, .cells [.pointer (some ⟨8, 0, none⟩), .pointer (some ⟨9, 0, none⟩), .slice (some ⟨10, 0, none⟩) 4 1000000004, .pointer (some ⟨11, 0, none⟩), .slice (some ⟨12, 0, none⟩) 4 1000000004, .int .u64 (Int.ofNat 1), .int .i64 (Int.ofNat 0), .map (some 13)] 116 0 0 0),
  (5, .cells [.int .u64 (Int.ofNat 0), .int .u64 (Int.ofNat 2), .int .u64 (Int.ofNat 0), .int .u64 (Int.ofNat 0), .int .u64 (Int.ofNat 0), .int .u64 (Int.ofNat 0), .int .u64 (Int.ofNat 0), .int .u64 (Int.ofNat 0), .int .u64 (Int.ofNat 0), .int .u64 (Int.ofNat 0), .int .u64 (Int.ofNat 0), .int .u64 (Int.ofNat 0), .int .u64 (Int.ofNat 0), .int .u64 (Int.ofNat 0), .int .u64 (Int.ofNat 0), .int .u64 (Int.ofNat 0), .int .u64 (Int.ofNat 0), .int .u64 (Int.ofNat 0)] 125 0 0 0),
  (7, .cells (rp 70 (.chan (some 0))) 89 0 0 35),
  (9, .cells [.int .i64 (Int.ofNat 512), .slice (some ⟨55, 0, none⟩) 512 1000000512, .slice (some ⟨17, 0, none⟩) 1 1] 156 0 0 0),
  (11, .cells [.int .i64 (Int.ofNat 2), .slice none 0 0, .slice (some ⟨18, 0, none⟩) 4 4, .int .i64 (Int.ofNat 0), .int .i64 (Int.ofNat 1)] 177 0 0 0),
  (15, .cells [.slice (some ⟨56, 0, none⟩) 7 1000000008, .slice none 0 0, .slice none 0 0, .slice none 0 0] 22 0 0 0),
  (16, .map [⟨.int .i64 (Int.ofNat 0), .pointer (some ⟨57, 0, none⟩), 0⟩] 1),
  (17, .cells [.int .i64 (Int.ofNat 1)] 3 0 0 0),
  (18, .cells [.pointer none, .pointer none, .pointer (some ⟨58, 0, none⟩), .pointer none] 238 0 0 0),
  (23, .cells [.pointer (some ⟨27, 0, none⟩), .pointer (some ⟨28, 0, none⟩), .int .i64 (Int.ofNat 8), .map (some 29)] 269 0 0 0),
  (27, .cells [.slice (some ⟨39, 0, none⟩) 3 1000000003, .slice none 0 0, .map (some 40), .slice (some ⟨41, 0, none⟩) 2 2] 256 0 0 0),
  (28, .cells [.int .i64 (Int.ofNat 8), .map (some 42), .slice none 0 0, .int .i64 (Int.ofNat 0)] 326 0 0 0),
  (29, .map [⟨.int .i64 (Int.ofNat 0), .pointer (some ⟨60, 0, none⟩), 0⟩] 1),
  (39, .cells [.int .i64 (Int.negSucc 0), .int .i64 (Int.ofNat 0), .int .i64 (Int.ofNat 2), .int .i64 (Int.ofNat 2), .int .i64 (Int.negSucc 0), .int .i64 (Int.ofNat 1), .int .i64 (Int.ofNat 1), .int .i64 (Int.ofNat 1), .int .i64 (Int.ofNat 0), .int .i64 (Int.ofNat 0), .int .i64 (Int.ofNat 0), .int .i64 (Int.ofNat 0)] 258 0 0 4),
  (40, .map [⟨.int .i64 (Int.ofNat 0), .int .i64 (Int.ofNat 2), 0⟩] 1),
  (41, .cells [.int .i64 (Int.ofNat 1), .int .i64 (Int.ofNat 0)] 3 0 0 0),
  (55, .cells ([.int .u8 (Int.ofNat 1), .int .u8 (Int.ofNat 0), .int .u8 (Int.ofNat 0), .int .u8 (Int.ofNat 0), .int .u8 (Int.ofNat 0), .int .u8 (Int.ofNat 0), .int .u8 (Int.ofNat 0), .int .u8 (Int.ofNat 0), .int .u8 (Int.ofNat 1)] ++ rp 15 (.int .u8 (Int.ofNat 0)) ++ [.int .u8 (Int.ofNat 1)] ++ rp 15 (.int .u8 (Int.ofNat 0)) ++ [.int .u8 (Int.ofNat 107), .int .u8 (Int.ofNat (48 + win))] ++ rp 470 (.int .u8 (Int.ofNat 0))) 5 0 0 1),
  (56, .cells [.int .i64 (Int.ofNat 7), .int .i64 (Int.ofNat 6), .int .i64 (Int.ofNat 5), .int .i64 (Int.ofNat 4), .int .i64 (Int.ofNat 3), .int .i64 (Int.ofNat 2), .int .i64 (Int.ofNat 1), .int .i64 (Int.ofNat 0)] 3 0 0 1),
  (57, .cells [.slice (some ⟨59, 0, none⟩) 8 8, .int .i64 (Int.ofNat 1), .bool false] 296 0 0 0),
  (58, .cells [.string ⟨⟨[107]⟩⟩, .int .u64 (Int.ofNat 12638198195671924106), .int .i64 (Int.ofNat 0), .pointer none] 240 0 0 0),
  (59, .cells [.bool true, .bool false, .bool false, .bool false, .bool false, .bool false, .bool false, .bool false] 4 0 0 0),
  (60, .cells [.int .u64 (Int.ofNat 12638198195671924106), .int .i64 (Int.ofNat 1)] 416 0 0 0)]
  | 3 => [(3, .cells [.pointer (some ⟨8, 0, none⟩), .pointer (some ⟨9, 0, none⟩), .slice (some ⟨10, 0, none⟩) 4 1000000004, .pointer (some ⟨11, 0, none⟩), .slice (some ⟨12, 0, none⟩) 4 1000000004, .int .u64 (Int.ofNat 1), .int .i64 (Int.ofNat 0), .map (some 13)] 116 0 0 0),
  (5, .cells [.int .u64 (Int.ofNat 0), .int .u64 (Int.ofNat 3), .int .u64 (Int.ofNat 0), .int .u64 (Int.ofNat 0), .int .u64 (Int.ofNat 0), .int .u64 (Int.ofNat 0), .int .u64 (Int.ofNat 0), .int .u64 (Int.ofNat 0), .int .u64 (Int.ofNat 0), .int .u64 (Int.ofNat 0), .int .u64 (Int.ofNat 0), .int .u64 (Int.ofNat 0), .int .u64 (Int.ofNat 0), .int .u64 (Int.ofNat 0), .int .u64 (Int.ofNat 0), .int .u64 (Int.ofNat 0), .int .u64 (Int.ofNat 0), .int .u64 (Int.ofNat 0)] 125 0 0 0),
  (7, .cells (rp 105 (.chan (some 0))) 89 0 0 35),
  (9, .cells [.int .i64 (Int.ofNat 512), .slice (some ⟨55, 0, none⟩) 512 1000000512, .slice (some ⟨17, 0, none⟩) 1 1] 156 0 0 0),
  (11, .cells [.int .i64 (Int.ofNat 2), .slice none 0 0, .slice (some ⟨18, 0, none⟩) 4 4, .int .i64 (Int.ofNat 0), .int .i64 (Int.ofNat 1)] 177 0 0 0),
  (15, .cells [.slice (some ⟨56, 0, none⟩) 7 1000000008, .slice none 0 0, .slice none 0 0, .slice none 0 0] 22 0 0 0),
  (16, .map [⟨.int .i64 (Int.ofNat 0), .pointer (some ⟨57, 0, none⟩), 0⟩] 1),
  (17, .cells [.int .i64 (Int.ofNat 1)] 3 0 0 0),
  (18, .cells [.pointer none, .pointer none, .pointer (some ⟨58, 0, none⟩), .pointer none] 238 0 0 0),
  (23, .cells [.pointer (some ⟨27, 0, none⟩), .pointer (some ⟨28, 0, none⟩), .int .i64 (Int.ofNat 8), .map (some 29)] 269 0 0 0),
  (27, .cells [.slice (some ⟨39, 0, none⟩) 3 1000000003, .slice none 0 0, .map (some 40), .slice (some ⟨41, 0, none⟩) 2 2] 256 0 0 0),
  (28, .cells [.int .i64 (Int.ofNat 8), .map (some 42), .slice none 0 0, .int .i64 (Int.ofNat 0)] 326 0 0 0),
  (29, .map [⟨.int .i64 (Int.ofNat 0), .pointer (some ⟨60, 0, none⟩), 0⟩] 1),
  (39, .cells [.int .i64 (Int.negSucc 0), .int .i64 (Int.ofNat 0), .int .i64 (Int.ofNat 2), .int .i64 (Int.ofNat 2), .int .i64 (Int.negSucc 0), .int .i64 (Int.ofNat 1), .int .i64 (Int.ofNat 1), .int .i64 (Int.ofNat 1), .int .i64 (Int.ofNat 0), .int .i64 (Int.ofNat 0), .int .i64 (Int.ofNat 0), .int .i64 (Int.ofNat 0)] 258 0 0 4),
  (40, .map [⟨.int .i64 (Int.ofNat 0), .int .i64 (Int.ofNat 2), 0⟩] 1),
  (41, .cells [.int .i64 (Int.ofNat 1), .int .i64 (Int.ofNat 0)] 3 0 0 0),
  (55, .cells ([.int .u8 (Int.ofNat 1), .int .u8 (Int.ofNat 0), .int .u8 (Int.ofNat 0), .int .u8 (Int.ofNat 0), .int .u8 (Int.ofNat 0), .int .u8 (Int.ofNat 0), .int .u8 (Int.ofNat 0), .int .u8 (Int.ofNat 0), .int .u8 (Int.ofNat 1)] ++ rp 15 (.int .u8 (Int.ofNat 0)) ++ [.int .u8 (Int.ofNat 1)] ++ rp 15 (.int .u8 (Int.ofNat 0)) ++ [.int .u8 (Int.ofNat 107), .int .u8 (Int.ofNat (48 + win))] ++ rp 470 (.int .u8 (Int.ofNat 0))) 5 0 0 1),
  (56, .cells [.int .i64 (Int.ofNat 7), .int .i64 (Int.ofNat 6), .int .i64 (Int.ofNat 5), .int .i64 (Int.ofNat 4), .int .i64 (Int.ofNat 3), .int .i64 (Int.ofNat 2), .int .i64 (Int.ofNat 1), .int .i64 (Int.ofNat 0)] 3 0 0 1),
  (57, .cells [.slice (some ⟨59, 0, none⟩) 8 8, .int .i64 (Int.ofNat 1), .bool false] 296 0 0 0),
  (58, .cells [.string ⟨⟨[107]⟩⟩, .int .u64 (Int.ofNat 12638198195671924106), .int .i64 (Int.ofNat 0), .pointer none] 240 0 0 0),
  (59, .cells [.bool true, .bool false, .bool false, .bool false, .bool false, .bool false, .bool false, .bool false] 4 0 0 0),
  (60, .cells [.int .u64 (Int.ofNat 12638198195671924106), .int .i64 (Int.ofNat 2)] 416 0 0 0)]
  | 4 => [(3, .cells [.pointer (some ⟨8, 0, none⟩), .pointer (some ⟨9, 0, none⟩), .slice (some ⟨10, 0, none⟩) 4 1000000004, .pointer (some ⟨11, 0, none⟩), .slice (some ⟨12, 0, none⟩) 4 1000000004, .int .u64 (Int.ofNat 1), .int .i64 (Int.ofNat 0), .map (some 13)] 116 0 0 0),
  (5, .cells [.int .u64 (Int.ofNat 0), .int .u64 (Int.ofNat 4), .int .u64 (Int.ofNat 0), .int .u64 (Int.ofNat 0), .int .u64 (Int.ofNat 0), .int .u64 (Int.ofNat 0), .int .u64 (Int.ofNat 0), .int .u64 (Int.ofNat 0), .int .u64 (Int.ofNat 0), .int .u64 (Int.ofNat 0), .int .u64 (Int.ofNat 0), .int .u64 (Int.ofNat 0), .int .u64 (Int.ofNat 0), .int .u64 (Int.ofNat 0), .int .u64 (Int.ofNat 0), .int .u64 (Int.ofNat 0), .int .u64 (Int.ofNat 0), .int .u64 (Int.ofNat 0)] 125 0 0 0),
  (7, .cells (rp 140 (.chan (some 0))) 89 0 0 35),
  (9, .cells [.int .i64 (Int.ofNat 512), .slice (some ⟨55, 0, none⟩) 512 1000000512, .slice (some ⟨17, 0, none⟩) 1 1] 156 0 0 0),
  (11, .cells [.int .i64 (Int.ofNat 2), .slice none 0 0, .slice (some ⟨18, 0, none⟩) 4 4, .int .i64 (Int.ofNat 0), .int .i64 (Int.ofNat 1)] 177 0 0 0),
  (15, .cells [.slice (some ⟨56, 0, none⟩) 7 1000000008, .slice none 0 0, .slice none 0 0, .slice none 0 0] 22 0 0 0),
  (16, .map [⟨.int .i64 (Int.ofNat 0), .pointer (some ⟨57, 0, none⟩), 0⟩] 1),
  (17, .cells [.int .i64 (Int.ofNat 1)] 3 0 0 0),
  (18, .cells [.pointer none, .pointer none, .pointer (some ⟨58, 0, none⟩), .pointer none] 238 0 0 0),
  (23, .cells [.pointer (some ⟨27, 0, none⟩), .pointer (some ⟨28, 0, none⟩), .int .i64 (Int.ofNat 8), .map (some 29)] 269 0 0 0),
  (27, .cells [.slice (some ⟨39, 0, none⟩) 3 1000000003, .slice none 0 0, .map (some 40), .slice (some ⟨41, 0, none⟩) 2 2] 256 0 0 0),
  (28, .cells [.int .i64 (Int.ofNat 8), .map (some 42), .slice none 0 0, .int .i64 (Int.ofNat 0)] 326 0 0 0),
  (29, .map [⟨.int .i64 (Int.ofNat 0), .pointer (some ⟨60, 0, none⟩), 0⟩] 1),
  (39, .cells [.int .i64 (Int.negSucc 0), .int .i64 (Int.ofNat 0), .int .i64 (Int.ofNat 2), .int .i64 (Int.ofNat 2), .int .i64 (Int.negSucc 0), .int .i64 (Int.ofNat 1), .int .i64 (Int.ofNat 1), .int .i64 (Int.ofNat 1), .int .i64 (Int.ofNat 0), .int .i64 (Int.ofNat 0), .int .i64 (Int.ofNat 0), .int .i64 (Int.ofNat 0)] 258 0 0 4),
  (40, .map [⟨.int .i64 (Int.ofNat 0), .int .i64 (Int.ofNat 2), 0⟩] 1),
  (41, .cells [.int .i64 (Int.ofNat 1), .int .i64 (Int.ofNat 0)] 3 0 0 0),
  (55, .cells ([.int .u8 (Int.ofNat 1), .int .u8 (Int.ofNat 0), .int .u8 (Int.ofNat 0), .int .u8 (Int.ofNat 0), .int .u8 (Int.ofNat 0), .int .u8 (Int.ofNat 0), .int .u8 (Int.ofNat 0), .int .u8 (Int.ofNat 0), .int .u8 (Int.ofNat 1)] ++ rp 15 (.int .u8 (Int.ofNat 0)) ++ [.int .u8 (Int.ofNat 1)] ++ rp 15 (.int .u8 (Int.ofNat 0)) ++ [.int .u8 (Int.ofNat 107), .int .u8 (Int.ofNat (48 + win))] ++ rp 470 (.int .u8 (Int.ofNat 0))) 5 0 0 1),
  (56, .cells [.int .i64 (Int.ofNat 7), .int .i64 (Int.ofNat 6), .int .i64 (Int.ofNat 5), .int .i64 (Int.ofNat 4), .int .i64 (Int.ofNat 3), .int .i64 (Int.ofNat 2), .int .i64 (Int.ofNat 1), .int .i64 (Int.ofNat 0)] 3 0 0 1),
  (57, .cells [.slice (some ⟨59, 0, none⟩) 8 8, .int .i64 (Int.ofNat 1), .bool false] 296 0 0 0),
  (58, .cells [.string ⟨⟨[107]⟩⟩, .int .u64 (Int.ofNat 12638198195671924106), .int .i64 (Int.ofNat 0), .pointer none] 240 0 0 0),
  (59, .cells [.bool true, .bool false, .bool false, .bool false, .bool false, .bool false, .bool false, .bool false] 4 0 0 0),
  (60, .cells [.int .u64 (Int.ofNat 12638198195671924106), .int .i64 (Int.ofNat 3)] 416 0 0 0)]
  | _ => []
def addsE : Nat → Value := fun k => match k with
  | 0 => .slice none 0 0
  | 1 => .slice (some ⟨7, 0, none⟩) 1 1000000001
  | 2 => .slice (some ⟨7, 0, none⟩) 2 1000000002
  | 3 => .slice (some ⟨7, 0, none⟩) 3 1000000003
  | 4 => .slice (some ⟨7, 0, none⟩) 4 1000000004
  | _ => .nilIface
def addsC0 : Nat → Part := fun k => match k with
  | 0 => [(700, .cells [.pointer (some ⟨701, 0, none⟩), .int .i64 (Int.ofNat 0), .bool false] 49 0 0 0),
  (701, .cells [.string ⟨⟨[97, 100, 100, 32, 107, 32, 48, 32, 48, 32, 49, 13, 10, 48, 13, 10]⟩⟩, .string ⟨⟨[]⟩⟩, .int .i64 (Int.ofNat 0), .bool false] 92 0 0 0)]
  | 1 => [(700, .cells [.pointer (some ⟨701, 0, none⟩), .int .i64 (Int.ofNat 1), .bool true] 49 0 0 0),
  (701, .cells [.string ⟨⟨[]⟩⟩, .string ⟨⟨[]⟩⟩, .int .i64 (Int.ofNat 0), .bool false] 92 0 0 0),
  (702, .cells [.int .i64 (Int.ofNat 1), .slice (some ⟨703, 0, none⟩) 1 1, .bool false, .bool false, .string ⟨⟨[]⟩⟩, .string ⟨⟨[]⟩⟩, .int .i64 (Int.ofNat 0), .bool false, .string ⟨⟨[]⟩⟩, .slice none 0 0, .string ⟨⟨[]⟩⟩, .int .i64 (Int.ofNat 0), .int .i64 (Int.ofNat 1), .int .i64 (Int.ofNat 0), .slice none 0 0, .int .i64 (Int.ofNat 0), .slice none 0 0] 67 0 0 0),
  (703, .cells [.int .i64 (Int.ofNat 2), .int .i64 (Int.ofNat 1), .string ⟨⟨[107]⟩⟩, .string ⟨⟨[48]⟩⟩, .int .u32 (Int.ofNat 0), .int .i64 (Int.ofNat 0), .bool false, .int .u64 (Int.ofNat 0), .bool false, .int .u64 (Int.ofNat 0), .int .u64 (Int.ofNat 0), .bool false, .bool false, .int .i64 (Int.ofNat 0), .int .i64 (Int.negSucc 0), .bool false] 83 0 0 0)]
  | 2 => [(700, .cells [.pointer (some ⟨701, 0, none⟩), .int .i64 (Int.ofNat 1), .bool true] 49 0 0 0),
  (701, .cells [.string ⟨⟨[]⟩⟩, .string ⟨⟨[]⟩⟩, .int .i64 (Int.ofNat 0), .bool false] 92 0 0 0),
  (702, .cells [.int .i64 (Int.ofNat 1), .slice (some ⟨703, 0, none⟩) 1 1, .bool false, .bool false, .string ⟨⟨[]⟩⟩, .string ⟨⟨[]⟩⟩, .int .i64 (Int.ofNat 0), .bool false, .string ⟨⟨[]⟩⟩, .slice none 0 0, .string ⟨⟨[]⟩⟩, .int .i64 (Int.ofNat 0), .int .i64 (Int.ofNat 1), .int .i64 (Int.ofNat 0), .slice none 0 0, .int .i64 (Int.ofNat 1), .slice (some ⟨704, 0, none⟩) 1 1] 67 0 0 0),
  (703, .cells [.int .i64 (Int.ofNat 2), .int .i64 (Int.ofNat 1), .string ⟨⟨[107]⟩⟩, .string ⟨⟨[48]⟩⟩, .int .u32 (Int.ofNat 0), .int .i64 (Int.ofNat 0), .bool false, .int .u64 (Int.ofNat 0), .bool false, .int .u64 (Int.ofNat 0), .int .u64 (Int.ofNat 0), .bool false, .bool false, .int .i64 (Int.ofNat 0), .int .i64 (Int.negSucc 0), .bool false] 83 0 0 0),
  (704, .cells [.int .i64 (Int.ofNat 0)] 3 0 0 0)]
  | 3 => [(700, .cells [.pointer (some ⟨701, 0, none⟩), .int .i64 (Int.ofNat 1), .bool true] 49 0 0 0),
  (701, .cells [.string ⟨⟨[]⟩⟩, .string ⟨⟨[]⟩⟩, .int .i64 (Int.ofNat 0), .bool false] 92 0 0 0),
  (702, .cells [.int .i64 (Int.ofNat 1), .slice (some ⟨703, 0, none⟩) 1 1, .bool false, .bool false, .string ⟨⟨[]⟩⟩, .string ⟨⟨[]⟩⟩, .int .i64 (Int.ofNat 0), .bool false, .string ⟨⟨[]⟩⟩, .slice none 0 0, .string ⟨⟨[]⟩⟩, .int .i64 (Int.ofNat 0), .int .i64 (Int.ofNat 1), .int .i64 (Int.ofNat 0), .slice (some ⟨705, 0, none⟩) 1 1000000001, .int .i64 (Int.ofNat 2), .slice (some ⟨704, 0, none⟩) 1 1] 67 0 0 0),
  (703, .cells [.int .i64 (Int.ofNat 2), .int .i64 (Int.ofNat 1), .string ⟨⟨[107]⟩⟩, .string ⟨⟨[48]⟩⟩, .int .u32 (Int.ofNat 0), .int .i64 (Int.ofNat 0), .bool false, .int .u64 (Int.ofNat 0), .bool false, .int .u64 (Int.ofNat 0), .int .u64 (Int.ofNat 0), .bool false, .bool false, .int .i64 (Int.ofNat 0), .int .i64 (Int.negSucc 0), .bool false] 83 0 0 0),
  (704, .cells [.int .i64 (Int.ofNat 0)] 3 0 0 0),
  (705, .cells [.int .i64 (Int.ofNat 3), .string ⟨⟨[]⟩⟩, .int .u32 (Int.ofNat 0), .string ⟨⟨[]⟩⟩, .int .i64 (Int.ofNat 0), .int .u64 (Int.ofNat 0), .int .i64 (Int.ofNat 0), .bool false, .bool false, .int .u64 (Int.ofNat 0), .bool false, .bool false, .bool false] 87 0 0 13)]
  | 4 => [(700, .cells [.pointer (some ⟨701, 0, none⟩), .int .i64 (Int.ofNat 1), .bool false] 49 0 0 0),
  (701, .cells [.string ⟨⟨[]⟩⟩, .string ⟨⟨[78, 79, 84, 95, 83, 84, 79, 82, 69, 68, 13, 10]⟩⟩, .int .i64 (Int.ofNat 0), .bool false] 92 0 0 0)]
  | 5 => [(700, .cells [.pointer (some ⟨701, 0, none⟩), .int .i64 (Int.ofNat 1), .bool true] 49 0 0 0),
  (701, .cells [.string ⟨⟨[]⟩⟩, .string ⟨⟨[]⟩⟩, .int .i64 (Int.ofNat 0), .bool false] 92 0 0 0),
  (702, .cells [.int .i64 (Int.ofNat 1), .slice (some ⟨703, 0, none⟩) 1 1, .bool false, .bool false, .string ⟨⟨[]⟩⟩, .string ⟨⟨[]⟩⟩, .int .i64 (Int.ofNat 0), .bool false, .string ⟨⟨[]⟩⟩, .slice none 0 0, .string ⟨⟨[]⟩⟩, .int .i64 (Int.ofNat 0), .int .i64 (Int.ofNat 1), .int .i64 (Int.ofNat 0), .slice (some ⟨705, 0, none⟩) 1 1000000001, .int .i64 (Int.ofNat 2), .slice (some ⟨704, 0, none⟩) 1 1] 67 0 0 0),
  (703, .cells [.int .i64 (Int.ofNat 2), .int .i64 (Int.ofNat 1), .string ⟨⟨[107]⟩⟩, .string ⟨⟨[48]⟩⟩, .int .u32 (Int.ofNat 0), .int .i64 (Int.ofNat 0), .bool false, .int .u64 (Int.ofNat 0), .bool false, .int .u64 (Int.ofNat 0), .int .u64 (Int.ofNat 0), .bool false, .bool false, .int .i64 (Int.ofNat 0), .int .i64 (Int.negSucc 0), .bool false] 83 0 0 0),
  (704, .cells [.int .i64 (Int.ofNat 0)] 3 0 0 0),
  (705, .cells [.int .i64 (Int.ofNat 2), .string ⟨⟨[107]⟩⟩, .int .u32 (Int.ofNat 0), .string ⟨⟨[48]⟩⟩, .int .i64 (Int.ofNat 0), .int .u64 (Int.ofNat 1), .int .i64 (Int.ofNat 0), .bool false, .bool false, .int .u64 (Int.ofNat 0), .bool false, .bool false, .bool false] 87 0 0 13)]
  | 6 => [(700, .cells [.pointer (some ⟨701, 0, none⟩), .int .i64 (Int.ofNat 1), .bool false] 49 0 0 0),
  (701, .cells [.string ⟨⟨[]⟩⟩, .string ⟨⟨[83, 84, 79, 82, 69, 68, 13, 10]⟩⟩, .int .i64 (Int.ofNat 0), .bool false] 92 0 0 0)]
  | _ => []
def addsC1 : Nat → Part := fun k => match k with
  | 0 => [(750, .cells [.pointer (some ⟨751, 0, none⟩), .int .i64 (Int.ofNat 0), .bool false] 49 0 0 0),
  (751, .cells [.string ⟨⟨[97, 100, 100, 32, 107, 32, 48, 32, 48, 32, 49, 13, 10, 49, 13, 10]⟩⟩, .string ⟨⟨[]⟩⟩, .int .i64 (Int.ofNat 0), .bool false] 92 0 0 0)]
  | 1 => [(750, .cells [.pointer (some ⟨751, 0, none⟩), .int .i64 (Int.ofNat 1), .bool true] 49 0 0 0),
  (751, .cells [.string ⟨⟨[]⟩⟩, .string ⟨⟨[]⟩⟩, .int .i64 (Int.ofNat 0), .bool false] 92 0 0 0),
  (752, .cells [.int .i64 (Int.ofNat 1), .slice (some ⟨753, 0, none⟩) 1 1, .bool false, .bool false, .string ⟨⟨[]⟩⟩, .string ⟨⟨[]⟩⟩, .int .i64 (Int.ofNat 0), .bool false, .string ⟨⟨[]⟩⟩, .slice none 0 0, .string ⟨⟨[]⟩⟩, .int .i64 (Int.ofNat 1), .int .i64 (Int.ofNat 1), .int .i64 (Int.ofNat 0), .slice none 0 0, .int .i64 (Int.ofNat 0), .slice none 0 0] 67 0 0 0),
  (753, .cells [.int .i64 (Int.ofNat 2), .int .i64 (Int.ofNat 1), .string ⟨⟨[107]⟩⟩, .string ⟨⟨[49]⟩⟩, .int .u32 (Int.ofNat 0), .int .i64 (Int.ofNat 0), .bool false, .int .u64 (Int.ofNat 0), .bool false, .int .u64 (Int.ofNat 0), .int .u64 (Int.ofNat 0), .bool false, .bool false, .int .i64 (Int.ofNat 0), .int .i64 (Int.negSucc 0), .bool false] 83 0 0 0)]
  | 2 => [(750, .cells [.pointer (some ⟨751, 0, none⟩), .int .i64 (Int.ofNat 1), .bool true] 49 0 0 0),
  (751, .cells [.string ⟨⟨[]⟩⟩, .string ⟨⟨[]⟩⟩, .int .i64 (Int.ofNat 0), .bool false] 92 0 0 0),
  (752, .cells [.int .i64 (Int.ofNat 1), .slice (some ⟨753, 0, none⟩) 1 1, .bool false, .bool false, .string ⟨⟨[]⟩⟩, .string ⟨⟨[]⟩⟩, .int .i64 (Int.ofNat 0), .bool false, .string ⟨⟨[]⟩⟩, .slice none 0 0, .string ⟨⟨[]⟩⟩, .int .i64 (Int.ofNat 1), .int .i64 (Int.ofNat 1), .int .i64 (Int.ofNat 0), .slice none 0 0, .int .i64 (Int.ofNat 1), .slice (some ⟨754, 0, none⟩) 1 1] 67 0 0 0),
  (753, .cells [.int .i64 (Int.ofNat 2), .int .i64 (Int.ofNat 1), .string ⟨⟨[107]⟩⟩, .string ⟨⟨[49]⟩⟩, .int .u32 (Int.ofNat 0), .int .i64 (Int.ofNat 0), .bool false, .int .u64 (Int.ofNat 0), .bool false, .int .u64 (Int.ofNat 0), .int .u64 (Int.ofNat 0), .bool false, .bool false, .int .i64 (Int.ofNat 0), .int .i64 (Int.negSucc 0), .bool false] 83 0 0 0),
  (754, .cells [.int .i64 (Int.ofNat 0)] 3 0 0 0)]
  | 3 => [(750, .cells [.pointer (some ⟨751, 0, none⟩), .int .i64 (Int.ofNat 1), .bool true] 49 0 0 0),
  (751, .cells [.string ⟨⟨[]⟩⟩, .string ⟨⟨[]⟩⟩, .int .i64 (Int.ofNat 0), .bool false] 92 0 0 0),
  (752, .cells [.int .i64 (Int.ofNat 1), .slice (some ⟨753, 0, none⟩) 1 1, .bool false, .bool false, .string ⟨⟨[]⟩⟩, .string ⟨⟨[]⟩⟩, .int .i64 (Int.ofNat 0), .bool false, .string ⟨⟨[]⟩⟩, .slice none 0 0, .string ⟨⟨[]⟩⟩, .int .i64 (Int.ofNat 1), .int .i64 (Int.ofNat 1), .int .i64 (Int.ofNat 0), .slice (some ⟨755, 0, none⟩) 1 1000000001, .int .i64 (Int.ofNat 2), .slice (some ⟨754, 0, none⟩) 1 1] 67 0 0 0),
  (753, .cells [.int .i64 (Int.ofNat 2), .int .i64 (Int.ofNat 1), .string ⟨⟨[107]⟩⟩, .string ⟨⟨[49]⟩⟩, .int .u32 (Int.ofNat 0), .int .i64 (Int.ofNat 0), .bool false, .int .u64 (Int.ofNat 0), .bool false, .int .u64 (Int.ofNat 0), .int .u64 (Int.ofNat 0), .bool false, .bool false, .int .i64 (Int.ofNat 0), .int .i64 (Int.negSucc 0), .bool false] 83 0 0 0),
  (754, .cells [.int .i64 (Int.ofNat 0)] 3 0 0 0),
  (755, .cells [.int .i64 (Int.ofNat 3), .string ⟨⟨[]⟩⟩, .int .u32 (Int.ofNat 0), .string ⟨⟨[]⟩⟩, .int .i64 (Int.ofNat 0), .int .u64 (Int.ofNat 0), .int .i64 (Int.ofNat 0), .bool false, .bool false, .int .u64 (Int.ofNat 0), .bool false, .bool false, .bool false] 87 0 0 13)]
  | 4 => [(750, .cells [.pointer (some ⟨751, 0, none⟩), .int .i64 (Int.ofNat 1), .bool false] 49 0 0 0),
  (751, .cells [.string ⟨⟨[]⟩⟩, .string ⟨⟨[78, 79, 84, 95, 83, 84, 79, 82, 69, 68, 13, 10]⟩⟩, .int .i64 (Int.ofNat 0), .bool false] 92 0 0 0)]
  | 5 => [(750, .cells [.pointer (some ⟨751, 0, none⟩), .int .i64 (Int.ofNat 1), .bool true] 49 0 0 0),
  (751, .cells [.string ⟨⟨[]⟩⟩, .string ⟨⟨[]⟩⟩, .int .i64 (Int.ofNat 0), .bool false] 92 0 0 0),
  (752, .cells [.int .i64 (Int.ofNat 1), .slice (some ⟨753, 0, none⟩) 1 1, .bool false, .bool false, .string ⟨⟨[]⟩⟩, .string ⟨⟨[]⟩⟩, .int .i64 (Int.ofNat 0), .bool false, .string ⟨⟨[]⟩⟩, .slice none 0 0, .string ⟨⟨[]⟩⟩, .int .i64 (Int.ofNat 1), .int .i64 (Int.ofNat 1), .int .i64 (Int.ofNat 0), .slice (some ⟨755, 0, none⟩) 1 1000000001, .int .i64 (Int.ofNat 2), .slice (some ⟨754, 0, none⟩) 1 1] 67 0 0 0),
  (753, .cells [.int .i64 (Int.ofNat 2), .int .i64 (Int.ofNat 1), .string ⟨⟨[107]⟩⟩, .string ⟨⟨[49]⟩⟩, .int .u32 (Int.ofNat 0), .int .i64 (Int.ofNat 0), .bool false, .int .u64 (Int.ofNat 0), .bool false, .int .u64 (Int.ofNat 0), .int .u64 (Int.ofNat 0), .bool false, .bool false, .int .i64 (Int.ofNat 0), .int .i64 (Int.negSucc 0), .bool false] 83 0 0 0),
  (754, .cells [.int .i64 (Int.ofNat 0)] 3 0 0 0),
  (755, .cells [.int .i64 (Int.ofNat 2), .string ⟨⟨[107]⟩⟩, .int .u32 (Int.ofNat 0), .string ⟨⟨[49]⟩⟩, .int .i64 (Int.ofNat 0), .int .u64 (Int.ofNat 1), .int .i64 (Int.ofNat 0), .bool false, .bool false, .int .u64 (Int.ofNat 0), .bool false, .bool false, .bool false] 87 0 0 13)]
  | 6 => [(750, .cells [.pointer (some ⟨751, 0, none⟩), .int .i64 (Int.ofNat 1), .bool false] 49 0 0 0),
  (751, .cells [.string ⟨⟨[]⟩⟩, .string ⟨⟨[83, 84, 79, 82, 69, 68, 13, 10]⟩⟩, .int .i64 (Int.ofNat 0), .bool false] 92 0 0 0)]
  | _ => []
def addsC2 : Nat → Part := fun k => match k with
  | 0 => [(800, .cells [.pointer (some ⟨801, 0, none⟩), .int .i64 (Int.ofNat 0), .bool false] 49 0 0 0),
  (801, .cells [.string ⟨⟨[97, 100, 100, 32, 107, 32, 48, 32, 48, 32, 49, 13, 10, 50, 13, 10]⟩⟩, .string ⟨⟨[]⟩⟩, .int .i64 (Int.ofNat 0), .bool false] 92 0 0 0)]
  | 1 => [(800, .cells [.pointer (some ⟨801, 0, none⟩), .int .i64 (Int.ofNat 1), .bool true] 49 0 0 0),
  (801, .cells [.string ⟨⟨[]⟩⟩, .string ⟨⟨[]⟩⟩, .int .i64 (Int.ofNat 0), .bool false] 92 0 0 0),
  (802, .cells [.int .i64 (Int.ofNat 1), .slice (some ⟨803, 0, none⟩) 1 1, .bool false, .bool false, .string ⟨⟨[]⟩⟩, .string ⟨⟨[]⟩⟩, .int .i64 (Int.ofNat 0), .bool false, .string ⟨⟨[]⟩⟩, .slice none 0 0, .string ⟨⟨[]⟩⟩, .int .i64 (Int.ofNat 2), .int .i64 (Int.ofNat 1), .int .i64 (Int.ofNat 0), .slice none 0 0, .int .i64 (Int.ofNat 0), .slice none 0 0] 67 0 0 0),
  (803, .cells [.int .i64 (Int.ofNat 2), .int .i64 (Int.ofNat 1), .string ⟨⟨[107]⟩⟩, .string ⟨⟨[50]⟩⟩, .int .u32 (Int.ofNat 0), .int .i64 (Int.ofNat 0), .bool false, .int .u64 (Int.ofNat 0), .bool false, .int .u64 (Int.ofNat 0), .int .u64 (Int.ofNat 0), .bool false, .bool false, .int .i64 (Int.ofNat 0), .int .i64 (Int.negSucc 0), .bool false] 83 0 0 0)]
  | 2 => [(800, .cells [.pointer (some ⟨801, 0, none⟩), .int .i64 (Int.ofNat 1), .bool true] 49 0 0 0),
  (801, .cells [.string ⟨⟨[]⟩⟩, .string ⟨⟨[]⟩⟩, .int .i64 (Int.ofNat 0), .bool false] 92 0 0 0),
  (802, .cells [.int .i64 (Int.ofNat 1), .slice (some ⟨803, 0, none⟩) 1 1, .bool false, .bool false, .string ⟨⟨[]⟩⟩, .string ⟨⟨[]⟩⟩, .int .i64 (Int.ofNat 0), .bool false, .string ⟨⟨[]⟩⟩, .slice none 0 0, .string ⟨⟨[]⟩⟩, .int .i64 (Int.ofNat 2), .int .i64 (Int.ofNat 1), .int .i64 (Int.ofNat 0), .slice none 0 0, .int .i64 (Int.ofNat 1), .slice (some ⟨804, 0, none⟩) 1 1] 67 0 0 0),
  (803, .cells [.int .i64 (Int.ofNat 2), .int .i64 (Int.ofNat 1), .string ⟨⟨[107]⟩⟩, .string ⟨⟨[50]⟩⟩, .int .u32 (Int.ofNat 0), .int .i64 (Int.ofNat 0), .bool false, .int .u64 (Int.ofNat 0), .bool false, .int .u64 (Int.ofNat 0), .int .u64 (Int.ofNat 0), .bool false, .bool false, .int .i64 (Int.ofNat 0), .int .i64 (Int.negSucc 0), .bool false] 83 0 0 0),
  (804, .cells [.int .i64 (Int.ofNat 0)] 3 0 0 0)]
  | 3 => [(800, .cells [.pointer (some ⟨801, 0, none⟩), .int .i64 (Int.ofNat 1), .bool true] 49 0 0 0),
  (801, .cells [.string ⟨⟨[]⟩⟩, .string ⟨⟨[]⟩⟩, .int .i64 (Int.ofNat 0), .bool false] 92 0 0 0),
  (802, .cells [.int .i64 (Int.ofNat 1), .slice (some ⟨803, 0, none⟩) 1 1, .bool false, .bool false, .string ⟨⟨[]⟩⟩, .string ⟨⟨[]⟩⟩, .int .i64 (Int.ofNat 0), .bool false, .string ⟨⟨[]⟩⟩, .slice none 0 0, .string ⟨⟨[]⟩⟩, .int .i64 (Int.ofNat 2), .int .i64 (Int.ofNat 1), .int .i64 (Int.ofNat 0), .slice (some ⟨805, 0, none⟩) 1 1000000001, .int .i64 (Int.ofNat 2), .slice (some ⟨804, 0, none⟩) 1 1] 67 0 0 0),
  (803, .cells [.int .i64 (Int.ofNat 2), .int .i64 (Int.ofNat 1), .string ⟨⟨[107]⟩⟩, .string ⟨⟨[50]⟩⟩, .int .u32 (Int.ofNat 0), .int .i64 (Int.ofNat 0), .bool false, .int .u64 (Int.ofNat 0), .bool false, .int .u64 (Int.ofNat 0), .int .u64 (Int.ofNat 0), .bool false, .bool false, .int .i64 (Int.ofNat 0), .int .i64 (Int.negSucc 0), .bool false] 83 0 0 0),
  (804, .cells [.int .i64 (Int.ofNat 0)] 3 0 0 0),
  (805, .cells [.int .i64 (Int.ofNat 3), .string ⟨⟨[]⟩⟩, .int .u32 (Int.ofNat 0), .string ⟨⟨[]⟩⟩, .int .i64 (Int.ofNat 0), .int .u64 (Int.ofNat 0), .int .i64 (Int.ofNat 0), .bool false, .bool false, .int .u64 (Int.ofNat 0), .bool false, .bool false, .bool false] 87 0 0 13)]
  | 4 => [(800, .cells [.pointer (some ⟨801, 0, none⟩), .int .i64 (Int.ofNat 1), .bool false] 49 0 0 0),
  (801, .cells [.string ⟨⟨[]⟩⟩, .string ⟨⟨[78, 79, 84, 95, 83, 84, 79, 82, 69, 68, 13, 10]⟩⟩, .int .i64 (Int.ofNat 0), .bool false] 92 0 0 0)]
  | 5 => [(800, .cells [.pointer (some ⟨801, 0, none⟩), .int .i64 (Int.ofNat 1), .bool true] 49 0 0 0),
  (801, .cells [.string ⟨⟨[]⟩⟩, .string ⟨⟨[]⟩⟩, .int .i64 (Int.ofNat 0), .bool false] 92 0 0 0),
  (802, .cells [.int .i64 (Int.ofNat 1), .slice (some ⟨803, 0, none⟩) 1 1, .bool false, .bool false, .string ⟨⟨[]⟩⟩, .string ⟨⟨[]⟩⟩, .int .i64 (Int.ofNat 0), .bool false, .string ⟨⟨[]⟩⟩, .slice none 0 0, .string ⟨⟨[]⟩⟩, .int .i64 (Int.ofNat 2), .int .i64 (Int.ofNat 1), .int .i64 (Int.ofNat 0), .slice (some ⟨805, 0, none⟩) 1 1000000001, .int .i64 (Int.ofNat 2), .slice (some ⟨804, 0, none⟩) 1 1] 67 0 0 0),
  (803, .cells [.int .i64 (Int.ofNat 2), .int .i64 (Int.ofNat 1), .string ⟨⟨[107]⟩⟩, .string ⟨⟨[50]⟩⟩, .int .u32 (Int.ofNat 0), .int .i64 (Int.ofNat 0), .bool false, .int .u64 (Int.ofNat 0), .bool false, .int .u64 (Int.ofNat 0), .int .u64 (Int.ofNat 0), .bool false, .bool false, .int .i64 (Int.ofNat 0), .int .i64 (Int.negSucc 0), .bool false] 83 0 0 0),
  (804, .cells [.int .i64 (Int.ofNat 0)] 3 0 0 0),
  (805, .cells [.int .i64 (Int.ofNat 2), .string ⟨⟨[107]⟩⟩, .int .u32 (Int.ofNat 0), .string ⟨⟨[50]⟩⟩, .int .i64 (Int.ofNat 0), .int .u64 (Int.ofNat 1), .int .i64 (Int.ofNat 0), .bool false, .bool false, .int .u64 (Int.ofNat 0), .bool false, .bool false, .bool false] 87 0 0 13)]
  | 6 => [(800, .cells [.pointer (some ⟨801, 0, none⟩), .int .i64 (Int.ofNat 1), .bool false] 49 0 0 0),
  (801, .cells [.string ⟨⟨[]⟩⟩, .string ⟨⟨[83, 84, 79, 82, 69, 68, 13, 10]⟩⟩, .int .i64 (Int.ofNat 0), .bool false] 92 0 0 0)]
  | _ => []
def addsC3 : Nat → Part := fun k => match k with
  | 0 => [(850, .cells [.pointer (some ⟨851, 0, none⟩), .int .i64 (Int.ofNat 0), .bool false] 49 0 0 0),
  (851, .cells [.string ⟨⟨[97, 100, 100, 32, 107, 32, 48, 32, 48, 32, 49, 13, 10, 51, 13, 10]⟩⟩, .string ⟨⟨[]⟩⟩, .int .i64 (Int.ofNat 0), .bool false] 92 0 0 0)]
  | 1 => [(850, .cells [.pointer (some ⟨851, 0, none⟩), .int .i64 (Int.ofNat 1), .bool true] 49 0 0 0),
  (851, .cells [.string ⟨⟨[]⟩⟩, .string ⟨⟨[]⟩⟩, .int .i64 (Int.ofNat 0), .bool false] 92 0 0 0),
  (852, .cells [.int .i64 (Int.ofNat 1), .slice (some ⟨853, 0, none⟩) 1 1, .bool false, .bool false, .string ⟨⟨[]⟩⟩, .string ⟨⟨[]⟩⟩, .int .i64 (Int.ofNat 0), .bool false, .string ⟨⟨[]⟩⟩, .slice none 0 0, .string ⟨⟨[]⟩⟩, .int .i64 (Int.ofNat 3), .int .i64 (Int.ofNat 1), .int .i64 (Int.ofNat 0), .slice none 0 0, .int .i64 (Int.ofNat 0), .slice none 0 0] 67 0 0 0),
  (853, .cells [.int .i64 (Int.ofNat 2), .int .i64 (Int.ofNat 1), .string ⟨⟨[107]⟩⟩, .string ⟨⟨[51]⟩⟩, .int .u32 (Int.ofNat 0), .int .i64 (Int.ofNat 0), .bool false, .int .u64 (Int.ofNat 0), .bool false, .int .u64 (Int.ofNat 0), .int .u64 (Int.ofNat 0), .bool false, .bool false, .int .i64 (Int.ofNat 0), .int .i64 (Int.negSucc 0), .bool false] 83 0 0 0)]
  | 2 => [(850, .cells [.pointer (some ⟨851, 0, none⟩), .int .i64 (Int.ofNat 1), .bool true] 49 0 0 0),
  (851, .cells [.string ⟨⟨[]⟩⟩, .string ⟨⟨[]⟩⟩, .int .i64 (Int.ofNat 0), .bool false] 92 0 0 0),
  (852, .cells [.int .i64 (Int.ofNat 1), .slice (some ⟨853, 0, none⟩) 1 1, .bool false, .bool false, .string ⟨⟨[]⟩⟩, .string ⟨⟨[]⟩⟩, .int .i64 (Int.ofNat 0), .bool false, .string ⟨⟨[]⟩⟩, .slice none 0 0, .string ⟨⟨[]⟩⟩, .int .i64 (Int.ofNat 3), .int .i64 (Int.ofNat 1), .int .i64 (Int.ofNat 0), .slice none 0 0, .int .i64 (Int.ofNat 1), .slice (some ⟨854, 0, none⟩) 1 1] 67 0 0 0),
  (853, .cells [.int .i64 (Int.ofNat 2), .int .i64 (Int.ofNat 1), .string ⟨⟨[107]⟩⟩, .string ⟨⟨[51]⟩⟩, .int .u32 (Int.ofNat 0), .int .i64 (Int.ofNat 0), .bool false, .int .u64 (Int.ofNat 0), .bool false, .int .u64 (Int.ofNat 0), .int .u64 (Int.ofNat 0), .bool false, .bool false, .int .i64 (Int.ofNat 0), .int .i64 (Int.negSucc 0), .bool false] 83 0 0 0),
  (854, .cells [.int .i64 (Int.ofNat 0)] 3 0 0 0)]
  | 3 => [(850, .cells [.pointer (some ⟨851, 0, none⟩), .int .i64 (Int.ofNat 1), .bool true] 49 0 0 0),
  (851, .cells [.string ⟨⟨[]⟩⟩, .string ⟨⟨[]⟩⟩, .int .i64 (Int.ofNat 0), .bool false] 92 0 0 0),
  (852, .cells [.int .i64 (Int.ofNat 1), .slice (some ⟨853, 0, none⟩) 1 1, .bool false, .bool false, .string ⟨⟨[]⟩⟩, .string ⟨⟨[]⟩⟩, .int .i64 (Int.ofNat 0), .bool false, .string ⟨⟨[]⟩⟩, .slice none 0 0, .string ⟨⟨[]⟩⟩, .int .i64 (Int.ofNat 3), .int .i64 (Int.ofNat 1), .int .i64 (Int.ofNat 0), .slice (some ⟨855, 0, none⟩) 1 1000000001, .int .i64 (Int.ofNat 2), .slice (some ⟨854, 0, none⟩) 1 1] 67 0 0 0),
  (853, .cells [.int .i64 (Int.ofNat 2), .int .i64 (Int.ofNat 1), .string ⟨⟨[107]⟩⟩, .string ⟨⟨[51]⟩⟩, .int .u32 (Int.ofNat 0), .int .i64 (Int.ofNat 0), .bool false, .int .u64 (Int.ofNat 0), .bool false, .int .u64 (Int.ofNat 0), .int .u64 (Int.ofNat 0), .bool false, .bool false, .int .i64 (Int.ofNat 0), .int .i64 (Int.negSucc 0), .bool false] 83 0 0 0),
  (854, .cells [.int .i64 (Int.ofNat 0)] 3 0 0 0),
  (855, .cells [.int .i64 (Int.ofNat 3), .string ⟨⟨[]⟩⟩, .int .u32 (Int.ofNat 0), .string ⟨⟨[]⟩⟩, .int .i64 (Int.ofNat 0), .int .u64 (Int.ofNat 0), .int .i64 (Int.ofNat 0), .bool false, .bool false, .int .u64 (Int.ofNat 0), .bool false, .bool false, .bool false] 87 0 0 13)]
  | 4 => [(850, .cells [.pointer (some ⟨851, 0, none⟩), .int .i64 (Int.ofNat 1), .bool false] 49 0 0 0),
  (851, .cells [.string ⟨⟨[]⟩⟩, .string ⟨⟨[78, 79, 84, 95, 83, 84, 79, 82, 69, 68, 13, 10]⟩⟩, .int .i64 (Int.ofNat 0), .bool false] 92 0 0 0)]
  | 5 => [(850, .cells [.pointer (some ⟨851, 0, none⟩), .int .i64 (Int.ofNat 1), .bool true] 49 0 0 0),
  (851, .cells [.string ⟨⟨[]⟩⟩, .string ⟨⟨[]⟩⟩, .int .i64 (Int.ofNat 0), .bool false] 92 0 0 0),
  (852, .cells [.int .i64 (Int.ofNat 1), .slice (some ⟨853, 0, none⟩) 1 1, .bool false, .bool false, .string ⟨⟨[]⟩⟩, .string ⟨⟨[]⟩⟩, .int .i64 (Int.ofNat 0), .bool false, .string ⟨⟨[]⟩⟩, .slice none 0 0, .string ⟨⟨[]⟩⟩, .int .i64 (Int.ofNat 3), .int .i64 (Int.ofNat 1), .int .i64 (Int.ofNat 0), .slice (some ⟨855, 0, none⟩) 1 1000000001, .int .i64 (Int.ofNat 2), .slice (some ⟨854, 0, none⟩) 1 1] 67 0 0 0),
  (853, .cells [.int .i64 (Int.ofNat 2), .int .i64 (Int.ofNat 1), .string ⟨⟨[107]⟩⟩, .string ⟨⟨[51]⟩⟩, .int .u32 (Int.ofNat 0), .int .i64 (Int.ofNat 0), .bool false, .int .u64 (Int.ofNat 0), .bool false, .int .u64 (Int.ofNat 0), .int .u64 (Int.ofNat 0), .bool false, .bool false, .int .i64 (Int.ofNat 0), .int .i64 (Int.negSucc 0), .bool false] 83 0 0 0),
  (854, .cells [.int .i64 (Int.ofNat 0)] 3 0 0 0),
  (855, .cells [.int .i64 (Int.ofNat 2), .string ⟨⟨[107]⟩⟩, .int .u32 (Int.ofNat 0), .string ⟨⟨[51]⟩⟩, .int .i64 (Int.ofNat 0), .int .u64 (Int.ofNat 1), .int .i64 (Int.ofNat 0), .bool false, .bool false, .int .u64 (Int.ofNat 0), .bool false, .bool false, .bool false] 87 0 0 13)]
  | 6 => [(850, .cells [.pointer (some ⟨851, 0, none⟩), .int .i64 (Int.ofNat 1), .bool false] 49 0 0 0),
  (851, .cells [.string ⟨⟨[]⟩⟩, .string ⟨⟨[83, 84, 79, 82, 69, 68, 13, 10]⟩⟩, .int .i64 (Int.ofNat 0), .bool false] 92 0 0 0)]
  | _ => []
def addsC : Nat → Nat → Part := fun c => match c with
  | 0 => addsC0
  | 1 => addsC1
  | 2 => addsC2
  | _ => addsC3
def addsL (w1 : Nat) : Lay := ⟨fun k win => addsV w1 k win ++ addsF, addsC, fun k _ => addsE k⟩
end Go.Proofs.YtejebgdikoehmaaGreatDoor
