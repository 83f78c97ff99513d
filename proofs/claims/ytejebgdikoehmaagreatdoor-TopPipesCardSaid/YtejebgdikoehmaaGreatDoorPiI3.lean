/- TopPipes: commands are done, kind 3. -/
import Derived.Test.YtejebgdikoehmaaGreatDoorPiQ
import Derived.KernelRfl
namespace Go.Proofs.YtejebgdikoehmaaGreatDoor
open Go
set_option linter.unusedVariables false
set_option maxRecDepth 100000
theorem pip_do3_0 : stepOk callB 24 [.pointer (some ⟨2, 0, none⟩), .pointer (some ⟨702, 0, none⟩)] (pdo (evP 0) 0 2 (pipB 3 0)) (pdo (evP (0 + 1)) 0 3 (pipB 3 (0 + 1))) [(7, 1790), (39, 1741), (55, 1646), (56, 1552), (57, 1362), (58, 1689), (59, 1360), (60, 1739), (705, 1840)] 1000 okA = true := by kernel_rfl
theorem pip_do3_1 : stepOk callB 24 [.pointer (some ⟨2, 0, none⟩), .pointer (some ⟨702, 0, none⟩)] (pdo (evP 1) 1 2 (pipB 3 1)) (pdo (evP (1 + 1)) 1 3 (pipB 3 (1 + 1))) [(7, 1536), (705, 1596)] 1000 okA = true := by kernel_rfl
theorem pip_do3_2 : stepOk callB 24 [.pointer (some ⟨2, 0, none⟩), .pointer (some ⟨702, 0, none⟩)] (pdo (evP 2) 2 2 (pipB 3 2)) (pdo (evP (2 + 1)) 2 3 (pipB 3 (2 + 1))) [(7, 1597), (705, 1647)] 1000 okA = true := by kernel_rfl
theorem pip_do3_3 : stepOk callB 24 [.pointer (some ⟨2, 0, none⟩), .pointer (some ⟨702, 0, none⟩)] (pdo (evP 3) 3 2 (pipB 3 3)) (pdo (evP (3 + 1)) 3 3 (pipB 3 (3 + 1))) [(7, 1536), (705, 1596)] 1000 okA = true := by kernel_rfl
theorem pip_do3_4 : stepOk callB 24 [.pointer (some ⟨2, 0, none⟩), .pointer (some ⟨702, 0, none⟩)] (pdo (evP 4) 4 2 (pipB 3 4)) (pdo (evP (4 + 1)) 4 3 (pipB 3 (4 + 1))) [(7, 1597), (705, 1647)] 1000 okA = true := by kernel_rfl
theorem pip_do3_5 : stepOk callB 24 [.pointer (some ⟨2, 0, none⟩), .pointer (some ⟨702, 0, none⟩)] (pdo (evP 5) 5 2 (pipB 3 5)) (pdo (evP (5 + 1)) 5 3 (pipB 3 (5 + 1))) [(7, 1536), (705, 1596)] 1000 okA = true := by kernel_rfl
theorem pip_do3_6 : stepOk callB 24 [.pointer (some ⟨2, 0, none⟩), .pointer (some ⟨702, 0, none⟩)] (pdo (evP 6) 6 2 (pipB 3 6)) (pdo (evP (6 + 1)) 6 3 (pipB 3 (6 + 1))) [(7, 1597), (705, 1647)] 1000 okA = true := by kernel_rfl
theorem pip_do3_7 : stepOk callB 24 [.pointer (some ⟨2, 0, none⟩), .pointer (some ⟨702, 0, none⟩)] (pdo (evP 7) 7 2 (pipB 3 7)) (pdo (evP (7 + 1)) 7 3 (pipB 3 (7 + 1))) [(7, 1536), (705, 1596)] 1000 okA = true := by kernel_rfl
theorem pip_do3_8 : stepOk callB 24 [.pointer (some ⟨2, 0, none⟩), .pointer (some ⟨702, 0, none⟩)] (pdo (evP 8) 8 2 (pipB 3 8)) (pdo (evP (8 + 1)) 8 3 (pipB 3 (8 + 1))) [(7, 1597), (705, 1647)] 1000 okA = true := by kernel_rfl
theorem pip_do3_9 : stepOk callB 24 [.pointer (some ⟨2, 0, none⟩), .pointer (some ⟨702, 0, none⟩)] (pdo (evP 9) 9 2 (pipB 3 9)) (pdo (evP (9 + 1)) 9 3 (pipB 3 (9 + 1))) [(7, 1536), (705, 1596)] 1000 okA = true := by kernel_rfl
theorem pip_do3_10 : stepOk callB 24 [.pointer (some ⟨2, 0, none⟩), .pointer (some ⟨702, 0, none⟩)] (pdo (evP 10) 10 2 (pipB 3 10)) (pdo (evP (10 + 1)) 10 3 (pipB 3 (10 + 1))) [(7, 1597), (705, 1647)] 1000 okA = true := by kernel_rfl
theorem pip_do3_11 : stepOk callB 24 [.pointer (some ⟨2, 0, none⟩), .pointer (some ⟨702, 0, none⟩)] (pdo (evP 11) 11 2 (pipB 3 11)) (pdo (evP (11 + 1)) 11 3 (pipB 3 (11 + 1))) [(7, 1536), (705, 1596)] 1000 okA = true := by kernel_rfl
theorem pip_do3_12 : stepOk callB 24 [.pointer (some ⟨2, 0, none⟩), .pointer (some ⟨702, 0, none⟩)] (pdo (evP 12) 12 2 (pipB 3 12)) (pdo (evP (12 + 1)) 12 3 (pipB 3 (12 + 1))) [(7, 1597), (705, 1647)] 1000 okA = true := by kernel_rfl
theorem pip_do3_13 : stepOk callB 24 [.pointer (some ⟨2, 0, none⟩), .pointer (some ⟨702, 0, none⟩)] (pdo (evP 13) 13 2 (pipB 3 13)) (pdo (evP (13 + 1)) 13 3 (pipB 3 (13 + 1))) [(7, 1536), (705, 1596)] 1000 okA = true := by kernel_rfl
theorem pip_do3_14 : stepOk callB 24 [.pointer (some ⟨2, 0, none⟩), .pointer (some ⟨702, 0, none⟩)] (pdo (evP 14) 14 2 (pipB 3 14)) (pdo (evP (14 + 1)) 14 3 (pipB 3 (14 + 1))) [(7, 1597), (705, 1647)] 1000 okA = true := by kernel_rfl
theorem pip_do3_15 : stepOk callB 24 [.pointer (some ⟨2, 0, none⟩), .pointer (some ⟨702, 0, none⟩)] (pdo (evP 15) 15 2 (pipB 3 15)) (pdo (evP (15 + 1)) 15 3 (pipB 3 (15 + 1))) [(7, 1536), (705, 1596)] 1000 okA = true := by kernel_rfl
theorem pip_do3_16 : stepOk callB 24 [.pointer (some ⟨2, 0, none⟩), .pointer (some ⟨702, 0, none⟩)] (pdo (evP 16) 16 2 (pipB 3 16)) (pdo (evP (16 + 1)) 16 3 (pipB 3 (16 + 1))) [(7, 1597), (705, 1647)] 1000 okA = true := by kernel_rfl
theorem pip_do3_17 : stepOk callB 24 [.pointer (some ⟨2, 0, none⟩), .pointer (some ⟨702, 0, none⟩)] (pdo (evP 17) 17 2 (pipB 3 17)) (pdo (evP (17 + 1)) 17 3 (pipB 3 (17 + 1))) [(7, 1536), (705, 1596)] 1000 okA = true := by kernel_rfl
theorem pip_do3_18 : stepOk callB 24 [.pointer (some ⟨2, 0, none⟩), .pointer (some ⟨702, 0, none⟩)] (pdo (evP 18) 18 2 (pipB 3 18)) (pdo (evP (18 + 1)) 18 3 (pipB 3 (18 + 1))) [(7, 1597), (705, 1647)] 1000 okA = true := by kernel_rfl
theorem pip_do3_19 : stepOk callB 24 [.pointer (some ⟨2, 0, none⟩), .pointer (some ⟨702, 0, none⟩)] (pdo (evP 19) 19 2 (pipB 3 19)) (pdo (evP (19 + 1)) 19 3 (pipB 3 (19 + 1))) [(7, 1536), (705, 1596)] 1000 okA = true := by kernel_rfl
theorem pip_do3_20 : stepOk callB 24 [.pointer (some ⟨2, 0, none⟩), .pointer (some ⟨702, 0, none⟩)] (pdo (evP 20) 20 2 (pipB 3 20)) (pdo (evP (20 + 1)) 20 3 (pipB 3 (20 + 1))) [(7, 1597), (705, 1647)] 1000 okA = true := by kernel_rfl
theorem pip_do3_21 : stepOk callB 24 [.pointer (some ⟨2, 0, none⟩), .pointer (some ⟨702, 0, none⟩)] (pdo (evP 21) 21 2 (pipB 3 21)) (pdo (evP (21 + 1)) 21 3 (pipB 3 (21 + 1))) [(7, 1536), (705, 1596)] 1000 okA = true := by kernel_rfl
theorem pip_do3_22 : stepOk callB 24 [.pointer (some ⟨2, 0, none⟩), .pointer (some ⟨702, 0, none⟩)] (pdo (evP 22) 22 2 (pipB 3 22)) (pdo (evP (22 + 1)) 22 3 (pipB 3 (22 + 1))) [(7, 1597), (705, 1647)] 1000 okA = true := by kernel_rfl
theorem pip_do3_23 : stepOk callB 24 [.pointer (some ⟨2, 0, none⟩), .pointer (some ⟨702, 0, none⟩)] (pdo (evP 23) 23 2 (pipB 3 23)) (pdo (evP (23 + 1)) 23 3 (pipB 3 (23 + 1))) [(7, 1536), (705, 1596)] 1000 okA = true := by kernel_rfl
theorem pip_do3_24 : stepOk callB 24 [.pointer (some ⟨2, 0, none⟩), .pointer (some ⟨702, 0, none⟩)] (pdo (evP 24) 24 2 (pipB 3 24)) (pdo (evP (24 + 1)) 24 3 (pipB 3 (24 + 1))) [(7, 1597), (705, 1647)] 1000 okA = true := by kernel_rfl
theorem pip_do3_25 : stepOk callB 24 [.pointer (some ⟨2, 0, none⟩), .pointer (some ⟨702, 0, none⟩)] (pdo (evP 25) 25 2 (pipB 3 25)) (pdo (evP (25 + 1)) 25 3 (pipB 3 (25 + 1))) [(7, 1536), (705, 1596)] 1000 okA = true := by kernel_rfl
theorem pip_do3_26 : stepOk callB 24 [.pointer (some ⟨2, 0, none⟩), .pointer (some ⟨702, 0, none⟩)] (pdo (evP 26) 26 2 (pipB 3 26)) (pdo (evP (26 + 1)) 26 3 (pipB 3 (26 + 1))) [(7, 1597), (705, 1647)] 1000 okA = true := by kernel_rfl
theorem pip_do3_27 : stepOk callB 24 [.pointer (some ⟨2, 0, none⟩), .pointer (some ⟨702, 0, none⟩)] (pdo (evP 27) 27 2 (pipB 3 27)) (pdo (evP (27 + 1)) 27 3 (pipB 3 (27 + 1))) [(7, 1536), (705, 1596)] 1000 okA = true := by kernel_rfl
theorem pip_do3_28 : stepOk callB 24 [.pointer (some ⟨2, 0, none⟩), .pointer (some ⟨702, 0, none⟩)] (pdo (evP 28) 28 2 (pipB 3 28)) (pdo (evP (28 + 1)) 28 3 (pipB 3 (28 + 1))) [(7, 1597), (705, 1647)] 1000 okA = true := by kernel_rfl
theorem pip_do3_29 : stepOk callB 24 [.pointer (some ⟨2, 0, none⟩), .pointer (some ⟨702, 0, none⟩)] (pdo (evP 29) 29 2 (pipB 3 29)) (pdo (evP (29 + 1)) 29 3 (pipB 3 (29 + 1))) [(7, 1536), (705, 1596)] 1000 okA = true := by kernel_rfl
theorem pip_dos3 : ∀ j, j < 30 → ∃ l, (l.all fun p => inB p.1 || Nat.beq p.1 705) = true ∧ stepOk callB 24 [.pointer (some ⟨2, 0, none⟩), .pointer (some ⟨702, 0, none⟩)] (pdo (evP j) j 2 (pipB 3 j)) (pdo (evP (j + 1)) j 3 (pipB 3 (j + 1))) l 1000 okA = true := by
  intro j hj
  rcases (show j = 0 ∨ j = 1 ∨ j = 2 ∨ j = 3 ∨ j = 4 ∨ j = 5 ∨ j = 6 ∨ j = 7 ∨ j = 8 ∨ j = 9 ∨ j = 10 ∨ j = 11 ∨ j = 12 ∨ j = 13 ∨ j = 14 ∨ j = 15 ∨ j = 16 ∨ j = 17 ∨ j = 18 ∨ j = 19 ∨ j = 20 ∨ j = 21 ∨ j = 22 ∨ j = 23 ∨ j = 24 ∨ j = 25 ∨ j = 26 ∨ j = 27 ∨ j = 28 ∨ j = 29 by omega) with rfl | rfl | rfl | rfl | rfl | rfl | rfl | rfl | rfl | rfl | rfl | rfl | rfl | rfl | rfl | rfl | rfl | rfl | rfl | rfl | rfl | rfl | rfl | rfl | rfl | rfl | rfl | rfl | rfl | rfl
  · exact ⟨[(7, 1790), (39, 1741), (55, 1646), (56, 1552), (57, 1362), (58, 1689), (59, 1360), (60, 1739), (705, 1840)], by decide, pip_do3_0⟩
  · exact ⟨[(7, 1536), (705, 1596)], by decide, pip_do3_1⟩
  · exact ⟨[(7, 1597), (705, 1647)], by decide, pip_do3_2⟩
  · exact ⟨[(7, 1536), (705, 1596)], by decide, pip_do3_3⟩
  · exact ⟨[(7, 1597), (705, 1647)], by decide, pip_do3_4⟩
  · exact ⟨[(7, 1536), (705, 1596)], by decide, pip_do3_5⟩
  · exact ⟨[(7, 1597), (705, 1647)], by decide, pip_do3_6⟩
  · exact ⟨[(7, 1536), (705, 1596)], by decide, pip_do3_7⟩
  · exact ⟨[(7, 1597), (705, 1647)], by decide, pip_do3_8⟩
  · exact ⟨[(7, 1536), (705, 1596)], by decide, pip_do3_9⟩
  · exact ⟨[(7, 1597), (705, 1647)], by decide, pip_do3_10⟩
  · exact ⟨[(7, 1536), (705, 1596)], by decide, pip_do3_11⟩
  · exact ⟨[(7, 1597), (705, 1647)], by decide, pip_do3_12⟩
  · exact ⟨[(7, 1536), (705, 1596)], by decide, pip_do3_13⟩
  · exact ⟨[(7, 1597), (705, 1647)], by decide, pip_do3_14⟩
  · exact ⟨[(7, 1536), (705, 1596)], by decide, pip_do3_15⟩
  · exact ⟨[(7, 1597), (705, 1647)], by decide, pip_do3_16⟩
  · exact ⟨[(7, 1536), (705, 1596)], by decide, pip_do3_17⟩
  · exact ⟨[(7, 1597), (705, 1647)], by decide, pip_do3_18⟩
  · exact ⟨[(7, 1536), (705, 1596)], by decide, pip_do3_19⟩
  · exact ⟨[(7, 1597), (705, 1647)], by decide, pip_do3_20⟩
  · exact ⟨[(7, 1536), (705, 1596)], by decide, pip_do3_21⟩
  · exact ⟨[(7, 1597), (705, 1647)], by decide, pip_do3_22⟩
  · exact ⟨[(7, 1536), (705, 1596)], by decide, pip_do3_23⟩
  · exact ⟨[(7, 1597), (705, 1647)], by decide, pip_do3_24⟩
  · exact ⟨[(7, 1536), (705, 1596)], by decide, pip_do3_25⟩
  · exact ⟨[(7, 1597), (705, 1647)], by decide, pip_do3_26⟩
  · exact ⟨[(7, 1536), (705, 1596)], by decide, pip_do3_27⟩
  · exact ⟨[(7, 1597), (705, 1647)], by decide, pip_do3_28⟩
  · exact ⟨[(7, 1536), (705, 1596)], by decide, pip_do3_29⟩
end Go.Proofs.YtejebgdikoehmaaGreatDoor
