/- TopPipes: commands are done, kind 2. -/
import Derived.Test.YtejebgdikoehmaaGreatDoorPiQ
import Derived.KernelRfl
namespace Go.Proofs.YtejebgdikoehmaaGreatDoor
open Go
set_option linter.unusedVariables false
set_option maxRecDepth 100000
theorem pip_do2_0 : stepOk callB 24 [.pointer (some ⟨2, 0, none⟩), .pointer (some ⟨702, 0, none⟩)] (pdo (evP 0) 0 2 (pipB 2 0)) (pdo (evP (0 + 1)) 0 3 (pipB 2 (0 + 1))) [(7, 1793), (43, 1744), (63, 1650), (64, 1552), (65, 1362), (66, 1693), (67, 1360), (705, 1843)] 1000 okA = true := by kernel_rfl
theorem pip_do2_1 : stepOk callB 24 [.pointer (some ⟨2, 0, none⟩), .pointer (some ⟨702, 0, none⟩)] (pdo (evP 1) 1 2 (pipB 2 1)) (pdo (evP (1 + 1)) 1 3 (pipB 2 (1 + 1))) [(7, 1610), (68, 1530), (705, 1670)] 1000 okA = true := by kernel_rfl
theorem pip_do2_2 : stepOk callB 24 [.pointer (some ⟨2, 0, none⟩), .pointer (some ⟨702, 0, none⟩)] (pdo (evP 2) 2 2 (pipB 2 2)) (pdo (evP (2 + 1)) 2 3 (pipB 2 (2 + 1))) [(7, 1670), (705, 1720)] 1000 okA = true := by kernel_rfl
theorem pip_do2_3 : stepOk callB 24 [.pointer (some ⟨2, 0, none⟩), .pointer (some ⟨702, 0, none⟩)] (pdo (evP 3) 3 2 (pipB 2 3)) (pdo (evP (3 + 1)) 3 3 (pipB 2 (3 + 1))) [(7, 1609), (705, 1669)] 1000 okA = true := by kernel_rfl
theorem pip_do2_4 : stepOk callB 24 [.pointer (some ⟨2, 0, none⟩), .pointer (some ⟨702, 0, none⟩)] (pdo (evP 4) 4 2 (pipB 2 4)) (pdo (evP (4 + 1)) 4 3 (pipB 2 (4 + 1))) [(7, 1670), (705, 1720)] 1000 okA = true := by kernel_rfl
theorem pip_do2_5 : stepOk callB 24 [.pointer (some ⟨2, 0, none⟩), .pointer (some ⟨702, 0, none⟩)] (pdo (evP 5) 5 2 (pipB 2 5)) (pdo (evP (5 + 1)) 5 3 (pipB 2 (5 + 1))) [(7, 1609), (705, 1669)] 1000 okA = true := by kernel_rfl
theorem pip_do2_6 : stepOk callB 24 [.pointer (some ⟨2, 0, none⟩), .pointer (some ⟨702, 0, none⟩)] (pdo (evP 6) 6 2 (pipB 2 6)) (pdo (evP (6 + 1)) 6 3 (pipB 2 (6 + 1))) [(7, 1670), (705, 1720)] 1000 okA = true := by kernel_rfl
theorem pip_do2_7 : stepOk callB 24 [.pointer (some ⟨2, 0, none⟩), .pointer (some ⟨702, 0, none⟩)] (pdo (evP 7) 7 2 (pipB 2 7)) (pdo (evP (7 + 1)) 7 3 (pipB 2 (7 + 1))) [(7, 1609), (705, 1669)] 1000 okA = true := by kernel_rfl
theorem pip_do2_8 : stepOk callB 24 [.pointer (some ⟨2, 0, none⟩), .pointer (some ⟨702, 0, none⟩)] (pdo (evP 8) 8 2 (pipB 2 8)) (pdo (evP (8 + 1)) 8 3 (pipB 2 (8 + 1))) [(7, 1670), (705, 1720)] 1000 okA = true := by kernel_rfl
theorem pip_do2_9 : stepOk callB 24 [.pointer (some ⟨2, 0, none⟩), .pointer (some ⟨702, 0, none⟩)] (pdo (evP 9) 9 2 (pipB 2 9)) (pdo (evP (9 + 1)) 9 3 (pipB 2 (9 + 1))) [(7, 1609), (705, 1669)] 1000 okA = true := by kernel_rfl
theorem pip_do2_10 : stepOk callB 24 [.pointer (some ⟨2, 0, none⟩), .pointer (some ⟨702, 0, none⟩)] (pdo (evP 10) 10 2 (pipB 2 10)) (pdo (evP (10 + 1)) 10 3 (pipB 2 (10 + 1))) [(7, 1670), (705, 1720)] 1000 okA = true := by kernel_rfl
theorem pip_do2_11 : stepOk callB 24 [.pointer (some ⟨2, 0, none⟩), .pointer (some ⟨702, 0, none⟩)] (pdo (evP 11) 11 2 (pipB 2 11)) (pdo (evP (11 + 1)) 11 3 (pipB 2 (11 + 1))) [(7, 1609), (705, 1669)] 1000 okA = true := by kernel_rfl
theorem pip_do2_12 : stepOk callB 24 [.pointer (some ⟨2, 0, none⟩), .pointer (some ⟨702, 0, none⟩)] (pdo (evP 12) 12 2 (pipB 2 12)) (pdo (evP (12 + 1)) 12 3 (pipB 2 (12 + 1))) [(7, 1670), (705, 1720)] 1000 okA = true := by kernel_rfl
theorem pip_do2_13 : stepOk callB 24 [.pointer (some ⟨2, 0, none⟩), .pointer (some ⟨702, 0, none⟩)] (pdo (evP 13) 13 2 (pipB 2 13)) (pdo (evP (13 + 1)) 13 3 (pipB 2 (13 + 1))) [(7, 1609), (705, 1669)] 1000 okA = true := by kernel_rfl
theorem pip_do2_14 : stepOk callB 24 [.pointer (some ⟨2, 0, none⟩), .pointer (some ⟨702, 0, none⟩)] (pdo (evP 14) 14 2 (pipB 2 14)) (pdo (evP (14 + 1)) 14 3 (pipB 2 (14 + 1))) [(7, 1670), (705, 1720)] 1000 okA = true := by kernel_rfl
theorem pip_do2_15 : stepOk callB 24 [.pointer (some ⟨2, 0, none⟩), .pointer (some ⟨702, 0, none⟩)] (pdo (evP 15) 15 2 (pipB 2 15)) (pdo (evP (15 + 1)) 15 3 (pipB 2 (15 + 1))) [(7, 1609), (705, 1669)] 1000 okA = true := by kernel_rfl
theorem pip_do2_16 : stepOk callB 24 [.pointer (some ⟨2, 0, none⟩), .pointer (some ⟨702, 0, none⟩)] (pdo (evP 16) 16 2 (pipB 2 16)) (pdo (evP (16 + 1)) 16 3 (pipB 2 (16 + 1))) [(7, 1670), (705, 1720)] 1000 okA = true := by kernel_rfl
theorem pip_do2_17 : stepOk callB 24 [.pointer (some ⟨2, 0, none⟩), .pointer (some ⟨702, 0, none⟩)] (pdo (evP 17) 17 2 (pipB 2 17)) (pdo (evP (17 + 1)) 17 3 (pipB 2 (17 + 1))) [(7, 1609), (705, 1669)] 1000 okA = true := by kernel_rfl
theorem pip_do2_18 : stepOk callB 24 [.pointer (some ⟨2, 0, none⟩), .pointer (some ⟨702, 0, none⟩)] (pdo (evP 18) 18 2 (pipB 2 18)) (pdo (evP (18 + 1)) 18 3 (pipB 2 (18 + 1))) [(7, 1670), (705, 1720)] 1000 okA = true := by kernel_rfl
theorem pip_do2_19 : stepOk callB 24 [.pointer (some ⟨2, 0, none⟩), .pointer (some ⟨702, 0, none⟩)] (pdo (evP 19) 19 2 (pipB 2 19)) (pdo (evP (19 + 1)) 19 3 (pipB 2 (19 + 1))) [(7, 1609), (705, 1669)] 1000 okA = true := by kernel_rfl
theorem pip_do2_20 : stepOk callB 24 [.pointer (some ⟨2, 0, none⟩), .pointer (some ⟨702, 0, none⟩)] (pdo (evP 20) 20 2 (pipB 2 20)) (pdo (evP (20 + 1)) 20 3 (pipB 2 (20 + 1))) [(7, 1670), (705, 1720)] 1000 okA = true := by kernel_rfl
theorem pip_do2_21 : stepOk callB 24 [.pointer (some ⟨2, 0, none⟩), .pointer (some ⟨702, 0, none⟩)] (pdo (evP 21) 21 2 (pipB 2 21)) (pdo (evP (21 + 1)) 21 3 (pipB 2 (21 + 1))) [(7, 1609), (705, 1669)] 1000 okA = true := by kernel_rfl
theorem pip_do2_22 : stepOk callB 24 [.pointer (some ⟨2, 0, none⟩), .pointer (some ⟨702, 0, none⟩)] (pdo (evP 22) 22 2 (pipB 2 22)) (pdo (evP (22 + 1)) 22 3 (pipB 2 (22 + 1))) [(7, 1670), (705, 1720)] 1000 okA = true := by kernel_rfl
theorem pip_do2_23 : stepOk callB 24 [.pointer (some ⟨2, 0, none⟩), .pointer (some ⟨702, 0, none⟩)] (pdo (evP 23) 23 2 (pipB 2 23)) (pdo (evP (23 + 1)) 23 3 (pipB 2 (23 + 1))) [(7, 1609), (705, 1669)] 1000 okA = true := by kernel_rfl
theorem pip_do2_24 : stepOk callB 24 [.pointer (some ⟨2, 0, none⟩), .pointer (some ⟨702, 0, none⟩)] (pdo (evP 24) 24 2 (pipB 2 24)) (pdo (evP (24 + 1)) 24 3 (pipB 2 (24 + 1))) [(7, 1670), (705, 1720)] 1000 okA = true := by kernel_rfl
theorem pip_do2_25 : stepOk callB 24 [.pointer (some ⟨2, 0, none⟩), .pointer (some ⟨702, 0, none⟩)] (pdo (evP 25) 25 2 (pipB 2 25)) (pdo (evP (25 + 1)) 25 3 (pipB 2 (25 + 1))) [(7, 1609), (705, 1669)] 1000 okA = true := by kernel_rfl
theorem pip_do2_26 : stepOk callB 24 [.pointer (some ⟨2, 0, none⟩), .pointer (some ⟨702, 0, none⟩)] (pdo (evP 26) 26 2 (pipB 2 26)) (pdo (evP (26 + 1)) 26 3 (pipB 2 (26 + 1))) [(7, 1670), (705, 1720)] 1000 okA = true := by kernel_rfl
theorem pip_do2_27 : stepOk callB 24 [.pointer (some ⟨2, 0, none⟩), .pointer (some ⟨702, 0, none⟩)] (pdo (evP 27) 27 2 (pipB 2 27)) (pdo (evP (27 + 1)) 27 3 (pipB 2 (27 + 1))) [(7, 1609), (705, 1669)] 1000 okA = true := by kernel_rfl
theorem pip_do2_28 : stepOk callB 24 [.pointer (some ⟨2, 0, none⟩), .pointer (some ⟨702, 0, none⟩)] (pdo (evP 28) 28 2 (pipB 2 28)) (pdo (evP (28 + 1)) 28 3 (pipB 2 (28 + 1))) [(7, 1670), (705, 1720)] 1000 okA = true := by kernel_rfl
theorem pip_do2_29 : stepOk callB 24 [.pointer (some ⟨2, 0, none⟩), .pointer (some ⟨702, 0, none⟩)] (pdo (evP 29) 29 2 (pipB 2 29)) (pdo (evP (29 + 1)) 29 3 (pipB 2 (29 + 1))) [(7, 1609), (705, 1669)] 1000 okA = true := by kernel_rfl
theorem pip_dos2 : ∀ j, j < 30 → ∃ l, (l.all fun p => inB p.1 || Nat.beq p.1 705) = true ∧ stepOk callB 24 [.pointer (some ⟨2, 0, none⟩), .pointer (some ⟨702, 0, none⟩)] (pdo (evP j) j 2 (pipB 2 j)) (pdo (evP (j + 1)) j 3 (pipB 2 (j + 1))) l 1000 okA = true := by
  intro j hj
  rcases (show j = 0 ∨ j = 1 ∨ j = 2 ∨ j = 3 ∨ j = 4 ∨ j = 5 ∨ j = 6 ∨ j = 7 ∨ j = 8 ∨ j = 9 ∨ j = 10 ∨ j = 11 ∨ j = 12 ∨ j = 13 ∨ j = 14 ∨ j = 15 ∨ j = 16 ∨ j = 17 ∨ j = 18 ∨ j = 19 ∨ j = 20 ∨ j = 21 ∨ j = 22 ∨ j = 23 ∨ j = 24 ∨ j = 25 ∨ j = 26 ∨ j = 27 ∨ j = 28 ∨ j = 29 by omega) with rfl | rfl | rfl | rfl | rfl | rfl | rfl | rfl | rfl | rfl | rfl | rfl | rfl | rfl | rfl | rfl | rfl | rfl | rfl | rfl | rfl | rfl | rfl | rfl | rfl | rfl | rfl | rfl | rfl | rfl
  · exact ⟨[(7, 1793), (43, 1744), (63, 1650), (64, 1552), (65, 1362), (66, 1693), (67, 1360), (705, 1843)], by decide, pip_do2_0⟩
  · exact ⟨[(7, 1610), (68, 1530), (705, 1670)], by decide, pip_do2_1⟩
  · exact ⟨[(7, 1670), (705, 1720)], by decide, pip_do2_2⟩
  · exact ⟨[(7, 1609), (705, 1669)], by decide, pip_do2_3⟩
  · exact ⟨[(7, 1670), (705, 1720)], by decide, pip_do2_4⟩
  · exact ⟨[(7, 1609), (705, 1669)], by decide, pip_do2_5⟩
  · exact ⟨[(7, 1670), (705, 1720)], by decide, pip_do2_6⟩
  · exact ⟨[(7, 1609), (705, 1669)], by decide, pip_do2_7⟩
  · exact ⟨[(7, 1670), (705, 1720)], by decide, pip_do2_8⟩
  · exact ⟨[(7, 1609), (705, 1669)], by decide, pip_do2_9⟩
  · exact ⟨[(7, 1670), (705, 1720)], by decide, pip_do2_10⟩
  · exact ⟨[(7, 1609), (705, 1669)], by decide, pip_do2_11⟩
  · exact ⟨[(7, 1670), (705, 1720)], by decide, pip_do2_12⟩
  · exact ⟨[(7, 1609), (705, 1669)], by decide, pip_do2_13⟩
  · exact ⟨[(7, 1670), (705, 1720)], by decide, pip_do2_14⟩
  · exact ⟨[(7, 1609), (705, 1669)], by decide, pip_do2_15⟩
  · exact ⟨[(7, 1670), (705, 1720)], by decide, pip_do2_16⟩
  · exact ⟨[(7, 1609), (705, 1669)], by decide, pip_do2_17⟩
  · exact ⟨[(7, 1670), (705, 1720)], by decide, pip_do2_18⟩
  · exact ⟨[(7, 1609), (705, 1669)], by decide, pip_do2_19⟩
  · exact ⟨[(7, 1670), (705, 1720)], by decide, pip_do2_20⟩
  · exact ⟨[(7, 1609), (705, 1669)], by decide, pip_do2_21⟩
  · exact ⟨[(7, 1670), (705, 1720)], by decide, pip_do2_22⟩
  · exact ⟨[(7, 1609), (705, 1669)], by decide, pip_do2_23⟩
  · exact ⟨[(7, 1670), (705, 1720)], by decide, pip_do2_24⟩
  · exact ⟨[(7, 1609), (705, 1669)], by decide, pip_do2_25⟩
  · exact ⟨[(7, 1670), (705, 1720)], by decide, pip_do2_26⟩
  · exact ⟨[(7, 1609), (705, 1669)], by decide, pip_do2_27⟩
  · exact ⟨[(7, 1670), (705, 1720)], by decide, pip_do2_28⟩
  · exact ⟨[(7, 1609), (705, 1669)], by decide, pip_do2_29⟩
end Go.Proofs.YtejebgdikoehmaaGreatDoor
