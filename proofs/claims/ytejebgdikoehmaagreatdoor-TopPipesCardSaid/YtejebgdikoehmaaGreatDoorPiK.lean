/- TopPipes: what the law asks of the runs. -/
import Derived.Test.YtejebgdikoehmaaGreatDoorPiB
import Derived.Test.YtejebgdikoehmaaGreatDoorPiC
import Derived.Test.YtejebgdikoehmaaGreatDoorPiD
import Derived.Test.YtejebgdikoehmaaGreatDoorPiE
import Derived.Test.YtejebgdikoehmaaGreatDoorPiF
import Derived.Test.YtejebgdikoehmaaGreatDoorPiG
import Derived.Test.YtejebgdikoehmaaGreatDoorPiI0
import Derived.Test.YtejebgdikoehmaaGreatDoorPiI1
import Derived.Test.YtejebgdikoehmaaGreatDoorPiI2
import Derived.Test.YtejebgdikoehmaaGreatDoorPiI3
import Derived.KernelRfl
namespace Go.Proofs.YtejebgdikoehmaaGreatDoor
open Go
set_option linter.unusedVariables false
set_option maxRecDepth 100000
theorem mem_upto : ∀ {m j : Nat}, j < m → j ∈ List.range m := fun h => List.mem_range.2 h
theorem pip_runs : RunsP where
  wf kind hk d hd := by
    have hm : d ∈ [0, 1, 2, 3, 4, 5, 6, 7, 8, 9, 10, 11, 12, 13, 14, 15, 16, 17, 18, 19, 20, 21, 22, 23, 24, 25, 26, 27, 28, 29, 30] := by
      rcases (show d = 0 ∨ d = 1 ∨ d = 2 ∨ d = 3 ∨ d = 4 ∨ d = 5 ∨ d = 6 ∨ d = 7 ∨ d = 8 ∨ d = 9 ∨ d = 10 ∨ d = 11 ∨ d = 12 ∨ d = 13 ∨ d = 14 ∨ d = 15 ∨ d = 16 ∨ d = 17 ∨ d = 18 ∨ d = 19 ∨ d = 20 ∨ d = 21 ∨ d = 22 ∨ d = 23 ∨ d = 24 ∨ d = 25 ∨ d = 26 ∨ d = 27 ∨ d = 28 ∨ d = 29 ∨ d = 30 by omega) with rfl | rfl | rfl | rfl | rfl | rfl | rfl | rfl | rfl | rfl | rfl | rfl | rfl | rfl | rfl | rfl | rfl | rfl | rfl | rfl | rfl | rfl | rfl | rfl | rfl | rfl | rfl | rfl | rfl | rfl | rfl <;> simp
    rcases four hk with rfl | rfl | rfl | rfl
    · exact all_mem pip_wf0 hm
    · exact all_mem pip_wf1 hm
    · exact all_mem pip_wf2 hm
    · exact all_mem pip_wf3 hm
  take n hn j hj w hw := by
    rcases (show n = 0 ∨ n = 1 ∨ n = 2 ∨ n = 3 ∨ n = 4 ∨ n = 5 ∨ n = 6 ∨ n = 7 ∨ n = 8 ∨ n = 9 ∨ n = 10 ∨ n = 11 ∨ n = 12 ∨ n = 13 ∨ n = 14 ∨ n = 15 by omega) with rfl | rfl | rfl | rfl | rfl | rfl | rfl | rfl | rfl | rfl | rfl | rfl | rfl | rfl | rfl | rfl <;> rcases four hw with rfl | rfl | rfl | rfl
    · omega
    · omega
    · omega
    · omega
    · exact all_mem pip_take1_0 (by simpa [List.range, List.range.loop] using mem_upto hj)
    · exact all_mem pip_take1_1 (by simpa [List.range, List.range.loop] using mem_upto hj)
    · exact all_mem pip_take1_2 (by simpa [List.range, List.range.loop] using mem_upto hj)
    · exact all_mem pip_take1_3 (by simpa [List.range, List.range.loop] using mem_upto hj)
    · exact all_mem pip_take2_0 (by simpa [List.range, List.range.loop] using mem_upto hj)
    · exact all_mem pip_take2_1 (by simpa [List.range, List.range.loop] using mem_upto hj)
    · exact all_mem pip_take2_2 (by simpa [List.range, List.range.loop] using mem_upto hj)
    · exact all_mem pip_take2_3 (by simpa [List.range, List.range.loop] using mem_upto hj)
    · exact all_mem pip_take3_0 (by simpa [List.range, List.range.loop] using mem_upto hj)
    · exact all_mem pip_take3_1 (by simpa [List.range, List.range.loop] using mem_upto hj)
    · exact all_mem pip_take3_2 (by simpa [List.range, List.range.loop] using mem_upto hj)
    · exact all_mem pip_take3_3 (by simpa [List.range, List.range.loop] using mem_upto hj)
    · exact all_mem pip_take4_0 (by simpa [List.range, List.range.loop] using mem_upto hj)
    · exact all_mem pip_take4_1 (by simpa [List.range, List.range.loop] using mem_upto hj)
    · exact all_mem pip_take4_2 (by simpa [List.range, List.range.loop] using mem_upto hj)
    · exact all_mem pip_take4_3 (by simpa [List.range, List.range.loop] using mem_upto hj)
    · exact all_mem pip_take5_0 (by simpa [List.range, List.range.loop] using mem_upto hj)
    · exact all_mem pip_take5_1 (by simpa [List.range, List.range.loop] using mem_upto hj)
    · exact all_mem pip_take5_2 (by simpa [List.range, List.range.loop] using mem_upto hj)
    · exact all_mem pip_take5_3 (by simpa [List.range, List.range.loop] using mem_upto hj)
    · exact all_mem pip_take6_0 (by simpa [List.range, List.range.loop] using mem_upto hj)
    · exact all_mem pip_take6_1 (by simpa [List.range, List.range.loop] using mem_upto hj)
    · exact all_mem pip_take6_2 (by simpa [List.range, List.range.loop] using mem_upto hj)
    · exact all_mem pip_take6_3 (by simpa [List.range, List.range.loop] using mem_upto hj)
    · exact all_mem pip_take7_0 (by simpa [List.range, List.range.loop] using mem_upto hj)
    · exact all_mem pip_take7_1 (by simpa [List.range, List.range.loop] using mem_upto hj)
    · exact all_mem pip_take7_2 (by simpa [List.range, List.range.loop] using mem_upto hj)
    · exact all_mem pip_take7_3 (by simpa [List.range, List.range.loop] using mem_upto hj)
    · exact all_mem pip_take8_0 (by simpa [List.range, List.range.loop] using mem_upto hj)
    · exact all_mem pip_take8_1 (by simpa [List.range, List.range.loop] using mem_upto hj)
    · exact all_mem pip_take8_2 (by simpa [List.range, List.range.loop] using mem_upto hj)
    · exact all_mem pip_take8_3 (by simpa [List.range, List.range.loop] using mem_upto hj)
    · exact all_mem pip_take9_0 (by simpa [List.range, List.range.loop] using mem_upto hj)
    · exact all_mem pip_take9_1 (by simpa [List.range, List.range.loop] using mem_upto hj)
    · exact all_mem pip_take9_2 (by simpa [List.range, List.range.loop] using mem_upto hj)
    · exact all_mem pip_take9_3 (by simpa [List.range, List.range.loop] using mem_upto hj)
    · exact all_mem pip_take10_0 (by simpa [List.range, List.range.loop] using mem_upto hj)
    · exact all_mem pip_take10_1 (by simpa [List.range, List.range.loop] using mem_upto hj)
    · exact all_mem pip_take10_2 (by simpa [List.range, List.range.loop] using mem_upto hj)
    · exact all_mem pip_take10_3 (by simpa [List.range, List.range.loop] using mem_upto hj)
    · exact all_mem pip_take11_0 (by simpa [List.range, List.range.loop] using mem_upto hj)
    · exact all_mem pip_take11_1 (by simpa [List.range, List.range.loop] using mem_upto hj)
    · exact all_mem pip_take11_2 (by simpa [List.range, List.range.loop] using mem_upto hj)
    · exact all_mem pip_take11_3 (by simpa [List.range, List.range.loop] using mem_upto hj)
    · exact all_mem pip_take12_0 (by simpa [List.range, List.range.loop] using mem_upto hj)
    · exact all_mem pip_take12_1 (by simpa [List.range, List.range.loop] using mem_upto hj)
    · exact all_mem pip_take12_2 (by simpa [List.range, List.range.loop] using mem_upto hj)
    · exact all_mem pip_take12_3 (by simpa [List.range, List.range.loop] using mem_upto hj)
    · exact all_mem pip_take13_0 (by simpa [List.range, List.range.loop] using mem_upto hj)
    · exact all_mem pip_take13_1 (by simpa [List.range, List.range.loop] using mem_upto hj)
    · exact all_mem pip_take13_2 (by simpa [List.range, List.range.loop] using mem_upto hj)
    · exact all_mem pip_take13_3 (by simpa [List.range, List.range.loop] using mem_upto hj)
    · exact all_mem pip_take14_0 (by simpa [List.range, List.range.loop] using mem_upto hj)
    · exact all_mem pip_take14_1 (by simpa [List.range, List.range.loop] using mem_upto hj)
    · exact all_mem pip_take14_2 (by simpa [List.range, List.range.loop] using mem_upto hj)
    · exact all_mem pip_take14_3 (by simpa [List.range, List.range.loop] using mem_upto hj)
    · exact all_mem pip_take15_0 (by simpa [List.range, List.range.loop] using mem_upto hj)
    · exact all_mem pip_take15_1 (by simpa [List.range, List.range.loop] using mem_upto hj)
    · exact all_mem pip_take15_2 (by simpa [List.range, List.range.loop] using mem_upto hj)
    · exact all_mem pip_take15_3 (by simpa [List.range, List.range.loop] using mem_upto hj)
  idle n hn w hw := by
    rcases (show n = 0 ∨ n = 1 ∨ n = 2 ∨ n = 3 ∨ n = 4 ∨ n = 5 ∨ n = 6 ∨ n = 7 ∨ n = 8 ∨ n = 9 ∨ n = 10 ∨ n = 11 ∨ n = 12 ∨ n = 13 ∨ n = 14 ∨ n = 15 by omega) with rfl | rfl | rfl | rfl | rfl | rfl | rfl | rfl | rfl | rfl | rfl | rfl | rfl | rfl | rfl | rfl
    · exact r4_all pip_idle0 w hw
    · exact r4_all pip_idle1 w hw
    · exact r4_all pip_idle2 w hw
    · exact r4_all pip_idle3 w hw
    · exact r4_all pip_idle4 w hw
    · exact r4_all pip_idle5 w hw
    · exact r4_all pip_idle6 w hw
    · exact r4_all pip_idle7 w hw
    · exact r4_all pip_idle8 w hw
    · exact r4_all pip_idle9 w hw
    · exact r4_all pip_idle10 w hw
    · exact r4_all pip_idle11 w hw
    · exact r4_all pip_idle12 w hw
    · exact r4_all pip_idle13 w hw
    · exact r4_all pip_idle14 w hw
    · exact r4_all pip_idle15 w hw
  busy j hj st h0 h3 who hwho w hw hne := by
    rcases (show st = 1 ∨ st = 2 ∨ st = 3 by omega) with rfl | rfl | rfl <;> rcases four hwho with rfl | rfl | rfl | rfl <;> rcases four hw with rfl | rfl | rfl | rfl
    · exact (hne rfl).elim
    · exact r30_all pip_busy1_0_1 j hj
    · exact r30_all pip_busy1_0_2 j hj
    · exact r30_all pip_busy1_0_3 j hj
    · exact r30_all pip_busy1_1_0 j hj
    · exact (hne rfl).elim
    · exact r30_all pip_busy1_1_2 j hj
    · exact r30_all pip_busy1_1_3 j hj
    · exact r30_all pip_busy1_2_0 j hj
    · exact r30_all pip_busy1_2_1 j hj
    · exact (hne rfl).elim
    · exact r30_all pip_busy1_2_3 j hj
    · exact r30_all pip_busy1_3_0 j hj
    · exact r30_all pip_busy1_3_1 j hj
    · exact r30_all pip_busy1_3_2 j hj
    · exact (hne rfl).elim
    · exact (hne rfl).elim
    · exact r30_all pip_busy2_0_1 j hj
    · exact r30_all pip_busy2_0_2 j hj
    · exact r30_all pip_busy2_0_3 j hj
    · exact r30_all pip_busy2_1_0 j hj
    · exact (hne rfl).elim
    · exact r30_all pip_busy2_1_2 j hj
    · exact r30_all pip_busy2_1_3 j hj
    · exact r30_all pip_busy2_2_0 j hj
    · exact r30_all pip_busy2_2_1 j hj
    · exact (hne rfl).elim
    · exact r30_all pip_busy2_2_3 j hj
    · exact r30_all pip_busy2_3_0 j hj
    · exact r30_all pip_busy2_3_1 j hj
    · exact r30_all pip_busy2_3_2 j hj
    · exact (hne rfl).elim
    · exact (hne rfl).elim
    · exact r30_all pip_busy3_0_1 j hj
    · exact r30_all pip_busy3_0_2 j hj
    · exact r30_all pip_busy3_0_3 j hj
    · exact r30_all pip_busy3_1_0 j hj
    · exact (hne rfl).elim
    · exact r30_all pip_busy3_1_2 j hj
    · exact r30_all pip_busy3_1_3 j hj
    · exact r30_all pip_busy3_2_0 j hj
    · exact r30_all pip_busy3_2_1 j hj
    · exact (hne rfl).elim
    · exact r30_all pip_busy3_2_3 j hj
    · exact r30_all pip_busy3_3_0 j hj
    · exact r30_all pip_busy3_3_1 j hj
    · exact r30_all pip_busy3_3_2 j hj
    · exact (hne rfl).elim
  lock j hj who hwho := by
    rcases four hwho with rfl | rfl | rfl | rfl
    · exact r30_all pip_lock0 j hj
    · exact r30_all pip_lock1 j hj
    · exact r30_all pip_lock2 j hj
    · exact r30_all pip_lock3 j hj
  leave j hj who hwho := by
    rcases (show j < 10 ∨ (10 ≤ j ∧ j < 20) ∨ (20 ≤ j ∧ j < 30) by omega) with h | h | h <;> rcases four hwho with rfl | rfl | rfl | rfl
    · exact all_mem pip_leave0_0 (x := j) (by rcases (show j = 0 ∨ j = 1 ∨ j = 2 ∨ j = 3 ∨ j = 4 ∨ j = 5 ∨ j = 6 ∨ j = 7 ∨ j = 8 ∨ j = 9 by omega) with rfl | rfl | rfl | rfl | rfl | rfl | rfl | rfl | rfl | rfl <;> simp)
    · exact all_mem pip_leave1_0 (x := j) (by rcases (show j = 0 ∨ j = 1 ∨ j = 2 ∨ j = 3 ∨ j = 4 ∨ j = 5 ∨ j = 6 ∨ j = 7 ∨ j = 8 ∨ j = 9 by omega) with rfl | rfl | rfl | rfl | rfl | rfl | rfl | rfl | rfl | rfl <;> simp)
    · exact all_mem pip_leave2_0 (x := j) (by rcases (show j = 0 ∨ j = 1 ∨ j = 2 ∨ j = 3 ∨ j = 4 ∨ j = 5 ∨ j = 6 ∨ j = 7 ∨ j = 8 ∨ j = 9 by omega) with rfl | rfl | rfl | rfl | rfl | rfl | rfl | rfl | rfl | rfl <;> simp)
    · exact all_mem pip_leave3_0 (x := j) (by rcases (show j = 0 ∨ j = 1 ∨ j = 2 ∨ j = 3 ∨ j = 4 ∨ j = 5 ∨ j = 6 ∨ j = 7 ∨ j = 8 ∨ j = 9 by omega) with rfl | rfl | rfl | rfl | rfl | rfl | rfl | rfl | rfl | rfl <;> simp)
    · exact all_mem pip_leave0_1 (x := j) (by rcases (show j = 10 ∨ j = 11 ∨ j = 12 ∨ j = 13 ∨ j = 14 ∨ j = 15 ∨ j = 16 ∨ j = 17 ∨ j = 18 ∨ j = 19 by omega) with rfl | rfl | rfl | rfl | rfl | rfl | rfl | rfl | rfl | rfl <;> simp)
    · exact all_mem pip_leave1_1 (x := j) (by rcases (show j = 10 ∨ j = 11 ∨ j = 12 ∨ j = 13 ∨ j = 14 ∨ j = 15 ∨ j = 16 ∨ j = 17 ∨ j = 18 ∨ j = 19 by omega) with rfl | rfl | rfl | rfl | rfl | rfl | rfl | rfl | rfl | rfl <;> simp)
    · exact all_mem pip_leave2_1 (x := j) (by rcases (show j = 10 ∨ j = 11 ∨ j = 12 ∨ j = 13 ∨ j = 14 ∨ j = 15 ∨ j = 16 ∨ j = 17 ∨ j = 18 ∨ j = 19 by omega) with rfl | rfl | rfl | rfl | rfl | rfl | rfl | rfl | rfl | rfl <;> simp)
    · exact all_mem pip_leave3_1 (x := j) (by rcases (show j = 10 ∨ j = 11 ∨ j = 12 ∨ j = 13 ∨ j = 14 ∨ j = 15 ∨ j = 16 ∨ j = 17 ∨ j = 18 ∨ j = 19 by omega) with rfl | rfl | rfl | rfl | rfl | rfl | rfl | rfl | rfl | rfl <;> simp)
    · exact all_mem pip_leave0_2 (x := j) (by rcases (show j = 20 ∨ j = 21 ∨ j = 22 ∨ j = 23 ∨ j = 24 ∨ j = 25 ∨ j = 26 ∨ j = 27 ∨ j = 28 ∨ j = 29 by omega) with rfl | rfl | rfl | rfl | rfl | rfl | rfl | rfl | rfl | rfl <;> simp)
    · exact all_mem pip_leave1_2 (x := j) (by rcases (show j = 20 ∨ j = 21 ∨ j = 22 ∨ j = 23 ∨ j = 24 ∨ j = 25 ∨ j = 26 ∨ j = 27 ∨ j = 28 ∨ j = 29 by omega) with rfl | rfl | rfl | rfl | rfl | rfl | rfl | rfl | rfl | rfl <;> simp)
    · exact all_mem pip_leave2_2 (x := j) (by rcases (show j = 20 ∨ j = 21 ∨ j = 22 ∨ j = 23 ∨ j = 24 ∨ j = 25 ∨ j = 26 ∨ j = 27 ∨ j = 28 ∨ j = 29 by omega) with rfl | rfl | rfl | rfl | rfl | rfl | rfl | rfl | rfl | rfl <;> simp)
    · exact all_mem pip_leave3_2 (x := j) (by rcases (show j = 20 ∨ j = 21 ∨ j = 22 ∨ j = 23 ∨ j = 24 ∨ j = 25 ∨ j = 26 ∨ j = 27 ∨ j = 28 ∨ j = 29 by omega) with rfl | rfl | rfl | rfl | rfl | rfl | rfl | rfl | rfl | rfl <;> simp)
  dos kind hk := by
    rcases four hk with rfl | rfl | rfl | rfl
    · exact pip_dos0
    · exact pip_dos1
    · exact pip_dos2
    · exact pip_dos3
end Go.Proofs.YtejebgdikoehmaaGreatDoor
