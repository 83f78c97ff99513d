/- TopAdds, the adds: what the law asks of the runs. -/
import Derived.Test.YtejebgdikoehmaaGreatDoorAdB
import Derived.Test.YtejebgdikoehmaaGreatDoorAdC0
import Derived.Test.YtejebgdikoehmaaGreatDoorAdC1
import Derived.Test.YtejebgdikoehmaaGreatDoorAdC2
import Derived.Test.YtejebgdikoehmaaGreatDoorAdC3
namespace Go.Proofs.YtejebgdikoehmaaGreatDoor
open Go Go.RowKit
set_option linter.unusedVariables false
set_option maxRecDepth 100000
theorem adds_runs {w1 : Nat} (h1 : w1 < 1) : Runs (addsL w1) where
  wfB k win hk hw := by
    have := all_mem (r4_all (r4_all adds_wfB w1 (by omega)) win hw) (x := k) (by rcases (show k = 0 ∨ k = 1 ∨ k = 2 ∨ k = 3 ∨ k = 4 by omega) with rfl | rfl | rfl | rfl | rfl <;> simp)
    rw [Bool.and_eq_true] at this
    exact this
  wfC c hc s hs := all_mem (r4_all adds_wfC c hc) (x := s) (by
    rcases (show s = 0 ∨ s = 1 ∨ s = 2 ∨ s = 3 ∨ s = 4 ∨ s = 5 ∨ s = 6 by omega) with rfl | rfl | rfl | rfl | rfl | rfl | rfl <;> simp)
  take w hw c hc := ⟨addsTk c, by
    rcases four hw with rfl | rfl | rfl | rfl
    · exact r4_all adds_take0 c hc
    · exact r4_all adds_take1 c hc
    · exact r4_all adds_take2 c hc
    · exact r4_all adds_take3 c hc⟩
  idle w hw c hc s hs h0 := by
    have hm : s ∈ [1, 2, 3, 4, 5, 6] := by
      rcases (show s = 1 ∨ s = 2 ∨ s = 3 ∨ s = 4 ∨ s = 5 ∨ s = 6 by omega) with rfl | rfl | rfl | rfl | rfl | rfl <;> simp
    rcases four hw with rfl | rfl | rfl | rfl
    · exact all_mem (r4_all adds_idle0 c hc) hm
    · exact all_mem (r4_all adds_idle1 c hc) hm
    · exact all_mem (r4_all adds_idle2 c hc) hm
    · exact all_mem (r4_all adds_idle3 c hc) hm
  lock w hw d hd := ⟨addsLk d, by
    rcases four hw with rfl | rfl | rfl | rfl
    · exact r4_all adds_lock0 d hd
    · exact r4_all adds_lock1 d hd
    · exact r4_all adds_lock2 d hd
    · exact r4_all adds_lock3 d hd⟩
  blocked w hw d hd h hh hne := by
    rcases four hw with rfl | rfl | rfl | rfl
    · exact all_mem (r4_all adds_block0 d hd) (x := h) (by rcases (show h = 1 ∨ h = 2 ∨ h = 3 by omega) with rfl | rfl | rfl <;> simp)
    · exact all_mem (r4_all adds_block1 d hd) (x := h) (by rcases (show h = 0 ∨ h = 2 ∨ h = 3 by omega) with rfl | rfl | rfl <;> simp)
    · exact all_mem (r4_all adds_block2 d hd) (x := h) (by rcases (show h = 0 ∨ h = 1 ∨ h = 3 by omega) with rfl | rfl | rfl <;> simp)
    · exact all_mem (r4_all adds_block3 d hd) (x := h) (by rcases (show h = 0 ∨ h = 1 ∨ h = 2 by omega) with rfl | rfl | rfl <;> simp)
  leave w hw d hd s hs := by
    have hm : s ∈ [3, 5] := by rcases hs with rfl | rfl <;> simp
    rcases four hw with rfl | rfl | rfl | rfl
    · exact all_mem (r4_all adds_leave0 d hd) hm
    · exact all_mem (r4_all adds_leave1 d hd) hm
    · exact all_mem (r4_all adds_leave2 d hd) hm
    · exact all_mem (r4_all adds_leave3 d hd) hm
  first d hd := by
    obtain rfl : w1 = 0 := by omega
    rcases four hd with rfl | rfl | rfl | rfl
    · exact ⟨_, adds_do0_0_0⟩
    · exact ⟨_, adds_do0_0_1⟩
    · exact ⟨_, adds_do0_0_2⟩
    · exact ⟨_, adds_do0_0_3⟩
  other d hd k h0 hk win hw hne := by
    rcases (show k = 1 ∨ k = 2 ∨ k = 3 by omega) with rfl | rfl | rfl <;> rcases four hw with rfl | rfl | rfl | rfl <;> rcases four hd with rfl | rfl | rfl | rfl
    · exact (hne rfl).elim
    · exact ⟨_, adds_do1_0_1⟩
    · exact ⟨_, adds_do1_0_2⟩
    · exact ⟨_, adds_do1_0_3⟩
    · exact ⟨_, adds_do1_1_0⟩
    · exact (hne rfl).elim
    · exact ⟨_, adds_do1_1_2⟩
    · exact ⟨_, adds_do1_1_3⟩
    · exact ⟨_, adds_do1_2_0⟩
    · exact ⟨_, adds_do1_2_1⟩
    · exact (hne rfl).elim
    · exact ⟨_, adds_do1_2_3⟩
    · exact ⟨_, adds_do1_3_0⟩
    · exact ⟨_, adds_do1_3_1⟩
    · exact ⟨_, adds_do1_3_2⟩
    · exact (hne rfl).elim
    · exact (hne rfl).elim
    · exact ⟨_, adds_do2_0_1⟩
    · exact ⟨_, adds_do2_0_2⟩
    · exact ⟨_, adds_do2_0_3⟩
    · exact ⟨_, adds_do2_1_0⟩
    · exact (hne rfl).elim
    · exact ⟨_, adds_do2_1_2⟩
    · exact ⟨_, adds_do2_1_3⟩
    · exact ⟨_, adds_do2_2_0⟩
    · exact ⟨_, adds_do2_2_1⟩
    · exact (hne rfl).elim
    · exact ⟨_, adds_do2_2_3⟩
    · exact ⟨_, adds_do2_3_0⟩
    · exact ⟨_, adds_do2_3_1⟩
    · exact ⟨_, adds_do2_3_2⟩
    · exact (hne rfl).elim
    · exact (hne rfl).elim
    · exact ⟨_, adds_do3_0_1⟩
    · exact ⟨_, adds_do3_0_2⟩
    · exact ⟨_, adds_do3_0_3⟩
    · exact ⟨_, adds_do3_1_0⟩
    · exact (hne rfl).elim
    · exact ⟨_, adds_do3_1_2⟩
    · exact ⟨_, adds_do3_1_3⟩
    · exact ⟨_, adds_do3_2_0⟩
    · exact ⟨_, adds_do3_2_1⟩
    · exact (hne rfl).elim
    · exact ⟨_, adds_do3_2_3⟩
    · exact ⟨_, adds_do3_3_0⟩
    · exact ⟨_, adds_do3_3_1⟩
    · exact ⟨_, adds_do3_3_2⟩
    · exact (hne rfl).elim
  next d hd := by
    rcases four hd with rfl | rfl | rfl | rfl <;> exact ⟨_, _, _, _, _, rfl, rfl⟩
end Go.Proofs.YtejebgdikoehmaaGreatDoor
