/- TopAdds, the deletes: what the law asks of the runs. -/
import Derived.Test.YtejebgdikoehmaaGreatDoorAdF
import Derived.Test.YtejebgdikoehmaaGreatDoorAdG
namespace Go.Proofs.YtejebgdikoehmaaGreatDoor
open Go Go.RowKit
set_option linter.unusedVariables false
set_option maxRecDepth 100000
theorem dels_runs {w1 : Nat} (h1 : w1 < 4) : Runs (delsL w1) where
  wfB k win hk hw := by
    have := all_mem (r4_all (r4_all dels_wfB w1 (by omega)) win hw) (x := k) (by rcases (show k = 0 ∨ k = 1 ∨ k = 2 ∨ k = 3 ∨ k = 4 by omega) with rfl | rfl | rfl | rfl | rfl <;> simp)
    rw [Bool.and_eq_true] at this
    exact this
  wfC c hc s hs := all_mem (r4_all dels_wfC c hc) (x := s) (by
    rcases (show s = 0 ∨ s = 1 ∨ s = 2 ∨ s = 3 ∨ s = 4 ∨ s = 5 ∨ s = 6 by omega) with rfl | rfl | rfl | rfl | rfl | rfl | rfl <;> simp)
  take w hw c hc := ⟨delsTk c, by
    rcases four hw with rfl | rfl | rfl | rfl
    · exact r4_all dels_take0 c hc
    · exact r4_all dels_take1 c hc
    · exact r4_all dels_take2 c hc
    · exact r4_all dels_take3 c hc⟩
  idle w hw c hc s hs h0 := by
    have hm : s ∈ [1, 2, 3, 4, 5, 6] := by
      rcases (show s = 1 ∨ s = 2 ∨ s = 3 ∨ s = 4 ∨ s = 5 ∨ s = 6 by omega) with rfl | rfl | rfl | rfl | rfl | rfl <;> simp
    rcases four hw with rfl | rfl | rfl | rfl
    · exact all_mem (r4_all dels_idle0 c hc) hm
    · exact all_mem (r4_all dels_idle1 c hc) hm
    · exact all_mem (r4_all dels_idle2 c hc) hm
    · exact all_mem (r4_all dels_idle3 c hc) hm
  lock w hw d hd := ⟨delsLk d, by
    rcases four hw with rfl | rfl | rfl | rfl
    · exact r4_all dels_lock0 d hd
    · exact r4_all dels_lock1 d hd
    · exact r4_all dels_lock2 d hd
    · exact r4_all dels_lock3 d hd⟩
  blocked w hw d hd h hh hne := by
    rcases four hw with rfl | rfl | rfl | rfl
    · exact all_mem (r4_all dels_block0 d hd) (x := h) (by rcases (show h = 1 ∨ h = 2 ∨ h = 3 by omega) with rfl | rfl | rfl <;> simp)
    · exact all_mem (r4_all dels_block1 d hd) (x := h) (by rcases (show h = 0 ∨ h = 2 ∨ h = 3 by omega) with rfl | rfl | rfl <;> simp)
    · exact all_mem (r4_all dels_block2 d hd) (x := h) (by rcases (show h = 0 ∨ h = 1 ∨ h = 3 by omega) with rfl | rfl | rfl <;> simp)
    · exact all_mem (r4_all dels_block3 d hd) (x := h) (by rcases (show h = 0 ∨ h = 1 ∨ h = 2 by omega) with rfl | rfl | rfl <;> simp)
  leave w hw d hd s hs := by
    have hm : s ∈ [3, 5] := by rcases hs with rfl | rfl <;> simp
    rcases four hw with rfl | rfl | rfl | rfl
    · exact all_mem (r4_all dels_leave0 d hd) hm
    · exact all_mem (r4_all dels_leave1 d hd) hm
    · exact all_mem (r4_all dels_leave2 d hd) hm
    · exact all_mem (r4_all dels_leave3 d hd) hm
  first d hd := by
    rcases four h1 with rfl | rfl | rfl | rfl <;> rcases four hd with rfl | rfl | rfl | rfl
    · exact ⟨_, dels_do0_0_0⟩
    · exact ⟨_, dels_do0_0_1⟩
    · exact ⟨_, dels_do0_0_2⟩
    · exact ⟨_, dels_do0_0_3⟩
    · exact ⟨_, dels_do0_1_0⟩
    · exact ⟨_, dels_do0_1_1⟩
    · exact ⟨_, dels_do0_1_2⟩
    · exact ⟨_, dels_do0_1_3⟩
    · exact ⟨_, dels_do0_2_0⟩
    · exact ⟨_, dels_do0_2_1⟩
    · exact ⟨_, dels_do0_2_2⟩
    · exact ⟨_, dels_do0_2_3⟩
    · exact ⟨_, dels_do0_3_0⟩
    · exact ⟨_, dels_do0_3_1⟩
    · exact ⟨_, dels_do0_3_2⟩
    · exact ⟨_, dels_do0_3_3⟩
  other d hd k h0 hk win hw hne := by
    rcases (show k = 1 ∨ k = 2 ∨ k = 3 by omega) with rfl | rfl | rfl <;> rcases four hw with rfl | rfl | rfl | rfl <;> rcases four hd with rfl | rfl | rfl | rfl
    · exact (hne rfl).elim
    · exact ⟨_, dels_do1_0_1⟩
    · exact ⟨_, dels_do1_0_2⟩
    · exact ⟨_, dels_do1_0_3⟩
    · exact ⟨_, dels_do1_1_0⟩
    · exact (hne rfl).elim
    · exact ⟨_, dels_do1_0_2⟩
    · exact ⟨_, dels_do1_0_3⟩
    · exact ⟨_, dels_do1_1_0⟩
    · exact ⟨_, dels_do1_0_1⟩
    · exact (hne rfl).elim
    · exact ⟨_, dels_do1_0_3⟩
    · exact ⟨_, dels_do1_1_0⟩
    · exact ⟨_, dels_do1_0_1⟩
    · exact ⟨_, dels_do1_0_2⟩
    · exact (hne rfl).elim
    · exact (hne rfl).elim
    · exact ⟨_, dels_do2_0_1⟩
    · exact ⟨_, dels_do2_0_2⟩
    · exact ⟨_, dels_do2_0_3⟩
    · exact ⟨_, dels_do2_1_0⟩
    · exact (hne rfl).elim
    · exact ⟨_, dels_do2_0_2⟩
    · exact ⟨_, dels_do2_0_3⟩
    · exact ⟨_, dels_do2_1_0⟩
    · exact ⟨_, dels_do2_0_1⟩
    · exact (hne rfl).elim
    · exact ⟨_, dels_do2_0_3⟩
    · exact ⟨_, dels_do2_1_0⟩
    · exact ⟨_, dels_do2_0_1⟩
    · exact ⟨_, dels_do2_0_2⟩
    · exact (hne rfl).elim
    · exact (hne rfl).elim
    · exact ⟨_, dels_do3_0_1⟩
    · exact ⟨_, dels_do3_0_2⟩
    · exact ⟨_, dels_do3_0_3⟩
    · exact ⟨_, dels_do3_1_0⟩
    · exact (hne rfl).elim
    · exact ⟨_, dels_do3_0_2⟩
    · exact ⟨_, dels_do3_0_3⟩
    · exact ⟨_, dels_do3_1_0⟩
    · exact ⟨_, dels_do3_0_1⟩
    · exact (hne rfl).elim
    · exact ⟨_, dels_do3_0_3⟩
    · exact ⟨_, dels_do3_1_0⟩
    · exact ⟨_, dels_do3_0_1⟩
    · exact ⟨_, dels_do3_0_2⟩
    · exact (hne rfl).elim
  next d hd := by
    rcases four hd with rfl | rfl | rfl | rfl <;> exact ⟨_, _, _, _, _, rfl, rfl⟩
end Go.Proofs.YtejebgdikoehmaaGreatDoor
