/- TopWins: whoever is picked, one wins. -/
import Derived.Test.YtejebgdikoehmaaGreatDoorWiB
import Derived.Test.YtejebgdikoehmaaGreatDoorWiC
import Derived.Test.YtejebgdikoehmaaGreatDoorWiD
namespace Go.Proofs.YtejebgdikoehmaaGreatDoor
open Go Go.RowKit
set_option linter.unusedVariables false
set_option linter.unusedSimpArgs false
theorem wins_runs : Runs winsL where
  wfB k win hk hw := by
    have := all_mem wins_wfB (x := k) (by rcases (show k = 0 ∨ k = 1 ∨ k = 2 ∨ k = 3 ∨ k = 4 by omega) with rfl | rfl | rfl | rfl | rfl <;> simp)
    rw [Bool.and_eq_true] at this
    exact this
  wfC c hc s hs := all_mem (r4_all wins_wfC c hc) (x := s) (by
    rcases (show s = 0 ∨ s = 1 ∨ s = 2 ∨ s = 3 ∨ s = 4 ∨ s = 5 ∨ s = 6 by omega) with rfl | rfl | rfl | rfl | rfl | rfl | rfl <;> simp)
  take w hw c hc := ⟨winsTk c, by
    rcases four hw with rfl | rfl | rfl | rfl
    · exact r4_all wins_take0 c hc
    · exact r4_all wins_take1 c hc
    · exact r4_all wins_take2 c hc
    · exact r4_all wins_take3 c hc⟩
  idle w hw c hc s hs h0 := by
    have hm : s ∈ [1, 2, 3, 4, 5, 6] := by
      rcases (show s = 1 ∨ s = 2 ∨ s = 3 ∨ s = 4 ∨ s = 5 ∨ s = 6 by omega) with rfl | rfl | rfl | rfl | rfl | rfl <;> simp
    rcases four hw with rfl | rfl | rfl | rfl
    · exact all_mem (r4_all wins_idle0 c hc) hm
    · exact all_mem (r4_all wins_idle1 c hc) hm
    · exact all_mem (r4_all wins_idle2 c hc) hm
    · exact all_mem (r4_all wins_idle3 c hc) hm
  lock w hw d hd := ⟨winsLk d, by
    rcases four hw with rfl | rfl | rfl | rfl
    · exact r4_all wins_lock0 d hd
    · exact r4_all wins_lock1 d hd
    · exact r4_all wins_lock2 d hd
    · exact r4_all wins_lock3 d hd⟩
  blocked w hw d hd h hh hne := by
    rcases four hw with rfl | rfl | rfl | rfl
    · exact all_mem (r4_all wins_block0 d hd) (x := h) (by rcases (show h = 1 ∨ h = 2 ∨ h = 3 by omega) with rfl | rfl | rfl <;> simp)
    · exact all_mem (r4_all wins_block1 d hd) (x := h) (by rcases (show h = 0 ∨ h = 2 ∨ h = 3 by omega) with rfl | rfl | rfl <;> simp)
    · exact all_mem (r4_all wins_block2 d hd) (x := h) (by rcases (show h = 0 ∨ h = 1 ∨ h = 3 by omega) with rfl | rfl | rfl <;> simp)
    · exact all_mem (r4_all wins_block3 d hd) (x := h) (by rcases (show h = 0 ∨ h = 1 ∨ h = 2 by omega) with rfl | rfl | rfl <;> simp)
  leave w hw d hd s hs := by
    have hm : s ∈ [3, 5] := by rcases hs with rfl | rfl <;> simp
    rcases four hw with rfl | rfl | rfl | rfl
    · exact all_mem (r4_all wins_leave0 d hd) hm
    · exact all_mem (r4_all wins_leave1 d hd) hm
    · exact all_mem (r4_all wins_leave2 d hd) hm
    · exact all_mem (r4_all wins_leave3 d hd) hm
  first d hd := by
    rcases four hd with rfl | rfl | rfl | rfl
    · exact ⟨_, wins_do0_0⟩
    · exact ⟨_, wins_do0_1⟩
    · exact ⟨_, wins_do0_2⟩
    · exact ⟨_, wins_do0_3⟩
  other d hd k h0 hk win hw hne := by
    have hL : ∀ l, doOk winsL d 3 k win (k + 1) win l = doOk winsL d 3 k 0 (k + 1) 0 l := fun l => rfl
    rcases (show k = 1 ∨ k = 2 ∨ k = 3 by omega) with rfl | rfl | rfl <;> rcases four hd with rfl | rfl | rfl | rfl
    · exact ⟨_, (hL _).trans wins_do1_0⟩
    · exact ⟨_, (hL _).trans wins_do1_1⟩
    · exact ⟨_, (hL _).trans wins_do1_2⟩
    · exact ⟨_, (hL _).trans wins_do1_3⟩
    · exact ⟨_, (hL _).trans wins_do2_0⟩
    · exact ⟨_, (hL _).trans wins_do2_1⟩
    · exact ⟨_, (hL _).trans wins_do2_2⟩
    · exact ⟨_, (hL _).trans wins_do2_3⟩
    · exact ⟨_, (hL _).trans wins_do3_0⟩
    · exact ⟨_, (hL _).trans wins_do3_1⟩
    · exact ⟨_, (hL _).trans wins_do3_2⟩
    · exact ⟨_, (hL _).trans wins_do3_3⟩
  next d hd := by
    rcases four hd with rfl | rfl | rfl | rfl <;> exact ⟨_, _, _, _, _, rfl, rfl⟩
set_option maxRecDepth 100000 in
theorem wins_walk (w : World) (a1 : Option Addr) (n1 c1 : Nat) (w1 : n1 ≤ c1 ∧ ∀ i, i < n1 → InAt w a1 1 i isI) :
    Calls Tryz.prog 3 #[.slice a1 n1 c1] w fun e w' => e = .returned (.bool true) ∧ Below w.heap.size w w' := by
  refine calls_of_wp Tryz.func3 wins_body ?_
  -- works, then the town
  refine seg_sound (D := []) (n := 47) (σ := rn0 (.slice a1 n1 c1)) (H := lookP []) wins_seg1 wins_ok1 (wf0 _ w) (fun i o h => h) ?_ ?_
  · refine stsL_get1 ?_ (by omega) rfl (v' := .slice a1 n1 c1) (by show (#[Value.slice a1 n1 c1] ++ Array.replicate _ undef)[0]? = _; rw [Array.getElem?_append_left (by simp)]; rfl) (.var rfl rfl)
    rw [Tryz.ntmps3]
    simp
  intro a2 y2 σ2 hW2 hA2 hF2 ho2 hω2
  have f2 : Fr (fun _ => False) w y2 := hF2.mono (T := fun _ => False) fun b _ h => (owns0 h).elim
  refine seg_sound (D := []) (n := 47) (H := lookP []) wins_seg2 wins_ok2 hW2 (fun i o h => h) hA2 ?_
  intro a3 y3 σ3 hW3 hA3 hF3 ho3 hω3
  obtain ⟨bs, hbs, hAt⟩ := At.start wins_runs f2 (fun b h => (owns0 h).elim) hW3 hF3 ho3
  have h2 : Two 47 a3 (.slice a1 n1 c1) (.pointer (some ⟨bs, 0, none⟩)) := hA3.two rfl rfl (by rw [hω3, hω2]; rfl) hbs
  -- picked
  refine wp_seq (picked_region wins_runs (t3 := 31) wins_ops.1 wins_ops.2 wins_call.1 wins_call.2.1 wins_call.2.2.1 wins_call.2.2.2 wins_ok3 wins_moves wins_args (by omega) h2 hAt w1 ?_)
  intro a4 y4 win hwin hAt4 h4
  -- the end
  obtain ⟨σ4, k1, k2, k3, k4⟩ := hAt4
  have hend : endOk winsEnd [(4, .pointer (some ⟨2, 0, none⟩))] (winsL.full (fin win)) 2 = true := by
    rcases four hwin with rfl | rfl | rfl | rfl
    · exact wins_end0
    · exact wins_end1
    · exact wins_end2
    · exact wins_end3
  refine end_sound (D := []) (n := 47) hend wins_ok4 k1 (fun i o h => by rw [full_fin wins_runs hwin] at h; exact h) (stsL_get1 h4.size h4.small h4.nod h4.at4 (.ptr (a := ⟨2, 0, none⟩) k2)) ?_
  intro a5 y5 hr hd hF
  have hfr : Fr (fun _ => False) w y5 := k3.trans hF fun i hi hs => absurd (k4 i hs) (by omega)
  have e : (results Tryz.f3 a5.tmps).run Tryz.prog y5 = .ok (.bool true) y5 := by
    rw [results_tmp (t := 2) rfl, Array.getD_eq_getD_getElem?, hr]
    rfl
  exact ⟨hd, .bool true, e, rfl, hfr.below (Nat.le_refl _) fun k hk h => h.elim⟩
end Go.Proofs.YtejebgdikoehmaaGreatDoor
