/- TopAdds: whoever is picked, one adds, and one deletes. -/
import Derived.Test.YtejebgdikoehmaaGreatDoorAdD
import Derived.Test.YtejebgdikoehmaaGreatDoorAdH
import Derived.Test.YtejebgdikoehmaaGreatDoorAdI
namespace Go.Proofs.YtejebgdikoehmaaGreatDoor
open Go Go.RowKit
set_option linter.unusedVariables false
set_option linter.unusedSimpArgs false
set_option maxRecDepth 100000 in
theorem adds_walk (w : World) (a1 : Option Addr) (n1 c1 : Nat) (w1 : n1 ≤ c1 ∧ ∀ i, i < n1 → InAt w a1 1 i isI) :
    Calls Tryz.prog 4 #[.slice a1 n1 c1] w fun e w' => e = .returned (.bool true) ∧ Below w.heap.size w w' := by
  have hRA : Runs (addsL 0) := adds_runs (by omega)
  refine calls_of_wp Tryz.func4 adds_body ?_
  -- works, then the town
  refine seg_sound (D := []) (n := 93) (σ := rn0 (.slice a1 n1 c1)) (H := lookP []) adds_seg1 adds_ok1 (wf0 _ w) (fun i o h => h) ?_ ?_
  · refine stsL_get1 ?_ (by omega) rfl (v' := .slice a1 n1 c1) (by show (#[Value.slice a1 n1 c1] ++ Array.replicate _ undef)[0]? = _; rw [Array.getElem?_append_left (by simp)]; rfl) (.var rfl rfl)
    rw [Tryz.ntmps4]
    simp
  intro a2 y2 σ2 hW2 hA2 hF2 ho2 hω2
  have f2 : Fr (fun _ => False) w y2 := hF2.mono (T := fun _ => False) fun b _ h => (owns0 h).elim
  refine seg_sound (D := []) (n := 93) (H := lookP []) adds_seg2 adds_ok2 hW2 (fun i o h => h) hA2 ?_
  intro a3 y3 σ3 hW3 hA3 hF3 ho3 hω3
  obtain ⟨bs, hbs, hAt⟩ := At.start hRA f2 (fun b h => (owns0 h).elim) hW3 hF3 ho3
  have h2 : Two 93 a3 (.slice a1 n1 c1) (.pointer (some ⟨bs, 0, none⟩)) := hA3.two rfl rfl (by rw [hω3, hω2]; rfl) hbs
  -- picked
  refine wp_seq (picked_region hRA (t3 := 35) adds_ops1.1 adds_ops1.2 adds_call1.1 adds_call1.2.1 adds_call1.2.2.1 adds_call1.2.2.2 adds_dst1 adds_moves1 adds_args1 (by omega) h2 hAt w1 ?_)
  intro a4 y4 win hwin hAt4 h4
  -- between
  obtain ⟨σ4, k1, k2, k3, k4, k5⟩ := hAt4.vars hRA (by show (4 : Nat) ≤ 4; omega) hwin (fun c hc => by show (if c = win then 6 else 4) ≤ 6; split <;> omega) (fun w hw c h => by cases h) (fun _ => .slice a1 n1 c1)
  have hmid : ∃ l, segOk adds3 T04 ((addsL 0).full (fin win)) T04 ((delsL win).full a0) l = true := by
    rcases four hwin with rfl | rfl | rfl | rfl
    · exact ⟨_, adds_mid0⟩
    · exact ⟨_, adds_mid1⟩
    · exact ⟨_, adds_mid2⟩
    · exact ⟨_, adds_mid3⟩
  obtain ⟨lm, hmid⟩ := hmid
  have hRD : Runs (delsL win) := dels_runs hwin
  refine seg_sound (D := []) (n := 93) hmid adds_ok3 k1 (fun i o h => by rw [full_fin hRA hwin] at h; exact h) (h4.ar (.var (by rw [k3]) rfl) (.ptr (a := ⟨2, 0, none⟩) k2)) ?_
  intro a5 y5 σ5 hW5 hA5 hF5 ho5 hω5
  obtain ⟨bs5, hbs5, hAt5⟩ := At.start hRD k4 k5 hW5 hF5 ho5
  have h5 : Two 93 a5 (.slice a1 n1 c1) (.pointer (some ⟨bs5, 0, none⟩)) := hA5.two rfl rfl (by rw [hω5, k3]) hbs5
  -- picked again
  refine wp_seq (picked_region hRD (t3 := 77) adds_ops2.1 adds_ops2.2 adds_call2.1 adds_call2.2.1 adds_call2.2.2.1 adds_call2.2.2.2 adds_dst2 adds_moves2 adds_args2 (by omega) h5 hAt5 w1 ?_)
  intro a6 y6 win6 hwin6 hAt6 h6
  -- the end
  obtain ⟨σ6, m1, m2, m3, m4⟩ := hAt6
  have hfullw : (delsL win).full (fin win6) = (delsL 0).full (fin win6) := rfl
  have hend : endOk addsEnd [(4, .pointer (some ⟨2, 0, none⟩))] ((delsL win).full (fin win6)) 2 = true := by
    rw [hfullw]
    rcases four hwin6 with rfl | rfl | rfl | rfl
    · exact adds_end0
    · exact adds_end1
    · exact adds_end2
    · exact adds_end3
  refine end_sound (D := []) (n := 93) hend adds_ok4 m1 (fun i o h => by rw [full_fin hRD hwin6] at h; exact h) (stsL_get1 h6.size h6.small h6.nod h6.at4 (.ptr (a := ⟨2, 0, none⟩) m2)) ?_
  intro a7 y7 hr hd hF
  have hfr : Fr (fun _ => False) w y7 := m3.trans hF fun i hi hs => absurd (m4 i hs) (by omega)
  have e : (results Tryz.f4 a7.tmps).run Tryz.prog y7 = .ok (.bool true) y7 := by
    rw [results_tmp (t := 2) rfl, Array.getD_eq_getD_getElem?, hr]
    rfl
  exact ⟨hd, .bool true, e, rfl, hfr.below (Nat.le_refl _) fun k hk h => h.elim⟩
end Go.Proofs.YtejebgdikoehmaaGreatDoor
