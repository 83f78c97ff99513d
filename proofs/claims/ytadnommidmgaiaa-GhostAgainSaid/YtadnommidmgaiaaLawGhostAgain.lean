/- 'ambry/ambrylaw11.GhostAgain' returns true, for every input, and leaves its arguments as they were. No condition. -/
import Derived.Test.YtadnommidmgaiaaIn
import Derived.Test.YtadnommidmgaiaaLastSpec
import Derived.WalkKit
import Derived.ProofKit
import Derived.OpenShut
import Derived.ShutString
import Derived.ChangeOld
import Derived.Below
namespace Go.Proofs.Ytadnommidmgaiaa.ghostAgain
open Go.ChangeShapes Go.WideShapes Go.ChangeAt Go.RowKit
open Go.ChangeMaps (open_string shut_string)
set_option linter.unusedVariables false

theorem own : ownKnob Try.prog.godebug = none := by kernel_rfl
theorem laidOut : laidOutB Try.prog = true := by kernel_rfl

theorem drop_last (M : List Int) (h : Int) (k : Nat) (hk : 1 ≤ k) (hn : k ≤ M.length + 1) : h ∈ (M ++ [h]).drop (M.length + 1 - k) := by
  rw [List.drop_append_of_le_length (by omega)]; simp
theorem drop_len (M : List Int) (h : Int) (k : Nat) (hn : k ≤ M.length + 1) : ((M ++ [h]).drop (M.length + 1 - k)).length = k := by
  simp; omega
theorem drop_cut (M : List Int) (h : Int) (k : Nat) (hk : 1 ≤ k) (hn : k ≤ M.length + 1) : cut (max 0 ((k : Int) - 1)) ((M ++ [h]).drop (M.length + 1 - k)) = (M ++ [h]).drop (M.length + 1 - (k - 1)) := by
  unfold cut
  rw [drop_len M h k hn, List.drop_drop]
  congr 1; omega

set_option maxRecDepth 100000 in
set_option maxHeartbeats 4000000 in
theorem walk (w : World) (a0 : Option Addr) (n0 c0 : Nat) (w0 : n0 ≤ c0 ∧ ∀ i, i < n0 → InAt w a0 1 i (fun cs => ∃ x : Int, cs = [.int .u64 x] ∧ (Lit.int .u64 x).wf = true)) (a1 : Int) (w1 : (Lit.int .u64 a1).wf = true) :
    Calls Try.prog 6 #[.slice a0 n0 c0, .int .u64 a1] w fun e w' => e = .returned (.bool true) ∧ Below w.heap.size w w' := by
  go_enter Try.func6, Try.ntmps6
  go_wp2_with fail
  refine (shown_any _).mono ?_
  rintro e w1 ⟨rfl, hF⟩
  have HF := Lib.hid (hF.mono (T := From w.heap.size) (fun _ _ h => h.elim))
  clear hF
  go_wp2_with fail
  refine (new_at 100 w1).mono ?_
  rintro e w2 ⟨g, rfl, hG, hF⟩
  have H1 := Lib.hid (gh_new (most := 100) HF.out hG hF)
  clear hG hF HF
  go_wp2_with fail
  refine (add_at _ g 100 _ _ a1 _ H1.out.1 (by omega)).mono ?_
  rintro e w3 ⟨rfl, hG, hF⟩
  have H2 := Lib.hid (gh_next H1.out hG hF)
  clear hG hF H1
  go_wp2_with fail
  go_loopw [7] (fun i wr => ∃ (k : Nat) (L : List Int), k ≤ n0 ∧ k ≤ 60 ∧ i = .int .i64 k ∧ Own (gh g 100 L (k + 1)) w wr) (fun i _ => 60 - (intOf i).toNat)
  case atStart => exact ⟨0, _, by omega, by omega, rfl, H2.out⟩
  case round =>
    obtain ⟨k, L, hk, hk2, rfl, hO⟩ := hrel
    have HO := Lib.hid hO
    clear hO
    have hlen := HO.out.1.len_le
    by_cases hlt : k < n0 ∧ k < 60
    · obtain ⟨hlt, hlt2⟩ := hlt
      obtain ⟨b, off, v, rfl, hbl, ⟨x, hx, hwx⟩, hc⟩ := (w0.2 k hlt).one
      simp at hx
      subst hx
      have hc' : wr.cell? ⟨b, off + k, none⟩ = some (.int .u64 x) := (HO.out.2.cell hbl (by unfold From; simp; omega)).trans hc
      clear hc hwx
      have W0 := Lib.hid w0
      clear w0 hlen
      go_wp2_with (go_at_call 9; refine (add_at _ g 100 _ _ x _ HO.out.1 (by omega)).mono ?_; rintro e w5 ⟨rfl, hG, hF⟩; have H5 := Lib.hid (gh_next HO.out hG hF); clear hG hF)
      go_roundw
      case rel => exact ⟨k + 1, _, by omega, by omega, by go_num, H5.out⟩
      case measure => simp [intOf]; omega
    · have hcase : ¬ k < n0 ∨ (k < n0 ∧ ¬ k < 60) := by omega
      clear hlt
      have hgL : gadd 100 L a1 = L.filter (· != a1) ++ [a1] := cut_all (by have := List.length_filter_le (· != a1) L; simp; omega)
      have hfl : (L.filter (· != a1)).length ≤ 70 := by have := List.length_filter_le (· != a1) L; omega
      obtain ⟨M, hM⟩ : ∃ M, L.filter (· != a1) = M := ⟨_, rfl⟩
      rw [hM] at hgL hfl
      have HGL := Lib.hid hgL
      have W0 := Lib.hid w0
      clear hgL hM hlen w0
      rcases hcase with hlt | ⟨hlt, hlt2⟩
      all_goals
        go_wp2_with fail
        refine (add_at _ g 100 _ _ a1 _ HO.out.1 (by omega)).mono ?_
        rintro e w5 ⟨rfl, hG, hF⟩
        rw [HGL.out] at hG
        have H5 := Lib.hid (gh_next HO.out hG hF)
        clear hG hF
        go_wp2_with (go_at_call 11; refine (len_at _ g 100 _ _ _ H5.out.1).mono ?_; rintro e w8 ⟨rfl, rfl⟩; rw [show ((M ++ [a1]).length : Int) = ((M.length + 1 : Nat) : Int) from by simp])
        go_loopw [9] (fun i wr => ∃ (j : Nat) (most : Int), j ≤ M.length + 1 ∧ i = .int .i64 j ∧ Own (gh g most ((M ++ [a1]).drop (M.length + 1 - j)) (k + 1 + 1)) w wr) (fun i _ => (intOf i).toNat)
        case atStart => exact ⟨M.length + 1, 100, by omega, rfl, by rw [show M.length + 1 - (M.length + 1) = 0 from by omega]; exact H5.out⟩
        case round =>
          obtain ⟨j, most, hj, rfl, hO2⟩ := hrel
          have HO2 := Lib.hid hO2
          have HDL := Lib.hid (drop_len M a1 j hj)
          clear hO2
          by_cases hj1 : 1 ≤ j
          · have HM := Lib.hid (decide_eq_true (drop_last M a1 j hj1 hj))
            have HC := Lib.hid (drop_cut M a1 j hj1 hj)
            go_wp2_with (first
              | (go_at_call 12; refine (has_at _ g _ _ _ a1 _ HO2.out.1).mono ?_; rintro e w8 ⟨rfl, rfl⟩; rw [HM.out])
              | (go_at_call 11; refine (len_at _ g _ _ _ _ HO2.out.1).mono ?_; rintro e w8 ⟨rfl, rfl⟩; rw [HDL.out])
              | (go_at_call 17; refine (limit_at _ g _ _ _ ((j : Int) - 1) _ HO2.out.1 (by omega)).mono ?_; rintro e w8 ⟨rfl, hG, hF⟩; have H8 := Lib.hid (And.intro hG hF); clear hG hF))
            go_roundw
            case rel =>
              refine ⟨j - 1, max 0 ((j : Int) - 1), by omega, by rw [show ((j - 1 : Nat) : Int) = (j : Int) - 1 from by omega], ?_⟩
              have := gh_same HO2.out H8.out.1 H8.out.2
              rw [HC.out] at this
              exact this
            case measure => simp [intOf]; omega
          · obtain rfl : j = 0 := by omega
            have hnil : (M ++ [a1]).drop (M.length + 1 - 0) = [] := by rw [List.drop_of_length_le (by simp)]
            have H9 := HO2.out
            rw [hnil] at H9
            have HN := Lib.hid H9
            clear hnil H9
            go_wp2_with (first
              | (go_at_call 12; refine (has_at _ g _ _ _ a1 _ HN.out.1).mono ?_; rintro e w8 ⟨rfl, rfl⟩)
              | (go_at_call 11; refine (len_at _ g _ _ _ _ HN.out.1).mono ?_; rintro e w8 ⟨rfl, rfl⟩))
            go_ret
            exact ⟨rfl, Fr.below HN.out.2 (Nat.le_refl _) (fun b hb h => h)⟩

set_option maxRecDepth 100000 in
theorem lifted (os : Os) (started : os.Started) (H : Type) (enc : TypeId × Value → H) :
    ReturnsInHanded {} Try.checked os 6 .any (Rows.ghostAgainSpec.pre6 enc Try.prog Try.f6 Rows.ghostAgainRow.domain false) (Rows.ghostAgainSpec.post enc Try.prog Try.f6 false true false false) := by
  refine returnsInHanded_of_change (C := Try.checked) own started (by kernel_rfl) Try.func6
    (ChangeSpec.witness6 (enc := enc) (C := Try.checked) false ⟨#[], #[.slice none 0 0, .int .u64 0], []⟩ 8 (by kernel_rfl) (by kernel_rfl) (by kernel_rfl) (by kernel_rfl)) ?_
  intro W base args ds gs before hval0 hW hcnd _
  have hval : ∀ (j : Nat) t v, Try.f6.params[j]? = some t → args[j]? = some v → Value.okWide Try.prog W .any base t v := hval0
  have hW' := hW
  obtain ⟨p, q, hA0, hV, rfl, hfz, hnd⟩ := hW
  have hA : DataW.TrodAll enc Try.prog W 0 (fun _ => true) true Try.f6.params.toList args.toList ds p := hA0
  rw [Try.params6] at hA hval
  obtain ⟨v0, vs0, d0, ds0, p0, q0, hargs, rfl, rfl, h0, r0⟩ := trodAll_cons hA
  obtain ⟨v1, vs1, d1, ds1, p1, q1, rfl, rfl, rfl, h1, r1⟩ := trodAll_cons r0
  obtain ⟨rfl, rfl, rfl⟩ := trodAll_nil r1
  obtain rfl : args = #[v0, v1] := by cases args; simp_all
  obtain ⟨rfl, rfl⟩ := trodVars_none hV
  obtain ⟨a0, n0, c0, rfl⟩ := okWide_slice Try.underlying27 (hval 0 27 v0 rfl rfl)
  have k0 := h0
  have lt0 : ∀ x ∈ p0, x.block < W.heap.size := by obtain ⟨m, hm⟩ := k0; exact DataW.trod_lt m _ _ _ hm
  have w0 := open_in (C := fun cs => ∃ x : Int, cs = [.int .u64 x] ∧ (Lit.int .u64 x).wf = true) Try.underlying27 k0 1 (by kernel_rfl) (by decide) (fun m cs x h => by obtain ⟨x, e, _, hw⟩ := DataW.trod_int Try.underlying22 h; exact ⟨x, e, hw⟩)
  obtain ⟨a1, rfl, rfl, rfl, w1⟩ := open_int Try.underlying22 (hval 1 22 v1 rfl rfl) h1
  clear hA0 hval0
  refine (walk W a0 n0 c0 w0 a1 w1).mono fun e W' ⟨he, bel⟩ => ?_
  subst he
  exact ⟨_, rfl, _, _, _, [], _, [], hW', trodAll_mk1 (shut_bool Try.underlying4 _), (trodAll_cons_mk (Below.trod laidOut (by kernel_rfl) (of_decide_eq_true (by kernel_rfl)) k0 bel lt0) (trodAll_cons_mk (shut_int Try.underlying22 w1) trodAll_mk0)), rfl, bel.frame _, fun h => by cases h⟩

theorem over : Rows.ghostAgainRow.holds Try.pinned (OpenSpec.ofChange Rows.ghostAgainSpec) :=
  OpenClaim.holds_of_wide 6 Try.f6 rfl rfl rfl rfl rfl rfl rfl ⟨rfl, rfl, rfl, rfl, rfl⟩ rfl rfl rfl rfl rfl (by kernel_rfl) Try.func6 (by kernel_rfl)
    (of_decide_eq_true (by kernel_rfl)) (by unfold Func.isWrapper; first | (rw [if_pos (by decide +kernel)]; kernel_rfl) | (rw [if_neg (by decide +kernel)]; exact ⟨rfl, rfl⟩))
    (fun os started H enc _ => lifted os started H enc)

theorem proved : Rows.GhostAgainSaid := over
#print axioms proved
end Go.Proofs.Ytadnommidmgaiaa.ghostAgain
