/- 'ambry/ambrylaw11.GhostLast' returns true, for every input, and leaves its arguments as they were. No condition. -/
import Derived.Test.YtadnommidmgaiaaRows
import Derived.Test.YtadnommidmgaiaaLastSpec
import Derived.Deep.DeepCutAuto
import Derived.WalkKit
import Derived.ProofKit
import Derived.OpenShut
import Derived.ShutString
import Derived.ChangeOld
import Derived.Below
namespace Go.Proofs.Ytadnommidmgaiaa.ghostLast
open Go.ChangeShapes Go.WideShapes Go.ChangeAt Go.RowKit
open Go.ChangeMaps (open_string shut_string)
set_option linter.unusedVariables false      -- a walk need not use every 'w<i>' (that an integer argument fits its kind)

theorem own : ownKnob Try.prog.godebug = none := by kernel_rfl

/-! ### STEP 1: THE WALK: the Go text returns true. 'Grown w w'': the world has at most new blocks (Derived/RowKit3.lean). Part the cases AHEAD of 'go_enter' where a test parts the walk; take each callee by a contract of your own. -/
set_option maxRecDepth 100000 in
set_option maxHeartbeats 4000000 in
theorem walk (a0 : Int) (a1 : Int) (a2 : Int) (w0 : (Lit.int .i64 a0).wf = true) (w1 : (Lit.int .i64 a1).wf = true) (w2 : (Lit.int .u64 a2).wf = true) (w : World) :
    Calls Try.prog 3 #[.int .i64 a0, .int .i64 a1, .int .u64 a2] w fun e w' => e = .returned (.bool true) ∧ Below w.heap.size w w' := by
  have h0 := bounds_i64 w0
  have h1 := bounds_i64 w1
  have h2 := bounds_u64 w2
  go_enter Try.func3, Try.ntmps3
  go_upto_if 15 with (go_at_call 7; refine (shown_any _).mono ?_; rintro e w1 ⟨rfl, hF⟩; have HF := Lib.hid (hF.mono (T := From w.heap.size) (fun _ _ h => h.elim)); clear hF)
  go_cut [0] (fun s0 wx => ∃ p : Nat, p ≤ 9223372036854775807 ∧ s0 = .int .i64 p ∧ w1 = wx)
  case first =>
    by_cases hp : a0 < 0
    · go_wp2
      go_meet
      exact ⟨(-(a0 + 1)).toNat, by omega, by rw [Int.toNat_of_nonneg (by omega)], rfl⟩
    · go_wp2
      go_meet
      exact ⟨a0.toNat, by omega, by rw [Int.toNat_of_nonneg (by omega)], rfl⟩
  case rest =>
    obtain ⟨p0, hp0, rfl, rfl⟩ := hcut
    go_upto_if 20 with fail
    go_cut [1] (fun s0 wx => ∃ p : Nat, p ≤ 9223372036854775807 ∧ s0 = .int .i64 p ∧ w1 = wx)
    case first =>
      by_cases hp : a1 < 0
      · go_wp2
        go_meet
        exact ⟨(-(a1 + 1)).toNat, by omega, by rw [Int.toNat_of_nonneg (by omega)], rfl⟩
      · go_wp2
        go_meet
        exact ⟨a1.toNat, by omega, by rw [Int.toNat_of_nonneg (by omega)], rfl⟩
    case rest =>
      obtain ⟨n0, hn0, rfl, rfl⟩ := hcut
      clear h0 h1
      go_upto_region 6 with fail
      go_cut [0] (fun s0 wx => ∃ p : Nat, p ≤ 49 ∧ s0 = .int .i64 p ∧ w1 = wx)
      case first =>
        go_wp2
        go_meet
        exact ⟨p0 % 50, by omega, by simp, rfl⟩
      case rest =>
        obtain ⟨p, p1, rfl, rfl⟩ := hcut
        go_upto_region 7 with fail
        go_cut [1] (fun s0 wx => ∃ n : Nat, n ≤ 199 ∧ s0 = .int .i64 n ∧ w1 = wx)
        case first =>
          go_wp2
          go_meet
          exact ⟨n0 % 200, by omega, by simp, rfl⟩
        case rest =>
          obtain ⟨n, hn, rfl, rfl⟩ := hcut
          clear hp0 hn0
          go_wp2_with fail
          refine (new_at p w1).mono ?_
          rintro e w2 ⟨g, rfl, hG, hF⟩
          have hmx : max 0 (p : Int) = p := by omega
          rw [hmx] at hG
          have H1 := Lib.hid (gh_new HF.out hG hF)
          clear hG hF hmx HF
          go_wp2_with fail
          go_loopw [9] (fun i wr => ∃ k : Nat, k ≤ n ∧ i = .int .i64 k ∧ Own (gh g p (cut p (firsts a2 k)) k) w wr) (fun i _ => n - (intOf i).toNat)
          case atStart => exact ⟨0, by omega, rfl, by rw [show cut p (firsts a2 0) = [] from by simp [cut, firsts]]; exact H1.out⟩
          case round =>
            obtain ⟨k, hk, rfl, hO⟩ := hrel
            have HO := Lib.hid hO
            clear hO
            by_cases hlt : k < n
            · go_wp2_with (go_at_call 9; refine (add_at _ g p _ _ (nth a2 k) _ HO.out.1 (by omega)).mono ?_; rintro e w3 ⟨rfl, hG, hF⟩; have H3 := Lib.hid (And.intro hG hF); clear hG hF)
              go_roundw
              case rel =>
                refine ⟨k + 1, by omega, by go_num, ?_⟩
                have hs := last_step p a2 (by omega) k (by omega)
                have hn := gh_next HO.out H3.out.1 H3.out.2
                rw [hs] at hn
                exact hn
              case measure => simp [intOf]; omega
            · obtain rfl : k = n := by omega
              go_wp2_with fail
              refine (all_at _ g p _ _ _ HO.out.1 (by omega)).mono ?_
              rintro e w3 ⟨v, rfl, hs, hF⟩
              have H3 := Lib.hid (gh_keep HO.out hF)
              have hll := last_len p a2 k
              obtain ⟨vb, vcap, rfl, hvx⟩ := sl_ints hs
              rw [hll, Int.toNat_natCast]
              rw [Int.toNat_natCast] at hll
              obtain ⟨q, hq, hkp⟩ : ∃ q, min k p = q ∧ (k ≤ p ∧ q = k ∨ p < k ∧ q = p) := ⟨_, rfl, by omega⟩
              rw [hq] at hll ⊢
              have hqk : q ≤ k := by omega
              have HF := Lib.hid (And.intro hll (And.intro hq hvx))
              clear hs hF hvx hll hq
              go_upto_region 16 with fail
              go_cut [11] (fun s wx => s = .int .i64 q ∧ w3 = wx)
              case first =>
                rcases hkp with ⟨hkp, rfl⟩ | ⟨hkp, rfl⟩
                all_goals
                  go_wp2
                  go_meet
                  exact ⟨rfl, rfl⟩
              case rest =>
                obtain ⟨rfl, rfl⟩ := hcut
                clear hkp
                go_wp2_with (go_at_call 11; refine (len_at _ _ _ _ _ _ H3.out.1).mono ?_; rintro e w8 ⟨rfl, rfl⟩; rw [HF.out.1])
                go_loop [12] (fun s => ∃ j : Nat, j ≤ k ∧ s = .int .i64 j) (fun s => k - (intOf s).toNat)
                case atStart => exact ⟨0, by omega, rfl⟩
                case round =>
                  obtain ⟨j, hj, rfl⟩ := hrel
                  by_cases hjk : j < k
                  · by_cases hge : k - q ≤ j
                    · have hmem : decide (nth a2 j ∈ cut p (firsts a2 k)) = true := decide_eq_true ((last_mem p a2 k j hjk (by omega)).2 (by rw [Int.toNat_natCast, HF.out.2.1]; exact hge))
                      have hget := last_get p a2 k j hjk (by rw [Int.toNat_natCast, HF.out.2.1]; exact hge)
                      rw [Int.toNat_natCast, HF.out.2.1] at hget
                      obtain ⟨b, off, rfl, _, hc⟩ := HF.out.2.2 _ _ hget
                      have hi : j - (k - q) = ((j : Int) - k + q).toNat := by omega
                      rw [hi] at hc
                      have hc' : w3.cell? ⟨b, off + ((j : Int) - k + q).toNat, none⟩ = some (.int .u64 (IntKind.u64.wrap (a2 + (j : Int) * 3))) := hc
                      have HM := Lib.hid hmem
                      clear hmem hget hc hi
                      have hb1 : (k : Int) - q ≤ j := by omega
                      go_wp2_with (go_at_call 12; refine (has_at _ g p _ _ (nth a2 j) _ H3.out.1).mono ?_; rintro e w8 ⟨rfl, rfl⟩; rw [HM.out])
                      go_round
                      case rel => exact ⟨j + 1, by omega, by go_num⟩
                      case measure => simp [intOf]; omega
                    · have hmem : decide (nth a2 j ∈ cut p (firsts a2 k)) = false := decide_eq_false (fun h => hge (by have := (last_mem p a2 k j hjk (by omega)).1 h; rw [Int.toNat_natCast, HF.out.2.1] at this; exact this))
                      have HM := Lib.hid hmem
                      clear hmem
                      have hb1 : (j : Int) < (k : Int) - q := by omega
                      go_wp2_with (go_at_call 12; refine (has_at _ g p _ _ (nth a2 j) _ H3.out.1).mono ?_; rintro e w8 ⟨rfl, rfl⟩; rw [HM.out])
                      go_round
                      case rel => exact ⟨j + 1, by omega, by go_num⟩
                      case measure => simp [intOf]; omega
                  · go_wp2
                    go_ret
                    exact ⟨rfl, Fr.below H3.out.2 (Nat.le_refl _) (fun b hb h => h)⟩

/-! ### THE ROW's STEP: WRITTEN OUT: LEAVE IT -/
set_option maxRecDepth 100000 in
theorem lifted (os : Os) (started : os.Started) (H : Type) (enc : TypeId × Value → H) :
    ReturnsInHanded {} Try.checked os 3 .any (Rows.ghostLastSpec.pre6 enc Try.prog Try.f3 Rows.ghostLastRow.domain false) (Rows.ghostLastSpec.post enc Try.prog Try.f3 false true false false) := by
  refine returnsInHanded_of_change (C := Try.checked) own started (by kernel_rfl) Try.func3
    (ChangeSpec.witness6 (enc := enc) (C := Try.checked) false ⟨#[], #[.int .i64 0, .int .i64 0, .int .u64 0], []⟩ 8 (by kernel_rfl) (by kernel_rfl) (by kernel_rfl) (by kernel_rfl)) ?_
  intro W base args ds gs before hval0 hW hcnd _
  have hval : ∀ (j : Nat) t v, Try.f3.params[j]? = some t → args[j]? = some v → Value.okWide Try.prog W .any base t v := hval0
  have hW' := hW
  obtain ⟨p, q, hA0, hV, rfl, hfz, hnd⟩ := hW
  have hA : DataW.TrodAll enc Try.prog W 0 (fun _ => true) true Try.f3.params.toList args.toList ds p := hA0
  rw [Try.params3] at hA hval
  obtain ⟨v0, vs0, d0, ds0, p0, q0, hargs, rfl, rfl, h0, r0⟩ := trodAll_cons hA
  obtain ⟨v1, vs1, d1, ds1, p1, q1, rfl, rfl, rfl, h1, r1⟩ := trodAll_cons r0
  obtain ⟨v2, vs2, d2, ds2, p2, q2, rfl, rfl, rfl, h2, r2⟩ := trodAll_cons r1
  obtain ⟨rfl, rfl, rfl⟩ := trodAll_nil r2
  obtain rfl : args = #[v0, v1, v2] := by cases args; simp_all
  obtain ⟨rfl, rfl⟩ := trodVars_none hV
  obtain ⟨a0, rfl, rfl, rfl, w0⟩ := open_int Try.underlying3 (hval 0 3 v0 rfl rfl) h0
  obtain ⟨a1, rfl, rfl, rfl, w1⟩ := open_int Try.underlying3 (hval 1 3 v1 rfl rfl) h1
  obtain ⟨a2, rfl, rfl, rfl, w2⟩ := open_int Try.underlying22 (hval 2 22 v2 rfl rfl) h2
  clear hA0 hval0
  simp only [List.append_nil] at hW'
  refine (walk a0 a1 a2 w0 w1 w2 W).mono fun e W' ⟨he, hg⟩ => ?_
  subst he
  exact ⟨_, rfl, _, _, _, [], _, [], hW', (trodAll_cons_mk (shut_bool Try.underlying4 _) trodAll_mk0), (trodAll_cons_mk (shut_int Try.underlying3 w0) (trodAll_cons_mk (shut_int Try.underlying3 w1) (trodAll_cons_mk (shut_int Try.underlying22 w2) trodAll_mk0))), rfl, hg.frame _, fun h => by cases h⟩

theorem over : Rows.ghostLastRow.holds Try.pinned (OpenSpec.ofChange Rows.ghostLastSpec) :=
  OpenClaim.holds_of_wide 3 Try.f3 rfl rfl rfl rfl rfl rfl rfl ⟨rfl, rfl, rfl, rfl, rfl⟩ rfl rfl rfl rfl rfl (by kernel_rfl) Try.func3 (by kernel_rfl)
    (of_decide_eq_true (by kernel_rfl)) (by unfold Func.isWrapper; first | (rw [if_pos (by decide +kernel)]; kernel_rfl) | (rw [if_neg (by decide +kernel)]; exact ⟨rfl, rfl⟩))
    (fun os started H enc _ => lifted os started H enc)

/-- ████ THE STATEMENT ████ -/
theorem proved : Rows.GhostLastSaid :=
  over
#print axioms proved
end Go.Proofs.Ytadnommidmgaiaa.ghostLast
