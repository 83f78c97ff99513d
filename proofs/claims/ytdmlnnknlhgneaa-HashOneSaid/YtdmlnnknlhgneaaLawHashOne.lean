/- 'ambry/ambrylaw04.HashOne' returns true, for every input, and leaves its arguments as they were. No condition. -/
import Derived.Test.YtdmlnnknlhgneaaRows
import Derived.Test.YtdmlnnknlhgneaaFnv
import Derived.Deep.DeepCutAuto
import Derived.WalkKit
import Derived.ProofKit
import Derived.OpenShut
import Derived.ShutString
namespace Go.Proofs.Ytdmlnnknlhgneaa.hashOne
open Go.ChangeShapes Go.WideShapes Go.ChangeAt Go.RowKit
open Go.ChangeMaps (open_string shut_string)
set_option linter.unusedVariables false      -- a walk need not use every 'w<i>' (that an integer argument fits its kind)

theorem own : ownKnob Try.prog.godebug = none := by kernel_rfl

/-! ### STEP 1: THE WALK: the Go text returns true. 'Grown w w'': the world has at most new blocks (Derived/RowKit3.lean). Part the cases AHEAD of 'go_enter' where a test parts the walk; take each callee by a contract of your own. -/
theorem walk (a0 : Int) (a1 : Int) (a2 : Int) (a3 : Int) (w0 : (Lit.int .u64 a0).wf = true) (w1 : (Lit.int .u64 a1).wf = true) (w2 : (Lit.int .i64 a2).wf = true) (w3 : (Lit.int .i64 a3).wf = true) (w : World) :
    Calls Try.prog 8 #[.int .u64 a0, .int .u64 a1, .int .i64 a2, .int .i64 a3] w fun e w' => e = .returned (.bool true) ∧ Grown w w' := by
  have h0 := bounds_u64 w0
  have h1 := bounds_u64 w1
  have h2 := bounds_i64 w2
  have h3 := bounds_i64 w3
  go_enter Try.func8, Try.ntmps8
  by_cases hp : a2 < 0
  all_goals
    go_upto_region 4 with (go_at_call 9; refine (shown_any _).mono ?_; rintro e w' ⟨rfl, rfl⟩)
    go_cut [2] (fun s1 wx => ∃ p : Int, 0 ≤ p ∧ p ≤ 30 ∧ s1 = .int .i64 p ∧ w = wx)
    case first =>
      go_wp2
      go_meet
      first | exact ⟨_, by omega, by omega, rfl, rfl⟩ | (have hr := ntmod_rng (a2 + 1) 31 (by omega) (by omega); exact ⟨_, hr.1, by omega, rfl, rfl⟩)
    case rest =>
      obtain ⟨p, p0, p1, rfl, rfl⟩ := hcut
      go_upto_region 5 with fail
      go_cut [10] (fun s1 wx => ∃ x : Int, 0 ≤ x ∧ x ≤ 18446744073709551615 ∧ bkt x p = bkt a0 p ∧ s1 = .int .u64 x ∧ w = wx)
      case first =>
        go_wp2
        go_meet
        have hr := up_ok a0 a1 p p0 p1
        exact ⟨_, hr.1, hr.2.1, hr.2.2, rfl, rfl⟩
      case rest =>
        obtain ⟨x, x0, x1, hx, rfl, rfl⟩ := hcut
        have Hx := Lib.hid hx
        clear hx
        go_upto_region 6 with fail
        go_cut [11] (fun s1 wx => ∃ y : Int, 0 ≤ y ∧ y ≤ 18446744073709551615 ∧ stp y a3 = stp a0 a3 ∧ s1 = .int .u64 y ∧ w = wx)
        case first =>
          go_wp2
          go_meet
          have hr := low_ok a0 a1 a3 h0.1 h0.2 h1.1 h1.2
          exact ⟨_, hr.1, hr.2.1, hr.2.2, rfl, rfl⟩
        case rest =>
          obtain ⟨y, y0, y1, hy, rfl, rfl⟩ := hcut
          have hx := Hx.out
          have g1 := (one_ok a0).1
          have g2 := (one_ok a0).2
          go_wp2_with (first
            | (go_at_call 12; refine (bucket_any _ _ _ (by omega) (by omega)).mono ?_; rintro e w' ⟨rfl, rfl⟩)
            | (go_at_call 14; refine (stripe_any _ _ _ (by omega) (by omega) (by omega)).mono ?_; rintro e w' ⟨rfl, rfl⟩))
          go_ret
          exact ⟨rfl, Grown.refl _⟩

/-! ### THE ROW's STEP: WRITTEN OUT: LEAVE IT -/
set_option maxRecDepth 100000 in
theorem lifted (os : Os) (started : os.Started) (H : Type) (enc : TypeId × Value → H) :
    ReturnsInHanded {} Try.checked os 8 .any (Rows.hashOneSpec.pre6 enc Try.prog Try.f8 Rows.hashOneRow.domain false) (Rows.hashOneSpec.post enc Try.prog Try.f8 false true false false) := by
  refine returnsInHanded_of_change (C := Try.checked) own started (by kernel_rfl) Try.func8
    (ChangeSpec.witness6 (enc := enc) (C := Try.checked) false ⟨#[], #[.int .u64 0, .int .u64 0, .int .i64 0, .int .i64 0], []⟩ 8 (by kernel_rfl) (by kernel_rfl) (by kernel_rfl) (by kernel_rfl)) ?_
  intro W base args ds gs before hval0 hW hcnd _
  have hval : ∀ (j : Nat) t v, Try.f8.params[j]? = some t → args[j]? = some v → Value.okWide Try.prog W .any base t v := hval0
  have hW' := hW
  obtain ⟨p, q, hA0, hV, rfl, hfz, hnd⟩ := hW
  have hA : DataW.TrodAll enc Try.prog W 0 (fun _ => true) true Try.f8.params.toList args.toList ds p := hA0
  rw [Try.params8] at hA hval
  obtain ⟨v0, vs0, d0, ds0, p0, q0, hargs, rfl, rfl, h0, r0⟩ := trodAll_cons hA
  obtain ⟨v1, vs1, d1, ds1, p1, q1, rfl, rfl, rfl, h1, r1⟩ := trodAll_cons r0
  obtain ⟨v2, vs2, d2, ds2, p2, q2, rfl, rfl, rfl, h2, r2⟩ := trodAll_cons r1
  obtain ⟨v3, vs3, d3, ds3, p3, q3, rfl, rfl, rfl, h3, r3⟩ := trodAll_cons r2
  obtain ⟨rfl, rfl, rfl⟩ := trodAll_nil r3
  obtain rfl : args = #[v0, v1, v2, v3] := by cases args; simp_all
  obtain ⟨rfl, rfl⟩ := trodVars_none hV
  obtain ⟨a0, rfl, rfl, rfl, w0⟩ := open_int Try.underlying23 (hval 0 23 v0 rfl rfl) h0
  obtain ⟨a1, rfl, rfl, rfl, w1⟩ := open_int Try.underlying23 (hval 1 23 v1 rfl rfl) h1
  obtain ⟨a2, rfl, rfl, rfl, w2⟩ := open_int Try.underlying3 (hval 2 3 v2 rfl rfl) h2
  obtain ⟨a3, rfl, rfl, rfl, w3⟩ := open_int Try.underlying3 (hval 3 3 v3 rfl rfl) h3
  clear hA0 hval0
  simp only [List.append_nil] at hW'
  refine (walk a0 a1 a2 a3 w0 w1 w2 w3 W).mono fun e W' ⟨he, hg⟩ => ?_
  subst he
  exact ⟨_, rfl, post_of_same (pa := []) (pv := []) hW' (fun _ _ _ => (trodAll_cons_mk (shut_bool Try.underlying4 _) trodAll_mk0)) (fun sp _ => (trodAll_cons_mk (shut_int Try.underlying23 w0) (trodAll_cons_mk (shut_int Try.underlying23 w1) (trodAll_cons_mk (shut_int Try.underlying3 w2) (trodAll_cons_mk (shut_int Try.underlying3 w3) trodAll_mk0))))) (fun _ _ => rfl) rfl
    (hg.frame _) hg.2.1 (ok_one (by kernel_rfl) rfl (okWide_bool_mk Try.underlying4 _))⟩

theorem over : Rows.hashOneRow.holds Try.pinned (OpenSpec.ofChange Rows.hashOneSpec) :=
  OpenClaim.holds_of_wide 8 Try.f8 rfl rfl rfl rfl rfl rfl rfl ⟨rfl, rfl, rfl, rfl, rfl⟩ rfl rfl rfl rfl rfl (by kernel_rfl) Try.func8 (by kernel_rfl)
    (of_decide_eq_true (by kernel_rfl)) (by unfold Func.isWrapper; first | (rw [if_pos (by decide +kernel)]; kernel_rfl) | (rw [if_neg (by decide +kernel)]; exact ⟨rfl, rfl⟩))
    (fun os started H enc _ => lifted os started H enc)

/-- ████ THE STATEMENT ████ -/
theorem proved : Rows.HashOneSaid :=
  over
#print axioms proved
end Go.Proofs.Ytdmlnnknlhgneaa.hashOne
