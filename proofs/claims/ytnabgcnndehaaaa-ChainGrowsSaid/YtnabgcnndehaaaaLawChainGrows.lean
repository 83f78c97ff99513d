/- 'ambry/ambrylaw09.ChainGrows' returns true, for every input, and leaves its arguments as they were. No condition. -/
import Derived.Test.YtnabgcnndehaaaaIn
import Derived.Test.YtnabgcnndehaaaaChGrow
import Derived.Test.YtnabgcnndehaaaaIn
import Derived.Deep.QuietTactic
import Derived.BigQuiet
import Derived.Deep.DeepCutAuto
import Derived.Deep.CutBlock
import Derived.Deep.RegionHeld3
import Derived.WalkKit
import Derived.ProofKit
import Derived.OpenShut
import Derived.ShutString
import Derived.ChangeOld
import Derived.Below
namespace Go.Proofs.Ytnabgcnndehaaaa.chainGrows
open Go.ChangeShapes Go.WideShapes Go.ChangeAt Go.RowKit
open Go.ChangeMaps (open_string shut_string)
set_option linter.unusedVariables false

theorem own : ownKnob Try.prog.godebug = none := by kernel_rfl
theorem laidOut : laidOutB Try.prog = true := by kernel_rfl

set_option maxRecDepth 100000 in
set_option maxHeartbeats 4000000 in
theorem walk (w : World) (a0 : Int) (w0 : (Lit.int .i64 a0).wf = true) :
    Calls Try.prog 3 #[.int .i64 a0] w fun e w' => e = .returned (.bool true) ∧ Below w.heap.size w w' := by
  -- WALK
  have b0 := bounds_i64 w0
  go_enter Try.func3, Try.ntmps3
  go_wp2_with fail
  refine (shown_any _).mono ?_
  rintro e y1 ⟨rfl, hF⟩
  have HF := Lib.hid (hF.mono (T := From w.heap.size) (fun _ _ h => h.elim))
  clear hF
  go_wp2_with fail
  refine (new_ct (w0 := w) HF.out).mono ?_
  rintro e y2 ⟨t, S, rfl, h, _, _⟩
  have H2 := Lib.hid h
  clear h HF
  go_upto_if 18 with fail
  go_cut [0] (fun s wx => ∃ q : Nat, q ≤ 9223372036854775807 ∧ s = .int .i64 q ∧ y2 = wx)
  case first =>
    by_cases hp : a0 < 0
    · go_wp2
      go_meet
      exact ⟨(-(a0 + 1)).toNat, by omega, by rw [Int.toNat_of_nonneg (by omega)], rfl⟩
    · go_wp2
      go_meet
      exact ⟨a0.toNat, by omega, by rw [Int.toNat_of_nonneg (by omega)], rfl⟩
  case rest =>
    obtain ⟨q0, hq0, rfl, rfl⟩ := hcut
    clear b0
    go_upto_region 7 with fail
    go_cut [0] (fun s wx => ∃ n : Nat, n < 500 ∧ s = .int .i64 n ∧ y2 = wx)
    case first =>
      go_wp2
      go_meet
      exact ⟨q0 % 500, by omega, by simp <;> omega, rfl⟩
    case rest =>
      obtain ⟨n, hn, rfl, rfl⟩ := hcut
      clear hq0
      go_wp2_with fail
      go_loopw [5] (fun i wr => ∃ (k : Nat) (s : ChS) (S : Nat → Prop), k ≤ n ∧ i = .int .i64 k ∧ Sep (CT t s) w wr S ∧ Gr k s) (fun i _ => n - (intOf i).toNat)
      case atStart => exact ⟨0, ch0, _, by omega, rfl, H2.out, gr_start⟩
      case round =>
        clear H2
        obtain ⟨k, s, S, hk, rfl, h, hG⟩ := hrel
        have Hk := Lib.hid (And.intro h hG)
        clear h hG
        by_cases hlt : k < n
        · have hcv := conv2 (97 + (k : Int) / 26) (97 + (k : Int) % 26) wr
          have hz : (strOfNums [97 + (k : Int) / 26, 97 + (k : Int) % 26]).size = 2 := by rw [strOfNums_size]; rfl
          obtain ⟨sb, hsb⟩ : ∃ sb, strOfNums [97 + (k : Int) / 26, 97 + (k : Int) % 26] = sb := ⟨_, rfl⟩
          rw [hsb] at hcv hz
          obtain ⟨wb, hwb⟩ : ∃ wb, wr.alloc (.cells #[.int .u8 (97 + (k : Int) / 26), .int .u8 (97 + (k : Int) % 26)] 5) = wb := ⟨_, rfl⟩
          rw [hwb] at hcv
          have hb : Sep (CT t s) w wb S := by rw [← hwb]; exact sep_fr (ct_frm t s) Hk.out.1 ((Fr.refl _ wr).alloc _)
          have hkey : ByteArray.mk #[107] ++ sb = keyG k := by
            rw [← hsb]
            unfold keyG key2
            rw [show ((97 + k / 26 : Nat) : Int) = 97 + (k : Int) / 26 from by omega, show ((97 + k % 26 : Nat) : Int) = 97 + (k : Int) % 26 from by omega]
          have HB := Lib.hid (And.intro hb hkey)
          clear hb hkey hsb
          go_wp2_with fail
          rw [HB.out.2]
          have HK2 := Lib.hid hlt
          refine (set_ct HB.out.1 (keyG k) k (by unfold keyG; rw [key2_size]; omega) (by have := Hk.out.2.n; omega)).mono ?_
          rintro e z1 ⟨rfl, h, _⟩
          have Z1 := Lib.hid h
          clear h hcv hz hwb
          go_wp2_with fail
          refine (step_ct Z1.out).mono ?_
          rintro e z2 ⟨rfl, h, _⟩
          have hGn := Hk.out.2.next (ct_w Hk.out.1) (by omega) (ct_w Z1.out)
          obtain ⟨s2, hs2⟩ : ∃ s2, stepS (setS s (keyG k) k) = s2 := ⟨_, rfl⟩
          rw [hs2] at h hGn
          have hW2 := ct_w h
          have hroom := hGn.room hW2
          obtain ⟨P, hP⟩ : ∃ P, s2.pw = P := ⟨_, rfl⟩
          have hp2 := hW2.p2
          have hp20 := hW2.p20
          have hcast := pw_cast s2.pw
          have htwo := two_pw hW2.p2 hW2.p20
          rw [hP] at hp2 hp20 hcast hroom htwo
          have HP := Lib.hid hP
          have HN := Lib.hid hGn.n
          have Z2 := Lib.hid (And.intro h hGn)
          clear h hGn hs2 hW2 hP
          go_wp2_with fail
          refine (power_ct Z2.out.1).mono ?_
          rintro e z3 ⟨rfl, rfl⟩
          rw [HP.out]
          have d1 : decide ((P : Int) < 2) = false := decide_eq_false (by omega)
          go_wp2_with fail
          refine (power_ct Z2.out.1).mono ?_
          rintro e z3 ⟨rfl, rfl⟩
          rw [HP.out]
          have d2 : decide ((20 : Int) < (P : Int)) = false := decide_eq_false (by omega)
          go_wp2_with fail
          refine (len_ct Z2.out.1).mono ?_
          rintro e z3 ⟨rfl, rfl⟩
          rw [HN.out]
          go_wp2_with fail
          refine (power_ct Z2.out.1).mono ?_
          rintro e z3 ⟨rfl, rfl⟩
          rw [HP.out]
          go_wp2_with fail
          exact ⟨⟨k + 1, s2, _, by omega, by go_num, Z2.out.1, Z2.out.2⟩, by simp [intOf]; omega⟩
        · obtain rfl : k = n := by omega
          clear hlt hk
          have hW := ct_w Hk.out.1
          have hG := Hk.out.2
          have hp2 := hW.p2
          have hp20 := hW.p20
          have htwo := two_pw hp2 hp20
          have hcast := pw_cast (s.pw - 1)
          obtain ⟨P, hP⟩ : ∃ P, s.pw = P := ⟨_, rfl⟩
          rw [hP] at hp2 hp20 hcast htwo
          obtain ⟨M, hM⟩ : ∃ M, 2 ^ (P - 1) = M := ⟨_, rfl⟩
          rw [hM] at hcast htwo
          have HP := Lib.hid (And.intro hP (And.intro hM hG.n))
          have hwr : IntKind.i64.wrap ((P : Int) - 1) = ((P - 1 : Nat) : Int) := by rw [IntKind.wrap_i64]; omega
          clear hW hG hP hM
          obtain ⟨w3, rfl⟩ : ∃ wo : World, wo = wr := ⟨_, rfl⟩
          go_wp2_with fail
          refine (power_ct Hk.out.1).mono ?_
          rintro e z3 ⟨rfl, rfl⟩
          rw [HP.out.1]
          go_wp2_with fail
          rw [← hcast]
          have HE := Lib.hid (show En (k : Int) M 0 s from ⟨HP.out.2.2, by rw [HP.out.1]; exact HP.out.2.1, fun _ => Nat.zero_le _⟩)
          clear hwr hcast
          go_loopw [7, 8] (fun i _ wr => ∃ (j : Nat) (s : ChS) (S : Nat → Prop), j ≤ M ∧ i = .int .i64 j ∧ Sep (CT t s) w wr S ∧ En (k : Int) M j s) (fun i _ _ => M - (intOf i).toNat)
          case atStart => exact ⟨0, s, _, by omega, rfl, Hk.out.1, HE.out⟩
          case round =>
            clear Hk HE
            obtain ⟨j, s, S, hj, rfl, h, hE⟩ := hrel
            have Hj := Lib.hid (And.intro h hE)
            clear h hE
            by_cases hlt : j < M ∧ s.g = true
            · obtain ⟨hlt, hg⟩ := hlt
              have d0 : ((j : Int) < M) := by omega
              obtain ⟨m, hm⟩ : ∃ m, s.m = m := ⟨_, rfl⟩
              have hmv : movedS s = (m : Int) := by rw [movedS_yes hg, hm]
              have HM := Lib.hid (And.intro hmv hg)
              have HW2 := Lib.hid (step_w (ct_w Hj.out.1))
              clear hmv hg hm
              go_wp2_with fail
              refine (moved_ct Hj.out.1).mono ?_
              rintro e z1 ⟨rfl, rfl⟩
              rw [HM.out.1]
              go_wp2_with fail
              refine (step_ct Hj.out.1).mono ?_
              rintro e z2 ⟨rfl, h, _⟩
              have Z2 := Lib.hid (And.intro h (Hj.out.2.next HM.out.2))
              clear h
              obtain ⟨s2, hs2⟩ : ∃ s2, stepS s = s2 := ⟨_, rfl⟩
              rw [hs2] at Z2 ⊢
              clear hs2 HW2
              rcases hg2 : s2.g with _ | _
              · have HMV := Lib.hid (movedS_no hg2)
                clear hg2
                go_wp2_with fail
                refine (moved_ct Z2.out.1).mono ?_
                rintro e z3 ⟨rfl, rfl⟩
                rw [HMV.out]
                go_wp2_with fail
                exact ⟨⟨j + 1, s2, _, by omega, by go_num, Z2.out.1, Z2.out.2⟩, by simp [intOf]; omega⟩
              · obtain ⟨m2, hm2⟩ : ∃ m, s2.m = m := ⟨_, rfl⟩
                have HMV := Lib.hid ((movedS_yes hg2).trans (congrArg Nat.cast hm2 : ((s2.m : Nat) : Int) = (m2 : Int)))
                clear hg2 hm2
                go_wp2_with fail
                refine (moved_ct Z2.out.1).mono ?_
                rintro e z3 ⟨rfl, rfl⟩
                rw [HMV.out]
                go_wp2_with fail
                exact ⟨⟨j + 1, s2, _, by omega, by go_num, Z2.out.1, Z2.out.2⟩, by simp [intOf]; omega⟩
            · have hg : s.g = false := by
                cases hg : s.g with
                | false => rfl
                | true => exact Hj.out.2.done (ct_w Hj.out.1) (by have : ¬ j < M := fun q => hlt ⟨q, hg⟩; omega) ▸ hg.symm ▸ rfl
              have HM := Lib.hid (And.intro (movedS_no hg) (And.intro hg Hj.out.2.n))
              clear hlt hg
              obtain ⟨w4, rfl⟩ : ∃ wo : World, wo = wr := ⟨_, rfl⟩
              by_cases hlt : j < M
              all_goals
                go_wp2_with (refine (moved_ct Hj.out.1).mono ?_; rintro e z1 ⟨rfl, rfl⟩; rw [HM.out.1])
                refine (step_ct Hj.out.1).mono ?_
                rintro e z2 ⟨rfl, h, _⟩
                rw [stepS_no HM.out.2.1] at h ⊢
                rw [HM.out.2.1]
                have Z2 := Lib.hid h
                clear h
                go_wp2_with fail
                refine (len_ct Z2.out).mono ?_
                rintro e z3 ⟨rfl, rfl⟩
                rw [HM.out.2.2]
                go_wp2_with fail
                go_ret
                exact ⟨rfl, Z2.out.below⟩

set_option maxRecDepth 100000 in
theorem lifted (os : Os) (started : os.Started) (H : Type) (enc : TypeId × Value → H) :
    ReturnsInHanded {} Try.checked os 3 .any (Rows.chainGrowsSpec.pre6 enc Try.prog Try.f3 Rows.chainGrowsRow.domain false) (Rows.chainGrowsSpec.post enc Try.prog Try.f3 false true false false) := by
  refine returnsInHanded_of_change (C := Try.checked) own started (by kernel_rfl) Try.func3
    (ChangeSpec.witness6 (enc := enc) (C := Try.checked) false ⟨#[], #[.int .i64 0], []⟩ 8 (by kernel_rfl) (by kernel_rfl) (by kernel_rfl) (by kernel_rfl)) ?_
  intro W base args ds gs before hval0 hW hcnd _
  have hval : ∀ (j : Nat) t v, Try.f3.params[j]? = some t → args[j]? = some v → Value.okWide Try.prog W .any base t v := hval0
  have hW' := hW
  obtain ⟨p, q, hA0, hV, rfl, hfz, hnd⟩ := hW
  have hA : DataW.TrodAll enc Try.prog W 0 (fun _ => true) true Try.f3.params.toList args.toList ds p := hA0
  rw [Try.params3] at hA hval
  obtain ⟨v0, vs0, d0, ds0, p0, q0, hargs, rfl, rfl, h0, r0⟩ := trodAll_cons hA
  obtain ⟨rfl, rfl, rfl⟩ := trodAll_nil r0
  obtain rfl : args = #[v0] := by cases args; simp_all
  obtain ⟨rfl, rfl⟩ := trodVars_none hV
  obtain ⟨a0, rfl, rfl, rfl, w0⟩ := open_int Try.underlying3 (hval 0 3 v0 rfl rfl) h0
  clear hA0 hval0
  refine (walk W a0 w0).mono fun e W' ⟨he, bel⟩ => ?_
  subst he
  exact ⟨_, rfl, _, _, _, [], _, [], hW', trodAll_mk1 (shut_bool Try.underlying4 _), (trodAll_cons_mk (shut_int Try.underlying3 w0) trodAll_mk0), rfl, bel.frame _, fun h => by cases h⟩

theorem over : Rows.chainGrowsRow.holds Try.pinned (OpenSpec.ofChange Rows.chainGrowsSpec) :=
  OpenClaim.holds_of_wide 3 Try.f3 rfl rfl rfl rfl rfl rfl rfl ⟨rfl, rfl, rfl, rfl, rfl⟩ rfl rfl rfl rfl rfl (by kernel_rfl) Try.func3 (by kernel_rfl)
    (of_decide_eq_true (by kernel_rfl)) (by unfold Func.isWrapper; first | (rw [if_pos (by decide +kernel)]; kernel_rfl) | (rw [if_neg (by decide +kernel)]; exact ⟨rfl, rfl⟩))
    (fun os started H enc _ => lifted os started H enc)

theorem proved : Rows.ChainGrowsSaid := over
#print axioms proved
end Go.Proofs.Ytnabgcnndehaaaa.chainGrows
