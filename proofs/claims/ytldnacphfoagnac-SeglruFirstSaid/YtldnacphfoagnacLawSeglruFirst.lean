/- 'ambry/ambrylaw12.SeglruFirst' returns true, for every input, and leaves its arguments as they were. No condition. -/
import Derived.Test.YtldnacphfoagnacIn
import Derived.Test.YtldnacphfoagnacSegShown
import Derived.Test.YtldnacphfoagnacSegFirst
import Derived.WalkKit
import Derived.ProofKit
import Derived.OpenShut
import Derived.ShutString
import Derived.ChangeOld
import Derived.Below
namespace Go.Proofs.Ytldnacphfoagnac.seglruFirst
open Go.ChangeShapes Go.WideShapes Go.ChangeAt Go.RowKit
open Go.ChangeMaps (open_string shut_string)
set_option linter.unusedVariables false

theorem own : ownKnob Try.prog.godebug = none := by kernel_rfl
theorem laidOut : laidOutB Try.prog = true := by kernel_rfl

set_option maxRecDepth 100000 in
set_option maxHeartbeats 4000000 in
theorem walk (w : World) (a0 : Int) (w0 : (Lit.int .i64 a0).wf = true) :
    Calls Try.prog 4 #[.int .i64 a0] w fun e w' => e = .returned (.bool true) ∧ Below w.heap.size w w' := by
  obtain ⟨n, hn', hn63⟩ := and_mask a0 63 (by decide)
  have hn : bits .and .i64 a0 63 = n := hn'
  clear hn'
  go_enter Try.func4, Try.ntmps4
  go_wp2_with fail
  refine (shown_any _).mono ?_
  rintro e y1 ⟨rfl, hF⟩
  have HF := Lib.hid (hF.mono (T := From w.heap.size) (fun _ _ h => h.elim))
  clear hF
  go_wp2_with fail
  refine (new_sg (w0 := w) HF.out).mono ?_
  rintro e y2 ⟨p, S, rfl, h, _, _⟩
  have H := Lib.hid h
  clear h HF
  go_wp2_with fail
  go_loopw [5] (fun s wr => ∃ (k : Nat) (L : Nat → List Int) (S : Nat → Prop), k ≤ n ∧ s = .int .i64 k ∧ Sep (SG p L (fun _ => false) k) w wr S ∧ FI L (fun _ => false) (up 0 k).reverse ∧ L 2 = []) (fun s _ => n - (intOf s).toNat)
  case atStart => exact ⟨0, _, S, by omega, rfl, H.out, ⟨rfl, rfl, fun _ _ => rfl, fun _ => rfl, List.nodup_nil, fun x hx => by cases hx⟩, rfl⟩
  case round =>
    clear H
    obtain ⟨k, L, S, hk, rfl, h, hI, h2⟩ := hrel
    have Hk := Lib.hid (And.intro h (And.intro hI h2))
    clear h hI h2
    by_cases hlt : k < n
    · go_wp2_with fail
      refine (insert_sg Hk.out.1 k (by omega)).mono ?_
      rintro e y3 ⟨rfl, h, _⟩
      have H3 := Lib.hid h
      clear h
      go_wp2_with fail
      go_roundw
      case rel =>
        have hno : (k : Int) ∉ (up 0 k).reverse := fun q => by rw [List.mem_reverse, mem_up] at q; omega
        obtain ⟨hI, h2⟩ := Hk.out.2.1.insert hno Hk.out.2.2 (by omega)
        exact ⟨k + 1, _, _, by omega, by go_num, H3.out, by rw [up_snoc, List.reverse_append]; exact hI, h2⟩
      case measure => simp [intOf]; omega
    · obtain rfl : k = n := by omega
      obtain ⟨wz, rfl⟩ : ∃ wz : World, wz = wr := ⟨_, rfl⟩
      go_wp2_with fail
      go_loopw [6, 7] (fun s _ wr => ∃ (i N : Nat) (L : Nat → List Int) (A : Int → Bool) (S : Nat → Prop), i ≤ k ∧ N ≤ 63 + 301 * i ∧ s = .int .i64 i ∧ Sep (SG p L A N) w wr S ∧ FI L A (up i (k - i)).reverse) (fun s _ _ => k - (intOf s).toNat)
      case atStart => exact ⟨0, k, L, _, S, by omega, by omega, rfl, Hk.out.1, Hk.out.2.1⟩
      case round =>
        clear Hk
        obtain ⟨i, N, L, A, S, hi, hN, rfl, h, hI⟩ := hrel
        have Hi := Lib.hid (And.intro h hI)
        clear h hI
        by_cases hil : i < k
        · obtain ⟨wo, rfl⟩ : ∃ wo : World, wo = wr := ⟨_, rfl⟩
          go_wp2_with fail
          go_loopw [7] (fun s wr => ∃ (j N2 : Nat) (L : Nat → List Int) (A : Int → Bool) (S : Nat → Prop), j ≤ 300 ∧ N2 ≤ N + j ∧ s = .int .i64 j ∧ Sep (SG p L A N2) w wr S ∧ FI L A (up i (k - i)).reverse) (fun s _ => 300 - (intOf s).toNat)
          case atStart => exact ⟨0, N, L, A, S, by omega, by omega, rfl, Hi.out.1, Hi.out.2⟩
          case round =>
            clear Hi
            obtain ⟨j, N2, L2, A2, S2, hj, hN2, rfl, h, hI⟩ := hrel
            have Hj := Lib.hid (And.intro h hI)
            clear h hI
            by_cases hjl : j < 300
            · go_wp2_with fail
              refine (step_sg Hj.out.1 (by omega)).mono ?_
              rintro e y4 ⟨rfl, h, _⟩
              have H4 := Lib.hid h
              clear h
              rcases hd : decide (0 ≤ whoF L2 A2) with _ | _
              · go_wp2_with fail
                have hI4 := Hj.out.2.step
                have hv := hI4.vict
                obtain ⟨m, hm⟩ : ∃ m, k - i = m + 1 := ⟨k - i - 1, by omega⟩
                rw [hm] at hI4 hv
                rw [down_last] at hv
                have hrow := hI4.row i
                rw [decide_eq_true (show (i : Int) ∈ (up i (m + 1)).reverse from by rw [List.mem_reverse, mem_up]; omega)] at hrow
                have hrem := hI4.remove i
                rw [down_filter, show m = k - (i + 1) from by omega] at hrem
                have HX := Lib.hid (And.intro hv (And.intro hrow hrem))
                clear hI4 hv hrow hrem hm
                refine (victim_sg H4.out).mono ?_
                rintro e y5 ⟨q5, rfl, rfl, h⟩
                have H5 := Lib.hid h
                clear h
                rw [HX.out.1]
                go_wp2_with fail
                refine (remove_sg H5.out i (by omega)).mono ?_
                rintro e y6 ⟨rfl, h, _⟩
                have H6 := Lib.hid h
                clear h
                rw [HX.out.2.1]
                go_wp2_with fail
                go_roundw
                case rel => exact ⟨i + 1, _, _, _, _, by omega, by omega, by go_num, H6.out, HX.out.2.2⟩
                case measure => simp [intOf]; omega
              · go_wp2_with fail
                go_roundw
                case rel => exact ⟨j + 1, N2 + 1, _, _, _, by omega, by omega, by go_num, H4.out, Hj.out.2.step⟩
                case measure => simp [intOf]; omega
            · have hI4 := Hj.out.2
              have hv := hI4.vict
              obtain ⟨m, hm⟩ : ∃ m, k - i = m + 1 := ⟨k - i - 1, by omega⟩
              rw [hm] at hI4 hv
              rw [down_last] at hv
              have hrow := hI4.row i
              rw [decide_eq_true (show (i : Int) ∈ (up i (m + 1)).reverse from by rw [List.mem_reverse, mem_up]; omega)] at hrow
              have hrem := hI4.remove i
              rw [down_filter, show m = k - (i + 1) from by omega] at hrem
              have HX := Lib.hid (And.intro hv (And.intro hrow hrem))
              clear hI4 hv hrow hrem hm
              go_wp2_with fail
              refine (victim_sg Hj.out.1).mono ?_
              rintro e y5 ⟨q5, rfl, rfl, h⟩
              have H5 := Lib.hid h
              clear h
              rw [HX.out.1]
              go_wp2_with fail
              refine (remove_sg H5.out i (by omega)).mono ?_
              rintro e y6 ⟨rfl, h, _⟩
              have H6 := Lib.hid h
              clear h
              rw [HX.out.2.1]
              go_wp2_with fail
              go_roundw
              case rel => exact ⟨i + 1, _, _, _, _, by omega, by omega, by go_num, H6.out, HX.out.2.2⟩
              case measure => simp [intOf]; omega
        · obtain rfl : i = k := by omega
          have hI := Hi.out.2
          rw [show i - i = 0 from by omega, show up i 0 = [] from rfl] at hI
          have HX := Lib.hid hI.none
          clear hI
          go_wp2_with fail
          refine (victim_sg Hi.out.1).mono ?_
          rintro e y5 ⟨q5, rfl, rfl, h⟩
          have H5 := Lib.hid h
          clear h
          rw [HX.out.1]
          go_wp2_with fail
          refine (step_sg H5.out (by omega)).mono ?_
          rintro e y6 ⟨rfl, h, _⟩
          have H6 := Lib.hid h
          clear h
          rw [HX.out.2]
          go_wp2
          go_ret
          exact ⟨rfl, H6.out.below⟩

set_option maxRecDepth 100000 in
theorem lifted (os : Os) (started : os.Started) (H : Type) (enc : TypeId × Value → H) :
    ReturnsInHanded {} Try.checked os 4 .any (Rows.seglruFirstSpec.pre6 enc Try.prog Try.f4 Rows.seglruFirstRow.domain false) (Rows.seglruFirstSpec.post enc Try.prog Try.f4 false true false false) := by
  refine returnsInHanded_of_change (C := Try.checked) own started (by kernel_rfl) Try.func4
    (ChangeSpec.witness6 (enc := enc) (C := Try.checked) false ⟨#[], #[.int .i64 0], []⟩ 8 (by kernel_rfl) (by kernel_rfl) (by kernel_rfl) (by kernel_rfl)) ?_
  intro W base args ds gs before hval0 hW hcnd _
  have hval : ∀ (j : Nat) t v, Try.f4.params[j]? = some t → args[j]? = some v → Value.okWide Try.prog W .any base t v := hval0
  have hW' := hW
  obtain ⟨p, q, hA0, hV, rfl, hfz, hnd⟩ := hW
  have hA : DataW.TrodAll enc Try.prog W 0 (fun _ => true) true Try.f4.params.toList args.toList ds p := hA0
  rw [Try.params4] at hA hval
  obtain ⟨v0, vs0, d0, ds0, p0, q0, hargs, rfl, rfl, h0, r0⟩ := trodAll_cons hA
  obtain ⟨rfl, rfl, rfl⟩ := trodAll_nil r0
  obtain rfl : args = #[v0] := by cases args; simp_all
  obtain ⟨rfl, rfl⟩ := trodVars_none hV
  obtain ⟨a0, rfl, rfl, rfl, w0⟩ := open_int Try.underlying3 (hval 0 3 v0 rfl rfl) h0
  clear hA0 hval0
  refine (walk W a0 w0).mono fun e W' ⟨he, bel⟩ => ?_
  subst he
  exact ⟨_, rfl, _, _, _, [], _, [], hW', trodAll_mk1 (shut_bool Try.underlying4 _), (trodAll_cons_mk (shut_int Try.underlying3 w0) trodAll_mk0), rfl, bel.frame _, fun h => by cases h⟩

theorem over : Rows.seglruFirstRow.holds Try.pinned (OpenSpec.ofChange Rows.seglruFirstSpec) :=
  OpenClaim.holds_of_wide 4 Try.f4 rfl rfl rfl rfl rfl rfl rfl ⟨rfl, rfl, rfl, rfl, rfl⟩ rfl rfl rfl rfl rfl (by kernel_rfl) Try.func4 (by kernel_rfl)
    (of_decide_eq_true (by kernel_rfl)) (by unfold Func.isWrapper; first | (rw [if_pos (by decide +kernel)]; kernel_rfl) | (rw [if_neg (by decide +kernel)]; exact ⟨rfl, rfl⟩))
    (fun os started H enc _ => lifted os started H enc)

theorem proved : Rows.SeglruFirstSaid := over
#print axioms proved
end Go.Proofs.Ytldnacphfoagnac.seglruFirst
