/- 'ambry/ambrylaw12.SeglruPasses' returns true, for every input, and leaves its arguments as they were. No condition. -/
import Derived.Test.YtldnacphfoagnacIn
import Derived.Test.YtldnacphfoagnacSegShown
import Derived.Test.YtldnacphfoagnacSegPass
import Derived.Deep.QuietTactic
import Derived.BigQuiet
import Derived.Deep.DeepCutAuto
import Derived.Deep.CutBlock
import Derived.WalkKit
import Derived.ProofKit
import Derived.OpenShut
import Derived.ShutString
import Derived.ChangeOld
import Derived.Below
namespace Go.Proofs.Ytldnacphfoagnac.seglruPasses
open Go.ChangeShapes Go.WideShapes Go.ChangeAt Go.RowKit
open Go.ChangeMaps (open_string shut_string)
set_option linter.unusedVariables false

theorem own : ownKnob Try.prog.godebug = none := by kernel_rfl
theorem laidOut : laidOutB Try.prog = true := by kernel_rfl

def itM : Nat → Mk → Mk
  | 0, s => s
  | j + 1, s => stepM (itM j s)
theorem and_small (y : Nat) (h : y ≤ 131071) : bits .and .i64 (y : Int) 131071 = (y : Int) := by
  have hb : (BitVec.ofInt 64 (131071 : Int)).toNat = 131071 := by rfl
  have hy : (BitVec.ofInt 64 (y : Int)).toNat = y := by
    rw [BitVec.ofInt_natCast, BitVec.toNat_ofNat]; exact Nat.mod_eq_of_lt (by omega)
  show IntKind.i64.wrap ((BitVec.ofInt 64 (y : Int) &&& BitVec.ofInt 64 (131071 : Int)).toNat : Int) = _
  rw [BitVec.toNat_and, hb, hy, show (131071 : Nat) = 2 ^ 17 - 1 from rfl, Nat.and_two_pow_sub_one_eq_mod, Nat.mod_eq_of_lt (by omega), IntKind.wrap_i64]
  omega
theorem own_wide {L : Nat → List Int} (h : Own3 L) : ∀ x, x ∈ flat L 3 → 0 ≤ x ∧ x ≤ 4194303 := fun x hx => by
  obtain ⟨r, hr, hm⟩ := mem_flat.1 hx
  exact h.range r x hr hm
theorem row_of_not {L : Nat → List Int} {x : Int} (h : x ∉ flat L 3) : decide (rowOf 3 L x < 0) = true := by
  have : ¬ 0 ≤ rowOf 3 L x := fun q => h (rowOf_nonneg.1 q)
  exact decide_eq_true (by omega)
theorem del_flat {L : Nat → List Int} {v x : Int} (h : x ∈ flat (del L v) 3) : x ∈ flat L 3 := by
  obtain ⟨r, hr, hm⟩ := mem_flat.1 h
  exact mem_flat.2 ⟨r, hr, (List.mem_filter.1 hm).1⟩
set_option maxRecDepth 100000 in
set_option maxHeartbeats 4000000 in
theorem walk (w : World) (a0 : Int) (w0 : (Lit.int .i64 a0).wf = true) (a1 : Int) (w1 : (Lit.int .i64 a1).wf = true) :
    Calls Try.prog 3 #[.int .i64 a0, .int .i64 a1] w fun e w' => e = .returned (.bool true) ∧ Below w.heap.size w w' := by
  have b0 := bounds_i64 w0
  obtain ⟨d, hd', hd16⟩ := and_mask a1 65535 (by decide)
  have hd : bits .and .i64 a1 65535 = d := hd'
  clear hd'
  go_enter Try.func3, Try.ntmps3
  go_wp2_with fail
  refine (shown_any _).mono ?_
  rintro e y1 ⟨rfl, hF⟩
  have HF := Lib.hid (hF.mono (T := From w.heap.size) (fun _ _ h => h.elim))
  clear hF
  go_wp2_with fail
  refine (new_sg (w0 := w) HF.out).mono ?_
  rintro e y2 ⟨p, S, rfl, h, _, _⟩
  have H := Lib.hid h
  clear h HF
  go_upto_if 20 with fail
  go_cut [0] (fun s wx => ∃ q : Nat, q ≤ 9223372036854775807 ∧ s = .int .i64 q ∧ y2 = wx)
  case first =>
    by_cases hp : a0 < 0
    · go_wp2
      go_meet
      exact ⟨(-(a0 + 1)).toNat, by omega, by rw [Int.toNat_of_nonneg (by omega)], rfl⟩
    · go_wp2
      go_meet
      exact ⟨a0.toNat, by omega, by rw [Int.toNat_of_nonneg (by omega)], rfl⟩
  case rest =>
    obtain ⟨q0, hq0, rfl, rfl⟩ := hcut
    clear b0
    go_upto_region 7 with fail
    go_cut [0] (fun s wx => ∃ n : Nat, n ≤ 199 ∧ s = .int .i64 n ∧ y2 = wx)
    case first =>
      go_wp2
      go_meet
      exact ⟨q0 % 200, by omega, by simp, rfl⟩
    case rest =>
      obtain ⟨n, hn, rfl, rfl⟩ := hcut
      clear hq0
      go_wp2_with fail
      go_loopw [7] (fun s wr => ∃ (k N : Nat) (L : Nat → List Int) (A : Int → Bool) (S : Nat → Prop), k ≤ 9 ∧ N ≤ k ∧ s = .int .i64 k ∧ Sep (SG p L A N) w wr S ∧ Ab d L A (List.replicate k false, [], [], false) ∧ ∀ x, x ∈ flat L 3 → (d : Int) < x ∧ x ≤ d + k) (fun s _ => 9 - (intOf s).toNat)
      case atStart => exact ⟨0, 0, _, _, S, by omega, by omega, rfl, H.out, ⟨rfl, rfl, rfl, rfl, (fun x h => by cases h)⟩, fun x hx => by rw [mem_flat] at hx; obtain ⟨_, _, h⟩ := hx; cases h⟩
      case round =>
        clear H
        obtain ⟨k, N, L, A, S, hk, hN, rfl, h, hA, hB⟩ := hrel
        have Hk := Lib.hid (And.intro h (And.intro hA hB))
        clear h hA hB
        by_cases hlt : k < 9
        · have hval : bits .and .i64 ((d : Int) + 1 + k) 131071 = (d : Int) + 1 + k := by
            have := and_small (d + 1 + k) (by omega)
            simpa using this
          go_wp2_with fail
          refine (insert_sg Hk.out.1 ((d : Int) + 1 + k) (by omega)).mono ?_
          rintro e y3 ⟨rfl, h, _⟩
          have H3 := Lib.hid h
          clear h
          go_wp2_with fail
          go_roundw
          case rel =>
            have hno : ((d : Int) + 1 + k) ∉ flat L 3 := fun q => by have := Hk.out.2.2 _ q; omega
            have hi := ins_ab Hk.out.2.1 hno (by omega)
            have hne : (((d : Int) + 1 + k) == (d : Int)) = false := by rw [beq_eq_false_iff_ne]; omega
            rw [hne] at hi
            refine ⟨k + 1, N + 1, _, _, _, by omega, by omega, by go_num, H3.out, hi, fun x hx => ?_⟩
            rcases (ins_mem (by omega)).1 hx with q | q
            · omega
            · have := Hk.out.2.2 x q; omega
          case measure => simp [intOf]; omega
        · obtain rfl : k = 9 := by omega
          obtain ⟨wz, rfl⟩ : ∃ wz : World, wz = wr := ⟨_, rfl⟩
          have hno : (d : Int) ∉ flat L 3 := fun q => by have := Hk.out.2.2 _ q; omega
          have hmay : mayIn 3 0 (d : Int) = true := decide_eq_true ⟨by decide, by decide, by omega⟩
          have hrow := row_of_not hno
          have hi := ins_ab Hk.out.2.1 hno (by omega)
          rw [show ((d : Int) == (d : Int)) = true from by simp] at hi
          have hbd : ∀ x, x ∈ flat (insL L d) 3 → x < 200000 := fun x hx => by
            rcases (ins_mem (by omega)).1 hx with q | q
            · omega
            · have := Hk.out.2.2 x q; omega
          have HI := Lib.hid (And.intro hi (And.intro hbd (And.intro hmay hrow)))
          clear hno hmay hrow hi hbd
          go_wp2_with fail
          refine (insert_sg Hk.out.1 d (by omega)).mono ?_
          rintro e y3 ⟨rfl, h, _⟩
          have H3 := Lib.hid h
          clear h
          rw [HI.out.2.2.1, HI.out.2.2.2]
          go_wp2_with fail
          go_loopw [8, 9, 10] (fun t _ _ wr => ∃ (i N : Nat) (L : Nat → List Int) (A : Int → Bool) (S : Nat → Prop) (s : Mk), i ≤ n ∧ N ≤ 10 + 10 * i ∧ t = .int .i64 i ∧ Sep (SG p L A N) w wr S ∧ Ab d L A s ∧ s ∈ sts ∧ ∀ x, x ∈ flat L 3 → x < 200000 + i) (fun t _ _ _ => n - (intOf t).toNat)
          case atStart => exact ⟨0, N + 1, _, _, _, _, by omega, by omega, rfl, H3.out, HI.out.1, by decide, fun x hx => by have := HI.out.2.1 x hx; omega⟩
          case round =>
            clear HI H3 Hk
            obtain ⟨i, N2, L2, A2, S2, s, hi, hN2, rfl, h, hA, hs, hB⟩ := hrel
            obtain ⟨r1, r2, r3⟩ := sts_round s hs
            obtain ⟨hin, ht⟩ := touch_ab hA r1
            have htr : decide (0 ≤ rowOf 3 L2 (d : Int)) = true := decide_eq_true (rowOf_nonneg.2 hin)
            have Hi := Lib.hid (And.intro h (And.intro ht (And.intro hB (And.intro r2 (And.intro r3 htr)))))
            clear h hA hs hB r1 r2 r3 hin ht htr
            obtain ⟨wo, rfl⟩ : ∃ wo : World, wo = wr := ⟨_, rfl⟩
            by_cases hil : i < n
            · have hno : (200000 + (i : Int)) ∉ flat L2 3 := fun q => by have := Hi.out.2.2.1 _ q; omega
              have hI := ins_ab Hi.out.2.1 hno (by omega)
              have hne : ((200000 + (i : Int)) == (d : Int)) = false := by rw [beq_eq_false_iff_ne]; omega
              rw [hne] at hI
              have hbd : ∀ x, x ∈ flat (insL L2 (200000 + (i : Int))) 3 → x < 200000 + (i : Int) + 1 := fun x hx => by
                rcases (ins_mem (by omega)).1 hx with q | q
                · omega
                · have := Hi.out.2.2.1 x q; omega
              have HI := Lib.hid (And.intro hI hbd)
              clear hno hI hne hbd
              go_wp2_with fail
              refine (touch_sg Hi.out.1 d).mono ?_
              rintro e y4 ⟨rfl, h, _⟩
              have H4 := Lib.hid h
              clear h
              go_wp2_with fail
              refine (insert_sg H4.out (200000 + (i : Int)) (by omega)).mono ?_
              rintro e y5 ⟨rfl, h, _⟩
              have H5 := Lib.hid h
              clear h
              go_wp2_with fail
              go_loopw [9] (fun t wr => ∃ (j N3 : Nat) (L : Nat → List Int) (A : Int → Bool) (S : Nat → Prop), j ≤ 4 ∧ N3 ≤ N2 + 1 + j ∧ t = .int .i64 j ∧ Sep (SG p L A N3) w wr S ∧ Ab d L A (itM j (false :: s.1, s.2.1, s.2.2.1, true)) ∧ ∀ x, x ∈ flat L 3 → x < 200000 + (i : Int) + 1) (fun t _ => 4 - (intOf t).toNat)
              case atStart => exact ⟨0, N2 + 1, _, _, _, by omega, by omega, rfl, H5.out, HI.out.1, HI.out.2⟩
              case round =>
                clear HI H4 H5
                obtain ⟨j, N3, L3, A3, S3, hj, hN3, rfl, h, hA, hB⟩ := hrel
                have Hj := Lib.hid (And.intro h (And.intro hA hB))
                clear h hA hB
                by_cases hjl : j < 4
                · go_wp2_with fail
                  refine (step_sg Hj.out.1 (by omega)).mono ?_
                  rintro e y6 ⟨rfl, h, _⟩
                  have H6 := Lib.hid h
                  clear h
                  go_wp2_with fail
                  go_roundw
                  case rel => exact ⟨j + 1, N3 + 1, _, _, _, by omega, by omega, by go_num, H6.out, step_ab Hj.out.2.1 (own3 Hj.out.1) (by omega), fun x hx => Hj.out.2.2 x ((step_mem (own_wide (own3 Hj.out.1))).1 hx)⟩
                  case measure => simp [intOf]; omega
                · obtain rfl : j = 4 := by omega
                  have hv : victM (itM 4 (false :: s.1, s.2.1, s.2.2.1, true)) = (some false, (victM (four s)).2) := Prod.ext Hi.out.2.2.2.1 rfl
                  obtain ⟨k1, k2, k3, k4⟩ := vict_ab Hj.out.2.1 (own3 Hj.out.1) hv
                  have htk : decide (0 ≤ rowOf 3 L3 (vict L3)) = true := decide_eq_true (rowOf_nonneg.2 k3)
                  obtain ⟨v, hvv⟩ : ∃ v, vict L3 = v := ⟨_, rfl⟩
                  rw [hvv] at k1 k2 k4 htk
                  have HV := Lib.hid (And.intro hvv (And.intro k4 htk))
                  have k5 : (v == (d : Int)) = false := by rw [beq_eq_false_iff_ne]; exact k2
                  clear hv hvv k2 k3 k4 htk
                  go_wp2_with fail
                  refine (victim_sg Hj.out.1).mono ?_
                  rintro e y7 ⟨q7, rfl, rfl, h⟩
                  have H7 := Lib.hid h
                  clear h
                  rw [HV.out.1]
                  go_wp2_with fail
                  refine (remove_sg H7.out v (by omega)).mono ?_
                  rintro e y8 ⟨rfl, h, _⟩
                  have H8 := Lib.hid h
                  clear h
                  rw [HV.out.2.2]
                  go_wp2_with fail
                  go_roundw
                  case rel => exact ⟨i + 1, N3, _, _, _, _, by omega, by omega, by go_num, H8.out, HV.out.2.1, Hi.out.2.2.2.2.1, fun x hx => by have := Hj.out.2.2 x (del_flat hx); omega⟩
                  case measure => simp [intOf]; omega
            · go_wp2_with fail
              refine (touch_sg Hi.out.1 d).mono ?_
              rintro e y4 ⟨rfl, h, _⟩
              have H4 := Lib.hid h
              clear h
              rw [Hi.out.2.2.2.2.2]
              go_wp2
              go_ret
              exact ⟨rfl, H4.out.below⟩

set_option maxRecDepth 100000 in
theorem lifted (os : Os) (started : os.Started) (H : Type) (enc : TypeId × Value → H) :
    ReturnsInHanded {} Try.checked os 3 .any (Rows.seglruPassesSpec.pre6 enc Try.prog Try.f3 Rows.seglruPassesRow.domain false) (Rows.seglruPassesSpec.post enc Try.prog Try.f3 false true false false) := by
  refine returnsInHanded_of_change (C := Try.checked) own started (by kernel_rfl) Try.func3
    (ChangeSpec.witness6 (enc := enc) (C := Try.checked) false ⟨#[], #[.int .i64 0, .int .i64 0], []⟩ 8 (by kernel_rfl) (by kernel_rfl) (by kernel_rfl) (by kernel_rfl)) ?_
  intro W base args ds gs before hval0 hW hcnd _
  have hval : ∀ (j : Nat) t v, Try.f3.params[j]? = some t → args[j]? = some v → Value.okWide Try.prog W .any base t v := hval0
  have hW' := hW
  obtain ⟨p, q, hA0, hV, rfl, hfz, hnd⟩ := hW
  have hA : DataW.TrodAll enc Try.prog W 0 (fun _ => true) true Try.f3.params.toList args.toList ds p := hA0
  rw [Try.params3] at hA hval
  obtain ⟨v0, vs0, d0, ds0, p0, q0, hargs, rfl, rfl, h0, r0⟩ := trodAll_cons hA
  obtain ⟨v1, vs1, d1, ds1, p1, q1, rfl, rfl, rfl, h1, r1⟩ := trodAll_cons r0
  obtain ⟨rfl, rfl, rfl⟩ := trodAll_nil r1
  obtain rfl : args = #[v0, v1] := by cases args; simp_all
  obtain ⟨rfl, rfl⟩ := trodVars_none hV
  obtain ⟨a0, rfl, rfl, rfl, w0⟩ := open_int Try.underlying3 (hval 0 3 v0 rfl rfl) h0
  obtain ⟨a1, rfl, rfl, rfl, w1⟩ := open_int Try.underlying3 (hval 1 3 v1 rfl rfl) h1
  clear hA0 hval0
  refine (walk W a0 w0 a1 w1).mono fun e W' ⟨he, bel⟩ => ?_
  subst he
  exact ⟨_, rfl, _, _, _, [], _, [], hW', trodAll_mk1 (shut_bool Try.underlying4 _), (trodAll_cons_mk (shut_int Try.underlying3 w0) (trodAll_cons_mk (shut_int Try.underlying3 w1) trodAll_mk0)), rfl, bel.frame _, fun h => by cases h⟩

theorem over : Rows.seglruPassesRow.holds Try.pinned (OpenSpec.ofChange Rows.seglruPassesSpec) :=
  OpenClaim.holds_of_wide 3 Try.f3 rfl rfl rfl rfl rfl rfl rfl ⟨rfl, rfl, rfl, rfl, rfl⟩ rfl rfl rfl rfl rfl (by kernel_rfl) Try.func3 (by kernel_rfl)
    (of_decide_eq_true (by kernel_rfl)) (by unfold Func.isWrapper; first | (rw [if_pos (by decide +kernel)]; kernel_rfl) | (rw [if_neg (by decide +kernel)]; exact ⟨rfl, rfl⟩))
    (fun os started H enc _ => lifted os started H enc)

theorem proved : Rows.SeglruPassesSaid := over
#print axioms proved
end Go.Proofs.Ytldnacphfoagnac.seglruPasses
