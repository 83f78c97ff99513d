/- 'ambry/ambrylaw10.RowsRefuse' returns true, for every input, and leaves its arguments as they were. No condition. -/
import Derived.Test.YtldnacphfoagnaaIn
import Derived.Test.YtldnacphfoagnaaRowsShown
import Derived.WalkKit
import Derived.ProofKit
import Derived.OpenShut
import Derived.ShutString
import Derived.ChangeOld
import Derived.Below
namespace Go.Proofs.Ytldnacphfoagnaa.rowsRefuse
open Go.ChangeShapes Go.WideShapes Go.ChangeAt Go.RowKit
open Go.ChangeMaps (open_string shut_string)
set_option linter.unusedVariables false

theorem own : ownKnob Try.prog.godebug = none := by kernel_rfl
theorem laidOut : laidOutB Try.prog = true := by kernel_rfl

theorem first_front {L : Nat → List Int} {row id : Int} (h : mayIn 2 row id = true) : firstOf (rowL (frontL 2 L row id) row) = id := by
  obtain ⟨⟨h1, h2⟩, _⟩ := (mayIn_iff h).1 rfl
  obtain ⟨r, rfl⟩ : ∃ r : Nat, row = r := ⟨row.toNat, by omega⟩
  rw [rowL_nat]
  unfold frontL
  rw [h]
  simp [putF, firstOf]
theorem last_back {L : Nat → List Int} {row id : Int} (h : mayIn 2 row id = true) : lastOf (rowL (backL 2 L row id) row) = id := by
  obtain ⟨⟨h1, h2⟩, _⟩ := (mayIn_iff h).1 rfl
  obtain ⟨r, rfl⟩ : ∃ r : Nat, row = r := ⟨row.toNat, by omega⟩
  rw [rowL_nat]
  unfold backL
  rw [h]
  simp [putB, lastOf]
theorem front_not {L : Nat → List Int} {row id : Int} (h : mayIn 2 row id = false) : frontL 2 L row id = L := by unfold frontL; rw [h]; rfl
theorem back_not {L : Nat → List Int} {row id : Int} (h : mayIn 2 row id = false) : backL 2 L row id = L := by unfold backL; rw [h]; rfl
set_option maxRecDepth 100000 in
set_option maxHeartbeats 4000000 in
theorem walk (w : World) (a0 : Option Addr) (n0 c0 : Nat) (w0 : n0 ≤ c0 ∧ ∀ i, i < n0 → InAt w a0 1 i (fun cs => ∃ x : Int, cs = [.int .i64 x] ∧ (Lit.int .i64 x).wf = true)) (a1 : Int) (w1 : (Lit.int .i64 a1).wf = true) (a2 : Int) (w2 : (Lit.int .i64 a2).wf = true) :
    Calls Try.prog 7 #[.slice a0 n0 c0, .int .i64 a1, .int .i64 a2] w fun e w' => e = .returned (.bool true) ∧ Below w.heap.size w w' := by
  go_enter Try.func7, Try.ntmps7
  go_wp2_with fail
  refine (shown_any _).mono ?_
  rintro e y1 ⟨rfl, hF⟩
  have HF := Lib.hid (hF.mono (T := From w.heap.size) (fun _ _ h => h.elim))
  clear hF
  go_wp2_with fail
  refine (new_ro (w0 := w) 2 (by decide) (by decide) HF.out).mono ?_
  rintro e y2 ⟨g, rfl, h⟩
  have H := Lib.hid h
  clear h HF
  go_wp2_with fail
  go_loopw [9] (fun i wr => ∃ (k N : Nat) (L : Nat → List Int), k ≤ n0 ∧ k ≤ 40 ∧ N ≤ k ∧ i = .int .i64 k ∧ RO w wr g 2 L N) (fun i _ => 40 - (intOf i).toNat)
  case atStart => exact ⟨0, 0, _, by omega, by omega, by omega, rfl, H.out⟩
  case round =>
    clear H
    obtain ⟨k, N, L, hk, hk2, hN, rfl, h⟩ := hrel
    have Hk := Lib.hid h
    clear h
    by_cases hlt : k < n0 ∧ k < 40
    · obtain ⟨hlt, hlt2⟩ := hlt
      obtain ⟨b, off, v, rfl, hbl, hEl, hc⟩ := (w0.2 k hlt).one
      obtain ⟨x, he, hw⟩ := hEl
      simp at he
      subst he
      have hc' : wr.cell? ⟨b, off + k, none⟩ = some (.int .i64 x) := (Hk.out.fr.cell hbl (by unfold From; simp; omega)).trans hc
      obtain ⟨m1, hm1, _⟩ := and_mask x 1023 (by decide)
      obtain ⟨m2, hm2, _⟩ := and_mask k 1 (by decide)
      have hm1' : bits .and .i64 x 1023 = m1 := hm1
      have hm2' : bits .and .i64 k 1 = m2 := hm2
      have W0 := Lib.hid w0
      clear w0 hc hm1 hm2 hw
      go_wp2_with fail
      refine (back_ro Hk.out m2 m1 (by omega)).mono ?_
      rintro e y3 ⟨rfl, h⟩
      have H3 := Lib.hid h
      clear h
      go_wp2_with fail
      go_roundw
      case rel => exact ⟨k + 1, N + 1, _, by omega, by omega, by omega, by go_num, H3.out⟩
      case measure => simp [intOf]; omega
    · have hex : (k < n0 ∧ k = 40) ∨ n0 ≤ k := by omega
      clear hlt
      rcases hm : mayIn 2 a1 a2 with _ | _
      · have hmm := (mayIn_iff hm).2 rfl
        have HM := Lib.hid (And.intro hm (And.intro (front_not (L := L) hm) (back_not (L := L) hm)))
        clear hm
        have hc4 : a1 < 0 ∨ (0 ≤ a1 ∧ 2 ≤ a1) ∨ (0 ≤ a1 ∧ a1 < 2 ∧ a2 < 0) ∨ (0 ≤ a1 ∧ a1 < 2 ∧ 0 ≤ a2 ∧ 4194303 < a2) := by omega
        clear hmm
        rcases hex with ⟨hlt, rfl⟩ | hge
        all_goals
          rcases hc4 with h1 | ⟨h1, h2⟩ | ⟨h1, h2, h3⟩ | ⟨h1, h2, h3, h4⟩
        all_goals
          go_wp2_with fail
          refine (len_ro Hk.out 0).mono ?_
          rintro e y4 ⟨rfl, rfl⟩
          go_wp2_with fail
          refine (len_ro Hk.out 1).mono ?_
          rintro e y4 ⟨rfl, rfl⟩
          go_wp2_with fail
          refine (row_ro Hk.out a2).mono ?_
          rintro e y4 ⟨rfl, rfl⟩
          go_wp2_with fail
          refine (front_ro Hk.out a1 a2 (by omega)).mono ?_
          rintro e y4 ⟨rfl, h⟩
          rw [HM.out.2.1] at h
          have H4 := Lib.hid h
          clear h
          rw [HM.out.1]
          go_wp2_with fail
          refine (back_ro H4.out a1 a2 (by omega)).mono ?_
          rintro e y5 ⟨rfl, h⟩
          rw [HM.out.2.2] at h
          have H5 := Lib.hid h
          clear h
          rw [HM.out.1]
          go_wp2_with fail
          refine (len_ro H5.out 0).mono ?_
          rintro e y6 ⟨rfl, rfl⟩
          go_wp2_with fail
          refine (len_ro H5.out 1).mono ?_
          rintro e y6 ⟨rfl, rfl⟩
          go_wp2_with fail
          refine (row_ro H5.out a2).mono ?_
          rintro e y6 ⟨rfl, rfl⟩
          go_wp2
          go_ret
          exact ⟨rfl, H5.out.below⟩
      · obtain ⟨⟨h1, h2⟩, h3, h4⟩ := (mayIn_iff hm).1 rfl
        have HM := Lib.hid (And.intro hm (And.intro (first_front (L := L) hm) (last_back (L := frontL 2 L a1 a2) hm)))
        clear hm
        rcases hex with ⟨hlt, rfl⟩ | hge
        all_goals
          go_wp2_with fail
          refine (front_ro Hk.out a1 a2 (by omega)).mono ?_
          rintro e y4 ⟨rfl, h⟩
          have H4 := Lib.hid h
          clear h
          rw [HM.out.1]
          go_wp2_with fail
          refine (first_ro H4.out a1).mono ?_
          rintro e y5 ⟨q5, rfl, rfl, h⟩
          have H5 := Lib.hid h
          clear h
          rw [HM.out.2.1]
          go_wp2_with fail
          refine (back_ro H5.out a1 a2 (by omega)).mono ?_
          rintro e y6 ⟨rfl, h⟩
          have H6 := Lib.hid h
          clear h
          rw [HM.out.1]
          go_wp2_with fail
          refine (last_ro H6.out a1).mono ?_
          rintro e y7 ⟨q7, rfl, rfl, h⟩
          have H7 := Lib.hid h
          clear h
          rw [HM.out.2.2]
          go_wp2
          go_ret
          exact ⟨rfl, H7.out.below⟩

set_option maxRecDepth 100000 in
theorem lifted (os : Os) (started : os.Started) (H : Type) (enc : TypeId × Value → H) :
    ReturnsInHanded {} Try.checked os 7 .any (Rows.rowsRefuseSpec.pre6 enc Try.prog Try.f7 Rows.rowsRefuseRow.domain false) (Rows.rowsRefuseSpec.post enc Try.prog Try.f7 false true false false) := by
  refine returnsInHanded_of_change (C := Try.checked) own started (by kernel_rfl) Try.func7
    (ChangeSpec.witness6 (enc := enc) (C := Try.checked) false ⟨#[], #[.slice none 0 0, .int .i64 0, .int .i64 0], []⟩ 8 (by kernel_rfl) (by kernel_rfl) (by kernel_rfl) (by kernel_rfl)) ?_
  intro W base args ds gs before hval0 hW hcnd _
  have hval : ∀ (j : Nat) t v, Try.f7.params[j]? = some t → args[j]? = some v → Value.okWide Try.prog W .any base t v := hval0
  have hW' := hW
  obtain ⟨p, q, hA0, hV, rfl, hfz, hnd⟩ := hW
  have hA : DataW.TrodAll enc Try.prog W 0 (fun _ => true) true Try.f7.params.toList args.toList ds p := hA0
  rw [Try.params7] at hA hval
  obtain ⟨v0, vs0, d0, ds0, p0, q0, hargs, rfl, rfl, h0, r0⟩ := trodAll_cons hA
  obtain ⟨v1, vs1, d1, ds1, p1, q1, rfl, rfl, rfl, h1, r1⟩ := trodAll_cons r0
  obtain ⟨v2, vs2, d2, ds2, p2, q2, rfl, rfl, rfl, h2, r2⟩ := trodAll_cons r1
  obtain ⟨rfl, rfl, rfl⟩ := trodAll_nil r2
  obtain rfl : args = #[v0, v1, v2] := by cases args; simp_all
  obtain ⟨rfl, rfl⟩ := trodVars_none hV
  obtain ⟨a0, n0, c0, rfl⟩ := okWide_slice Try.underlying22 (hval 0 22 v0 rfl rfl)
  have k0 := h0
  have lt0 : ∀ x ∈ p0, x.block < W.heap.size := by obtain ⟨m, hm⟩ := k0; exact DataW.trod_lt m _ _ _ hm
  have w0 := open_in (C := fun cs => ∃ x : Int, cs = [.int .i64 x] ∧ (Lit.int .i64 x).wf = true) Try.underlying22 k0 1 (by kernel_rfl) (by decide) (fun m cs x h => by obtain ⟨x, e, _, hw⟩ := DataW.trod_int Try.underlying3 h; exact ⟨x, e, hw⟩)
  obtain ⟨a1, rfl, rfl, rfl, w1⟩ := open_int Try.underlying3 (hval 1 3 v1 rfl rfl) h1
  obtain ⟨a2, rfl, rfl, rfl, w2⟩ := open_int Try.underlying3 (hval 2 3 v2 rfl rfl) h2
  clear hA0 hval0
  refine (walk W a0 n0 c0 w0 a1 w1 a2 w2).mono fun e W' ⟨he, bel⟩ => ?_
  subst he
  exact ⟨_, rfl, _, _, _, [], _, [], hW', trodAll_mk1 (shut_bool Try.underlying4 _), (trodAll_cons_mk (Below.trod laidOut (by kernel_rfl) (of_decide_eq_true (by kernel_rfl)) k0 bel lt0) (trodAll_cons_mk (shut_int Try.underlying3 w1) (trodAll_cons_mk (shut_int Try.underlying3 w2) trodAll_mk0))), rfl, bel.frame _, fun h => by cases h⟩

theorem over : Rows.rowsRefuseRow.holds Try.pinned (OpenSpec.ofChange Rows.rowsRefuseSpec) :=
  OpenClaim.holds_of_wide 7 Try.f7 rfl rfl rfl rfl rfl rfl rfl ⟨rfl, rfl, rfl, rfl, rfl⟩ rfl rfl rfl rfl rfl (by kernel_rfl) Try.func7 (by kernel_rfl)
    (of_decide_eq_true (by kernel_rfl)) (by unfold Func.isWrapper; first | (rw [if_pos (by decide +kernel)]; kernel_rfl) | (rw [if_neg (by decide +kernel)]; exact ⟨rfl, rfl⟩))
    (fun os started H enc _ => lifted os started H enc)

theorem proved : Rows.RowsRefuseSaid := over
#print axioms proved
end Go.Proofs.Ytldnacphfoagnaa.rowsRefuse
