/- 'ambry/ambrylaw12.SeglruEnds' returns true, for every input, and leaves its arguments as they were. No condition. -/
import Derived.Test.YtldnacphfoagnacIn
import Derived.Test.YtldnacphfoagnacSegShown
import Derived.Test.YtldnacphfoagnacSegEnds
import Derived.Deep.QuietTactic
import Derived.BigQuiet
import Derived.Deep.DeepCutAuto
import Derived.Deep.CutBlock
import Derived.WalkKit
import Derived.ProofKit
import Derived.OpenShut
import Derived.ShutString
import Derived.ChangeOld
import Derived.Below
namespace Go.Proofs.Ytldnacphfoagnac.seglruEnds
open Go.ChangeShapes Go.WideShapes Go.ChangeAt Go.RowKit
open Go.ChangeMaps (open_string shut_string)
set_option linter.unusedVariables false

theorem own : ownKnob Try.prog.godebug = none := by kernel_rfl
theorem laidOut : laidOutB Try.prog = true := by kernel_rfl

theorem sg_wide {w0 w : World} {S : Nat → Prop} {p : Nat} {L : Nat → List Int} {A : Int → Bool} {N : Nat} (h : Sep (SG p L A N) w0 w S) : ∀ x, x ∈ flat L 3 → 0 ≤ x ∧ x ≤ 4194303 := fun x hx => by
  obtain ⟨r, hr, hm⟩ := mem_flat.1 hx
  exact (sg_rows h).2.2.2.2 r x hr hm
theorem active_same {w0 w : World} {S : Nat → Prop} {p : Nat} {L : Nat → List Int} {A : Int → Bool} {N : Nat} (h : Sep (SG p L A N) w0 w S) (id : Int) :
    Calls Try.prog 16 #[.pointer (some ⟨p, 0, none⟩), .int .i64 id] w fun e w' => e = .returned (.bool (A id)) ∧ w' = w := (active_sg h id).mono fun _ _ ⟨a, b⟩ => ⟨a, b.symm⟩
theorem victim_quiet {w0 w : World} {S : Nat → Prop} {p : Nat} {L : Nat → List Int} {A : Int → Bool} {N : Nat} (h : Sep (SG p L A N) w0 w S) :
    Calls Try.prog 13 #[.pointer (some ⟨p, 0, none⟩)] w fun e w' => e = .returned (.int .i64 (vict L)) ∧ ∃ k, w' = w.drewN k := (victim_sg h).mono fun _ _ ⟨k, a, b, _⟩ => ⟨a, k, b⟩
theorem last_split {l : List Int} (h : l ≠ []) : ∃ u, l = u ++ [lastOf l] := by
  refine ⟨l.dropLast, ?_⟩
  unfold lastOf
  rw [List.getLastD_eq_getLast?, List.getLast?_eq_some_getLast h]
  exact (List.dropLast_concat_getLast h).symm
set_option maxRecDepth 100000 in
set_option maxHeartbeats 4000000 in
theorem walk (w : World) (a0 : Option Addr) (n0 c0 : Nat) (w0 : n0 ≤ c0 ∧ ∀ i, i < n0 → InAt w a0 1 i (fun cs => ∃ x : Int, cs = [.int .i64 x] ∧ (Lit.int .i64 x).wf = true)) (a1 : Option Addr) (n1 c1 : Nat) (w1 : n1 ≤ c1 ∧ ∀ i, i < n1 → InAt w a1 1 i (fun cs => ∃ x : Int, cs = [.int .i64 x] ∧ (Lit.int .i64 x).wf = true)) :
    Calls Try.prog 5 #[.slice a0 n0 c0, .slice a1 n1 c1] w fun e w' => e = .returned (.bool true) ∧ Below w.heap.size w w' := by
  go_enter Try.func5, Try.ntmps5
  go_wp2_with fail
  refine (shown_any _).mono ?_
  rintro e y1 ⟨rfl, hF⟩
  have HF := Lib.hid (hF.mono (T := From w.heap.size) (fun _ _ h => h.elim))
  clear hF
  go_wp2_with fail
  refine (new_sg (w0 := w) HF.out).mono ?_
  rintro e y2 ⟨p, S, rfl, h, _, _⟩
  have H := Lib.hid h
  clear h HF
  go_upto_block 0 with fail
  go_cut [7, 8] (fun t s wx => ∃ (n N : Nat) (L : Nat → List Int) (A : Int → Bool) (S : Nat → Prop), N ≤ 120 ∧ n ≤ 60 ∧ n = tot L ∧ t = .int .i64 n ∧ Sep (SG p L A N) w wx S)
  case first =>
    go_wp2_with fail
    go_loopw [7, 8] (fun t s wr => ∃ (k N n : Nat) (L : Nat → List Int) (A : Int → Bool) (S : Nat → Prop), k ≤ n0 ∧ k ≤ 60 ∧ N ≤ 2 * k ∧ n ≤ k ∧ n = tot L ∧ t = .int .i64 n ∧ s = .int .i64 k ∧ Sep (SG p L A N) w wr S) (fun _ s _ => 60 - (intOf s).toNat)
    case atStart => exact ⟨0, 0, 0, _, _, S, by omega, by omega, by omega, by omega, rfl, rfl, rfl, H.out⟩
    case round =>
      clear H
      obtain ⟨k, N, n, L, A, S, hk, hk2, hN, hnk, hn, rfl, rfl, h⟩ := hrel
      have Hk := Lib.hid (And.intro h hn)
      clear h hn
      by_cases hlt : k < n0 ∧ k < 60
      · obtain ⟨hlt, hlt2⟩ := hlt
        obtain ⟨b, off, vv, rfl, hbl, hEl, hc⟩ := (w0.2 k hlt).one
        obtain ⟨x, he, hw⟩ := hEl
        simp at he
        subst he
        have hc' : wr.cell? ⟨b, off + k, none⟩ = some (.int .i64 x) := (Hk.out.1.fr.cell hbl (by unfold From; simp; omega)).trans hc
        obtain ⟨m1, hm1, hmb⟩ := and_mask x 65535 (by decide)
        have hm1' : bits .and .i64 x 65535 = m1 := hm1
        have W0 := Lib.hid w0
        have W1 := Lib.hid w1
        have hmay : mayIn 3 0 (m1 : Int) = true := decide_eq_true ⟨by decide, by decide, by omega⟩
        have htot := ins_tot (L := L) (id := (m1 : Int)) (by omega)
        have HM := Lib.hid (And.intro hmay htot)
        clear w0 w1 hc hm1 hw hmay htot
        go_upto_if 38 with (go_at_call 10; refine (insert_sg Hk.out.1 m1 (by omega)).mono ?_; rintro e y4 ⟨rfl, h, hF⟩; have H4 := Lib.hid h; clear h hF; rw [HM.out.1])
        go_cut [7] (fun t wx => ∃ n', n' ≤ k + 1 ∧ n' = tot (insL L m1) ∧ t = .int .i64 n' ∧ y4 = wx)
        case first =>
          obtain ⟨ro, hro⟩ : ∃ ro, rowOf 3 L m1 = ro := ⟨_, rfl⟩
          have htot := HM.out.2
          rw [hro] at htot ⊢
          by_cases hr : ro < 0
          · rw [if_pos hr, ← Hk.out.2] at htot
            have HT := Lib.hid htot
            have hd : decide (ro < 0) = true := decide_eq_true hr
            clear htot hro
            go_wp2
            go_meet
            exact ⟨n + 1, by omega, HT.out.symm, rfl, rfl⟩
          · rw [if_neg hr, ← Hk.out.2] at htot
            have HT := Lib.hid htot
            have hd : decide (ro < 0) = false := decide_eq_false hr
            clear htot hro
            go_wp2
            go_meet
            exact ⟨n, by omega, HT.out.symm, rfl, rfl⟩
        case rest =>
          obtain ⟨n', hn', hnt, rfl, rfl⟩ := hcut
          have HN := Lib.hid hnt
          clear hnt
          by_cases ht : k < n1
          · obtain ⟨b', off', vv, rfl, hbl', hEl', hc1⟩ := (W1.out.2 k ht).one
            obtain ⟨x', he, _⟩ := hEl'
            simp at he
            subst he
            have hc3 : y4.cell? ⟨b', off' + k, none⟩ = some (.int .i64 x') := (H4.out.fr.cell hbl' (by unfold From; simp; omega)).trans hc1
            obtain ⟨m2, hm2, hmb2⟩ := and_mask x' 1 (by decide)
            have hm2' : bits .and .i64 x' 1 = m2 := hm2
            clear hc1 hm2
            by_cases h1 : m2 = 1
            · subst h1
              obtain ⟨m3, hm3, _⟩ := and_mask (x' / 2) 65535 (by decide)
              have hm3' : bits .and .i64 (x' / 2) 65535 = m3 := hm3
              clear hm3
              go_wp2_with fail
              refine (touch_sg H4.out m3).mono ?_
              rintro e y5 ⟨rfl, h, hF⟩
              have H5 := Lib.hid h
              clear h hF
              go_wp2_with fail
              refine (step_sg H5.out (by omega)).mono ?_
              rintro e y6 ⟨rfl, h, hF⟩
              have H6 := Lib.hid h
              clear h hF
              go_wp2_with fail
              go_roundw
              case rel => exact ⟨k + 1, N + 1 + 1, n', _, _, _, by omega, by omega, by omega, by omega, HN.out.trans (step_tot (sg_wide H5.out) (sg_flat H5.out) (sg_flat H6.out)).symm, rfl, by go_num, H6.out⟩
              case measure => simp [intOf]; omega
            · have h1b : ((m2 : Int) == 1) = false := by rw [beq_eq_false_iff_ne]; omega
              clear h1
              go_wp2_with fail
              go_roundw
              case rel => exact ⟨k + 1, N + 1, n', _, _, _, by omega, by omega, by omega, by omega, HN.out, rfl, by go_num, H4.out⟩
              case measure => simp [intOf]; omega
          · go_wp2_with fail
            go_roundw
            case rel => exact ⟨k + 1, N + 1, n', _, _, _, by omega, by omega, by omega, by omega, HN.out, rfl, by go_num, H4.out⟩
            case measure => simp [intOf]; omega
      · have hex : (k < n0 ∧ k = 60) ∨ n0 ≤ k := by omega
        clear hlt
        rcases hex with ⟨hlt, rfl⟩ | hge
        all_goals
          go_wp2_with fail
          go_meet
          exact ⟨n, N, L, A, S, by omega, by omega, Hk.out.2, rfl, Hk.out.1⟩
  case rest =>
    clear H
    obtain ⟨n, N, L, A, S, hN, hn60, hnt, rfl, h⟩ := hcut
    have Hk := Lib.hid (And.intro h hnt)
    clear h hnt
    obtain ⟨wz, rfl⟩ : ∃ wz : World, wz = wc := ⟨_, rfl⟩
    go_upto_block 2 with fail
    go_cut [9] (fun s wx => ∃ (A : Int → Bool) (S : Nat → Prop), Sep (SG p L A N) w wx S)
    case first =>
      go_wp2_with fail
      go_loopw [9] (fun s wr => ∃ (j : Nat) (A : Int → Bool) (S : Nat → Prop), j ≤ n1 ∧ j ≤ 60 ∧ s = .int .i64 j ∧ Sep (SG p L A N) w wr S) (fun s _ => 60 - (intOf s).toNat)
      case atStart => exact ⟨0, A, S, by omega, by omega, rfl, Hk.out.1⟩
      case round =>
        obtain ⟨j, A, S, hj, hj2, rfl, h⟩ := hrel
        have Hj := Lib.hid h
        clear h
        by_cases hlt2 : j < n1 ∧ j < 60
        · obtain ⟨hlt2, hlt3⟩ := hlt2
          obtain ⟨b, off, vv, rfl, hbl, hEl, hc⟩ := (w1.2 j hlt2).one
          obtain ⟨x, he, hw⟩ := hEl
          simp at he
          subst he
          have hc' : wr.cell? ⟨b, off + j, none⟩ = some (.int .i64 x) := (Hj.out.fr.cell hbl (by unfold From; simp; omega)).trans hc
          obtain ⟨m1, hm1, hmb⟩ := and_mask x 65535 (by decide)
          have hm1' : bits .and .i64 x 65535 = m1 := hm1
          have W1 := Lib.hid w1
          clear w1 hc hm1 hw
          go_wp2_with fail
          refine (touch_sg Hj.out m1).mono ?_
          rintro e y5 ⟨rfl, h, hF⟩
          have H5 := Lib.hid h
          clear h hF
          go_wp2_with fail
          go_roundw
          case rel => exact ⟨j + 1, _, _, by omega, by omega, by go_num, H5.out⟩
          case measure => simp [intOf]; omega
        · have hex2 : (j < n1 ∧ j = 60) ∨ n1 ≤ j := by omega
          clear hlt2
          rcases hex2 with ⟨hlt2, rfl⟩ | hge2
          all_goals
            go_wp2_with fail
            go_meet
            exact ⟨A, S, Hj.out⟩
    case rest =>
      obtain ⟨A, S, h⟩ := hcut
      obtain ⟨wo, rfl⟩ : ∃ wo : World, wo = wc := ⟨_, rfl⟩
      have Hj := Lib.hid h
      have hal := ahead_le L A
      rw [← Hk.out.2] at hal
      have HA := Lib.hid hal
      clear h hal
      go_wp2_with fail
      go_loopw [10] (fun s wr => ∃ (st N : Nat) (L : Nat → List Int) (A : Int → Bool) (S : Nat → Prop), st ≤ 4 * n ∧ N ≤ 120 + st ∧ s = .int .i64 st ∧ Sep (SG p L A N) w wr S ∧ ahead L A + st ≤ 4 * n ∧ n = tot L) (fun s _ => 4 * n + 1 - (intOf s).toNat)
      case atStart => exact ⟨0, N, L, A, S, by omega, by omega, rfl, Hj.out, by have := HA.out; omega, Hk.out.2⟩
      case round =>
        clear Hj Hk HA
        obtain ⟨st, N, L, A, S, hst, hN3, rfl, h, ha, ht⟩ := hrel
        have Hs := Lib.hid (And.intro h (And.intro ha ht))
        clear h ha ht
        have hle : (st : Int) ≤ 4 * n + 1 := by omega
        go_wp2_with fail
        refine (step_sg Hs.out.1 (by omega)).mono ?_
        rintro e y5 ⟨rfl, h, hF⟩
        have H5 := Lib.hid h
        clear h hF
        rcases hd : decide (0 ≤ whoF L A) with _ | _
        · have hno := of_decide_eq_false hd
          have hsh := still_shares (sg_wide Hs.out.1) hno
          have hsame : stepL L A = L ∧ stepA L A = A := by unfold stepL stepA; rw [if_pos (by omega), if_pos (by omega)]; exact ⟨rfl, rfl⟩
          have h5 := H5.out
          rw [hsame.1, hsame.2] at h5
          have H6 := Lib.hid h5
          have htt := Hs.out.2.2
          rw [← htt] at hsh
          have hsum : n = (L 0).length + (L 1).length + (L 2).length := htt
          obtain ⟨h0, e0⟩ : ∃ h0, (L 0).length = h0 := ⟨_, rfl⟩
          obtain ⟨h1, e1⟩ : ∃ h1, (L 1).length = h1 := ⟨_, rfl⟩
          obtain ⟨l2, e2⟩ : ∃ l2, L 2 = l2 := ⟨_, rfl⟩
          rw [e0, e1, e2] at hsh
          rw [e0, e1, e2] at hsum
          obtain ⟨s0, s1, s2⟩ := hsh
          have r0 := rowL_0 L
          have r1 := rowL_1 L
          have r2 := rowL_2 L
          rw [e2] at r2
          have l0 : (rowL L 0).length = h0 := by rw [r0, e0]
          have l1 : (rowL L 1).length = h1 := by rw [r1, e1]
          have HX := Lib.hid (And.intro s2 (And.intro r2 (And.intro l0 (And.intro l1 e2))))
          have HSUM := Lib.hid hsum
          have hsm : (h0 : Int) + h1 + l2.length = n := by omega
          have hle60 : l2.length ≤ 60 := by omega
          clear hsum H5 h5 hsame hno s2 r0 r1 r2 l0 l1 e0 e1 e2 hd htt
          obtain ⟨g, hcg, hAll⟩ := all_sg H6.out (by omega)
          have HAll := Lib.hid hAll
          clear hAll
          go_wp2_with fail
          refine (HAll.out 0).mono ?_
          rintro e y6 ⟨v0, rfl, hs, h, hF⟩
          obtain ⟨va0, vc0, rfl, _⟩ := Sl.shape hs
          rw [HX.out.2.2.1]
          have H7 := Lib.hid h
          clear hs h hF hcg HAll
          obtain ⟨g, hcg, hAll⟩ := all_sg H7.out (by omega)
          have HAll := Lib.hid hAll
          clear hAll
          go_wp2_with fail
          refine (HAll.out 1).mono ?_
          rintro e y7 ⟨v1, rfl, hs, h, hF⟩
          obtain ⟨va1, vc1, rfl, _⟩ := Sl.shape hs
          rw [HX.out.2.2.2.1]
          have H8 := Lib.hid h
          clear hs h hF hcg HAll
          obtain ⟨g, hcg, hAll⟩ := all_sg H8.out (by omega)
          have HAll := Lib.hid hAll
          clear hAll
          go_wp2_with fail
          refine (HAll.out 2).mono ?_
          rintro e y8 ⟨v2, rfl, hs, h, hF⟩
          rw [HX.out.2.1] at hs
          obtain ⟨va2, vc2, rfl, hv2⟩ := sl_at hs
          have H9 := Lib.hid h
          have HV2 := Lib.hid hv2
          clear hs h hF hcg HAll hv2
          have hs20 : decide (20 * (n : Int) / 100 < h0) = false := decide_eq_false (by omega)
          have hs40 : decide (40 * (n : Int) / 100 < h1) = false := decide_eq_false (by omega)
          have hst4 : decide (4 * (n : Int) + 1 < st) = false := decide_eq_false (by omega)
          have hne60 : n ≤ 60 := by omega
          by_cases hl2 : l2 = []
          · have hlen : l2.length = 0 := by rw [hl2]; rfl
            have hlz : ((l2.length : Int) == 0) = true := by rw [hlen]; rfl
            have HLZ := Lib.hid hl2
            clear hl2 hlen
            go_wp2_with fail
            go_quiet (fail)
            go_wp2
            go_ret
            exact ⟨rfl, below_drewN H9.out.below _⟩
          · have hlen : 0 < l2.length := List.length_pos_iff.2 hl2
            have hlz : ((l2.length : Int) == 0) = false := by rw [beq_eq_false_iff_ne]; omega
            obtain ⟨ha, hv⟩ := HX.out.1 hl2
            obtain ⟨u, hu⟩ := last_split hl2
            obtain ⟨x, hx⟩ : ∃ x, lastOf l2 = x := ⟨_, rfl⟩
            rw [hx] at ha hv hu
            have hget : l2[l2.length - 1]? = some x := by rw [hu]; simp
            obtain ⟨b, off, rfl, _, _, hcx, _⟩ := HV2.out _ x hget
            have hi0 : ((l2.length : Int) - 1).toNat = l2.length - 1 := by omega
            have hi1 : (0 : Int) ≤ (l2.length : Int) - 1 := by omega
            have hi2 : (l2.length : Int) - 1 < l2.length := by omega
            have hwr : IntKind.i64.wrap ((l2.length : Int) - 1) = (l2.length : Int) - 1 := by rw [IntKind.wrap_i64]; omega
            have HL2 := Lib.hid (And.intro hl2 hu)
            have HC := Lib.hid (fun k => active_same (sg_drewN H9.out k) x)
            have HD := Lib.hid (fun k => victim_quiet (sg_drewN H9.out k))
            clear hl2 hu hx hget
            go_wp2_with fail
            go_quiet ((first
              | (go_at_call 16; exact Calls.quiet_of_same (HC.out _))
              | (go_at_call 13; exact Calls.quiet_of (HD.out _))))
            go_wp2
            go_ret
            exact ⟨rfl, below_drewN H9.out.below _⟩
        · have hyes := of_decide_eq_true hd
          have hst2 := step_ahead (sg_rows Hs.out.1).1 (sg_rows Hs.out.1).2.1 (sg_wide Hs.out.1) (sg_flat Hs.out.1) (sg_flat H5.out) hyes
          have HY := Lib.hid hst2
          have hst3 : st + 1 ≤ 4 * n := by have := Hs.out.2.1; have := hst2.1; omega
          clear hst2 hyes
          go_wp2_with fail
          go_roundw
          case rel => exact ⟨st + 1, N + 1, _, _, _, hst3, by omega, by go_num, H5.out, by have := Hs.out.2.1; have := HY.out.1; omega, Hs.out.2.2.trans HY.out.2.symm⟩
          case measure => simp [intOf]; omega

set_option maxRecDepth 100000 in
theorem lifted (os : Os) (started : os.Started) (H : Type) (enc : TypeId × Value → H) :
    ReturnsInHanded {} Try.checked os 5 .any (Rows.seglruEndsSpec.pre6 enc Try.prog Try.f5 Rows.seglruEndsRow.domain false) (Rows.seglruEndsSpec.post enc Try.prog Try.f5 false true false false) := by
  refine returnsInHanded_of_change (C := Try.checked) own started (by kernel_rfl) Try.func5
    (ChangeSpec.witness6 (enc := enc) (C := Try.checked) false ⟨#[], #[.slice none 0 0, .slice none 0 0], []⟩ 8 (by kernel_rfl) (by kernel_rfl) (by kernel_rfl) (by kernel_rfl)) ?_
  intro W base args ds gs before hval0 hW hcnd _
  have hval : ∀ (j : Nat) t v, Try.f5.params[j]? = some t → args[j]? = some v → Value.okWide Try.prog W .any base t v := hval0
  have hW' := hW
  obtain ⟨p, q, hA0, hV, rfl, hfz, hnd⟩ := hW
  have hA : DataW.TrodAll enc Try.prog W 0 (fun _ => true) true Try.f5.params.toList args.toList ds p := hA0
  rw [Try.params5] at hA hval
  obtain ⟨v0, vs0, d0, ds0, p0, q0, hargs, rfl, rfl, h0, r0⟩ := trodAll_cons hA
  obtain ⟨v1, vs1, d1, ds1, p1, q1, rfl, rfl, rfl, h1, r1⟩ := trodAll_cons r0
  obtain ⟨rfl, rfl, rfl⟩ := trodAll_nil r1
  obtain rfl : args = #[v0, v1] := by cases args; simp_all
  obtain ⟨rfl, rfl⟩ := trodVars_none hV
  obtain ⟨a0, n0, c0, rfl⟩ := okWide_slice Try.underlying28 (hval 0 28 v0 rfl rfl)
  have k0 := h0
  have lt0 : ∀ x ∈ p0, x.block < W.heap.size := by obtain ⟨m, hm⟩ := k0; exact DataW.trod_lt m _ _ _ hm
  have w0 := open_in (C := fun cs => ∃ x : Int, cs = [.int .i64 x] ∧ (Lit.int .i64 x).wf = true) Try.underlying28 k0 1 (by kernel_rfl) (by decide) (fun m cs x h => by obtain ⟨x, e, _, hw⟩ := DataW.trod_int Try.underlying3 h; exact ⟨x, e, hw⟩)
  obtain ⟨a1, n1, c1, rfl⟩ := okWide_slice Try.underlying28 (hval 1 28 v1 rfl rfl)
  have k1 := h1
  have lt1 : ∀ x ∈ p1, x.block < W.heap.size := by obtain ⟨m, hm⟩ := k1; exact DataW.trod_lt m _ _ _ hm
  have w1 := open_in (C := fun cs => ∃ x : Int, cs = [.int .i64 x] ∧ (Lit.int .i64 x).wf = true) Try.underlying28 k1 1 (by kernel_rfl) (by decide) (fun m cs x h => by obtain ⟨x, e, _, hw⟩ := DataW.trod_int Try.underlying3 h; exact ⟨x, e, hw⟩)
  clear hA0 hval0
  refine (walk W a0 n0 c0 w0 a1 n1 c1 w1).mono fun e W' ⟨he, bel⟩ => ?_
  subst he
  exact ⟨_, rfl, _, _, _, [], _, [], hW', trodAll_mk1 (shut_bool Try.underlying4 _), (trodAll_cons_mk (Below.trod laidOut (by kernel_rfl) (of_decide_eq_true (by kernel_rfl)) k0 bel lt0) (trodAll_cons_mk (Below.trod laidOut (by kernel_rfl) (of_decide_eq_true (by kernel_rfl)) k1 bel lt1) trodAll_mk0)), rfl, bel.frame _, fun h => by cases h⟩

theorem over : Rows.seglruEndsRow.holds Try.pinned (OpenSpec.ofChange Rows.seglruEndsSpec) :=
  OpenClaim.holds_of_wide 5 Try.f5 rfl rfl rfl rfl rfl rfl rfl ⟨rfl, rfl, rfl, rfl, rfl⟩ rfl rfl rfl rfl rfl (by kernel_rfl) Try.func5 (by kernel_rfl)
    (of_decide_eq_true (by kernel_rfl)) (by unfold Func.isWrapper; first | (rw [if_pos (by decide +kernel)]; kernel_rfl) | (rw [if_neg (by decide +kernel)]; exact ⟨rfl, rfl⟩))
    (fun os started H enc _ => lifted os started H enc)

theorem proved : Rows.SeglruEndsSaid := over
#print axioms proved
end Go.Proofs.Ytldnacphfoagnac.seglruEnds
