/- 'ambry/ambrylaw15.PolicyServes' returns true, for every input, and leaves its arguments as they were. No condition. -/
import Derived.Test.YtldnacphfoagnafIn
import Derived.Test.YtldnacphfoagnafPolIn
import Derived.Test.YtldnacphfoagnafIn
import Derived.Deep.QuietTactic
import Derived.BigQuiet
import Derived.Deep.DeepCutAuto
import Derived.Deep.CutBlock
import Derived.Deep.RegionHeld3
import Derived.WalkKit
import Derived.ProofKit
import Derived.OpenShut
import Derived.ShutString
import Derived.ChangeOld
import Derived.Below
namespace Go.Proofs.Ytldnacphfoagnaf.policyServes
open Go.ChangeShapes Go.WideShapes Go.ChangeAt Go.RowKit
open Go.ChangeMaps (open_string shut_string)
set_option linter.unusedVariables false

theorem own : ownKnob Try.prog.godebug = none := by kernel_rfl
theorem laidOut : laidOutB Try.prog = true := by kernel_rfl

set_option maxRecDepth 100000 in
set_option maxHeartbeats 4000000 in
theorem walk (w : World) (a0 : Int) (w0 : (Lit.int .i64 a0).wf = true) (a1 : Int) (w1 : (Lit.int .i64 a1).wf = true) (a2 : Option Addr) (n2 c2 : Nat) (w2 : n2 ≤ c2 ∧ ∀ i, i < n2 → InAt w a2 1 i (fun cs => ∃ x : Int, cs = [.int .i64 x] ∧ (Lit.int .i64 x).wf = true)) :
    Calls Try.prog 5 #[.int .i64 a0, .int .i64 a1, .slice a2 n2 c2] w fun e w' => e = .returned (.bool true) ∧ Below w.heap.size w w' := by
  have b0 := bounds_i64 w0
  have b1 := bounds_i64 w1
  go_enter Try.func5, Try.ntmps5
  go_wp2_with fail
  refine (shown_any _).mono ?_
  rintro e y1 ⟨rfl, hB⟩
  have HF := Lib.hid (Fr.of_below hB)
  clear hB
  go_upto_if 17 with fail
  go_cut [0] (fun s wx => ∃ q : Nat, q ≤ 9223372036854775807 ∧ s = .int .i64 q ∧ y1 = wx)
  case first =>
    by_cases hp : a0 < 0
    · go_wp2
      go_meet
      exact ⟨(-(a0 + 1)).toNat, by omega, by rw [Int.toNat_of_nonneg (by omega)], rfl⟩
    · go_wp2
      go_meet
      exact ⟨a0.toNat, by omega, by rw [Int.toNat_of_nonneg (by omega)], rfl⟩
  case rest =>
    obtain ⟨q0, hq0, rfl, rfl⟩ := hcut
    clear b0
    go_upto_if 22 with fail
    go_cut [1] (fun s wx => ∃ q : Nat, q ≤ 9223372036854775807 ∧ s = .int .i64 q ∧ y1 = wx)
    case first =>
      by_cases hp : a1 < 0
      · go_wp2
        go_meet
        exact ⟨(-(a1 + 1)).toNat, by omega, by rw [Int.toNat_of_nonneg (by omega)], rfl⟩
      · go_wp2
        go_meet
        exact ⟨a1.toNat, by omega, by rw [Int.toNat_of_nonneg (by omega)], rfl⟩
    case rest =>
      obtain ⟨q1, hq1, rfl, rfl⟩ := hcut
      clear b1
      go_upto_region 6 with fail
      go_cut [1] (fun s wx => ∃ n : Nat, 1 ≤ n ∧ n ≤ 12 ∧ s = .int .i64 n ∧ y1 = wx)
      case first =>
        go_wp2
        go_meet
        exact ⟨1 + q1 % 12, by omega, by omega, by simp <;> omega, rfl⟩
      case rest =>
        obtain ⟨pl, hp1, hp12, rfl, rfl⟩ := hcut
        clear hq1
        obtain ⟨kd, hkd⟩ : ∃ kd : Nat, q0 % 4 = kd := ⟨_, rfl⟩
        have hkd' : (q0 : Int) % 4 = kd := by omega
        have hk3 : kd ≤ 3 := by omega
        go_wp2_with fail
        refine (new_px (w0 := w) kd hk3 HF.out).mono ?_
        rintro e y2 ⟨p, S, rfl, h, _, _⟩
        have H := Lib.hid h
        clear h HF hkd hkd' hq0
        go_wp2_with fail
        refine (cap_px H.out pl (by omega) (by omega)).mono ?_
        rintro e y3 ⟨rfl, h, _⟩
        have H3 := Lib.hid h
        clear h H
        have HB := Lib.hid (show Held w (y3.alloc (.cells (List.replicate 32 (.bool false)).toArray 27)) (grow S y2 y3) 27 1 (.slice (some ⟨y3.heap.size, 0, none⟩) 32 32) 32 (bools 32 (mkX [])) from by
          have := Held.array (w0 := w) (W := y3) (S := grow S y2 y3) (T := 27) (n := 32) (by decide) (bools 32 (fun _ => false)) (bools_len _ _) (fun b s => H3.out.hi b s) H3.out.fr.size
          rw [bools_none] at this
          rw [mkX_nil, bools_none]
          exact this)
        go_wp2_with fail
        obtain ⟨ib, hib⟩ : ∃ ib, y3.heap.size = ib := ⟨_, rfl⟩
        rw [hib] at HB ⊢
        go_loopw [10, 11, 12, 13] (fun l s _ _ wr => ∃ (k N M : Nat) (X : List Int) (S : Nat → Prop), k ≤ n2 ∧ k ≤ 200 ∧ N ≤ 43 * k ∧ M ≤ k ∧ X.length ≤ pl ∧ l = .int .i64 X.length ∧ s = .int .i64 k ∧ Sep (PX p X N M) w wr S ∧ Held w wr S 27 1 (.slice (some ⟨ib, 0, none⟩) 32 32) 32 (bools 32 (mkX X)) ∧ Low 32 X) (fun _ s _ _ _ => 200 - (intOf s).toNat)
        case atStart => exact ⟨0, 0, 0, [], _, by omega, by omega, by omega, by omega, by simp, rfl, rfl, px_alloc H3.out _, HB.out, fun x hx => by cases hx⟩
        case round =>
          clear H3 HB hib
          obtain ⟨k, N, M, X, S, hk, hk2, hN, hM, hXl, rfl, rfl, h, hb, hL⟩ := hrel
          have Hk := Lib.hid (And.intro h (And.intro hb hL))
          clear h hb hL
          obtain ⟨xl, hxl⟩ : ∃ xl, X.length = xl := ⟨_, rfl⟩
          rw [hxl] at hXl ⊢
          have HXL := Lib.hid hxl
          clear hxl
          by_cases hlt : k < n2 ∧ k < 200
          · obtain ⟨hlt, hlt2⟩ := hlt
            obtain ⟨b, off, vv, rfl, hbl, hEl, hc⟩ := (w2.2 k hlt).one
            obtain ⟨x, he, hw⟩ := hEl
            simp at he
            subst he
            have hc' : wr.cell? ⟨b, off + k, none⟩ = some (.int .i64 x) := (Hk.out.1.fr.cell hbl (by unfold From; simp; omega)).trans hc
            obtain ⟨m, hm, hmb⟩ := and_mask x 31 (by decide)
            have hm' : bits .and .i64 x 31 = m := hm
            have W2 := Lib.hid w2
            have hm32 : (m : Int) < 32 := by omega
            have HNN := Lib.hid (And.intro (show N < 1000000 by omega) (And.intro (show M < 1000000 by omega) (show (0 : Int) ≤ m ∧ (m : Int) ≤ 4194303 by omega)))
            clear w2 hc hm hw
            obtain ⟨bt, hbt⟩ : ∃ bt, decide ((m : Int) ∈ X) = bt := ⟨_, rfl⟩
            have HT := Lib.hid hbt
            have hcd : wr.drew.cell? ⟨ib, m, none⟩ = some (.bool bt) := by have := (held_mark Hk.out.2.1 (i := m) (by omega)).1; rw [hbt] at this; exact this
            clear hbt
            go_wp2_with fail
            go_region_held3 (fun w' => w'.cell? ⟨ib, m, none⟩ = some (.bool bt)) (first | exact hcd | exact hc1) (first | (go_at_call 12; refine (touch_px (px_drew Hk.out.1) m HNN.out.1).mono ?_; rintro e z1 ⟨rfl, h, hF⟩; have hH := Held.step (show Held w wr.drew _ _ 1 _ _ _ from Held.keep Hk.out.2.1 ((Fr.refl (fun _ => False) wr).drew) (fun _ _ q => q)) hF; have hc1 := (held_mark hH (i := m) (by omega)).1; rw [HT.out] at hc1; rw [HT.out]; have Z1 := Lib.hid (And.intro h hH); clear h hF hH))
            go_upto_region 19 with fail
            go_cut [71] (fun c wx => c = .bool (!bt && decide (xl = pl)) ∧ z1 = wx)
            case first =>
              rcases bt with _ | _
              · by_cases hf : xl = pl
                · subst hf
                  go_wp2
                  go_meet
                  exact ⟨by simp, rfl⟩
                · have hf1 : (xl == pl) = false := by rw [beq_eq_false_iff_ne]; omega
                  have hf2 : ((xl : Int) == (pl : Int)) = false := by rw [beq_eq_false_iff_ne]; omega
                  go_wp2
                  go_meet
                  exact ⟨by simp [hf], rfl⟩
              · go_wp2
                go_meet
                exact ⟨rfl, rfl⟩
            case rest =>
              obtain ⟨rfl, rfl⟩ := hcut
              go_upto_if 71 with fail
              go_cut [10, 13] (fun nn _ wx => ∃ (N' M' : Nat) (X' : List Int) (S' : Nat → Prop), N' ≤ N + 42 ∧ M' ≤ M + 1 ∧ nn = .int .i64 X'.length ∧ X'.length + (if (m : Int) ∈ X' then 0 else 1) ≤ pl ∧ ((m : Int) ∈ X' ↔ (m : Int) ∈ X) ∧ Sep (PX p X' N' M') w wx S' ∧ Held w wx S' 27 1 (.slice (some ⟨ib, 0, none⟩) 32 32) 32 (bools 32 (mkX X')) ∧ Low 32 X')
              case first =>
                rcases bt with _ | _
                · have hno : (m : Int) ∉ X := of_decide_eq_false HT.out
                  by_cases hf : xl = pl
                  · subst hf
                    have hX : X ≠ [] := fun e => by have := HXL.out; rw [e] at this; simp at this; omega
                    have HX := Lib.hid (And.intro hX hno)
                    clear hX hno
                    go_wp2_with fail
                    refine (victim_px Z1.out.1 m (by have := HXL.out; omega)).mono ?_
                    rintro e z2 ⟨v, rfl, _, hv1, h, hF⟩
                    have hv := hv1 HX.out.1
                    have hvr := Hk.out.2.2 v hv
                    obtain ⟨u, rfl⟩ : ∃ u : Nat, v = u := ⟨v.toNat, by omega⟩
                    have hu32 : (u : Int) < 32 := by omega
                    have hu31 : u ≤ 31 := by omega
                    have hH := Held.step Z1.out.2 hF
                    have hcu := (held_mark hH (i := u) (by omega)).1
                    rw [decide_eq_true hv] at hcu
                    have Z2 := Lib.hid (And.intro h (And.intro hH hv))
                    clear hv1 hv hvr h hF hH
                    go_wp2_with fail
                    refine (evict_px Z2.out.1 u (by have := HXL.out; omega) HNN.out.2.1).mono ?_
                    rintro e z3 ⟨rfl, h, hF⟩
                    rw [decide_eq_true Z2.out.2.2]
                    have hH := Held.step Z2.out.2.1 hF
                    have hfu := (held_mark hH (i := u) (by omega)).2.1
                    have hcu3 := (held_mark hH (i := u) (by omega)).1
                    have hset := px_held_set h hH (i := u) (by omega) (.bool false)
                    rw [Nat.zero_add, mkX_out 32 u (by omega)] at hset
                    have Z3 := Lib.hid hset
                    clear h hF hH hset
                    go_wp2
                    go_meet
                    have hlen := len_drop (px_nodup Hk.out.1) (u : Int)
                    rw [if_pos Z2.out.2.2, HXL.out] at hlen
                    have hmu : (m : Int) ∉ X.filter (· != (u : Int)) := fun q => HX.out.2 (List.mem_filter.1 q).1
                    exact ⟨_, _, _, _, by have := HXL.out; omega, by omega, by show Value.int .i64 _ = _; congr 1; omega, by rw [if_neg hmu]; omega, ⟨fun q => absurd q hmu, fun q => absurd q HX.out.2⟩, Z3.out.2, Z3.out.1, Hk.out.2.2.drop _⟩
                  · rw [show (!false && decide (xl = pl)) = false from by simp [hf]]
                    go_wp2
                    go_meet
                    exact ⟨_, _, X, _, by omega, by omega, by rw [HXL.out], by rw [if_neg hno, HXL.out]; omega, Iff.rfl, Z1.out.1, Z1.out.2, Hk.out.2.2⟩
                · have hin : (m : Int) ∈ X := of_decide_eq_true HT.out
                  rw [show (!true && decide (xl = pl)) = false from rfl]
                  go_wp2
                  go_meet
                  exact ⟨_, _, X, _, by omega, by omega, by rw [HXL.out], by rw [if_pos hin, HXL.out]; omega, Iff.rfl, Z1.out.1, Z1.out.2, Hk.out.2.2⟩
              case rest =>
                obtain ⟨N', M', X', S', hN', hM', rfl, hlen, hmm, h, hb, hL⟩ := hcut
                obtain ⟨wz, rfl⟩ : ∃ wz : World, wz = wc := ⟨_, rfl⟩
                have Hq := Lib.hid (And.intro h (And.intro hb hL))
                clear h hb hL hcd
                obtain ⟨bt', hbt'⟩ : ∃ bt', decide ((m : Int) ∈ X') = bt' := ⟨_, rfl⟩
                have HT' := Lib.hid hbt'
                have hcd' : wz.drew.cell? ⟨ib, m, none⟩ = some (.bool bt') := by have := (held_mark Hq.out.2.1 (i := m) (by omega)).1; rw [hbt'] at this; exact this
                have HN' := Lib.hid (And.intro (show N' < 1000000 by omega) (show M' ≤ 1000000 by omega))
                have HB' := Lib.hid (show N' ≤ 43 * k + 42 ∧ M' ≤ k + 1 ∧ X'.length + (if (m : Int) ∈ X' then 0 else 1) ≤ pl from ⟨by omega, by omega, hlen⟩)
                have hXl' : X'.length ≤ 12 := by omega
                obtain ⟨xl', hxl'⟩ : ∃ xl, X'.length = xl := ⟨_, rfl⟩
                rw [hxl'] at hXl' ⊢
                have HXL' := Lib.hid hxl'
                clear hbt' hlen hmm hN' hM' hN hM hxl'
                go_wp2_with fail
                go_region_held3 (fun w' => w'.cell? ⟨ib, m, none⟩ = some (.bool bt')) (first | exact hcd' | exact hc3) (first | (go_at_call 10; refine (insert_px (px_drew Hq.out.1) m _ HNN.out.2.2 HN'.out.1 HN'.out.2).mono ?_; rintro e z3 ⟨rfl, h, hF⟩; have hH := Held.step (show Held w wz.drew _ _ 1 _ _ _ from Held.keep Hq.out.2.1 ((Fr.refl (fun _ => False) wz).drew) (fun _ _ q => q)) hF; have hc3 := (held_mark hH (i := m) (by omega)).1; rw [HT'.out] at hc3; rw [decide_not, HT'.out]; have Z3 := Lib.hid (And.intro h hH); clear h hF hH))
                have hf3 := (held_mark Z3.out.2 (i := m) (by omega)).2.1
                have hset := px_held_set Z3.out.1 Z3.out.2 (i := m) (by omega) (.bool true)
                rw [Nat.zero_add, mkX_in 32 m (by omega)] at hset
                have Z4 := Lib.hid hset
                have HLow := Lib.hid (Hq.out.2.2.put (i := m) (by omega))
                have HLen := Lib.hid (len_put X' (m : Int))
                clear hset
                rcases bt' with _ | _
                · have hno : (m : Int) ∉ X' := of_decide_eq_false HT'.out
                  have hXn : (if (m : Int) ∈ X' then X' else (m : Int) :: X').length = xl' + 1 := by rw [HLen.out, if_neg hno, HXL'.out]
                  have HXn := Lib.hid hXn
                  have hle : ¬ (pl : Int) < (xl' : Int) + 1 := by have := HB'.out.2.2; rw [if_neg hno, HXL'.out] at this; omega
                  have hle' : decide ((pl : Int) < (xl' : Int) + 1) = false := decide_eq_false hle
                  have hNN : N' + 1 ≤ 1000000 := by have := HN'.out.1; omega
                  clear hno hXn hle
                  go_wp2_with fail
                  refine (len_px Z4.out.2 hNN).mono ?_
                  rintro e z5 ⟨rfl, j5, rfl, h⟩
                  rw [HXn.out]
                  have Z5 := Lib.hid (And.intro h (Held.keep Z4.out.1 ((Fr.refl (fun _ => False) _).drewN j5) (fun _ _ q => q)))
                  clear h
                  go_wp2_with fail
                  go_roundw
                  case rel => exact ⟨k + 1, _, _, _, _, by omega, by omega, by have := HB'.out.1; omega, HB'.out.2.1, by rw [HXn.out]; have := of_decide_eq_false hle'; omega, by rw [HXn.out]; go_num, by go_num, Z5.out.1, Z5.out.2, HLow.out⟩
                  case measure => simp [intOf]; omega
                · have hin : (m : Int) ∈ X' := of_decide_eq_true HT'.out
                  have hXn : (if (m : Int) ∈ X' then X' else (m : Int) :: X').length = xl' := by rw [HLen.out, if_pos hin, HXL'.out]; rfl
                  have HXn := Lib.hid hXn
                  have hle : ¬ (pl : Int) < (xl' : Int) := by have := HB'.out.2.2; rw [if_pos hin, HXL'.out] at this; omega
                  have hle' : decide ((pl : Int) < (xl' : Int)) = false := decide_eq_false hle
                  have hle'' : decide (pl < xl') = false := decide_eq_false (by omega)
                  have hNN : N' + 1 ≤ 1000000 := by have := HN'.out.1; omega
                  clear hin hXn hle
                  go_wp2_with fail
                  refine (len_px Z4.out.2 hNN).mono ?_
                  rintro e z5 ⟨rfl, j5, rfl, h⟩
                  rw [HXn.out]
                  have Z5 := Lib.hid (And.intro h (Held.keep Z4.out.1 ((Fr.refl (fun _ => False) _).drewN j5) (fun _ _ q => q)))
                  clear h
                  go_wp2_with fail
                  go_roundw
                  case rel => exact ⟨k + 1, _, _, _, _, by omega, by omega, by have := HB'.out.1; omega, HB'.out.2.1, by rw [HXn.out]; have := of_decide_eq_false hle'; omega, by rw [HXn.out], by go_num, Z5.out.1, Z5.out.2, HLow.out⟩
                  case measure => simp [intOf]; omega
          · have hex : (k < n2 ∧ k = 200) ∨ n2 ≤ k := by omega
            clear hlt
            obtain ⟨wz, rfl⟩ : ∃ wz : World, wz = wr := ⟨_, rfl⟩
            rcases hex with ⟨hlt, rfl⟩ | hge
            all_goals
              go_wp2_with fail
              go_loopw [14] (fun s wr => ∃ (i : Nat), i ≤ 32 ∧ s = .int .i64 i ∧ Fr (fun b => wz.heap.size ≤ b) wz wr) (fun s _ => 32 - (intOf s).toNat)
              case atStart => exact ⟨0, by omega, rfl, Fr.refl _ _⟩
              case round =>
                obtain ⟨i, hi, rfl, hFi⟩ := hrel
                have hS := px_keep Hk.out.1 hFi (fun b hb _ => by omega) (fun b hb => by have := Hk.out.1.fr.size; omega)
                have hH := Held.keep Hk.out.2.1 hFi (fun b hb => by omega)
                have Hi := Lib.hid (And.intro hS (And.intro hH hFi))
                clear hS hH hFi
                by_cases hi32 : i < 32
                · obtain ⟨bt, hbt⟩ : ∃ bt, decide ((i : Int) ∈ X) = bt := ⟨_, rfl⟩
                  have HT := Lib.hid hbt
                  have hcd : wr.drew.cell? ⟨ib, i, none⟩ = some (.bool bt) := by have := (held_mark Hi.out.2.1 (i := i) hi32).1; rw [hbt] at this; exact this
                  clear hbt
                  have hi32' : (i : Int) < 32 := by omega
                  go_wp2_with fail
                  go_region_held3 (fun w' => w'.cell? ⟨ib, i, none⟩ = some (.bool bt)) (first | exact hcd | exact hc1) (first | (go_at_call 16; refine (has_px (px_drew Hi.out.1) i).mono ?_; rintro e z1 ⟨rfl, j1, hj1, h⟩; have hc1 : z1.cell? ⟨ib, i, none⟩ = some (.bool bt) := hj1 ▸ hcd; rw [HT.out]; have Z1 := Lib.hid (And.intro h hj1); clear h hj1))
                  go_wp2_with fail
                  go_roundw
                  case rel => exact ⟨i + 1, by omega, by go_num, by rw [Z1.out.2]; exact (Hi.out.2.2.drew).drewN j1⟩
                  case measure => simp [intOf]; omega
                · go_wp2
                  go_ret
                  exact ⟨rfl, Hi.out.1.below⟩

set_option maxRecDepth 100000 in
theorem lifted (os : Os) (started : os.Started) (H : Type) (enc : TypeId × Value → H) :
    ReturnsInHanded {} Try.checked os 5 .any (Rows.policyServesSpec.pre6 enc Try.prog Try.f5 Rows.policyServesRow.domain false) (Rows.policyServesSpec.post enc Try.prog Try.f5 false true false false) := by
  refine returnsInHanded_of_change (C := Try.checked) own started (by kernel_rfl) Try.func5
    (ChangeSpec.witness6 (enc := enc) (C := Try.checked) false ⟨#[], #[.int .i64 0, .int .i64 0, .slice none 0 0], []⟩ 8 (by kernel_rfl) (by kernel_rfl) (by kernel_rfl) (by kernel_rfl)) ?_
  intro W base args ds gs before hval0 hW hcnd _
  have hval : ∀ (j : Nat) t v, Try.f5.params[j]? = some t → args[j]? = some v → Value.okWide Try.prog W .any base t v := hval0
  have hW' := hW
  obtain ⟨p, q, hA0, hV, rfl, hfz, hnd⟩ := hW
  have hA : DataW.TrodAll enc Try.prog W 0 (fun _ => true) true Try.f5.params.toList args.toList ds p := hA0
  rw [Try.params5] at hA hval
  obtain ⟨v0, vs0, d0, ds0, p0, q0, hargs, rfl, rfl, h0, r0⟩ := trodAll_cons hA
  obtain ⟨v1, vs1, d1, ds1, p1, q1, rfl, rfl, rfl, h1, r1⟩ := trodAll_cons r0
  obtain ⟨v2, vs2, d2, ds2, p2, q2, rfl, rfl, rfl, h2, r2⟩ := trodAll_cons r1
  obtain ⟨rfl, rfl, rfl⟩ := trodAll_nil r2
  obtain rfl : args = #[v0, v1, v2] := by cases args; simp_all
  obtain ⟨rfl, rfl⟩ := trodVars_none hV
  obtain ⟨a0, rfl, rfl, rfl, w0⟩ := open_int Try.underlying3 (hval 0 3 v0 rfl rfl) h0
  obtain ⟨a1, rfl, rfl, rfl, w1⟩ := open_int Try.underlying3 (hval 1 3 v1 rfl rfl) h1
  obtain ⟨a2, n2, c2, rfl⟩ := okWide_slice Try.underlying22 (hval 2 22 v2 rfl rfl)
  have k2 := h2
  have lt2 : ∀ x ∈ p2, x.block < W.heap.size := by obtain ⟨m, hm⟩ := k2; exact DataW.trod_lt m _ _ _ hm
  have w2 := open_in (C := fun cs => ∃ x : Int, cs = [.int .i64 x] ∧ (Lit.int .i64 x).wf = true) Try.underlying22 k2 1 (by kernel_rfl) (by decide) (fun m cs x h => by obtain ⟨x, e, _, hw⟩ := DataW.trod_int Try.underlying3 h; exact ⟨x, e, hw⟩)
  clear hA0 hval0
  refine (walk W a0 w0 a1 w1 a2 n2 c2 w2).mono fun e W' ⟨he, bel⟩ => ?_
  subst he
  exact ⟨_, rfl, _, _, _, [], _, [], hW', trodAll_mk1 (shut_bool Try.underlying4 _), (trodAll_cons_mk (shut_int Try.underlying3 w0) (trodAll_cons_mk (shut_int Try.underlying3 w1) (trodAll_cons_mk (Below.trod laidOut (by kernel_rfl) (of_decide_eq_true (by kernel_rfl)) k2 bel lt2) trodAll_mk0))), rfl, bel.frame _, fun h => by cases h⟩

theorem over : Rows.policyServesRow.holds Try.pinned (OpenSpec.ofChange Rows.policyServesSpec) :=
  OpenClaim.holds_of_wide 5 Try.f5 rfl rfl rfl rfl rfl rfl rfl ⟨rfl, rfl, rfl, rfl, rfl⟩ rfl rfl rfl rfl rfl (by kernel_rfl) Try.func5 (by kernel_rfl)
    (of_decide_eq_true (by kernel_rfl)) (by unfold Func.isWrapper; first | (rw [if_pos (by decide +kernel)]; kernel_rfl) | (rw [if_neg (by decide +kernel)]; exact ⟨rfl, rfl⟩))
    (fun os started H enc _ => lifted os started H enc)

theorem proved : Rows.PolicyServesSaid := over
#print axioms proved
end Go.Proofs.Ytldnacphfoagnaf.policyServes
