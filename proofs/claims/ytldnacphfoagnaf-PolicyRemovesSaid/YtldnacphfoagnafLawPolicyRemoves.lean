/- 'ambry/ambrylaw15.PolicyRemoves' returns true, for every input, and leaves its arguments as they were. No condition. -/
import Derived.Test.YtldnacphfoagnafIn
import Derived.Test.YtldnacphfoagnafPolIn
import Derived.Test.YtldnacphfoagnafIn
import Derived.Deep.QuietTactic
import Derived.BigQuiet
import Derived.Deep.DeepCutAuto
import Derived.Deep.CutBlock
import Derived.Deep.RegionHeld3
import Derived.WalkKit
import Derived.ProofKit
import Derived.OpenShut
import Derived.ShutString
import Derived.ChangeOld
import Derived.Below
namespace Go.Proofs.Ytldnacphfoagnaf.policyRemoves
open Go.ChangeShapes Go.WideShapes Go.ChangeAt Go.RowKit
open Go.ChangeMaps (open_string shut_string)
set_option linter.unusedVariables false

theorem own : ownKnob Try.prog.godebug = none := by kernel_rfl
theorem laidOut : laidOutB Try.prog = true := by kernel_rfl

theorem mkX_at (X : List Int) (i : Nat) : mkX X i = decide ((i : Int) ∈ X) := rfl
set_option maxRecDepth 100000 in
set_option maxHeartbeats 4000000 in
theorem walk (w : World) (a0 : Int) (w0 : (Lit.int .i64 a0).wf = true) (a1 : Int) (w1 : (Lit.int .i64 a1).wf = true) (a2 : Option Addr) (n2 c2 : Nat) (w2 : n2 ≤ c2 ∧ ∀ i, i < n2 → InAt w a2 1 i (fun cs => ∃ x : Int, cs = [.int .i64 x] ∧ (Lit.int .i64 x).wf = true)) :
    Calls Try.prog 3 #[.int .i64 a0, .int .i64 a1, .slice a2 n2 c2] w fun e w' => e = .returned (.bool true) ∧ Below w.heap.size w w' := by
  obtain ⟨kd, hkd', hk3⟩ := and_mask a0 3 (by decide)
  have hkd : bits .and .i64 a0 3 = kd := hkd'
  obtain ⟨nn, hnn', hn31⟩ := and_mask a1 31 (by decide)
  have hnn : bits .and .i64 a1 31 = nn := hnn'
  clear hkd' hnn'
  go_enter Try.func3, Try.ntmps3
  go_wp2_with fail
  refine (shown_any _).mono ?_
  rintro e y1 ⟨rfl, hB⟩
  have HF := Lib.hid (Fr.of_below hB)
  clear hB
  go_wp2_with fail
  refine (new_px (w0 := w) kd hk3 HF.out).mono ?_
  rintro e y2 ⟨p, S, rfl, h, _, _⟩
  have H := Lib.hid h
  clear h HF
  go_wp2_with fail
  refine (cap_px H.out 10 (by decide) (by omega)).mono ?_
  rintro e y3 ⟨rfl, h, _⟩
  have H3 := Lib.hid h
  clear h H
  have HB := Lib.hid (show Held w (y3.alloc (.cells (List.replicate 32 (.bool false)).toArray 27)) (grow S y2 y3) 27 1 (.slice (some ⟨y3.heap.size, 0, none⟩) 32 32) 32 (bools 32 (mkX [])) from by
    have := Held.array (w0 := w) (W := y3) (S := grow S y2 y3) (T := 27) (n := 32) (by decide) (bools 32 (fun _ => false)) (bools_len _ _) (fun b s => H3.out.hi b s) H3.out.fr.size
    rw [bools_none] at this
    rw [mkX_nil, bools_none]
    exact this)
  go_wp2_with fail
  obtain ⟨ib, hib⟩ : ∃ ib, y3.heap.size = ib := ⟨_, rfl⟩
  rw [hib] at HB ⊢
  go_loopw [10] (fun s wr => ∃ (i N : Nat) (X : List Int) (S : Nat → Prop), i ≤ nn ∧ N ≤ i ∧ X.length = i ∧ s = .int .i64 i ∧ Sep (PX p X N 0) w wr S ∧ Held w wr S 27 1 (.slice (some ⟨ib, 0, none⟩) 32 32) 32 (bools 32 (mkX X)) ∧ Low i X) (fun s _ => nn - (intOf s).toNat)
  case atStart => exact ⟨0, 0, [], _, by omega, by omega, rfl, rfl, px_alloc H3.out _, HB.out, fun x hx => by cases hx⟩
  case round =>
    clear H3 HB hib
    obtain ⟨i, N, X, S, hi, hN, hlen, rfl, h, hb, hL⟩ := hrel
    have Hk := Lib.hid (And.intro h (And.intro hb (And.intro hL hlen)))
    clear h hb hL hlen
    by_cases hlt : i < nn
    · have hno : (i : Int) ∉ X := fun q => by have := (Hk.out.2.2.1 _ q).2; omega
      have HNO := Lib.hid hno
      have HNN := Lib.hid (And.intro (show N < 1000000 by omega) (show (0 : Int) ≤ i ∧ (i : Int) ≤ 4194303 by omega))
      clear hno
      go_wp2_with fail
      refine (insert_px Hk.out.1 i i HNN.out.2 HNN.out.1 (by omega)).mono ?_
      rintro e y4 ⟨rfl, h, hF⟩
      have hH := Held.step Hk.out.2.1 hF
      rw [if_neg HNO.out] at h
      rw [decide_eq_true HNO.out]
      obtain ⟨hc2, hf2, _, _⟩ := held_mark hH (i := i) (by omega)
      have hset := px_held_set h hH (i := i) (by omega) (.bool true)
      rw [Nat.zero_add, mkX_in 32 i (by omega), if_neg HNO.out] at hset
      have H4 := Lib.hid hset
      have hi32 : (i : Int) < 32 := by omega
      clear h hF hH hset
      go_wp2_with fail
      go_roundw
      case rel => exact ⟨i + 1, N + 1, _, _, by omega, by omega, by simp [Hk.out.2.2.2], by go_num, H4.out.2, H4.out.1, fun x hx => by
        rcases List.mem_cons.1 hx with q | q
        · omega
        · have := Hk.out.2.2.1 x q; omega⟩
      case measure => simp [intOf]; omega
    · have hin : i = nn := by omega
      subst hin
      clear hlt hi
      obtain ⟨wz, rfl⟩ : ∃ wz : World, wz = wr := ⟨_, rfl⟩
      go_wp2_with fail
      go_loopw [11, 12, 13] (fun l s _ wr => ∃ (j N : Nat) (X : List Int) (S : Nat → Prop), j ≤ n2 ∧ j ≤ 60 ∧ N ≤ 31 + j ∧ X.length ≤ 31 ∧ l = .int .i64 X.length ∧ s = .int .i64 j ∧ Sep (PX p X N 0) w wr S ∧ Held w wr S 27 1 (.slice (some ⟨ib, 0, none⟩) 32 32) 32 (bools 32 (mkX X)) ∧ Low 32 X) (fun _ s _ _ => 60 - (intOf s).toNat)
      case atStart => exact ⟨0, N, X, S, by omega, by omega, by omega, by have := Hk.out.2.2.2; omega, by rw [Hk.out.2.2.2], rfl, Hk.out.1, Hk.out.2.1, fun x hx => by have := Hk.out.2.2.1 x hx; omega⟩
      case round =>
        clear Hk hN
        obtain ⟨j, N, X, S, hj, hj60, hN, hXl, rfl, rfl, h, hb, hL⟩ := hrel
        have Hk := Lib.hid (And.intro h (And.intro hb hL))
        clear h hb hL
        obtain ⟨xl, hxl⟩ : ∃ xl, X.length = xl := ⟨_, rfl⟩
        rw [hxl] at hXl ⊢
        have HXL := Lib.hid hxl
        clear hxl
        by_cases hlt : j < n2 ∧ j < 60
        · obtain ⟨hlt, hlt2⟩ := hlt
          obtain ⟨b, off, vv, rfl, hbl, hEl, hc⟩ := (w2.2 j hlt).one
          obtain ⟨x, he, hw⟩ := hEl
          simp at he
          subst he
          have hc' : wr.cell? ⟨b, off + j, none⟩ = some (.int .i64 x) := (Hk.out.1.fr.cell hbl (by unfold From; simp; omega)).trans hc
          obtain ⟨m, hm, hmb⟩ := and_mask x 31 (by decide)
          have hm' : bits .and .i64 x 31 = m := hm
          have W2 := Lib.hid w2
          by_cases hin : (m : Int) ∈ X
          · skip
            have hlen := len_drop (px_nodup Hk.out.1) (m : Int)
            rw [if_pos hin, HXL.out] at hlen
            have hbtX : decide ((m : Int) ∈ X) = true := decide_eq_true hin
            have HT := Lib.hid hbtX
            have hcd : wr.drew.cell? ⟨ib, m, none⟩ = some (.bool true) := by have := (held_mark Hk.out.2.1 (i := m) (by omega)).1; rw [hbtX] at this; exact this
            obtain ⟨_, _, hib, _⟩ := held_mark Hk.out.2.1 (i := m) (by omega)
            have hm32 : (m : Int) < 32 := by omega
            have HNN := Lib.hid (show N < 1000000 by omega)
            clear w2 hc hm hw hbtX
            go_wp2_with fail
            go_region_held3 (fun w' => w'.cell? ⟨ib, m, none⟩ = some (.bool true)) (first | exact hcd | exact hc1 | exact hc2) (first
              | (go_at_call 12; refine (touch_px Z1.out.1 m HNN.out).mono ?_; rintro e z2 ⟨rfl, h, hF⟩; have hH := Held.step Z1.out.2 hF; have hc2 := (held_mark hH (i := m) (by omega)).1; rw [HT.out] at hc2; rw [show decide ((m : Int) ∈ X.filter (· != (m : Int))) = false from decide_eq_false (fun q => by have := (List.mem_filter.1 q).2; simp at this)]; have Z2 := Lib.hid (And.intro h hH); clear h hF hH)
              | (go_at_call 11; refine (remove_px (px_drew Hk.out.1) m (Nat.le_of_lt HNN.out)).mono ?_; rintro e z1 ⟨rfl, h, hF⟩; have hH := Held.step (show Held w wr.drew _ _ 1 _ _ _ from Held.keep Hk.out.2.1 ((Fr.refl (fun _ => False) wr).drew) (fun _ _ q => q)) hF; have hc1 := (held_mark hH (i := m) (by omega)).1; rw [HT.out] at hc1; rw [HT.out]; have Z1 := Lib.hid (And.intro h hH); clear h hF hH))
            have hset := px_held_set Z2.out.1 Z2.out.2 (i := m) (by omega) (.bool false)
            rw [Nat.zero_add, mkX_out 32 m (by omega)] at hset
            have hf2 := (held_mark Z2.out.2 (i := m) (by omega)).2.1
            have H4 := Lib.hid hset
            clear hset
            go_wp2_with fail
            go_roundw
            case rel => exact ⟨j + 1, N + 1, _, _, by omega, by omega, by omega, by omega, by (show Value.int .i64 _ = _; congr 1; omega), by go_num, H4.out.2, H4.out.1, Hk.out.2.2.drop _⟩
            case measure => simp [intOf]; omega
          · skip
            have hlen := len_drop (px_nodup Hk.out.1) (m : Int)
            rw [if_neg hin, HXL.out, Nat.add_zero] at hlen
            have hbtX : decide ((m : Int) ∈ X) = false := decide_eq_false hin
            have HT := Lib.hid hbtX
            have hcd : wr.drew.cell? ⟨ib, m, none⟩ = some (.bool false) := by have := (held_mark Hk.out.2.1 (i := m) (by omega)).1; rw [hbtX] at this; exact this
            obtain ⟨_, _, hib, _⟩ := held_mark Hk.out.2.1 (i := m) (by omega)
            have hm32 : (m : Int) < 32 := by omega
            have HNN := Lib.hid (show N < 1000000 by omega)
            clear w2 hc hm hw hbtX
            go_wp2_with fail
            go_region_held3 (fun w' => w'.cell? ⟨ib, m, none⟩ = some (.bool false)) (first | exact hcd | exact hc1 | exact hc2) (first
              | (go_at_call 12; refine (touch_px Z1.out.1 m HNN.out).mono ?_; rintro e z2 ⟨rfl, h, hF⟩; have hH := Held.step Z1.out.2 hF; have hc2 := (held_mark hH (i := m) (by omega)).1; rw [HT.out] at hc2; rw [show decide ((m : Int) ∈ X.filter (· != (m : Int))) = false from decide_eq_false (fun q => by have := (List.mem_filter.1 q).2; simp at this)]; have Z2 := Lib.hid (And.intro h hH); clear h hF hH)
              | (go_at_call 11; refine (remove_px (px_drew Hk.out.1) m (Nat.le_of_lt HNN.out)).mono ?_; rintro e z1 ⟨rfl, h, hF⟩; have hH := Held.step (show Held w wr.drew _ _ 1 _ _ _ from Held.keep Hk.out.2.1 ((Fr.refl (fun _ => False) wr).drew) (fun _ _ q => q)) hF; have hc1 := (held_mark hH (i := m) (by omega)).1; rw [HT.out] at hc1; rw [HT.out]; have Z1 := Lib.hid (And.intro h hH); clear h hF hH))
            have hset := px_held_set Z2.out.1 Z2.out.2 (i := m) (by omega) (.bool false)
            rw [Nat.zero_add, mkX_out 32 m (by omega)] at hset
            have hf2 := (held_mark Z2.out.2 (i := m) (by omega)).2.1
            have H4 := Lib.hid hset
            clear hset
            go_wp2_with fail
            go_roundw
            case rel => exact ⟨j + 1, N + 1, _, _, by omega, by omega, by omega, by omega, by rw [hlen], by go_num, H4.out.2, H4.out.1, Hk.out.2.2.drop _⟩
            case measure => simp [intOf]; omega
        · have hex : (j < n2 ∧ j = 60) ∨ n2 ≤ j := by omega
          clear hlt
          rcases hex with ⟨hlt, rfl⟩ | hge
          all_goals
            go_wp2_with fail
            refine (victim_px Hk.out.1 5 (by have := HXL.out; omega)).mono ?_
            rintro e z1 ⟨v, rfl, hv0, hv1, h, hF⟩
            have HZ := Lib.hid (And.intro h (Held.step Hk.out.2.1 hF))
            clear h hF
            by_cases hX : X = []
            · have hv := hv0 hX
              subst hv
              have hx0 : xl = 0 := by rw [← HXL.out, hX]; rfl
              subst hx0
              clear hv0 hv1
              go_wp2_with fail
              refine (len_px HZ.out.1 (by rw [HXL.out]; omega)).mono ?_
              rintro e z2 ⟨rfl, j2, rfl, h⟩
              rw [HXL.out]
              have HE := Lib.hid h
              clear h
              go_wp2
              go_ret
              exact ⟨rfl, HE.out.below⟩
            · have hv := hv1 hX
              have hvr := Hk.out.2.2 v hv
              obtain ⟨m, rfl⟩ : ∃ m : Nat, v = m := ⟨v.toNat, by omega⟩
              have hxp : 0 < xl := by rw [← HXL.out]; exact List.length_pos_iff.2 hX
              have hx0 : (xl == 0) = false := by rw [beq_eq_false_iff_ne]; omega
              have hx0' : ((xl : Int) == 0) = false := by rw [beq_eq_false_iff_ne]; omega
              have hm32 : m ≤ 31 := by omega
              have hNN : N + (3 * X.length + 5) ≤ 1000000 := by rw [HXL.out]; omega
              clear hv0 hv1 hvr
              go_wp2_with fail
              refine (len_px HZ.out.1 hNN).mono ?_
              rintro e z2 ⟨rfl, j2, rfl, h⟩
              rw [HXL.out]
              have hcm : (z1.drewN j2).cell? ⟨ib, m, none⟩ = some (.bool true) := by have := (held_mark HZ.out.2 (i := m) (by omega)).1; rw [decide_eq_true hv] at this; exact this
              have HE := Lib.hid h
              clear h
              go_wp2
              go_ret
              exact ⟨rfl, HE.out.below⟩

set_option maxRecDepth 100000 in
theorem lifted (os : Os) (started : os.Started) (H : Type) (enc : TypeId × Value → H) :
    ReturnsInHanded {} Try.checked os 3 .any (Rows.policyRemovesSpec.pre6 enc Try.prog Try.f3 Rows.policyRemovesRow.domain false) (Rows.policyRemovesSpec.post enc Try.prog Try.f3 false true false false) := by
  refine returnsInHanded_of_change (C := Try.checked) own started (by kernel_rfl) Try.func3
    (ChangeSpec.witness6 (enc := enc) (C := Try.checked) false ⟨#[], #[.int .i64 0, .int .i64 0, .slice none 0 0], []⟩ 8 (by kernel_rfl) (by kernel_rfl) (by kernel_rfl) (by kernel_rfl)) ?_
  intro W base args ds gs before hval0 hW hcnd _
  have hval : ∀ (j : Nat) t v, Try.f3.params[j]? = some t → args[j]? = some v → Value.okWide Try.prog W .any base t v := hval0
  have hW' := hW
  obtain ⟨p, q, hA0, hV, rfl, hfz, hnd⟩ := hW
  have hA : DataW.TrodAll enc Try.prog W 0 (fun _ => true) true Try.f3.params.toList args.toList ds p := hA0
  rw [Try.params3] at hA hval
  obtain ⟨v0, vs0, d0, ds0, p0, q0, hargs, rfl, rfl, h0, r0⟩ := trodAll_cons hA
  obtain ⟨v1, vs1, d1, ds1, p1, q1, rfl, rfl, rfl, h1, r1⟩ := trodAll_cons r0
  obtain ⟨v2, vs2, d2, ds2, p2, q2, rfl, rfl, rfl, h2, r2⟩ := trodAll_cons r1
  obtain ⟨rfl, rfl, rfl⟩ := trodAll_nil r2
  obtain rfl : args = #[v0, v1, v2] := by cases args; simp_all
  obtain ⟨rfl, rfl⟩ := trodVars_none hV
  obtain ⟨a0, rfl, rfl, rfl, w0⟩ := open_int Try.underlying3 (hval 0 3 v0 rfl rfl) h0
  obtain ⟨a1, rfl, rfl, rfl, w1⟩ := open_int Try.underlying3 (hval 1 3 v1 rfl rfl) h1
  obtain ⟨a2, n2, c2, rfl⟩ := okWide_slice Try.underlying22 (hval 2 22 v2 rfl rfl)
  have k2 := h2
  have lt2 : ∀ x ∈ p2, x.block < W.heap.size := by obtain ⟨m, hm⟩ := k2; exact DataW.trod_lt m _ _ _ hm
  have w2 := open_in (C := fun cs => ∃ x : Int, cs = [.int .i64 x] ∧ (Lit.int .i64 x).wf = true) Try.underlying22 k2 1 (by kernel_rfl) (by decide) (fun m cs x h => by obtain ⟨x, e, _, hw⟩ := DataW.trod_int Try.underlying3 h; exact ⟨x, e, hw⟩)
  clear hA0 hval0
  refine (walk W a0 w0 a1 w1 a2 n2 c2 w2).mono fun e W' ⟨he, bel⟩ => ?_
  subst he
  exact ⟨_, rfl, _, _, _, [], _, [], hW', trodAll_mk1 (shut_bool Try.underlying4 _), (trodAll_cons_mk (shut_int Try.underlying3 w0) (trodAll_cons_mk (shut_int Try.underlying3 w1) (trodAll_cons_mk (Below.trod laidOut (by kernel_rfl) (of_decide_eq_true (by kernel_rfl)) k2 bel lt2) trodAll_mk0))), rfl, bel.frame _, fun h => by cases h⟩

theorem over : Rows.policyRemovesRow.holds Try.pinned (OpenSpec.ofChange Rows.policyRemovesSpec) :=
  OpenClaim.holds_of_wide 3 Try.f3 rfl rfl rfl rfl rfl rfl rfl ⟨rfl, rfl, rfl, rfl, rfl⟩ rfl rfl rfl rfl rfl (by kernel_rfl) Try.func3 (by kernel_rfl)
    (of_decide_eq_true (by kernel_rfl)) (by unfold Func.isWrapper; first | (rw [if_pos (by decide +kernel)]; kernel_rfl) | (rw [if_neg (by decide +kernel)]; exact ⟨rfl, rfl⟩))
    (fun os started H enc _ => lifted os started H enc)

theorem proved : Rows.PolicyRemovesSaid := over
#print axioms proved
end Go.Proofs.Ytldnacphfoagnaf.policyRemoves
