/- 'ambry/ambrylaw15.PolicyEnds' returns true, for every input, and leaves its arguments as they were. No condition. -/
import Derived.Test.YtldnacphfoagnafIn
import Derived.Test.YtldnacphfoagnafPolIn
import Derived.Test.YtldnacphfoagnafIn
import Derived.Deep.QuietTactic
import Derived.BigQuiet
import Derived.Deep.DeepCutAuto
import Derived.Deep.CutBlock
import Derived.Deep.RegionHeld3
import Derived.WalkKit
import Derived.ProofKit
import Derived.OpenShut
import Derived.ShutString
import Derived.ChangeOld
import Derived.Below
namespace Go.Proofs.Ytldnacphfoagnaf.policyEnds
open Go.ChangeShapes Go.WideShapes Go.ChangeAt Go.RowKit
open Go.ChangeMaps (open_string shut_string)
set_option linter.unusedVariables false

theorem own : ownKnob Try.prog.godebug = none := by kernel_rfl
theorem laidOut : laidOutB Try.prog = true := by kernel_rfl

set_option maxRecDepth 100000 in
set_option maxHeartbeats 4000000 in
theorem walk (w : World) (a0 : Int) (w0 : (Lit.int .i64 a0).wf = true) (a1 : Option Addr) (n1 c1 : Nat) (w1 : n1 ≤ c1 ∧ ∀ i, i < n1 → InAt w a1 1 i (fun cs => ∃ x : Int, cs = [.int .i64 x] ∧ (Lit.int .i64 x).wf = true)) (a2 : Option Addr) (n2 c2 : Nat) (w2 : n2 ≤ c2 ∧ ∀ i, i < n2 → InAt w a2 1 i (fun cs => ∃ x : Int, cs = [.int .i64 x] ∧ (Lit.int .i64 x).wf = true)) :
    Calls Try.prog 6 #[.int .i64 a0, .slice a1 n1 c1, .slice a2 n2 c2] w fun e w' => e = .returned (.bool true) ∧ Below w.heap.size w w' := by
  obtain ⟨kd, hkd', hk3⟩ := and_mask a0 3 (by decide)
  have hkd : bits .and .i64 a0 3 = kd := hkd'
  clear hkd'
  go_enter Try.func6, Try.ntmps6
  go_wp2_with fail
  refine (shown_any _).mono ?_
  rintro e y1 ⟨rfl, hB⟩
  have HF := Lib.hid (Fr.of_below hB)
  clear hB
  go_wp2_with fail
  refine (new_px (w0 := w) kd hk3 HF.out).mono ?_
  rintro e y2 ⟨p, S, rfl, h, _, _⟩
  have H := Lib.hid h
  clear h HF
  go_wp2_with fail
  refine (cap_px H.out 20 (by decide) (by omega)).mono ?_
  rintro e y3 ⟨rfl, h, _⟩
  have H3 := Lib.hid h
  clear h H
  have HB := Lib.hid (show Held w (y3.alloc (.cells (List.replicate 64 (.bool false)).toArray 36)) (grow S y2 y3) 36 1 (.slice (some ⟨y3.heap.size, 0, none⟩) 64 64) 64 (bools 64 (mkX [])) from by
    have := Held.array (w0 := w) (W := y3) (S := grow S y2 y3) (T := 36) (n := 64) (by decide) (bools 64 (fun _ => false)) (bools_len _ _) (fun b s => H3.out.hi b s) H3.out.fr.size
    rw [bools_none] at this
    rw [mkX_nil, bools_none]
    exact this)
  go_wp2_with fail
  obtain ⟨ib, hib⟩ : ∃ ib, y3.heap.size = ib := ⟨_, rfl⟩
  rw [hib] at HB ⊢
  go_loopw [10, 11, 12] (fun l s _ wr => ∃ (k N : Nat) (X : List Int) (S : Nat → Prop), k ≤ n1 ∧ k ≤ 60 ∧ N ≤ 2 * k ∧ X.length ≤ k ∧ l = .int .i64 X.length ∧ s = .int .i64 k ∧ Sep (PX p X N 0) w wr S ∧ Held w wr S 36 1 (.slice (some ⟨ib, 0, none⟩) 64 64) 64 (bools 64 (mkX X)) ∧ Low 64 X) (fun _ s _ _ => 60 - (intOf s).toNat)
  case atStart => exact ⟨0, 0, [], _, by omega, by omega, by omega, by simp, rfl, rfl, px_alloc H3.out _, HB.out, fun x hx => by cases hx⟩
  case round =>
    clear H3 HB hib
    obtain ⟨k, N, X, S, hk, hk2, hN, hXl, rfl, rfl, h, hb, hL⟩ := hrel
    have Hk := Lib.hid (And.intro h (And.intro hb hL))
    clear h hb hL
    obtain ⟨xl, hxl⟩ : ∃ xl, X.length = xl := ⟨_, rfl⟩
    rw [hxl] at hXl ⊢
    have HXL := Lib.hid hxl
    clear hxl
    by_cases hlt : k < n1 ∧ k < 60
    · obtain ⟨hlt, hlt2⟩ := hlt
      obtain ⟨b, off, vv, rfl, hbl, hEl, hc⟩ := (w1.2 k hlt).one
      obtain ⟨x, he, hw⟩ := hEl
      simp at he
      subst he
      have hc' : wr.cell? ⟨b, off + k, none⟩ = some (.int .i64 x) := (Hk.out.1.fr.cell hbl (by unfold From; simp; omega)).trans hc
      obtain ⟨m, hm, hmb⟩ := and_mask x 63 (by decide)
      have hm' : bits .and .i64 x 63 = m := hm
      have W2 := Lib.hid w2
      have hm64 : (m : Int) < 64 := by omega
      have HNN := Lib.hid (And.intro (show N + 1 < 1000000 by omega) (show (0 : Int) ≤ m ∧ (m : Int) ≤ 4194303 by omega))
      have HLow := Lib.hid (Hk.out.2.2.put (i := m) (by omega))
      have HLen := Lib.hid (len_put X (m : Int))
      clear w1 w2 hc hm hw
      go_wp2_with fail
      refine (insert_px Hk.out.1 m m HNN.out.2 (Nat.lt_of_succ_lt HNN.out.1) (by omega)).mono ?_
      rintro e y4 ⟨rfl, h, hF⟩
      have hH := Held.step Hk.out.2.1 hF
      have hf4 := (held_mark hH (i := m) (by omega)).2.1
      have hc4 := (held_mark hH (i := m) (by omega)).1
      have hset := px_held_set h hH (i := m) (by omega) (.bool true)
      rw [Nat.zero_add, mkX_in 64 m (by omega)] at hset
      have H4 := Lib.hid (And.intro h (And.intro hH hset))
      clear h hF hH hset
      by_cases hin : (m : Int) ∈ X
      · rw [show decide ((m : Int) ∉ X) = false from decide_eq_false (fun q => q hin)]
        have hH4 : Sep (PX p X (N + 1) 0) w y4 (grow S wr y4) := by have := H4.out.1; rw [if_pos hin] at this; exact this
        have H5 := Lib.hid hH4
        have HIN := Lib.hid hin
        clear hH4 hin hc4 hf4
        by_cases ht : k < n2
        · obtain ⟨b', off', vv, rfl, hbl', hEl', hc1⟩ := (W2.out.2 k ht).one
          obtain ⟨x', he, _⟩ := hEl'
          simp at he
          subst he
          have hc3 : y4.cell? ⟨b', off' + k, none⟩ = some (.int .i64 x') := (H5.out.fr.cell hbl' (by unfold From; simp; omega)).trans hc1
          obtain ⟨m2, hm2, _⟩ := and_mask x' 63 (by decide)
          have hm2' : bits .and .i64 x' 63 = m2 := hm2
          clear hc1 hm2
          go_wp2_with fail
          refine (touch_px H5.out m2 HNN.out.1).mono ?_
          rintro e y5 ⟨rfl, h, hF⟩
          have H6 := Lib.hid (And.intro h (Held.step H4.out.2.1 hF))
          clear h hF
          go_wp2_with fail
          go_roundw
          case rel => exact ⟨k + 1, _, X, _, by omega, by omega, by omega, by rw [HXL.out]; omega, by rw [HXL.out], by go_num, H6.out.1, H6.out.2, Hk.out.2.2⟩
          case measure => simp [intOf]; omega
        · go_wp2_with fail
          go_roundw
          case rel => exact ⟨k + 1, _, X, _, by omega, by omega, by omega, by rw [HXL.out]; omega, by rw [HXL.out], by go_num, H5.out, H4.out.2.1, Hk.out.2.2⟩
          case measure => simp [intOf]; omega
      · rw [show decide ((m : Int) ∉ X) = true from decide_eq_true hin]
        have hHL : ((if (m : Int) ∈ X then X else (m : Int) :: X).length) = xl + 1 := by rw [HLen.out, if_neg hin, HXL.out]
        have HHL := Lib.hid hHL
        have hxb : xl ≤ 60 := by omega
        clear hin hHL
        by_cases ht : k < n2
        · obtain ⟨b', off', vv, rfl, hbl', hEl', hc1⟩ := (W2.out.2 k ht).one
          obtain ⟨x', he, _⟩ := hEl'
          simp at he
          subst he
          have hc3 : (y4.setCell ⟨ib, m, none⟩ (.bool true)).cell? ⟨b', off' + k, none⟩ = some (.int .i64 x') := (H4.out.2.2.2.fr.cell hbl' (by unfold From; simp; omega)).trans hc1
          obtain ⟨m2, hm2, _⟩ := and_mask x' 63 (by decide)
          have hm2' : bits .and .i64 x' 63 = m2 := hm2
          clear hc1 hm2
          go_wp2_with fail
          refine (touch_px H4.out.2.2.2 m2 HNN.out.1).mono ?_
          rintro e y5 ⟨rfl, h, hF⟩
          have H6 := Lib.hid (And.intro h (Held.step H4.out.2.2.1 hF))
          clear h hF
          go_wp2_with fail
          go_roundw
          case rel => exact ⟨k + 1, _, _, _, by omega, by omega, by omega, by rw [HHL.out]; omega, by rw [HHL.out]; go_num, by go_num, H6.out.1, H6.out.2, HLow.out⟩
          case measure => simp [intOf]; omega
        · go_wp2_with fail
          go_roundw
          case rel => exact ⟨k + 1, _, _, _, by omega, by omega, by omega, by rw [HHL.out]; omega, by rw [HHL.out]; go_num, by go_num, H4.out.2.2.2, H4.out.2.2.1, HLow.out⟩
          case measure => simp [intOf]; omega
    · have hex : (k < n1 ∧ k = 60) ∨ n1 ≤ k := by omega
      clear hlt
      obtain ⟨wz, rfl⟩ : ∃ wz : World, wz = wr := ⟨_, rfl⟩
      have hxb : xl ≤ 60 := by omega
      have hNb : N ≤ 120 := by omega
      rcases hex with ⟨hlt, rfl⟩ | hge
      all_goals
        go_wp2_with fail
        go_loopw [13, 14] (fun s _ wr => ∃ (i N M : Nat) (X : List Int) (S : Nat → Prop), i ≤ xl ∧ X.length + i = xl ∧ N ≤ 120 + 185 * i ∧ M ≤ 2 * i ∧ s = .int .i64 i ∧ Sep (PX p X N M) w wr S ∧ Held w wr S 36 1 (.slice (some ⟨ib, 0, none⟩) 64 64) 64 (bools 64 (mkX X)) ∧ Low 64 X) (fun s _ _ => xl - (intOf s).toNat)
        case atStart => exact ⟨0, N, 0, X, S, by omega, HXL.out, by omega, by omega, rfl, Hk.out.1, Hk.out.2.1, Hk.out.2.2⟩
        case round =>
          clear Hk HXL
          obtain ⟨i, N, M, X, S, hi, hXi, hN, hM, rfl, h, hb, hL⟩ := hrel
          have Hi := Lib.hid (And.intro h (And.intro hb (And.intro hL hXi)))
          clear h hb hL hXi
          by_cases hlt : i < xl
          · have hX : X ≠ [] := fun e => by have := Hi.out.2.2.2; rw [e] at this; simp at this; omega
            have hX60 : X.length ≤ 60 := by have := Hi.out.2.2.2; omega
            have HN := Lib.hid (And.intro hX (And.intro (show N + (3 * X.length + 5) ≤ 12000 by omega) (And.intro (show M + 2 ≤ 1000 by omega) (show N + (3 * X.length + 5) ≤ 120 + 185 * (i + 1) ∧ M + 2 ≤ 2 * (i + 1) from ⟨by omega, by omega⟩))))
            clear hX hX60
            go_wp2_with fail
            refine (victim_px Hi.out.1 i (by have := HN.out.2.1; omega)).mono ?_
            rintro e z2 ⟨v, rfl, _, hv1, h, hF⟩
            have hv := hv1 HN.out.1
            have hvr := Hi.out.2.2.1 v hv
            obtain ⟨u, rfl⟩ : ∃ u : Nat, v = u := ⟨v.toNat, by omega⟩
            have hu64 : (u : Int) < 64 := by omega
            have hu63 : u ≤ 63 := by omega
            have hH := Held.step Hi.out.2.1 hF
            have hcu := (held_mark hH (i := u) (by omega)).1
            rw [decide_eq_true hv] at hcu
            have Z2 := Lib.hid (And.intro h (And.intro hH hv))
            clear hv1 hv hvr h hF hH
            go_wp2_with fail
            refine (evict_px Z2.out.1 u (by have := HN.out.2.1; omega) (by have := HN.out.2.2.1; omega)).mono ?_
            rintro e z3 ⟨rfl, h, hF⟩
            rw [decide_eq_true Z2.out.2.2]
            have Z3 := Lib.hid (And.intro h (Held.step Z2.out.2.1 hF))
            clear h hF
            go_wp2_with fail
            refine (evict_px Z3.out.1 u (by have := HN.out.2.1; omega) (by have := HN.out.2.2.1; omega)).mono ?_
            rintro e z4 ⟨rfl, h, hF⟩
            have hgone : (u : Int) ∉ X.filter (· != (u : Int)) := fun q => by have := (List.mem_filter.1 q).2; simp at this
            rw [decide_eq_false hgone]
            rw [filter_no hgone] at h
            have Z4 := Lib.hid (And.intro h (Held.step Z3.out.2 hF))
            have hlen := len_drop (px_nodup Hi.out.1) (u : Int)
            rw [if_pos Z2.out.2.2] at hlen
            have hlen2 : (X.filter (· != (u : Int))).length = xl - 1 - i := by have := Hi.out.2.2.2; omega
            have HLn := Lib.hid hlen2
            clear h hF hgone hlen hlen2
            go_wp2_with fail
            refine (len_px Z4.out.1 (by have := HN.out.2.1; omega)).mono ?_
            rintro e z5 ⟨rfl, j5, rfl, h⟩
            rw [HLn.out]
            have hcast : ((xl - 1 - i : Nat) : Int) = (xl : Int) - 1 - i := by omega
            rw [hcast]
            have hH5 := Held.keep Z4.out.2 ((Fr.refl (fun _ => False) _).drewN j5) (fun _ _ q => q)
            have hf5 := (held_mark hH5 (i := u) (by omega)).2.1
            have hc5 := (held_mark hH5 (i := u) (by omega)).1
            have hset := px_held_set h hH5 (i := u) (by omega) (.bool false)
            rw [Nat.zero_add, mkX_out 64 u (by omega)] at hset
            have Z5 := Lib.hid hset
            clear h hH5 hset hcast
            go_wp2_with fail
            go_roundw
            case rel => exact ⟨i + 1, _, _, _, _, by omega, by rw [HLn.out]; omega, HN.out.2.2.2.1, HN.out.2.2.2.2, by go_num, Z5.out.2, Z5.out.1, Hi.out.2.2.1.drop _⟩
            case measure => simp [intOf]; omega
          · have hX : X = [] := List.eq_nil_of_length_eq_zero (by have := Hi.out.2.2.2; omega)
            subst hX
            have hNB : N ≤ 12000 := by omega
            go_wp2_with fail
            refine (victim_px Hi.out.1 0 (by simp; omega)).mono ?_
            rintro e z2 ⟨v, rfl, hv0, _, h, hF⟩
            have hv := hv0 rfl
            subst hv
            have Z2 := Lib.hid h
            clear hv0 h hF
            go_wp2_with fail
            refine (len_px Z2.out (by simp; omega)).mono ?_
            rintro e z3 ⟨rfl, j3, rfl, h⟩
            have Z3 := Lib.hid h
            clear h
            go_wp2
            go_ret
            exact ⟨rfl, Z3.out.below⟩

set_option maxRecDepth 100000 in
theorem lifted (os : Os) (started : os.Started) (H : Type) (enc : TypeId × Value → H) :
    ReturnsInHanded {} Try.checked os 6 .any (Rows.policyEndsSpec.pre6 enc Try.prog Try.f6 Rows.policyEndsRow.domain false) (Rows.policyEndsSpec.post enc Try.prog Try.f6 false true false false) := by
  refine returnsInHanded_of_change (C := Try.checked) own started (by kernel_rfl) Try.func6
    (ChangeSpec.witness6 (enc := enc) (C := Try.checked) false ⟨#[], #[.int .i64 0, .slice none 0 0, .slice none 0 0], []⟩ 8 (by kernel_rfl) (by kernel_rfl) (by kernel_rfl) (by kernel_rfl)) ?_
  intro W base args ds gs before hval0 hW hcnd _
  have hval : ∀ (j : Nat) t v, Try.f6.params[j]? = some t → args[j]? = some v → Value.okWide Try.prog W .any base t v := hval0
  have hW' := hW
  obtain ⟨p, q, hA0, hV, rfl, hfz, hnd⟩ := hW
  have hA : DataW.TrodAll enc Try.prog W 0 (fun _ => true) true Try.f6.params.toList args.toList ds p := hA0
  rw [Try.params6] at hA hval
  obtain ⟨v0, vs0, d0, ds0, p0, q0, hargs, rfl, rfl, h0, r0⟩ := trodAll_cons hA
  obtain ⟨v1, vs1, d1, ds1, p1, q1, rfl, rfl, rfl, h1, r1⟩ := trodAll_cons r0
  obtain ⟨v2, vs2, d2, ds2, p2, q2, rfl, rfl, rfl, h2, r2⟩ := trodAll_cons r1
  obtain ⟨rfl, rfl, rfl⟩ := trodAll_nil r2
  obtain rfl : args = #[v0, v1, v2] := by cases args; simp_all
  obtain ⟨rfl, rfl⟩ := trodVars_none hV
  obtain ⟨a0, rfl, rfl, rfl, w0⟩ := open_int Try.underlying3 (hval 0 3 v0 rfl rfl) h0
  obtain ⟨a1, n1, c1, rfl⟩ := okWide_slice Try.underlying22 (hval 1 22 v1 rfl rfl)
  have k1 := h1
  have lt1 : ∀ x ∈ p1, x.block < W.heap.size := by obtain ⟨m, hm⟩ := k1; exact DataW.trod_lt m _ _ _ hm
  have w1 := open_in (C := fun cs => ∃ x : Int, cs = [.int .i64 x] ∧ (Lit.int .i64 x).wf = true) Try.underlying22 k1 1 (by kernel_rfl) (by decide) (fun m cs x h => by obtain ⟨x, e, _, hw⟩ := DataW.trod_int Try.underlying3 h; exact ⟨x, e, hw⟩)
  obtain ⟨a2, n2, c2, rfl⟩ := okWide_slice Try.underlying22 (hval 2 22 v2 rfl rfl)
  have k2 := h2
  have lt2 : ∀ x ∈ p2, x.block < W.heap.size := by obtain ⟨m, hm⟩ := k2; exact DataW.trod_lt m _ _ _ hm
  have w2 := open_in (C := fun cs => ∃ x : Int, cs = [.int .i64 x] ∧ (Lit.int .i64 x).wf = true) Try.underlying22 k2 1 (by kernel_rfl) (by decide) (fun m cs x h => by obtain ⟨x, e, _, hw⟩ := DataW.trod_int Try.underlying3 h; exact ⟨x, e, hw⟩)
  clear hA0 hval0
  refine (walk W a0 w0 a1 n1 c1 w1 a2 n2 c2 w2).mono fun e W' ⟨he, bel⟩ => ?_
  subst he
  exact ⟨_, rfl, _, _, _, [], _, [], hW', trodAll_mk1 (shut_bool Try.underlying4 _), (trodAll_cons_mk (shut_int Try.underlying3 w0) (trodAll_cons_mk (Below.trod laidOut (by kernel_rfl) (of_decide_eq_true (by kernel_rfl)) k1 bel lt1) (trodAll_cons_mk (Below.trod laidOut (by kernel_rfl) (of_decide_eq_true (by kernel_rfl)) k2 bel lt2) trodAll_mk0))), rfl, bel.frame _, fun h => by cases h⟩

theorem over : Rows.policyEndsRow.holds Try.pinned (OpenSpec.ofChange Rows.policyEndsSpec) :=
  OpenClaim.holds_of_wide 6 Try.f6 rfl rfl rfl rfl rfl rfl rfl ⟨rfl, rfl, rfl, rfl, rfl⟩ rfl rfl rfl rfl rfl (by kernel_rfl) Try.func6 (by kernel_rfl)
    (of_decide_eq_true (by kernel_rfl)) (by unfold Func.isWrapper; first | (rw [if_pos (by decide +kernel)]; kernel_rfl) | (rw [if_neg (by decide +kernel)]; exact ⟨rfl, rfl⟩))
    (fun os started H enc _ => lifted os started H enc)

theorem proved : Rows.PolicyEndsSaid := over
#print axioms proved
end Go.Proofs.Ytldnacphfoagnaf.policyEnds
