/- 'ambry/ambrylaw09.ChainSame' returns true, for every input, and leaves its arguments as they were. No condition. -/
import Derived.Test.YtldnacphfoagnabIn
import Derived.Test.YtldnacphfoagnabChTwo
import Derived.Test.YtldnacphfoagnabIn
import Derived.Deep.QuietTactic
import Derived.BigQuiet
import Derived.Deep.DeepCutAuto
import Derived.Deep.CutBlock
import Derived.Deep.RegionHeld3
import Derived.WalkKit
import Derived.ProofKit
import Derived.OpenShut
import Derived.ShutString
import Derived.ChangeOld
import Derived.Below
namespace Go.Proofs.Ytldnacphfoagnab.chainSame
open Go.ChangeShapes Go.WideShapes Go.ChangeAt Go.RowKit
open Go.ChangeMaps (open_string shut_string)
set_option linter.unusedVariables false

theorem own : ownKnob Try.prog.godebug = none := by kernel_rfl
theorem laidOut : laidOutB Try.prog = true := by kernel_rfl

set_option maxRecDepth 100000 in
set_option maxHeartbeats 4000000 in
theorem walk (w : World) (a0 : Option Addr) (n0 c0 : Nat) (w0 : n0 ≤ c0 ∧ ∀ i, i < n0 → InAt w a0 1 i (fun cs => ∃ x : ByteArray, cs = [.string x] ∧ x.size ≤ maxLen)) (a1 : Option Addr) (n1 c1 : Nat) (w1 : n1 ≤ c1 ∧ ∀ i, i < n1 → InAt w a1 1 i (fun cs => ∃ x : Bool, cs = [.bool x])) :
    Calls Try.prog 4 #[.slice a0 n0 c0, .slice a1 n1 c1] w fun e w' => e = .returned (.bool true) ∧ Below w.heap.size w w' := by
  -- WALK
  go_enter Try.func4, Try.ntmps4
  go_wp2_with fail
  refine (shown_any _).mono ?_
  rintro e y1 ⟨rfl, hF⟩
  have HF := Lib.hid (hF.mono (T := From w.heap.size) (fun _ _ h => h.elim))
  clear hF
  go_wp2_with fail
  refine (ch_new y1).mono ?_
  rintro e y2 ⟨t, rfl, hA, hF⟩
  have H2 := Lib.hid (And.intro hA hF)
  clear hA hF
  go_wp2_with fail
  refine (ch_new y2).mono ?_
  rintro e y3 ⟨u, rfl, hR, hF⟩
  have HP := Lib.hid (two_new (w := y1) (A := CT t ch0) (B := CT u ch0) (ct_frm t ch0) (HF.out.trans H2.out.2 (fun _ _ q => q.elim)) H2.out.1 HF.out.size H2.out.2.size hR hF)
  clear H2 hR hF HF
  go_wp2_with fail
  go_loopw [8] (fun i wr => ∃ (k : Nat) (s s' : ChS) (S : Nat → Prop), k ≤ n0 ∧ k ≤ 200 ∧ i = .int .i64 k ∧ Sep (Two (CT t s) (CT u s')) w wr S ∧ Alk k s s') (fun i _ => 200 - (intOf i).toNat)
  case atStart => exact ⟨0, ch0, ch0, _, by omega, by omega, rfl, HP.out, alk_start⟩
  case round =>
    clear HP
    obtain ⟨k, s, s', S, hk, hk2, rfl, h, hS⟩ := hrel
    have Hk := Lib.hid (And.intro h hS)
    clear h hS
    by_cases hlt : k < n0 ∧ k < 200
    · obtain ⟨hlt, hlt2⟩ := hlt
      obtain ⟨b, off, vv, rfl, hbl, hEl, hc⟩ := (w0.2 k hlt).one
      obtain ⟨x, he, hxs⟩ := hEl
      simp at he
      subst he
      have hd0 : wr.cell? ⟨b, off + k, none⟩ = some (.string x) := (Hk.out.1.fr.cell hbl (by unfold From; simp; omega)).trans hc
      have HC := Lib.hid hc
      have W0 := Lib.hid w0
      clear w0 hc hxs
      by_cases hx : 1000 < x.size
      · have hxi : (1000 : Int) < (x.size : Int) := by omega
        go_wp2_with fail
        go_roundw
        case rel => exact ⟨k + 1, s, s', S, by omega, by omega, by go_num, Hk.out.1, Hk.out.2.more⟩
        case measure => simp [intOf]; omega
      · have hxd : decide (1000 < x.size) = false := decide_eq_false hx
        have hxi : decide ((1000 : Int) < (x.size : Int)) = false := decide_eq_false (by omega)
        have HX := Lib.hid hx
        clear hx
        by_cases hl1 : k < n1
        · obtain ⟨b1, off1, vv, rfl, hbl1, hEl, hc1⟩ := (w1.2 k hl1).one
          obtain ⟨bv, he⟩ := hEl
          simp at he
          subst he
          have hd1 : wr.cell? ⟨b1, off1 + k, none⟩ = some (.bool bv) := (Hk.out.1.fr.cell hbl1 (by unfold From; simp; omega)).trans hc1
          have W1 := Lib.hid w1
          clear w1 hc1
          rcases bv with _ | _
          · go_wp2_with fail
            refine (tt_set1 Hk.out.1 x k (by have := HX.out; omega) (Hk.out.2.lim (by omega)).1).mono ?_
            rintro e z1 ⟨rfl, h, hF⟩
            have hd1x : z1.cell? ⟨b, off + k, none⟩ = some (.string x) := (h.fr.cell hbl (by unfold From; simp; omega)).trans HC.out
            have Z1 := Lib.hid h
            clear h hF
            go_wp2_with fail
            refine (tt_set2 Z1.out x k (by have := HX.out; omega) (Hk.out.2.lim (by omega)).2).mono ?_
            rintro e z2 ⟨rfl, h, hF⟩
            have Z2 := Lib.hid (And.intro h (Hk.out.2.set x k))
            clear h hF hd1x
            go_wp2_with fail
            refine (tt_step2 Z2.out.1).mono ?_
            rintro e z3 ⟨rfl, h, _⟩
            have Z3 := Lib.hid (And.intro h (Z2.out.2.step (tt_w Z2.out.1).2))
            clear h
            go_wp2_with fail
            refine (tt_step2 Z3.out.1).mono ?_
            rintro e z4 ⟨rfl, h, _⟩
            have Z4 := Lib.hid (And.intro h (Z3.out.2.step (tt_w Z3.out.1).2))
            clear h
            obtain ⟨nn, hnn⟩ : ∃ n, (setS s x k).n = n := ⟨_, rfl⟩
            have hnn2 := Z4.out.2.n.symm.trans hnn
            have HNN := Lib.hid (And.intro hnn hnn2)
            clear hnn hnn2
            go_wp2_with fail
            refine (tt_len1 Z4.out.1).mono ?_
            rintro e z5 ⟨rfl, rfl⟩
            rw [HNN.out.1]
            go_wp2_with fail
            refine (tt_len2 Z4.out.1).mono ?_
            rintro e z5 ⟨rfl, rfl⟩
            rw [HNN.out.2]
            go_wp2_with fail
            go_roundw
            case rel => exact ⟨k + 1, _, _, _, by omega, by omega, by go_num, Z4.out.1, Z4.out.2⟩
            case measure => simp [intOf]; omega
          · obtain ⟨bm, hbm⟩ : ∃ bm, (look s x).isSome = bm := ⟨_, rfl⟩
            have hbm2 : (look s' x).isSome = bm := by rw [← Hk.out.2.l]; exact hbm
            have HBM := Lib.hid (And.intro hbm hbm2)
            clear hbm hbm2
            have hP0 : wr.drew.cell? ⟨b, off + k, none⟩ = some (.string x) := hd0
            go_wp2_with fail
            go_region_held3 (fun w' => w'.cell? ⟨b, off + k, none⟩ = some (.string x)) (first | exact hP0 | exact hP1 | exact hP2) (first
              | (go_at_call 15; refine (tt_del2 Z1.out x (by have := HX.out; omega) (Hk.out.2.lim (by omega)).2).mono ?_; rintro e z2 ⟨rfl, h, hF⟩; have hP2 : z2.cell? ⟨b, off + k, none⟩ = some (.string x) := (h.fr.cell hbl (by unfold From; simp; omega)).trans HC.out; rw [HBM.out.2]; have Z2a := Lib.hid h; clear h hF)
              | (go_at_call 15; refine (tt_del1 (sep_drew (tt_frm t u s s') Hk.out.1) x (by have := HX.out; omega) (Hk.out.2.lim (by omega)).1).mono ?_; rintro e z1 ⟨rfl, h, hF⟩; have hP1 : z1.cell? ⟨b, off + k, none⟩ = some (.string x) := (h.fr.cell hbl (by unfold From; simp; omega)).trans HC.out; rw [HBM.out.1]; have Z1 := Lib.hid h; clear h hF))
            have Z2 := Lib.hid (And.intro Z2a.out (Hk.out.2.del (tt_w Hk.out.1).1 (tt_w Hk.out.1).2 x))
            clear hP0 hP1 hP2
            go_wp2_with fail
            refine (tt_step2 Z2.out.1).mono ?_
            rintro e z3 ⟨rfl, h, _⟩
            have Z3 := Lib.hid (And.intro h (Z2.out.2.step (tt_w Z2.out.1).2))
            clear h
            go_wp2_with fail
            refine (tt_step2 Z3.out.1).mono ?_
            rintro e z4 ⟨rfl, h, _⟩
            have Z4 := Lib.hid (And.intro h (Z3.out.2.step (tt_w Z3.out.1).2))
            clear h
            obtain ⟨nn, hnn⟩ : ∃ n, (delS s x).n = n := ⟨_, rfl⟩
            have hnn2 := Z4.out.2.n.symm.trans hnn
            have HNN := Lib.hid (And.intro hnn hnn2)
            clear hnn hnn2
            go_wp2_with fail
            refine (tt_len1 Z4.out.1).mono ?_
            rintro e z5 ⟨rfl, rfl⟩
            rw [HNN.out.1]
            go_wp2_with fail
            refine (tt_len2 Z4.out.1).mono ?_
            rintro e z5 ⟨rfl, rfl⟩
            rw [HNN.out.2]
            go_wp2_with fail
            go_roundw
            case rel => exact ⟨k + 1, _, _, _, by omega, by omega, by go_num, Z4.out.1, Z4.out.2⟩
            case measure => simp [intOf]; omega
        · go_wp2_with fail
          refine (tt_set1 Hk.out.1 x k (by have := HX.out; omega) (Hk.out.2.lim (by omega)).1).mono ?_
          rintro e z1 ⟨rfl, h, hF⟩
          have hd1 : z1.cell? ⟨b, off + k, none⟩ = some (.string x) := (h.fr.cell hbl (by unfold From; simp; omega)).trans HC.out
          have Z1 := Lib.hid h
          clear h hF
          go_wp2_with fail
          refine (tt_set2 Z1.out x k (by have := HX.out; omega) (Hk.out.2.lim (by omega)).2).mono ?_
          rintro e z2 ⟨rfl, h, hF⟩
          have Z2 := Lib.hid (And.intro h (Hk.out.2.set x k))
          clear h hF hd1
          go_wp2_with fail
          refine (tt_step2 Z2.out.1).mono ?_
          rintro e z3 ⟨rfl, h, _⟩
          have Z3 := Lib.hid (And.intro h (Z2.out.2.step (tt_w Z2.out.1).2))
          clear h
          go_wp2_with fail
          refine (tt_step2 Z3.out.1).mono ?_
          rintro e z4 ⟨rfl, h, _⟩
          have Z4 := Lib.hid (And.intro h (Z3.out.2.step (tt_w Z3.out.1).2))
          clear h
          obtain ⟨nn, hnn⟩ : ∃ n, (setS s x k).n = n := ⟨_, rfl⟩
          have hnn2 := Z4.out.2.n.symm.trans hnn
          have HNN := Lib.hid (And.intro hnn hnn2)
          clear hnn hnn2
          go_wp2_with fail
          refine (tt_len1 Z4.out.1).mono ?_
          rintro e z5 ⟨rfl, rfl⟩
          rw [HNN.out.1]
          go_wp2_with fail
          refine (tt_len2 Z4.out.1).mono ?_
          rintro e z5 ⟨rfl, rfl⟩
          rw [HNN.out.2]
          go_wp2_with fail
          go_roundw
          case rel => exact ⟨k + 1, _, _, _, by omega, by omega, by go_num, Z4.out.1, Z4.out.2⟩
          case measure => simp [intOf]; omega
    · have hex : (k < n0 ∧ k = 200) ∨ n0 ≤ k := by omega
      clear hlt
      have HAL := Lib.hid Hk.out.2.l
      rcases hex with ⟨hlt, rfl⟩ | hge
      all_goals
        go_wp2_with fail
        obtain ⟨wOut, rfl⟩ : ∃ wo : World, wo = wr := ⟨_, rfl⟩
        go_loopw [9, 10, 11, 12, 13] (fun i _ _ _ _ wr => ∃ (j : Nat), j ≤ n0 ∧ j ≤ 200 ∧ i = .int .i64 j ∧ Sep (Two (CT t s) (CT u s')) w wr S) (fun i _ _ _ _ _ => 200 - (intOf i).toNat)
        case atStart => exact ⟨0, by omega, by omega, rfl, Hk.out.1⟩
        case round =>
          clear Hk
          obtain ⟨j, hj, hj2, rfl, h⟩ := hrel
          have Hj := Lib.hid h
          clear h
          by_cases hjl : j < n0 ∧ j < 200
          · obtain ⟨hjl, hjl2⟩ := hjl
            obtain ⟨b, off, vv, rfl, hbl, hEl, hc⟩ := (w0.2 j hjl).one
            obtain ⟨x, he, hxs⟩ := hEl
            simp at he
            subst he
            have hd0 : wr.cell? ⟨b, off + j, none⟩ = some (.string x) := (Hj.out.fr.cell hbl (by unfold From; simp; omega)).trans hc
            have hxm : x.size ≤ 9223372036854775807 := by unfold maxLen at hxs; omega
            have HX := Lib.hid (And.intro hxm (And.intro hc (HAL.out x)))
            have W0 := Lib.hid w0
            clear w0 hc hxs hxm
            obtain ⟨lv, hlv⟩ : ∃ v, look s x = v := ⟨_, rfl⟩
            have hlv2 : look s' x = lv := HX.out.2.2.symm.trans hlv
            have HLV := Lib.hid (And.intro hlv hlv2)
            clear hlv hlv2
            go_wp2_with fail
            refine (tt_get1 Hj.out x HX.out.1).mono ?_
            rintro e z1 ⟨rfl, q1, rfl, h⟩
            rw [HLV.out.1]
            have Z1 := Lib.hid h
            clear h
            have hd1 : (wr.drewN q1).cell? ⟨b, off + j, none⟩ = some (.string x) := hd0
            go_wp2_with fail
            refine (tt_get2 Z1.out x HX.out.1).mono ?_
            rintro e z2 ⟨rfl, q2, rfl, h⟩
            rw [HLV.out.2]
            have Z2 := Lib.hid h
            clear h
            go_wp2_with fail
            go_roundw
            case rel => exact ⟨j + 1, by omega, by omega, by go_num, sep_drewN (tt_frm t u s s') Hj.out (q1 + q2)⟩
            case measure => simp [intOf]; omega
          · have hex : (j < n0 ∧ j = 200) ∨ n0 ≤ j := by omega
            clear hjl
            rcases hex with ⟨hjl, rfl⟩ | hge2
            all_goals
              first
                | (exfalso; omega)
                | (go_wp2
                   go_ret
                   exact ⟨rfl, Hj.out.below⟩)

set_option maxRecDepth 100000 in
theorem lifted (os : Os) (started : os.Started) (H : Type) (enc : TypeId × Value → H) :
    ReturnsInHanded {} Try.checked os 4 .any (Rows.chainSameSpec.pre6 enc Try.prog Try.f4 Rows.chainSameRow.domain false) (Rows.chainSameSpec.post enc Try.prog Try.f4 false true false false) := by
  refine returnsInHanded_of_change (C := Try.checked) own started (by kernel_rfl) Try.func4
    (ChangeSpec.witness6 (enc := enc) (C := Try.checked) false ⟨#[], #[.slice none 0 0, .slice none 0 0], []⟩ 8 (by kernel_rfl) (by kernel_rfl) (by kernel_rfl) (by kernel_rfl)) ?_
  intro W base args ds gs before hval0 hW hcnd _
  have hval : ∀ (j : Nat) t v, Try.f4.params[j]? = some t → args[j]? = some v → Value.okWide Try.prog W .any base t v := hval0
  have hW' := hW
  obtain ⟨p, q, hA0, hV, rfl, hfz, hnd⟩ := hW
  have hA : DataW.TrodAll enc Try.prog W 0 (fun _ => true) true Try.f4.params.toList args.toList ds p := hA0
  rw [Try.params4] at hA hval
  obtain ⟨v0, vs0, d0, ds0, p0, q0, hargs, rfl, rfl, h0, r0⟩ := trodAll_cons hA
  obtain ⟨v1, vs1, d1, ds1, p1, q1, rfl, rfl, rfl, h1, r1⟩ := trodAll_cons r0
  obtain ⟨rfl, rfl, rfl⟩ := trodAll_nil r1
  obtain rfl : args = #[v0, v1] := by cases args; simp_all
  obtain ⟨rfl, rfl⟩ := trodVars_none hV
  obtain ⟨a0, n0, c0, rfl⟩ := okWide_slice Try.underlying30 (hval 0 30 v0 rfl rfl)
  have k0 := h0
  have lt0 : ∀ x ∈ p0, x.block < W.heap.size := by obtain ⟨m, hm⟩ := k0; exact DataW.trod_lt m _ _ _ hm
  have w0 := open_in (C := fun cs => ∃ x : ByteArray, cs = [.string x] ∧ x.size ≤ maxLen) Try.underlying30 k0 1 (by kernel_rfl) (by decide) (fun m cs x h => by obtain ⟨x, e, _, hs⟩ := DataW.trod_string Try.underlying9 h; exact ⟨x, e, hs⟩)
  obtain ⟨a1, n1, c1, rfl⟩ := okWide_slice Try.underlying31 (hval 1 31 v1 rfl rfl)
  have k1 := h1
  have lt1 : ∀ x ∈ p1, x.block < W.heap.size := by obtain ⟨m, hm⟩ := k1; exact DataW.trod_lt m _ _ _ hm
  have w1 := open_in (C := fun cs => ∃ x : Bool, cs = [.bool x]) Try.underlying31 k1 1 (by kernel_rfl) (by decide) (fun m cs x h => by obtain ⟨x, e, _⟩ := DataW.trod_bool Try.underlying4 h; exact ⟨x, e⟩)
  clear hA0 hval0
  refine (walk W a0 n0 c0 w0 a1 n1 c1 w1).mono fun e W' ⟨he, bel⟩ => ?_
  subst he
  exact ⟨_, rfl, _, _, _, [], _, [], hW', trodAll_mk1 (shut_bool Try.underlying4 _), (trodAll_cons_mk (Below.trod laidOut (by kernel_rfl) (of_decide_eq_true (by kernel_rfl)) k0 bel lt0) (trodAll_cons_mk (Below.trod laidOut (by kernel_rfl) (of_decide_eq_true (by kernel_rfl)) k1 bel lt1) trodAll_mk0)), rfl, bel.frame _, fun h => by cases h⟩

theorem over : Rows.chainSameRow.holds Try.pinned (OpenSpec.ofChange Rows.chainSameSpec) :=
  OpenClaim.holds_of_wide 4 Try.f4 rfl rfl rfl rfl rfl rfl rfl ⟨rfl, rfl, rfl, rfl, rfl⟩ rfl rfl rfl rfl rfl (by kernel_rfl) Try.func4 (by kernel_rfl)
    (of_decide_eq_true (by kernel_rfl)) (by unfold Func.isWrapper; first | (rw [if_pos (by decide +kernel)]; kernel_rfl) | (rw [if_neg (by decide +kernel)]; exact ⟨rfl, rfl⟩))
    (fun os started H enc _ => lifted os started H enc)

theorem proved : Rows.ChainSameSaid := over
#print axioms proved
end Go.Proofs.Ytldnacphfoagnab.chainSame
