/- 'ambry/ambrylaw09.ChainFront' returns true, for every input, and leaves its arguments as they were. No condition. -/
import Derived.Test.YtnabgcnndehaaaaIn
import Derived.Test.YtnabgcnndehaaaaChFront
import Derived.Test.YtnabgcnndehaaaaIn
import Derived.Deep.QuietTactic
import Derived.BigQuiet
import Derived.Deep.DeepCutAuto
import Derived.Deep.CutBlock
import Derived.Deep.RegionHeld3
import Derived.WalkKit
import Derived.ProofKit
import Derived.OpenShut
import Derived.ShutString
import Derived.ChangeOld
import Derived.Below
namespace Go.Proofs.Ytnabgcnndehaaaa.chainFront
open Go.ChangeShapes Go.WideShapes Go.ChangeAt Go.RowKit
open Go.ChangeMaps (open_string shut_string)
set_option linter.unusedVariables false

theorem own : ownKnob Try.prog.godebug = none := by kernel_rfl
theorem laidOut : laidOutB Try.prog = true := by kernel_rfl

set_option maxRecDepth 100000 in
set_option maxHeartbeats 4000000 in
theorem walk (w : World) (a0 : Option Addr) (n0 c0 : Nat) (w0 : n0 ≤ c0 ∧ ∀ i, i < n0 → InAt w a0 1 i (fun cs => ∃ x : ByteArray, cs = [.string x] ∧ x.size ≤ maxLen)) :
    Calls Try.prog 6 #[.slice a0 n0 c0] w fun e w' => e = .returned (.bool true) ∧ Below w.heap.size w w' := by
  -- WALK
  go_enter Try.func6, Try.ntmps6
  go_wp2_with fail
  refine (shown_any _).mono ?_
  rintro e y1 ⟨rfl, hF⟩
  have HF := Lib.hid (hF.mono (T := From w.heap.size) (fun _ _ h => h.elim))
  clear hF
  go_wp2_with fail
  refine (new_ct (w0 := w) HF.out).mono ?_
  rintro e y2 ⟨t, S, rfl, h, _, _⟩
  have H2 := Lib.hid h
  clear h HF
  go_wp2_with fail
  go_loopw [5] (fun i wr => ∃ (k : Nat) (s : ChS) (S : Nat → Prop), k ≤ n0 ∧ k ≤ 6 ∧ i = .int .i64 k ∧ Sep (CT t s) w wr S ∧ Few k s) (fun i _ => 6 - (intOf i).toNat)
  case atStart => exact ⟨0, ch0, _, by omega, by omega, rfl, H2.out, few_start⟩
  case round =>
    clear H2
    obtain ⟨k, s, S, hk, hk2, rfl, h, hS⟩ := hrel
    have Hk := Lib.hid (And.intro h hS)
    clear h hS
    by_cases hlt : k < n0 ∧ k < 6
    · obtain ⟨hlt, hlt2⟩ := hlt
      obtain ⟨b, off, vv, rfl, hbl, hEl, hc⟩ := (w0.2 k hlt).one
      obtain ⟨x, he, hxs⟩ := hEl
      simp at he
      subst he
      have hd0 : wr.cell? ⟨b, off + k, none⟩ = some (.string x) := (Hk.out.1.fr.cell hbl (by unfold From; simp; omega)).trans hc
      have HC := Lib.hid hc
      have W0 := Lib.hid w0
      clear w0 hc hxs
      by_cases hx : 1000 < x.size
      · have hxi : (1000 : Int) < (x.size : Int) := by omega
        go_wp2_with fail
        go_roundw
        case rel => exact ⟨k + 1, s, S, by omega, by omega, by go_num, Hk.out.1, Hk.out.2.more⟩
        case measure => simp [intOf]; omega
      · have hxd : decide (1000 < x.size) = false := decide_eq_false hx
        have hxi : decide ((1000 : Int) < (x.size : Int)) = false := decide_eq_false (by omega)
        have HX := Lib.hid hx
        clear hx
        go_wp2_with fail
        refine (get_ct Hk.out.1 x (by have := HX.out; omega)).mono ?_
        rintro e z1 ⟨rfl, q1, rfl, h⟩
        obtain ⟨had, hhad⟩ : ∃ b, (look s x).isSome = b := ⟨_, rfl⟩
        obtain ⟨gv, hgv⟩ : ∃ b, (look s x).getD 0 = b := ⟨_, rfl⟩
        rw [hhad, hgv]
        have Z1 := Lib.hid (And.intro h hhad)
        have hd1 : (wr.drewN q1).cell? ⟨b, off + k, none⟩ = some (.string x) := hd0
        clear h hhad hgv hd0
        go_wp2_with fail
        refine (set_ct Z1.out.1 x k (by have := HX.out; omega) (by have := Hk.out.2.n; omega)).mono ?_
        rintro e z2 ⟨rfl, h, hF⟩
        have hd2 : z2.cell? ⟨b, off + k, none⟩ = some (.string x) := (h.fr.cell hbl (by unfold From; simp; omega)).trans HC.out
        have Z2 := Lib.hid (And.intro h (Hk.out.2.put_ hlt2 (ct_w Hk.out.1) x k (ct_w h)))
        clear h hF hd1
        obtain ⟨s2, hs2⟩ : ∃ s2, setS s x k = s2 := ⟨_, rfl⟩
        rw [hs2] at Z2
        clear hs2
        go_wp2_with fail
        obtain ⟨hh, hhh⟩ : ∃ v, fk x = v := ⟨_, rfl⟩
        obtain ⟨ii, hii⟩ : ∃ v, hx x 2 = v := ⟨_, rfl⟩
        have hbk : bkt hh 2 = (ii : Int) := by rw [← hhh, ← hii]; exact bkt_hx x (p := 2) (by decide)
        have hr := fk_range x
        rw [hhh] at hr
        rw [hii] at Z2
        have HB := Lib.hid (And.intro hr hbk)
        have hof : fnv x.data.toList = hh := hhh
        have HOf := Lib.hid hof
        clear hhh hii hr hbk hof
        refine (of_any x z2 (by have := HX.out; omega)).mono ?_
        rintro e z3 ⟨rfl, rfl⟩
        rw [HOf.out]
        go_wp2_with fail
        refine (bucket_any hh 2 z2 HB.out.1.1 HB.out.1.2).mono ?_
        rintro e z3 ⟨rfl, rfl⟩
        rw [HB.out.2]
        go_wp2_with fail
        refine (bucket_ct Z2.out.1 ii (by have := bucket_len (ct_w Z2.out.1) ii; have := Z2.out.2.1.l; omega)).mono ?_
        rintro e z4 ⟨v, rfl, h, hH, hF⟩
        have hd3 : z4.cell? ⟨b, off + k, none⟩ = some (.string x) := (h.fr.cell hbl (by unfold From; simp; omega)).trans HC.out
        obtain ⟨hF2, y, l, hyl, hyx⟩ := Z2.out.2
        rw [hyl] at hH
        obtain ⟨b4, o4, c4, rfl, hb4, hl4, hn4, hx4, hf4⟩ := Sl.pos hH (by simp)
        have hy0 := hx4 0 (by simp [strs])
        rw [Nat.add_zero] at hy0
        have hy0' : z4.cell? ⟨b4, o4, none⟩ = some (.string y) := hy0.trans (by simp [strs])
        have Z4 := Lib.hid (And.intro h hF2)
        have hyx' : had = false → y = x := fun q => hyx (by rw [Z1.out.2]; exact q)
        obtain ⟨ln, hln⟩ : ∃ n, (y :: l).length = n := ⟨_, rfl⟩
        have hlp : 0 < ln := by rw [← hln]; simp
        rw [hln]
        clear h hH hF hyl hyx hb4 hx4 hf4 hy0 hn4 hln hd2 hF2
        have hl1 : ((ln : Int) == 0) = false := by rw [beq_eq_false_iff_ne]; omega
        have hl2 : (0 : Int) < ln := by omega
        cases had with
        | true =>
          clear hyx'
          go_wp2_with fail
          go_quiet (fail)
          go_wp2_with fail
          go_roundw
          case rel => exact ⟨k + 1, s2, _, by omega, by omega, by go_num, sep_drewN (ct_frm t s2) Z4.out.1 _, Z4.out.2⟩
          case measure => simp [intOf]; omega
        | false =>
          obtain rfl := hyx' rfl
          clear hyx'
          go_wp2_with fail
          go_quiet (fail)
          go_wp2_with fail
          go_roundw
          case rel => exact ⟨k + 1, s2, _, by omega, by omega, by go_num, sep_drewN (ct_frm t s2) Z4.out.1 _, Z4.out.2⟩
          case measure => simp [intOf]; omega
    · have hex : (k < n0 ∧ k = 6) ∨ n0 ≤ k := by omega
      clear hlt
      rcases hex with ⟨hlt, rfl⟩ | hge
      all_goals
        have HP := Lib.hid (And.intro Hk.out.2.p Hk.out.2.g)
        obtain ⟨wOut, rfl⟩ : ∃ wo : World, wo = wr := ⟨_, rfl⟩
        go_wp2_with fail
        refine (power_ct Hk.out.1).mono ?_
        rintro e z3 ⟨rfl, rfl⟩
        rw [HP.out.1]
        go_wp2_with fail
        refine (moved_ct Hk.out.1).mono ?_
        rintro e z3 ⟨rfl, rfl⟩
        rw [movedS_no HP.out.2]
        go_wp2_with fail
        go_ret
        exact ⟨rfl, Hk.out.1.below⟩

set_option maxRecDepth 100000 in
theorem lifted (os : Os) (started : os.Started) (H : Type) (enc : TypeId × Value → H) :
    ReturnsInHanded {} Try.checked os 6 .any (Rows.chainFrontSpec.pre6 enc Try.prog Try.f6 Rows.chainFrontRow.domain false) (Rows.chainFrontSpec.post enc Try.prog Try.f6 false true false false) := by
  refine returnsInHanded_of_change (C := Try.checked) own started (by kernel_rfl) Try.func6
    (ChangeSpec.witness6 (enc := enc) (C := Try.checked) false ⟨#[], #[.slice none 0 0], []⟩ 8 (by kernel_rfl) (by kernel_rfl) (by kernel_rfl) (by kernel_rfl)) ?_
  intro W base args ds gs before hval0 hW hcnd _
  have hval : ∀ (j : Nat) t v, Try.f6.params[j]? = some t → args[j]? = some v → Value.okWide Try.prog W .any base t v := hval0
  have hW' := hW
  obtain ⟨p, q, hA0, hV, rfl, hfz, hnd⟩ := hW
  have hA : DataW.TrodAll enc Try.prog W 0 (fun _ => true) true Try.f6.params.toList args.toList ds p := hA0
  rw [Try.params6] at hA hval
  obtain ⟨v0, vs0, d0, ds0, p0, q0, hargs, rfl, rfl, h0, r0⟩ := trodAll_cons hA
  obtain ⟨rfl, rfl, rfl⟩ := trodAll_nil r0
  obtain rfl : args = #[v0] := by cases args; simp_all
  obtain ⟨rfl, rfl⟩ := trodVars_none hV
  obtain ⟨a0, n0, c0, rfl⟩ := okWide_slice Try.underlying30 (hval 0 30 v0 rfl rfl)
  have k0 := h0
  have lt0 : ∀ x ∈ p0, x.block < W.heap.size := by obtain ⟨m, hm⟩ := k0; exact DataW.trod_lt m _ _ _ hm
  have w0 := open_in (C := fun cs => ∃ x : ByteArray, cs = [.string x] ∧ x.size ≤ maxLen) Try.underlying30 k0 1 (by kernel_rfl) (by decide) (fun m cs x h => by obtain ⟨x, e, _, hs⟩ := DataW.trod_string Try.underlying9 h; exact ⟨x, e, hs⟩)
  clear hA0 hval0
  refine (walk W a0 n0 c0 w0).mono fun e W' ⟨he, bel⟩ => ?_
  subst he
  exact ⟨_, rfl, _, _, _, [], _, [], hW', trodAll_mk1 (shut_bool Try.underlying4 _), (trodAll_cons_mk (Below.trod laidOut (by kernel_rfl) (of_decide_eq_true (by kernel_rfl)) k0 bel lt0) trodAll_mk0), rfl, bel.frame _, fun h => by cases h⟩

theorem over : Rows.chainFrontRow.holds Try.pinned (OpenSpec.ofChange Rows.chainFrontSpec) :=
  OpenClaim.holds_of_wide 6 Try.f6 rfl rfl rfl rfl rfl rfl rfl ⟨rfl, rfl, rfl, rfl, rfl⟩ rfl rfl rfl rfl rfl (by kernel_rfl) Try.func6 (by kernel_rfl)
    (of_decide_eq_true (by kernel_rfl)) (by unfold Func.isWrapper; first | (rw [if_pos (by decide +kernel)]; kernel_rfl) | (rw [if_neg (by decide +kernel)]; exact ⟨rfl, rfl⟩))
    (fun os started H enc _ => lifted os started H enc)

theorem proved : Rows.ChainFrontSaid := over
#print axioms proved
end Go.Proofs.Ytnabgcnndehaaaa.chainFront
