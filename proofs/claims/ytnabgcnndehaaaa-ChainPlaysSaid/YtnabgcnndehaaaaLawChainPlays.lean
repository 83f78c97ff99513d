/- 'ambry/ambrylaw09.ChainPlays' returns true, for every input, and leaves its arguments as they were. No condition. -/
import Derived.Test.YtnabgcnndehaaaaIn
import Derived.Test.YtnabgcnndehaaaaCrQ
import Derived.Test.YtnabgcnndehaaaaIn
import Derived.Deep.QuietTactic
import Derived.BigQuiet
import Derived.Deep.DeepCutAuto
import Derived.Deep.CutBlock
import Derived.Deep.RegionHeld3
import Derived.WalkKit
import Derived.ProofKit
import Derived.OpenShut
import Derived.ShutString
import Derived.ChangeOld
import Derived.Below
namespace Go.Proofs.Ytnabgcnndehaaaa.chainPlays
open Go.ChangeShapes Go.WideShapes Go.ChangeAt Go.RowKit
open Go.ChangeMaps (open_string shut_string)
set_option linter.unusedVariables false

theorem own : ownKnob Try.prog.godebug = none := by kernel_rfl
theorem laidOut : laidOutB Try.prog = true := by kernel_rfl
def El49 : List Value → Prop := fun cs => ∃ (x0 : Int) (x1 : Int) (x2 : ByteArray), cs = [.int .i64 x0, .int .i64 x1, .string x2] ∧ (Lit.int .i64 x0).wf = true ∧ (Lit.int .i64 x1).wf = true ∧ x2.size ≤ maxLen
theorem cells49 : Try.prog.cellsOf 49 = 3 := by kernel_rfl
theorem one49_3 : Try.prog.cellsOf 3 = 1 := by kernel_rfl
theorem one49_9 : Try.prog.cellsOf 9 = 1 := by kernel_rfl
theorem el49 {H : Type} {enc : TypeId × Value → H} {w : World} {base : Nat} {spare : Nat → Bool} {held : Bool} (m : Nat) (cs : List Value) (x : DataW H × List MemPlace) (h : DataW.trod enc Try.prog w base spare held m 49 cs = some x) : El49 cs := by
  obtain ⟨xs, m', _, _, hlen, hl, hg⟩ := DataW.trod_struct Try.underlying49 h
  rw [cells49] at hlen
  match cs, hlen, xs, hl, hg with
  | [c0, c1, c2], _, [y0, y1, y2], _, hg =>
    have g0 := hg 0 _ rfl
    have g0 : DataW.trod enc Try.prog w base spare held m' 3 (([c0, c1, c2].drop 0).take (Try.prog.cellsOf 3)) = some y0 := g0
    rw [one49_3] at g0
    obtain ⟨x0, e0, _, w0⟩ := DataW.trod_int Try.underlying3 g0
    have g1 := hg 1 _ rfl
    have g1 : DataW.trod enc Try.prog w base spare held m' 3 (([c0, c1, c2].drop 1).take (Try.prog.cellsOf 3)) = some y1 := g1
    rw [one49_3] at g1
    obtain ⟨x1, e1, _, w1⟩ := DataW.trod_int Try.underlying3 g1
    have g2 := hg 2 _ rfl
    have g2 : DataW.trod enc Try.prog w base spare held m' 9 (([c0, c1, c2].drop 2).take (Try.prog.cellsOf 9)) = some y2 := g2
    rw [one49_9] at g2
    obtain ⟨x2, e2, _, w2⟩ := DataW.trod_string Try.underlying9 g2
    simp at e0 e1 e2
    subst e0 e1 e2
    exact ⟨x0, x1, x2, rfl, w0, w1, w2⟩

set_option maxRecDepth 100000 in
set_option maxHeartbeats 4000000 in
theorem walk (w : World) (a0 : Option Addr) (n0 c0 : Nat) (w0 : n0 ≤ c0 ∧ ∀ i, i < n0 → InAt w a0 3 i (El49)) :
    Calls Try.prog 7 #[.slice a0 n0 c0] w fun e w' => e = .returned (.bool true) ∧ Below w.heap.size w w' := by
  -- WALK
  go_enter Try.func7, Try.ntmps7
  go_wp2_with fail
  refine (shown_any _).mono ?_
  rintro e y1 ⟨rfl, hF⟩
  have HF := Lib.hid (hF.mono (T := From w.heap.size) (fun _ _ h => h.elim))
  clear hF
  go_wp2_with fail
  refine (ch_new y1).mono ?_
  rintro e y2 ⟨t, rfl, hA, hF⟩
  have H2 := Lib.hid (And.intro hA hF)
  clear hA hF
  go_wp2_with fail
  refine (cr_new y2).mono ?_
  rintro e y3 ⟨u, rfl, hR, hF⟩
  have HP := Lib.hid (bo_new (t := t) (u := u) HF.out H2.out.1 H2.out.2 hR hF)
  clear H2 hR hF HF
  go_wp2_with fail
  go_loopw [6] (fun i wr => ∃ (k : Nat) (s : ChS) (S : Nat → Prop), k ≤ n0 ∧ k ≤ 300 ∧ i = .int .i64 k ∧ Sep (Bo t u s s) w wr S ∧ Pl k s) (fun i _ => 300 - (intOf i).toNat)
  case atStart =>
    obtain ⟨S, h⟩ := HP.out
    exact ⟨0, ch0, S, by omega, by omega, rfl, h, pl_start⟩
  case round =>
    clear HP
    obtain ⟨k, s, S, hk, hk2, rfl, h, hS⟩ := hrel
    have Hk := Lib.hid (And.intro h hS)
    clear h hS
    by_cases hlt : k < n0 ∧ k < 300
    · obtain ⟨hlt, hlt2⟩ := hlt
      obtain ⟨b, off, u0, v0, x0, rfl, hbl, hEl, hc0, hc1, hc2⟩ := (w0.2 k hlt).three
      obtain ⟨a0, a1, a2, he, hw0, hw1, hw2⟩ := hEl
      simp at he
      obtain ⟨rfl, rfl, rfl⟩ := he
      have hd0 : wr.cell? ⟨b, off + k * 3, none⟩ = some (.int .i64 a0) := (Hk.out.1.fr.cell hbl (by unfold From; simp; omega)).trans hc0
      have hd1 : wr.cell? ⟨b, off + k * 3 + 1, none⟩ = some (.int .i64 a1) := (Hk.out.1.fr.cell hbl (by unfold From; simp; omega)).trans hc1
      have hd2 : wr.cell? ⟨b, off + k * 3 + 2, none⟩ = some (.string a2) := (Hk.out.1.fr.cell hbl (by unfold From; simp; omega)).trans hc2
      clear hc0 hc1 hc2 hw0 hw1
      have W0 := Lib.hid w0
      clear w0
      by_cases hx : 300 < a2.size
      · have hxi : (300 : Int) < (a2.size : Int) := by omega
        have hxd : decide ((300 : Int) < (a2.size : Int)) = true := decide_eq_true hxi
        go_wp2_with fail
        have hsep := Lib.hid (sep_fr (bo_frm _ _ _ _) Hk.out.1 ((Fr.refl _ wr).alloc (.cells #[.int .i64 a0, .int .i64 a1, .string (a2.extract 0 300)] 49)))
        refine (does_ok hsep.out Hk.out.2 (by omega) a0 a1 (a2.extract 0 300) (by rw [ByteArray.size_extract]; omega)).mono ?_
        rintro e wz ⟨rfl, s', S', h, hP⟩
        obtain ⟨g0, g5⟩ := bo_cells h
        obtain ⟨n', hn'⟩ : ∃ v, s'.n = v := ⟨_, rfl⟩
        obtain ⟨p', hp'⟩ : ∃ v, s'.pw = v := ⟨_, rfl⟩
        obtain ⟨m', hm'⟩ : ∃ v, movedS s' = v := ⟨_, rfl⟩
        rw [hn'] at g5
        rw [hp'] at g0
        have Hq := Lib.hid (And.intro h (And.intro hP (And.intro hn' (And.intro hp' hm'))))
        have r0 : wz.drew.cell? ⟨u, 0, none⟩ = some (.int .i64 p') ∧ wz.drew.cell? ⟨u, 5, none⟩ = some (.int .i64 n') := ⟨g0, g5⟩
        clear h hP hd0 hd1 hd2 hn' hp' hm'
        go_wp2_with fail
        go_quiet ((first | (go_at_call 13; exact Calls.quiet_of_same (bo_len_q Hq.out.1 Hq.out.2.2.1 _)) | (go_at_call 12; exact Calls.quiet_of_same (bo_power_q Hq.out.1 Hq.out.2.2.2.1 _)) | (go_at_call 14; exact Calls.quiet_of_same (bo_moved1_q Hq.out.1 Hq.out.2.2.2.2 _)) | (go_at_call 23; exact Calls.quiet_of_same (bo_moved2_q Hq.out.1 Hq.out.2.2.2.2 _))))
        go_wp2_with fail
        go_roundw
        case rel => exact ⟨k + 1, s', S', by omega, by omega, by go_num, sep_drewN (bo_frm _ _ _ _) Hq.out.1 _, Hq.out.2.1⟩
        case measure => simp [intOf]; omega
      · have hxd : decide ((300 : Int) < (a2.size : Int)) = false := decide_eq_false (by omega)
        have hxd2 : decide (300 < a2.size) = false := decide_eq_false (by omega)
        go_wp2_with fail
        have hsep := Lib.hid (sep_fr (bo_frm _ _ _ _) Hk.out.1 ((Fr.refl _ wr).alloc (.cells #[.int .i64 a0, .int .i64 a1, .string a2] 49)))
        refine (does_ok hsep.out Hk.out.2 (by omega) a0 a1 a2 (by omega)).mono ?_
        rintro e wz ⟨rfl, s', S', h, hP⟩
        obtain ⟨g0, g5⟩ := bo_cells h
        obtain ⟨n', hn'⟩ : ∃ v, s'.n = v := ⟨_, rfl⟩
        obtain ⟨p', hp'⟩ : ∃ v, s'.pw = v := ⟨_, rfl⟩
        obtain ⟨m', hm'⟩ : ∃ v, movedS s' = v := ⟨_, rfl⟩
        rw [hn'] at g5
        rw [hp'] at g0
        have Hq := Lib.hid (And.intro h (And.intro hP (And.intro hn' (And.intro hp' hm'))))
        have r0 : wz.drew.cell? ⟨u, 0, none⟩ = some (.int .i64 p') ∧ wz.drew.cell? ⟨u, 5, none⟩ = some (.int .i64 n') := ⟨g0, g5⟩
        clear h hP hd0 hd1 hd2 hn' hp' hm'
        go_wp2_with fail
        go_quiet ((first | (go_at_call 13; exact Calls.quiet_of_same (bo_len_q Hq.out.1 Hq.out.2.2.1 _)) | (go_at_call 12; exact Calls.quiet_of_same (bo_power_q Hq.out.1 Hq.out.2.2.2.1 _)) | (go_at_call 14; exact Calls.quiet_of_same (bo_moved1_q Hq.out.1 Hq.out.2.2.2.2 _)) | (go_at_call 23; exact Calls.quiet_of_same (bo_moved2_q Hq.out.1 Hq.out.2.2.2.2 _))))
        go_wp2_with fail
        go_roundw
        case rel => exact ⟨k + 1, s', S', by omega, by omega, by go_num, sep_drewN (bo_frm _ _ _ _) Hq.out.1 _, Hq.out.2.1⟩
        case measure => simp [intOf]; omega
    · have hex : (k < n0 ∧ k = 300) ∨ n0 ≤ k := by omega
      clear hlt
      obtain ⟨wOut, rfl⟩ : ∃ wo : World, wo = wr := ⟨_, rfl⟩
      rcases hex with ⟨hlt, rfl⟩ | hge
      all_goals
        go_wp2_with fail
        refine (bo_keys1 Hk.out.1 Hk.out.2 (by omega)).mono ?_
        rintro e z1 ⟨v1, rfl, h, hH1, hF⟩
        have Z1 := Lib.hid (And.intro h hH1)
        clear h hH1 hF
        go_wp2_with fail
        refine (bo_keys2 Z1.out.1 Hk.out.2 (by omega)).mono ?_
        rintro e z2 ⟨v2, rfl, h, hH2, hF⟩
        have Z2 := Lib.hid (And.intro h (And.intro (Held.keep' Z1.out.1 Z1.out.2 hF) hH2))
        clear h hH2 hF
        go_wp2_with fail
        refine (same_any z2 _ _ _ _ (keysS s) (by have := Hk.out.2.l; omega) Z2.out.2.1 Z2.out.2.2).mono ?_
        rintro e z3 ⟨rfl, q3, rfl⟩
        go_wp2_with fail
        go_ret
        exact ⟨rfl, (sep_drewN (bo_frm _ _ _ _) Z2.out.1 q3).below⟩

set_option maxRecDepth 100000 in
theorem lifted (os : Os) (started : os.Started) (H : Type) (enc : TypeId × Value → H) :
    ReturnsInHanded {} Try.checked os 7 .any (Rows.chainPlaysSpec.pre6 enc Try.prog Try.f7 Rows.chainPlaysRow.domain false) (Rows.chainPlaysSpec.post enc Try.prog Try.f7 false true false false) := by
  refine returnsInHanded_of_change (C := Try.checked) own started (by kernel_rfl) Try.func7
    (ChangeSpec.witness6 (enc := enc) (C := Try.checked) false ⟨#[], #[.slice none 0 0], []⟩ 8 (by kernel_rfl) (by kernel_rfl) (by kernel_rfl) (by kernel_rfl)) ?_
  intro W base args ds gs before hval0 hW hcnd _
  have hval : ∀ (j : Nat) t v, Try.f7.params[j]? = some t → args[j]? = some v → Value.okWide Try.prog W .any base t v := hval0
  have hW' := hW
  obtain ⟨p, q, hA0, hV, rfl, hfz, hnd⟩ := hW
  have hA : DataW.TrodAll enc Try.prog W 0 (fun _ => true) true Try.f7.params.toList args.toList ds p := hA0
  rw [Try.params7] at hA hval
  obtain ⟨v0, vs0, d0, ds0, p0, q0, hargs, rfl, rfl, h0, r0⟩ := trodAll_cons hA
  obtain ⟨rfl, rfl, rfl⟩ := trodAll_nil r0
  obtain rfl : args = #[v0] := by cases args; simp_all
  obtain ⟨rfl, rfl⟩ := trodVars_none hV
  obtain ⟨a0, n0, c0, rfl⟩ := okWide_slice Try.underlying45 (hval 0 45 v0 rfl rfl)
  have k0 := h0
  have lt0 : ∀ x ∈ p0, x.block < W.heap.size := by obtain ⟨m, hm⟩ := k0; exact DataW.trod_lt m _ _ _ hm
  have w0 := open_in (C := El49) Try.underlying45 k0 3 (by kernel_rfl) (by decide) (el49)
  clear hA0 hval0
  refine (walk W a0 n0 c0 w0).mono fun e W' ⟨he, bel⟩ => ?_
  subst he
  exact ⟨_, rfl, _, _, _, [], _, [], hW', trodAll_mk1 (shut_bool Try.underlying4 _), (trodAll_cons_mk (Below.trod laidOut (by kernel_rfl) (of_decide_eq_true (by kernel_rfl)) k0 bel lt0) trodAll_mk0), rfl, bel.frame _, fun h => by cases h⟩

theorem over : Rows.chainPlaysRow.holds Try.pinned (OpenSpec.ofChange Rows.chainPlaysSpec) :=
  OpenClaim.holds_of_wide 7 Try.f7 rfl rfl rfl rfl rfl rfl rfl ⟨rfl, rfl, rfl, rfl, rfl⟩ rfl rfl rfl rfl rfl (by kernel_rfl) Try.func7 (by kernel_rfl)
    (of_decide_eq_true (by kernel_rfl)) (by unfold Func.isWrapper; first | (rw [if_pos (by decide +kernel)]; kernel_rfl) | (rw [if_neg (by decide +kernel)]; exact ⟨rfl, rfl⟩))
    (fun os started H enc _ => lifted os started H enc)

theorem proved : Rows.ChainPlaysSaid := over
#print axioms proved
end Go.Proofs.Ytnabgcnndehaaaa.chainPlays
