/- 'ambry/ambrylaw14.SthreeTells' returns true, for every input, and leaves its arguments as they were. No condition. -/
import Derived.Test.YtldnacphfoagnaeIn
import Derived.Test.YtldnacphfoagnaeThVic
import Derived.Test.YtldnacphfoagnaeIn
import Derived.Deep.QuietTactic
import Derived.BigQuiet
import Derived.Deep.DeepCutAuto
import Derived.Deep.CutBlock
import Derived.Deep.RegionHeld3
import Derived.WalkKit
import Derived.ProofKit
import Derived.OpenShut
import Derived.ShutString
import Derived.ChangeOld
import Derived.Below
namespace Go.Proofs.Ytldnacphfoagnae.sthreeTells
open Go.ChangeShapes Go.WideShapes Go.ChangeAt Go.RowKit
open Go.ChangeMaps (open_string shut_string)
set_option linter.unusedVariables false

theorem own : ownKnob Try.prog.godebug = none := by kernel_rfl
theorem laidOut : laidOutB Try.prog = true := by kernel_rfl

theorem wrap64_id {x : Int} (h1 : -9223372036854775808 ≤ x) (h2 : x ≤ 9223372036854775807) : IntKind.i64.wrap x = x := by
  rw [IntKind.wrap_i64]; omega
set_option maxRecDepth 100000 in
set_option maxHeartbeats 4000000 in
theorem walk (w : World) (a0 : Option Addr) (n0 c0 : Nat) (w0 : n0 ≤ c0 ∧ ∀ i, i < n0 → InAt w a0 1 i (fun cs => ∃ x : Int, cs = [.int .i64 x] ∧ (Lit.int .i64 x).wf = true)) (a1 : Option Addr) (n1 c1 : Nat) (w1 : n1 ≤ c1 ∧ ∀ i, i < n1 → InAt w a1 1 i (fun cs => ∃ x : Int, cs = [.int .i64 x] ∧ (Lit.int .i64 x).wf = true)) (a2 : Int) (w2 : (Lit.int .i64 a2).wf = true) :
    Calls Try.prog 3 #[.slice a0 n0 c0, .slice a1 n1 c1, .int .i64 a2] w fun e w' => e = .returned (.bool true) ∧ Below w.heap.size w w' := by
  obtain ⟨pl, hp', hp127⟩ := and_mask a2 127 (by decide)
  have hp : bits .and .i64 a2 127 = pl := hp'
  clear hp'
  go_enter Try.func3, Try.ntmps3
  go_wp2_with fail
  refine (shown_any _).mono ?_
  rintro e y1 ⟨rfl, hF⟩
  have HF := Lib.hid (hF.mono (T := From w.heap.size) (fun _ _ h => h.elim))
  clear hF
  go_wp2_with fail
  refine (new_th (w0 := w) HF.out).mono ?_
  rintro e y2 ⟨p, S, rfl, h, _, _⟩
  have H := Lib.hid h
  clear h HF
  go_wp2_with fail
  refine (cap_th H.out pl (by omega)).mono ?_
  rintro e y3 ⟨rfl, h, _⟩
  have H3 := Lib.hid h
  clear h H
  go_upto_block 0 with fail
  go_cut [9, 10] (fun t s wx => ∃ (n N : Nat) (s' : ThS) (S : Nat → Prop), N ≤ 60 ∧ n ≤ 60 ∧ n = totT s' ∧ t = .int .i64 n ∧ Sep (TH p s' N 0) w wx S)
  case first =>
    go_wp2_with fail
    go_loopw [9, 10, 11] (fun t i _ wr => ∃ (k n : Nat) (s' : ThS) (S : Nat → Prop), k ≤ n0 ∧ k ≤ 60 ∧ n ≤ k ∧ n = totT s' ∧ t = .int .i64 n ∧ i = .int .i64 k ∧ Sep (TH p s' k 0) w wr S) (fun _ i _ _ => 60 - (intOf i).toNat)
    case atStart => exact ⟨0, 0, _, _, by omega, by omega, by omega, rfl, rfl, rfl, H3.out⟩
    case round =>
      clear H3
      obtain ⟨k, n, s', S, hk, hk2, hnk, hn, rfl, rfl, h⟩ := hrel
      have Hk := Lib.hid (And.intro h hn)
      clear h hn
      by_cases hlt : k < n0 ∧ k < 60
      · obtain ⟨hlt, hlt2⟩ := hlt
        obtain ⟨b, off, vv, rfl, hbl, hEl, hc⟩ := (w0.2 k hlt).one
        obtain ⟨x, he, hw⟩ := hEl
        simp at he
        subst he
        have hc' : wr.cell? ⟨b, off + k, none⟩ = some (.int .i64 x) := (Hk.out.1.fr.cell hbl (by unfold From; simp; omega)).trans hc
        obtain ⟨m1, hm1, hmb⟩ := and_mask x 65535 (by decide)
        have hm1' : bits .and .i64 x 65535 = m1 := hm1
        have W0 := Lib.hid w0
        have W1 := Lib.hid w1
        have HT := Lib.hid (tot_in (th_gd Hk.out.1) (id := m1) m1 (by omega))
        clear w0 w1 hc hm1 hw
        go_wp2_with fail
        refine (insert_th Hk.out.1 m1 m1 (by omega) (by omega)).mono ?_
        rintro e y4 ⟨rfl, h, _⟩
        have H4 := Lib.hid h
        clear h
        rcases ho : inOk s' m1 with _ | _
        · have HO := Lib.hid ho
          clear ho
          go_wp2_with fail
          go_roundw
          case rel => exact ⟨k + 1, n, _, _, by omega, by omega, by omega, (by have h1 := HT.out; rw [HO.out] at h1; have h2 := Hk.out.2; simp at h1; omega), rfl, by go_num, H4.out⟩
          case measure => simp [intOf]; omega
        · have HO := Lib.hid ho
          clear ho
          go_wp2_with fail
          go_roundw
          case rel => exact ⟨k + 1, n + 1, _, _, by omega, by omega, by omega, (by have h1 := HT.out; rw [HO.out] at h1; have h2 := Hk.out.2; simp at h1; omega), by go_num, by go_num, H4.out⟩
          case measure => simp [intOf]; omega
      · have hex : (k < n0 ∧ k = 60) ∨ n0 ≤ k := by omega
        clear hlt
        rcases hex with ⟨hlt, rfl⟩ | hge
        all_goals
          go_wp2
          go_meet
          exact ⟨n, _, s', S, by omega, by omega, Hk.out.2, rfl, Hk.out.1⟩
  case rest =>
    clear H3
    obtain ⟨n, N, s1, S, hN, hn60, hn, rfl, h⟩ := hcut
    obtain ⟨wx, rfl⟩ : ∃ wx : World, wx = wc := ⟨_, rfl⟩
    have Hx := Lib.hid (And.intro h hn)
    clear h hn
    go_upto_block 2 with fail
    go_cut [12] (fun _ wx => ∃ (s' : ThS) (S : Nat → Prop), n = totT s' ∧ Sep (TH p s' N 0) w wx S)
    case first =>
      go_wp2_with fail
      go_loopw [12, 13, 14] (fun i _ _ wr => ∃ (k : Nat) (s' : ThS) (S : Nat → Prop), k ≤ n1 ∧ k ≤ 120 ∧ n = totT s' ∧ i = .int .i64 k ∧ Sep (TH p s' N 0) w wr S) (fun i _ _ _ => 120 - (intOf i).toNat)
      case atStart => exact ⟨0, s1, S, by omega, by omega, Hx.out.2, rfl, Hx.out.1⟩
      case round =>
        clear Hx
        obtain ⟨k, s', S, hk, hk2, hn, rfl, h⟩ := hrel
        have Hk := Lib.hid (And.intro h hn)
        clear h hn
        by_cases hlt : k < n1 ∧ k < 120
        · obtain ⟨hlt, hlt2⟩ := hlt
          obtain ⟨b, off, vv, rfl, hbl, hEl, hc⟩ := (w1.2 k hlt).one
          obtain ⟨x, he, hw⟩ := hEl
          simp at he
          subst he
          have hc' : wr.cell? ⟨b, off + k, none⟩ = some (.int .i64 x) := (Hk.out.1.fr.cell hbl (by unfold From; simp; omega)).trans hc
          obtain ⟨m1, hm1, hmb⟩ := and_mask x 65535 (by decide)
          have hm1' : bits .and .i64 x 65535 = m1 := hm1
          have W0 := Lib.hid w0
          have W1 := Lib.hid w1
          clear w0 w1 hc hm1 hw
          go_wp2_with fail
          refine (count_th Hk.out.1 m1).mono ?_
          rintro e y4 ⟨rfl, rfl⟩
          rcases hK : s'.K m1 with _ | ⟨hh, c⟩
          · have HK := Lib.hid hK
            clear hK
            rw [countT_none HK.out]
            go_wp2_with fail
            refine (touch_th Hk.out.1 m1).mono ?_
            rintro e y5 ⟨rfl, h, _⟩
            have H5 := Lib.hid h
            clear h
            rw [HK.out]
            go_wp2_with fail
            go_roundw
            case rel => exact ⟨k + 1, _, _, by omega, by omega, (tot_touch s' m1).symm ▸ Hk.out.2, by go_num, H5.out⟩
            case measure => simp [intOf]; omega
          · have HK := Lib.hid hK
            have hcb := (th_gd Hk.out.1).in_.cnt m1 hh c hK
            have hT : countT (touchT s' m1) m1 = min (c + 1) 3 := by
              rw [touchT_some hK]
              exact countT_some (h := hh) (setK_same _ _ _)
            have HT := Lib.hid hT
            clear hK hT
            rw [countT_some HK.out]
            have hc4 : c = 0 ∨ c = 1 ∨ c = 2 ∨ c = 3 := by omega
            clear hcb
            rcases hc4 with rfl | rfl | rfl | rfl
            all_goals
              go_wp2_with fail
              refine (touch_th Hk.out.1 m1).mono ?_
              rintro e y5 ⟨rfl, h, _⟩
              have H5 := Lib.hid h
              clear h
              rw [HK.out]
              go_wp2_with fail
              refine (count_th H5.out m1).mono ?_
              rintro e y6 ⟨rfl, rfl⟩
              rw [HT.out]
              go_wp2_with fail
              go_roundw
              case rel => exact ⟨k + 1, _, _, by omega, by omega, (tot_touch s' m1).symm ▸ Hk.out.2, by go_num, H5.out⟩
              case measure => simp [intOf]; omega
        · have hex : (k < n1 ∧ k = 120) ∨ n1 ≤ k := by omega
          clear hlt
          rcases hex with ⟨hlt, rfl⟩ | hge
          all_goals
            go_wp2
            go_meet
            exact ⟨s', S, Hk.out.2, Hk.out.1⟩
    case rest =>
      clear Hx
      obtain ⟨s', S, hn, h⟩ := hcut
      obtain ⟨wy, rfl⟩ : ∃ wy : World, wy = wc := ⟨_, rfl⟩
      have hT := vicT_told (th_gd h)
      have hag := vicT_again (th_gd h)
      have hm1 : measT s' ≤ 180 := by have := meas_le (th_gd h).in_; omega
      have hm2 : measT (vicT s').1 ≤ 180 := by have := meas_le hT.gd.in_; have := hT.tot; omega
      have Hy := Lib.hid (And.intro h (And.intro hn (And.intro hT (And.intro hag (And.intro hm1 hm2)))))
      clear h hn hT hag hm1 hm2
      obtain ⟨v, hv⟩ : ∃ v, (vicT s').2 = v := ⟨_, rfl⟩
      have HV := Lib.hid hv
      clear hv
      go_wp2_with fail
      refine (victim_th Hy.out.1 (by have := Hy.out.2.2.2.2.1; omega)).mono ?_
      rintro e z1 ⟨rfl, h, _⟩
      have Z1 := Lib.hid h
      clear h
      rw [HV.out]
      go_wp2_with fail
      refine (victim_th Z1.out (by have := Hy.out.2.2.2.2.1; have := Hy.out.2.2.2.2.2; omega)).mono ?_
      rintro e z2 ⟨rfl, h, _⟩
      rw [Hy.out.2.2.2.1] at h
      have Z2 := Lib.hid h
      clear h
      rw [Hy.out.2.2.2.1, HV.out]
      by_cases h0 : n = 0
      · have hv1 : v = -1 := by rw [← HV.out]; exact Hy.out.2.2.1.none (by have := Hy.out.2.1; omega)
        subst hv1
        subst h0
        go_wp2
        go_ret
        exact ⟨rfl, Z2.out.below⟩
      · have hth := Hy.out.2.2.1.there (by have := Hy.out.2.1; omega)
        rw [HV.out] at hth
        have hv0 : 0 ≤ v := (hth.1.elim (Hy.out.2.2.1.gd.w 0 v (by decide)) (Hy.out.2.2.1.gd.w 1 v (by decide))).1
        have hd0 : decide (0 ≤ v) = true := decide_eq_true hv0
        have hn0' : ((n : Int) == 0) = false := by rw [beq_eq_false_iff_ne]; omega
        have htot : ((vicT s').1.L 0).length + ((vicT s').1.L 1).length = n := by have := Hy.out.2.2.1.tot; have := Hy.out.2.1; unfold totT at *; omega
        obtain ⟨l0, hl0⟩ : ∃ l, ((vicT s').1.L 0).length = l := ⟨_, rfl⟩
        obtain ⟨l1, hl1⟩ : ∃ l, ((vicT s').1.L 1).length = l := ⟨_, rfl⟩
        rw [hl0, hl1] at htot
        have HL := Lib.hid (And.intro hl0 hl1)
        have hcc := hth.2
        have HNN := Lib.hid (show N + measT s' + measT (vicT s').1 ≤ 1000000 by have := Hy.out.2.2.2.2.1; have := Hy.out.2.2.2.2.2; omega)
        obtain ⟨NN, hNN⟩ : ∃ NN, N + measT s' + measT (vicT s').1 = NN := ⟨_, rfl⟩
        rw [hNN] at HNN Z2
        have hsum : ((l0 : Int) + l1 == n) = true := by rw [beq_iff_eq]; omega
        have hlb : l0 ≤ 60 ∧ l1 ≤ 60 := by omega
        clear hth hl0 hl1 h0 hNN
        go_wp2_with fail
        refine (count_th Z2.out v).mono ?_
        rintro e z3 ⟨rfl, rfl⟩
        obtain ⟨cc, hc'⟩ : ∃ cc, countT (vicT s').1 v = cc := ⟨_, rfl⟩
        rw [hc'] at hcc ⊢
        clear hc'
        rcases hcc with hcc | hcc
        · have e0 : (cc == 0) = true := by rw [beq_iff_eq]; exact hcc
          clear hcc
          obtain ⟨g, hcg, _⟩ := all_th Z2.out HNN.out
          have hcd : z2.drew.cell? ⟨p, 0, none⟩ = some (.pointer (some ⟨g, 0, none⟩)) := hcg
          go_wp2_with fail
          refine wp_region_held_drew (S := fun w' => w'.cell? ⟨p, 0, none⟩ = some (.pointer (some ⟨g, 0, none⟩))) (by kernel_rfl) hcd (fun hHeld => ?_)
          try simp only [Act.put, List.getElem_toArray, List.getElem_cons_succ, List.getElem_cons_zero, List.setIfInBounds_toArray, List.set_cons_zero, List.set_cons_succ]
          refine wpAnyH_take (i := 0) (v := ?v0) rfl (by kernel_rfl) (by kernel_rfl) (by kernel_rfl) (fun _ _ _ h => h) (Or.inl ⟨by rfl, ?hy0⟩) (by assumption) ?_
          case hy0 => (intro w hSw; (try dsimp only at hSw); go_simp; (try with_reducible rfl))
          try simp only [Act.put, List.getElem_toArray, List.getElem_cons_zero, List.setIfInBounds_toArray, List.set_cons_zero, List.set_cons_succ]
          refine wpAnyH_take (i := 1) (v := ?v1) rfl (by kernel_rfl) (by kernel_rfl) (by kernel_rfl) (fun _ _ _ h => h) (Or.inl ⟨by rfl, ?hy1⟩) (by assumption) ?_
          case hy1 => (intro w hSw; (try dsimp only at hSw); go_simp; (try with_reducible rfl))
          try simp only [Act.put, List.getElem_toArray, List.getElem_cons_succ, List.getElem_cons_zero, List.setIfInBounds_toArray, List.set_cons_zero, List.set_cons_succ]
          refine wpAnyH_take (i := 2) (v := ?v2) rfl (by kernel_rfl) (by kernel_rfl) (by kernel_rfl) (fun _ _ _ h => h) (Or.inl ⟨by rfl, ?hy2⟩) (by assumption) ?_
          case hy2 => (intro w hSw; (try dsimp only at hSw); go_simp; (try with_reducible rfl))
          try simp only [Act.put, List.getElem_toArray, List.getElem_cons_succ, List.getElem_cons_zero, List.setIfInBounds_toArray, List.set_cons_zero, List.set_cons_succ]
          refine wpAnyH_take (i := 3) (v := ?v3) rfl (by kernel_rfl) (by kernel_rfl) (by kernel_rfl) (fun _ _ _ h => h) (Or.inl ⟨by rfl, ?hy3⟩) (by assumption) ?_
          case hy3 => (intro w hSw; (try dsimp only at hSw); go_simp; (try with_reducible rfl))
          try simp only [Act.put, List.getElem_toArray, List.getElem_cons_succ, List.getElem_cons_zero, List.setIfInBounds_toArray, List.set_cons_zero, List.set_cons_succ]
          refine wpAnyH_take (i := 4) (v := ?v4) rfl (by kernel_rfl) (by kernel_rfl) (by kernel_rfl) (fun _ _ _ h => h) (Or.inl ⟨by rfl, ?hy4⟩) (by assumption) ?_
          case hy4 => (intro w hSw; (try dsimp only at hSw); go_simp; (try with_reducible rfl))
          try simp only [Act.put, List.getElem_toArray, List.getElem_cons_succ, List.getElem_cons_zero, List.setIfInBounds_toArray, List.set_cons_zero, List.set_cons_succ]
          refine wpAnyH_take (i := 5) (v := ?v5) rfl (by kernel_rfl) (by kernel_rfl) (by kernel_rfl) (fun _ _ _ h => h) (Or.inl ⟨by rfl, ?hy5⟩) (by assumption) ?_
          case hy5 => (intro w hSw; (try dsimp only at hSw); go_simp; (try with_reducible rfl))
          try simp only [Act.put, List.getElem_toArray, List.getElem_cons_succ, List.getElem_cons_zero, List.setIfInBounds_toArray, List.set_cons_zero, List.set_cons_succ]
          refine wpAnyH_take (i := 6) (v := ?v6) rfl (by kernel_rfl) (by kernel_rfl) (by kernel_rfl) (fun _ _ _ h => h) (Or.inl ⟨by rfl, ?hy6⟩) (by assumption) ?_
          case hy6 => (intro w hSw; (try dsimp only at hSw); go_simp; (try with_reducible rfl))
          try simp only [Act.put, List.getElem_toArray, List.getElem_cons_succ, List.getElem_cons_zero, List.setIfInBounds_toArray, List.set_cons_zero, List.set_cons_succ]
          refine wpAnyH_take (i := 7) (v := ?v7) rfl (by kernel_rfl) (by kernel_rfl) (by kernel_rfl) (fun _ _ _ h => h) (Or.inl ⟨by rfl, ?hy7⟩) (by assumption) ?_
          case hy7 => (intro w hSw; (try dsimp only at hSw); go_simp; (try with_reducible rfl))
          try simp only [Act.put, List.getElem_toArray, List.getElem_cons_succ, List.getElem_cons_zero, List.setIfInBounds_toArray, List.set_cons_zero, List.set_cons_succ]
          refine wpAnyH_take (i := 8) (v := ?v8) rfl (by kernel_rfl) (by kernel_rfl) (by kernel_rfl) (fun _ _ _ h => h) (Or.inl ⟨by rfl, ?hy8⟩) (by assumption) ?_
          case hy8 => (intro w hSw; (try dsimp only at hSw); go_simp; (try with_reducible rfl))
          try simp only [Act.put, List.getElem_toArray, List.getElem_cons_succ, List.getElem_cons_zero, List.setIfInBounds_toArray, List.set_cons_zero, List.set_cons_succ]
          refine wpAnyH_take (i := 9) (v := ?v9) rfl (by kernel_rfl) (by kernel_rfl) (by kernel_rfl) (fun _ _ _ h => h) (Or.inl ⟨by rfl, ?hy9⟩) (by assumption) ?_
          case hy9 => (intro w hSw; (try dsimp only at hSw); go_simp; (try with_reducible rfl))
          try simp only [Act.put, List.getElem_toArray, List.getElem_cons_succ, List.getElem_cons_zero, List.setIfInBounds_toArray, List.set_cons_zero, List.set_cons_succ]
          refine wpAnyH_take (i := 10) (v := ?v10) rfl (by kernel_rfl) (by kernel_rfl) (by kernel_rfl) (fun _ _ _ h => h) (Or.inl ⟨by rfl, ?hy10⟩) (by assumption) ?_
          case hy10 => (intro w hSw; (try dsimp only at hSw); go_simp; (try with_reducible rfl))
          try simp only [Act.put, List.getElem_toArray, List.getElem_cons_succ, List.getElem_cons_zero, List.setIfInBounds_toArray, List.set_cons_zero, List.set_cons_succ]
          refine wpAnyH_take (i := 11) (v := undef) rfl (by kernel_rfl) (by kernel_rfl) (by kernel_rfl) (fun _ _ _ h => h) (Or.inr ⟨by rfl, rfl⟩) (by assumption) ?_
          try simp only [Act.put, List.getElem_toArray, List.getElem_cons_succ, List.getElem_cons_zero, List.setIfInBounds_toArray, List.set_cons_zero, List.set_cons_succ]
          refine wpAnyH_take (i := 12) (v := undef) rfl (by kernel_rfl) (by kernel_rfl) (by kernel_rfl) (fun _ _ _ h => h) (Or.inr ⟨by rfl, rfl⟩) (by assumption) ?_
          try simp only [Act.put, List.getElem_toArray, List.getElem_cons_succ, List.getElem_cons_zero, List.setIfInBounds_toArray, List.set_cons_zero, List.set_cons_succ]
          refine wpAnyH_take (i := 13) (v := ?v13) rfl (by kernel_rfl) (by kernel_rfl) (by kernel_rfl) (fun _ _ _ h => h) (Or.inl ⟨by rfl, ?hy13⟩) (by assumption) ?_
          case hy13 => (intro w hSw; (try dsimp only at hSw); go_simp; (try with_reducible rfl))
          try simp only [Act.put, List.getElem_toArray, List.getElem_cons_succ, List.getElem_cons_zero, List.setIfInBounds_toArray, List.set_cons_zero, List.set_cons_succ]
          refine wpAnyH_take (i := 14) (v := ?v14) rfl (by kernel_rfl) (by kernel_rfl) (by kernel_rfl) (fun _ _ _ h => h) (Or.inl ⟨by rfl, ?hy14⟩) (by assumption) ?_
          case hy14 => (intro w hSw; (try dsimp only at hSw); go_simp; (try with_reducible rfl))
          try simp only [Act.put, List.getElem_toArray, List.getElem_cons_succ, List.getElem_cons_zero, List.setIfInBounds_toArray, List.set_cons_zero, List.set_cons_succ]
          refine wpAnyH_take (i := 15) (v := ?v15) rfl (by kernel_rfl) (by kernel_rfl) (by kernel_rfl) (fun _ _ _ h => h) (Or.inl ⟨by rfl, ?hy15⟩) (by assumption) ?_
          case hy15 => (intro w hSw; (try dsimp only at hSw); go_simp; (try with_reducible rfl))
          try simp only [Act.put, List.getElem_toArray, List.getElem_cons_succ, List.getElem_cons_zero, List.setIfInBounds_toArray, List.set_cons_zero, List.set_cons_succ]
          refine wpAnyH_take (i := 16) (v := ?v16) rfl (by kernel_rfl) (by kernel_rfl) (by kernel_rfl) (fun _ _ _ h => h) (Or.inl ⟨by rfl, ?hy16⟩) (by assumption) ?_
          case hy16 => (intro w hSw; (try dsimp only at hSw); go_simp; (try with_reducible rfl))
          try simp only [Act.put, List.getElem_toArray, List.getElem_cons_succ, List.getElem_cons_zero, List.setIfInBounds_toArray, List.set_cons_zero, List.set_cons_succ]
          refine wpAnyH_take (i := 17) (v := ?v17) rfl (by kernel_rfl) (by kernel_rfl) (by kernel_rfl) (fun _ _ _ h => h) (Or.inl ⟨by rfl, ?hy17⟩) (by assumption) ?_
          case hy17 => (intro w hSw; (try dsimp only at hSw); go_simp; (try with_reducible rfl))
          try simp only [Act.put, List.getElem_toArray, List.getElem_cons_succ, List.getElem_cons_zero, List.setIfInBounds_toArray, List.set_cons_zero, List.set_cons_succ]
          refine wpAnyH_take (i := 18) (v := ?v18) rfl (by kernel_rfl) (by kernel_rfl) (by kernel_rfl) (fun _ _ _ h => h) (Or.inl ⟨by rfl, ?hy18⟩) (by assumption) ?_
          case hy18 => (intro w hSw; (try dsimp only at hSw); go_simp; (try with_reducible rfl))
          try simp only [Act.put, List.getElem_toArray, List.getElem_cons_succ, List.getElem_cons_zero, List.setIfInBounds_toArray, List.set_cons_zero, List.set_cons_succ]
          refine wpAnyH_take (i := 19) (v := ?v19) rfl (by kernel_rfl) (by kernel_rfl) (by kernel_rfl) (fun _ _ _ h => h) (Or.inl ⟨by rfl, ?hy19⟩) (by assumption) ?_
          case hy19 => (intro w hSw; (try dsimp only at hSw); go_simp; (try with_reducible rfl))
          try simp only [Act.put, List.getElem_toArray, List.getElem_cons_succ, List.getElem_cons_zero, List.setIfInBounds_toArray, List.set_cons_zero, List.set_cons_succ]
          refine wpAnyH_take (i := 22) (v := ?v22) rfl (by kernel_rfl) (by kernel_rfl) (by kernel_rfl) (fun _ _ _ h => h) (Or.inl ⟨by rfl, ?hy22⟩) (by assumption) ?_
          case hy22 => (intro w hSw; (try dsimp only at hSw); go_simp; (try with_reducible rfl))
          try simp only [Act.put, List.getElem_toArray, List.getElem_cons_succ, List.getElem_cons_zero, List.setIfInBounds_toArray, List.set_cons_zero, List.set_cons_succ]
          refine wpAnyH_take (i := 23) (v := ?v23) rfl (by kernel_rfl) (by kernel_rfl) (by kernel_rfl) (fun _ _ _ h => h) (Or.inl ⟨by rfl, ?hy23⟩) (by assumption) ?_
          case hy23 => (intro w hSw; (try dsimp only at hSw); go_simp; (try with_reducible rfl))
          try simp only [Act.put, List.getElem_toArray, List.getElem_cons_succ, List.getElem_cons_zero, List.setIfInBounds_toArray, List.set_cons_zero, List.set_cons_succ]
          refine wpAnyH_take (i := 24) (v := ?v24) rfl (by kernel_rfl) (by kernel_rfl) (by kernel_rfl) (fun _ _ _ h => h) (Or.inl ⟨by rfl, ?hy24⟩) (by assumption) ?_
          case hy24 => (intro w hSw; (try dsimp only at hSw); go_simp; (try with_reducible rfl))
          try simp only [Act.put, List.getElem_toArray, List.getElem_cons_succ, List.getElem_cons_zero, List.setIfInBounds_toArray, List.set_cons_zero, List.set_cons_succ]
          refine wpAnyH_take (i := 25) (v := ?v25) rfl (by kernel_rfl) (by kernel_rfl) (by kernel_rfl) (fun _ _ _ h => h) (Or.inl ⟨by rfl, ?hy25⟩) (by assumption) ?_
          case hy25 => (intro w hSw; (try dsimp only at hSw); go_simp; (try with_reducible rfl))
          try simp only [Act.put, List.getElem_toArray, List.getElem_cons_succ, List.getElem_cons_zero, List.setIfInBounds_toArray, List.set_cons_zero, List.set_cons_succ]
          refine wpAnyH_take (i := 29) (v := ?v29) rfl (by kernel_rfl) (by kernel_rfl) (by kernel_rfl) (fun _ _ _ h => h) (Or.inl ⟨by rfl, ?hy29⟩) (by assumption) ?_
          case hy29 => (intro w hSw; (try dsimp only at hSw); go_simp; (try with_reducible rfl))
          try simp only [Act.put, List.getElem_toArray, List.getElem_cons_succ, List.getElem_cons_zero, List.setIfInBounds_toArray, List.set_cons_zero, List.set_cons_succ]
          refine wpAnyH_ready (rs := [20]) (by kernel_rfl) (by simp) ?_
          refine AllReadyH.cons rfl (fun K hK => ?_) AllReadyH.nil
          simp only [List.getElem_toArray, List.getElem_cons_succ, List.getElem_cons_zero]
          go_simp
          refine (all_th_at (th_drew Z2.out) HNN.out hcd 0).mono ?_; rintro e x1 ⟨va, rfl, hV, h, _, hc1⟩; rw [show (rowL (vicT s').1.L 0).length = l0 from HL.out.1] at hV; obtain ⟨a1, cap1, rfl, _⟩ := hV.shape; have X1 := Lib.hid h; clear h hV
          refine hK.out _ _ hc1 (fun hHeld => ?_)
          clear hK K
          try simp only [Act.put, List.getElem_toArray, List.getElem_cons_succ, List.getElem_cons_zero, List.setIfInBounds_toArray, List.set_cons_zero, List.set_cons_succ]
          refine wpAnyH_take (i := 21) (v := ?v21) rfl (by kernel_rfl) (by kernel_rfl) (by kernel_rfl) (fun _ _ _ h => h) (Or.inl ⟨by rfl, ?hy21⟩) (by assumption) ?_
          case hy21 => (intro w hSw; (try dsimp only at hSw); go_simp; (try with_reducible rfl))
          try simp only [Act.put, List.getElem_toArray, List.getElem_cons_succ, List.getElem_cons_zero, List.setIfInBounds_toArray, List.set_cons_zero, List.set_cons_succ]
          refine wpAnyH_ready (rs := [26]) (by kernel_rfl) (by simp) ?_
          refine AllReadyH.cons rfl (fun K hK => ?_) AllReadyH.nil
          simp only [List.getElem_toArray, List.getElem_cons_succ, List.getElem_cons_zero]
          go_simp
          refine (all_th_at X1.out HNN.out hc1 1).mono ?_; rintro e x2 ⟨vb, rfl, hV, h, _, hc2⟩; rw [show (rowL (vicT s').1.L 1).length = l1 from HL.out.2] at hV; obtain ⟨a2, cap2, rfl, _⟩ := hV.shape; have X2 := Lib.hid h; clear h hV
          refine hK.out _ _ hc2 (fun hHeld => ?_)
          clear hK K
          try simp only [Act.put, List.getElem_toArray, List.getElem_cons_succ, List.getElem_cons_zero, List.setIfInBounds_toArray, List.set_cons_zero, List.set_cons_succ]
          refine wpAnyH_take (i := 27) (v := ?v27) rfl (by kernel_rfl) (by kernel_rfl) (by kernel_rfl) (fun _ _ _ h => h) (Or.inl ⟨by rfl, ?hy27⟩) (by assumption) ?_
          case hy27 => (intro w hSw; (try dsimp only at hSw); go_simp; (try with_reducible rfl))
          try simp only [Act.put, List.getElem_toArray, List.getElem_cons_succ, List.getElem_cons_zero, List.setIfInBounds_toArray, List.set_cons_zero, List.set_cons_succ]
          refine wpAnyH_take (i := 28) (v := ?v28) rfl (by kernel_rfl) (by kernel_rfl) (by kernel_rfl) (fun _ _ _ h => h) (Or.inl ⟨by rfl, ?hy28⟩) (by assumption) ?_
          case hy28 => (intro w hSw; (try dsimp only at hSw); go_simp; (try with_reducible rfl))
          try simp only [Act.put, List.getElem_toArray, List.getElem_cons_succ, List.getElem_cons_zero, List.setIfInBounds_toArray, List.set_cons_zero, List.set_cons_succ]
          refine wpAnyH_take (i := 30) (v := ?v30) rfl (by kernel_rfl) (by kernel_rfl) (by kernel_rfl) (fun _ _ _ h => h) (Or.inl ⟨by rfl, ?hy30⟩) (by assumption) ?_
          case hy30 => (intro w hSw; (try dsimp only at hSw); go_simp; (try with_reducible rfl))
          try simp only [Act.put, List.getElem_toArray, List.getElem_cons_succ, List.getElem_cons_zero, List.setIfInBounds_toArray, List.set_cons_zero, List.set_cons_succ]
          refine wpAnyH_take (i := 31) (v := ?v31) rfl (by kernel_rfl) (by kernel_rfl) (by kernel_rfl) (fun _ _ _ h => h) (Or.inl ⟨by rfl, ?hy31⟩) (by assumption) ?_
          case hy31 => (intro w hSw; (try dsimp only at hSw); go_simp; (try with_reducible rfl))
          try simp only [Act.put, List.getElem_toArray, List.getElem_cons_succ, List.getElem_cons_zero, List.setIfInBounds_toArray, List.set_cons_zero, List.set_cons_succ]
          refine wpAnyH_take (i := 32) (v := ?v32) rfl (by kernel_rfl) (by kernel_rfl) (by kernel_rfl) (fun _ _ _ h => h) (Or.inl ⟨by rfl, ?hy32⟩) (by assumption) ?_
          case hy32 => (intro w hSw; (try dsimp only at hSw); go_simp; (try with_reducible rfl))
          try simp only [Act.put, List.getElem_toArray, List.getElem_cons_succ, List.getElem_cons_zero, List.setIfInBounds_toArray, List.set_cons_zero, List.set_cons_succ]
          refine wpAnyH_done (by kernel_rfl) ?_ _
          go_wp2
          go_ret
          exact ⟨congrArg (fun b => Ending.returned (Value.bool b)) (by rw [show IntKind.i64.wrap ((l0 : Int) + l1) = (l0 : Int) + l1 from wrap64_id (by omega) (by omega)]; exact hsum), X2.out.below⟩
        · have e0 : (cc == 0) = false := by rw [beq_eq_false_iff_ne]; omega
          have e1 : (cc == 1) = true := by rw [beq_iff_eq]; exact hcc
          clear hcc
          obtain ⟨g, hcg, _⟩ := all_th Z2.out HNN.out
          have hcd : z2.drew.cell? ⟨p, 0, none⟩ = some (.pointer (some ⟨g, 0, none⟩)) := hcg
          go_wp2_with fail
          go_region_held3 (fun w' => w'.cell? ⟨p, 0, none⟩ = some (.pointer (some ⟨g, 0, none⟩))) (first | exact hcd | exact hc1 | exact hc2) (first
            | (go_at_call 15; refine (all_th_at X1.out HNN.out hc1 1).mono ?_; rintro e x2 ⟨vb, rfl, hV, h, _, hc2⟩; rw [show (rowL (vicT s').1.L 1).length = l1 from HL.out.2] at hV; obtain ⟨a2, cap2, rfl, _⟩ := hV.shape; have X2 := Lib.hid h; clear h hV)
            | (go_at_call 15; refine (all_th_at (th_drew Z2.out) HNN.out hcd 0).mono ?_; rintro e x1 ⟨va, rfl, hV, h, _, hc1⟩; rw [show (rowL (vicT s').1.L 0).length = l0 from HL.out.1] at hV; obtain ⟨a1, cap1, rfl, _⟩ := hV.shape; have X1 := Lib.hid h; clear h hV))
          go_wp2
          go_ret
          exact ⟨congrArg (fun b => Ending.returned (Value.bool b)) (by rw [show IntKind.i64.wrap ((l0 : Int) + l1) = (l0 : Int) + l1 from wrap64_id (by omega) (by omega)]; exact hsum), X2.out.below⟩

set_option maxRecDepth 100000 in
theorem lifted (os : Os) (started : os.Started) (H : Type) (enc : TypeId × Value → H) :
    ReturnsInHanded {} Try.checked os 3 .any (Rows.sthreeTellsSpec.pre6 enc Try.prog Try.f3 Rows.sthreeTellsRow.domain false) (Rows.sthreeTellsSpec.post enc Try.prog Try.f3 false true false false) := by
  refine returnsInHanded_of_change (C := Try.checked) own started (by kernel_rfl) Try.func3
    (ChangeSpec.witness6 (enc := enc) (C := Try.checked) false ⟨#[], #[.slice none 0 0, .slice none 0 0, .int .i64 0], []⟩ 8 (by kernel_rfl) (by kernel_rfl) (by kernel_rfl) (by kernel_rfl)) ?_
  intro W base args ds gs before hval0 hW hcnd _
  have hval : ∀ (j : Nat) t v, Try.f3.params[j]? = some t → args[j]? = some v → Value.okWide Try.prog W .any base t v := hval0
  have hW' := hW
  obtain ⟨p, q, hA0, hV, rfl, hfz, hnd⟩ := hW
  have hA : DataW.TrodAll enc Try.prog W 0 (fun _ => true) true Try.f3.params.toList args.toList ds p := hA0
  rw [Try.params3] at hA hval
  obtain ⟨v0, vs0, d0, ds0, p0, q0, hargs, rfl, rfl, h0, r0⟩ := trodAll_cons hA
  obtain ⟨v1, vs1, d1, ds1, p1, q1, rfl, rfl, rfl, h1, r1⟩ := trodAll_cons r0
  obtain ⟨v2, vs2, d2, ds2, p2, q2, rfl, rfl, rfl, h2, r2⟩ := trodAll_cons r1
  obtain ⟨rfl, rfl, rfl⟩ := trodAll_nil r2
  obtain rfl : args = #[v0, v1, v2] := by cases args; simp_all
  obtain ⟨rfl, rfl⟩ := trodVars_none hV
  obtain ⟨a0, n0, c0, rfl⟩ := okWide_slice Try.underlying22 (hval 0 22 v0 rfl rfl)
  have k0 := h0
  have lt0 : ∀ x ∈ p0, x.block < W.heap.size := by obtain ⟨m, hm⟩ := k0; exact DataW.trod_lt m _ _ _ hm
  have w0 := open_in (C := fun cs => ∃ x : Int, cs = [.int .i64 x] ∧ (Lit.int .i64 x).wf = true) Try.underlying22 k0 1 (by kernel_rfl) (by decide) (fun m cs x h => by obtain ⟨x, e, _, hw⟩ := DataW.trod_int Try.underlying3 h; exact ⟨x, e, hw⟩)
  obtain ⟨a1, n1, c1, rfl⟩ := okWide_slice Try.underlying22 (hval 1 22 v1 rfl rfl)
  have k1 := h1
  have lt1 : ∀ x ∈ p1, x.block < W.heap.size := by obtain ⟨m, hm⟩ := k1; exact DataW.trod_lt m _ _ _ hm
  have w1 := open_in (C := fun cs => ∃ x : Int, cs = [.int .i64 x] ∧ (Lit.int .i64 x).wf = true) Try.underlying22 k1 1 (by kernel_rfl) (by decide) (fun m cs x h => by obtain ⟨x, e, _, hw⟩ := DataW.trod_int Try.underlying3 h; exact ⟨x, e, hw⟩)
  obtain ⟨a2, rfl, rfl, rfl, w2⟩ := open_int Try.underlying3 (hval 2 3 v2 rfl rfl) h2
  clear hA0 hval0
  refine (walk W a0 n0 c0 w0 a1 n1 c1 w1 a2 w2).mono fun e W' ⟨he, bel⟩ => ?_
  subst he
  exact ⟨_, rfl, _, _, _, [], _, [], hW', trodAll_mk1 (shut_bool Try.underlying4 _), (trodAll_cons_mk (Below.trod laidOut (by kernel_rfl) (of_decide_eq_true (by kernel_rfl)) k0 bel lt0) (trodAll_cons_mk (Below.trod laidOut (by kernel_rfl) (of_decide_eq_true (by kernel_rfl)) k1 bel lt1) (trodAll_cons_mk (shut_int Try.underlying3 w2) trodAll_mk0))), rfl, bel.frame _, fun h => by cases h⟩

theorem over : Rows.sthreeTellsRow.holds Try.pinned (OpenSpec.ofChange Rows.sthreeTellsSpec) :=
  OpenClaim.holds_of_wide 3 Try.f3 rfl rfl rfl rfl rfl rfl rfl ⟨rfl, rfl, rfl, rfl, rfl⟩ rfl rfl rfl rfl rfl (by kernel_rfl) Try.func3 (by kernel_rfl)
    (of_decide_eq_true (by kernel_rfl)) (by unfold Func.isWrapper; first | (rw [if_pos (by decide +kernel)]; kernel_rfl) | (rw [if_neg (by decide +kernel)]; exact ⟨rfl, rfl⟩))
    (fun os started H enc _ => lifted os started H enc)

theorem proved : Rows.SthreeTellsSaid := over
#print axioms proved
end Go.Proofs.Ytldnacphfoagnae.sthreeTells
