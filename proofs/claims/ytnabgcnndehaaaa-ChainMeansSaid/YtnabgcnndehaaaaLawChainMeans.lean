/- 'ambry/ambrylaw09.ChainMeans' returns true, for every input, and leaves its arguments as they were. No condition. -/
import Derived.Test.YtnabgcnndehaaaaIn
import Derived.Test.YtnabgcnndehaaaaChMnW
import Derived.Test.YtnabgcnndehaaaaIn
import Derived.Deep.QuietTactic
import Derived.BigQuiet
import Derived.Deep.DeepCutAuto
import Derived.Deep.CutBlock
import Derived.Deep.RegionHeld3
import Derived.WalkKit
import Derived.ProofKit
import Derived.OpenShut
import Derived.ShutString
import Derived.ChangeOld
import Derived.Below
namespace Go.Proofs.Ytnabgcnndehaaaa.chainMeans
open Go.ChangeShapes Go.WideShapes Go.ChangeAt Go.RowKit
open Go.ChangeMaps (open_string shut_string)
set_option linter.unusedVariables false

theorem own : ownKnob Try.prog.godebug = none := by kernel_rfl
theorem laidOut : laidOutB Try.prog = true := by kernel_rfl

set_option maxRecDepth 100000 in
set_option maxHeartbeats 4000000 in
theorem walk (w : World) (a0 : Option Addr) (n0 c0 : Nat) (w0 : n0 ≤ c0 ∧ ∀ i, i < n0 → InAt w a0 1 i (fun cs => ∃ x : Int, cs = [.int .i64 x] ∧ (Lit.int .i64 x).wf = true)) :
    Calls Try.prog 5 #[.slice a0 n0 c0] w fun e w' => e = .returned (.bool true) ∧ Below w.heap.size w w' := by
  -- WALK
  go_enter Try.func5, Try.ntmps5
  go_wp2_with fail
  refine (shown_any _).mono ?_
  rintro e y1 ⟨rfl, hF⟩
  have HF := Lib.hid (hF.mono (T := From w.heap.size) (fun _ _ h => h.elim))
  clear hF
  go_wp2_with fail
  refine (new_ct (w0 := w) HF.out).mono ?_
  rintro e y2 ⟨t, S, rfl, h, _, _⟩
  have H2 := Lib.hid h
  clear h HF
  have HB := Lib.hid (show Held w (y2.alloc (.cells (List.replicate 256 (.int .i64 0)).toArray 37)) S 37 1 (.slice (some ⟨y2.heap.size, 0, none⟩) 256 256) 256 (nums 256 (fun _ => 0)) from by
    have := held_array (w0 := w) (W := y2) (S := S) (T := 37) (n := 256) (by decide) (nums 256 (fun _ => 0)) (nums_len _ _) (fun b s => H2.out.hi b s) H2.out.fr.size
    rw [nums_zero] at this
    rw [nums_zero]
    exact this)
  have hz := zero_256 y2
  obtain ⟨z256, hz256⟩ : ∃ z, (List.replicate 256 (Value.int .i64 0)).toArray = z := ⟨_, rfl⟩
  rw [hz256] at hz HB
  clear hz256
  go_upto_block 0 with fail
  obtain ⟨ib, hib⟩ : ∃ ib, y2.heap.size = ib := ⟨_, rfl⟩
  rw [hib] at HB ⊢
  have HS := Lib.hid (show Sep (CT t ch0) w (y2.alloc (.cells z256 37)) S from sep_fr (ct_frm t ch0) H2.out ((Fr.refl _ y2).alloc _))
  go_cut [6] (fun nn wx => ∃ (H : Nat → Int) (s : ChS) (S : Nat → Prop) (cn : Nat), cntH H 256 = cn ∧ nn = .int .i64 cn ∧ Sep (CT t s) w wx S ∧ Held w wx S 37 1 (.slice (some ⟨ib, 0, none⟩) 256 256) 256 (nums 256 H) ∧ Mn H s ∧ (∀ j, 0 ≤ H j ∧ H j ≤ 600))
  case first =>
    go_wp2_with fail
    go_loopw [6, 7] (fun nn i wr => ∃ (k : Nat) (H : Nat → Int) (s : ChS) (S : Nat → Prop), k ≤ n0 ∧ k ≤ 600 ∧ nn = .int .i64 (cntH H 256) ∧ i = .int .i64 k ∧ Sep (CT t s) w wr S ∧ Held w wr S 37 1 (.slice (some ⟨ib, 0, none⟩) 256 256) 256 (nums 256 H) ∧ Mn H s ∧ (∀ j, 0 ≤ H j ∧ H j ≤ k)) (fun _ i _ => 600 - (intOf i).toNat)
    case atStart => exact ⟨0, _, _, _, by omega, by omega, by rw [cntH_zero]; rfl, rfl, HS.out, HB.out, mn_start, fun j => ⟨Int.le_refl _, Int.le_refl _⟩⟩
    case round =>
      clear HS HB hib hz H2
      obtain ⟨k, H, s, S, hk, hk2, rfl, rfl, h, hb, hM, hH⟩ := hrel
      have hcn := cntH_le H 256
      obtain ⟨cn, hcc⟩ : ∃ cn, cntH H 256 = cn := ⟨_, rfl⟩
      rw [hcc] at hcn ⊢
      have Hk := Lib.hid (And.intro h (And.intro hb (And.intro hM (And.intro hH hcc))))
      clear h hb hM hH hcc
      by_cases hlt : k < n0 ∧ k < 600
      · obtain ⟨hlt, hlt2⟩ := hlt
        obtain ⟨b, off, vv, rfl, hbl, hEl, hc⟩ := (w0.2 k hlt).one
        obtain ⟨x, he, hw⟩ := hEl
        simp at he
        subst he
        have hc' : wr.cell? ⟨b, off + k, none⟩ = some (.int .i64 x) := (Hk.out.1.fr.cell hbl (by unfold From; simp; omega)).trans hc
        obtain ⟨m, hm, hmb⟩ := mask_of x 255 (by decide)
        have hm' : bits .and .i64 x 255 = m := hm
        have W0 := Lib.hid w0
        have HC := Lib.hid (And.intro hc hbl)
        have hcv := conv2 (97 + (m : Int) / 16) (97 + (m : Int) % 16) wr
        have hzs : (strOfNums [97 + (m : Int) / 16, 97 + (m : Int) % 16]).size = 2 := by rw [strOfNums_size]; rfl
        obtain ⟨sb, hsb⟩ : ∃ sb, strOfNums [97 + (m : Int) / 16, 97 + (m : Int) % 16] = sb := ⟨_, rfl⟩
        rw [hsb] at hcv hzs
        obtain ⟨wb, hwb⟩ : ∃ wb, wr.alloc (.cells #[.int .u8 (97 + (m : Int) / 16), .int .u8 (97 + (m : Int) % 16)] 5) = wb := ⟨_, rfl⟩
        rw [hwb] at hcv
        have hS0 : Sep (CT t s) w wb S := by rw [← hwb]; exact sep_fr (ct_frm t s) Hk.out.1 ((Fr.refl _ wr).alloc _)
        have hB0 : Held w wb S 37 1 (.slice (some ⟨ib, 0, none⟩) 256 256) 256 (nums 256 H) := by rw [← hwb]; exact Held.keep Hk.out.2.1 ((Fr.refl (fun _ => False) wr).alloc _) (fun _ _ q => q)
        have hkey : ByteArray.mk #[107] ++ sb = keyM m := by
          rw [← hsb]
          unfold keyM key2
          rw [show ((97 + m / 16 : Nat) : Int) = 97 + (m : Int) / 16 from by omega, show ((97 + m % 16 : Nat) : Int) = 97 + (m : Int) % 16 from by omega]
        have hcb : wb.cell? ⟨b, off + k, none⟩ = some (.int .i64 x) := (hS0.fr.cell hbl (by unfold From; simp; omega)).trans hc
        have Hb := Lib.hid (And.intro hS0 (And.intro hB0 hkey))
        clear hS0 hB0 hkey hsb w0 hc hm hw
        obtain ⟨y, hy, hyb⟩ := mask_of (x / 256) 3 (by decide)
        have hy' : bits .and .i64 (x / 256) 3 = (y : Int) := hy
        clear hy
        have hk64 : (k : Int) ≤ 600 := by omega
        have hm64 : (m : Int) < 256 := by omega
        have hm0 : (0 : Int) ≤ m := by omega
        have HMB := Lib.hid (show m < 256 by omega)
        obtain ⟨hm1, hHm⟩ : ∃ v, H m = v := ⟨_, rfl⟩
        have hHb := Hk.out.2.2.2.1 m
        rw [hHm] at hHb
        have HHM := Lib.hid hHm
        clear hHm
        go_upto_block 2 with fail
        rw [Hb.out.2.2]
        clear hzs hcv hwb
        go_cut [6] (fun nn wx => ∃ (H' : Nat → Int) (s' : ChS) (S' : Nat → Prop), nn = .int .i64 (cntH H' 256) ∧ Sep (CT t s') w wx S' ∧ Held w wx S' 37 1 (.slice (some ⟨ib, 0, none⟩) 256 256) 256 (nums 256 H') ∧ Mn H' s' ∧ (∀ j, 0 ≤ H' j ∧ H' j ≤ (k : Int) + 1))
        case first =>
          have hy4 : y = 0 ∨ y = 1 ∨ y = 2 ∨ y = 3 := by omega
          rcases hy4 with rfl | rfl | rfl | rfl
          · -- 0
            go_wp2_with fail
            refine (set_ct Hb.out.1 (keyM m) k (by unfold keyM; rw [key2_size]; omega) (by rw [Hk.out.2.2.1.n, Hk.out.2.2.2.2]; omega)).mono ?_
            rintro e z1 ⟨rfl, h, hF⟩
            have hb1 := Held.step Hb.out.2.1 hF
            obtain ⟨hc1, hf1⟩ := held_num hb1 HMB.out
            rw [HHM.out] at hc1
            have hst := sep_held_set (ct_frm t _) h hb1 HMB.out (.int .i64 ((k : Int) + 1))
            rw [Nat.zero_add, nums_set _ _ HMB.out] at hst
            have hMs := Hk.out.2.2.1.set HMB.out k (by omega)
            rw [Hk.out.2.2.2.2, HHM.out] at hMs
            have Z1 := Lib.hid (And.intro hst hMs)
            clear h hF hb1 hst hMs
            by_cases hz0 : hm1 = 0
            · subst hz0
              have hcn1 := Z1.out.2.2
              rw [if_pos rfl] at hcn1
              have HC1 := Lib.hid hcn1
              clear hcn1
              go_wp2_with fail
              go_meet
              exact ⟨_, _, _, by rw [HC1.out]; rfl, Z1.out.1.2, Z1.out.1.1, Z1.out.2.1, (fun j => by have := Hk.out.2.2.2.1 j; unfold putH; split <;> omega)⟩
            · have hcn1 := Z1.out.2.2
              rw [if_neg hz0] at hcn1
              have HC1 := Lib.hid hcn1
              have hzb : (hm1 == 0) = false := by rw [beq_eq_false_iff_ne]; exact hz0
              clear hcn1
              go_wp2_with fail
              go_meet
              exact ⟨_, _, _, by rw [HC1.out], Z1.out.1.2, Z1.out.1.1, Z1.out.2.1, (fun j => by have := Hk.out.2.2.2.1 j; unfold putH; split <;> omega)⟩
          · -- 1
            go_wp2_with fail
            refine (set_ct Hb.out.1 (keyM m) k (by unfold keyM; rw [key2_size]; omega) (by rw [Hk.out.2.2.1.n, Hk.out.2.2.2.2]; omega)).mono ?_
            rintro e z1 ⟨rfl, h, hF⟩
            have hb1 := Held.step Hb.out.2.1 hF
            obtain ⟨hc1, hf1⟩ := held_num hb1 HMB.out
            rw [HHM.out] at hc1
            have hst := sep_held_set (ct_frm t _) h hb1 HMB.out (.int .i64 ((k : Int) + 1))
            rw [Nat.zero_add, nums_set _ _ HMB.out] at hst
            have hMs := Hk.out.2.2.1.set HMB.out k (by omega)
            rw [Hk.out.2.2.2.2, HHM.out] at hMs
            have Z1 := Lib.hid (And.intro hst hMs)
            clear h hF hb1 hst hMs
            by_cases hz0 : hm1 = 0
            · subst hz0
              have hcn1 := Z1.out.2.2
              rw [if_pos rfl] at hcn1
              have HC1 := Lib.hid hcn1
              clear hcn1
              go_wp2_with fail
              go_meet
              exact ⟨_, _, _, by rw [HC1.out]; rfl, Z1.out.1.2, Z1.out.1.1, Z1.out.2.1, (fun j => by have := Hk.out.2.2.2.1 j; unfold putH; split <;> omega)⟩
            · have hcn1 := Z1.out.2.2
              rw [if_neg hz0] at hcn1
              have HC1 := Lib.hid hcn1
              have hzb : (hm1 == 0) = false := by rw [beq_eq_false_iff_ne]; exact hz0
              clear hcn1
              go_wp2_with fail
              go_meet
              exact ⟨_, _, _, by rw [HC1.out], Z1.out.1.2, Z1.out.1.1, Z1.out.2.1, (fun j => by have := Hk.out.2.2.2.1 j; unfold putH; split <;> omega)⟩
          · -- 2
            have hP0 : wb.drew.cell? ⟨ib, m, none⟩ = some (.int .i64 hm1) := by rw [← HHM.out]; exact (held_num Hb.out.2.1 HMB.out).1
            have hMd := Hk.out.2.2.1.del (ct_w Hk.out.1) HMB.out
            have his := Hk.out.2.2.1.is HMB.out
            rw [HHM.out] at hMd his
            rw [Hk.out.2.2.2.2] at hMd
            obtain ⟨bm, hbm⟩ : ∃ bm, (look s (keyM m)).isSome = bm := ⟨_, rfl⟩
            rw [hbm] at his
            have HBM := Lib.hid (And.intro hbm (And.intro his hMd))
            clear hMd his hbm
            go_wp2_with fail
            go_region_held3 (fun w' => w'.cell? ⟨ib, m, none⟩ = some (.int .i64 hm1)) (first | exact hP0 | exact hP1) (first
                | (go_at_call 15; refine (delete_ct (sep_drew (ct_frm t s) Hb.out.1) (keyM m) (by unfold keyM; rw [key2_size]; omega) (by rw [Hk.out.2.2.1.n, Hk.out.2.2.2.2]; omega)).mono ?_; rintro e z1 ⟨rfl, h, hF⟩; have hb1 := Held.step (show Held w wb.drew S 37 1 (.slice (some ⟨ib, 0, none⟩) 256 256) 256 (nums 256 H) from Hb.out.2.1) hF; have hP1 : z1.cell? ⟨ib, m, none⟩ = some (.int .i64 hm1) := (by rw [← HHM.out]; exact (held_num hb1 HMB.out).1); rw [HBM.out.1]; have Z1 := Lib.hid (And.intro h hb1); clear h hF hb1))
            clear hP0 hP1
            have hst := sep_held_set (ct_frm t _) Z1.out.1 Z1.out.2 HMB.out (.int .i64 0)
            rw [Nat.zero_add, nums_set _ _ HMB.out] at hst
            obtain ⟨hc1, hf1⟩ := held_num Z1.out.2 HMB.out
            rw [HHM.out] at hc1
            have Z2 := Lib.hid hst
            clear hst
            by_cases hz0 : hm1 = 0
            · subst hz0
              have hbm : bm = false := HBM.out.2.1
              subst hbm
              have hcn1 := HBM.out.2.2.2
              rw [if_pos rfl] at hcn1
              have HC1 := Lib.hid hcn1
              clear hcn1
              go_wp2_with fail
              go_meet
              exact ⟨_, _, _, by rw [← HC1.out]; rfl, Z2.out.2, Z2.out.1, HBM.out.2.2.1, (fun j => by have := Hk.out.2.2.2.1 j; unfold putH; split <;> omega)⟩
            · have hbm : bm = true := HBM.out.2.1.trans (decide_eq_true hz0)
              subst hbm
              have hcn1 := HBM.out.2.2.2
              rw [if_neg hz0] at hcn1
              have HC1 := Lib.hid hcn1
              have hpos : (0 : Int) < hm1 := by omega
              have hpd : decide ((0 : Int) < hm1) = true := decide_eq_true hpos
              have hcp : (1 : Int) ≤ cn := by omega
              clear hcn1
              go_wp2_with fail
              · rename_i hbad
                rw [hpd] at hbad
                exact absurd hbad (by decide)
              go_meet
              exact ⟨_, _, _, by have := HC1.out; congr 1; omega, Z2.out.2, Z2.out.1, HBM.out.2.2.1, (fun j => by have := Hk.out.2.2.2.1 j; unfold putH; split <;> omega)⟩
          · -- 3
            go_wp2_with fail
            refine (step_ct Hb.out.1).mono ?_
            rintro e z1 ⟨rfl, h, hF⟩
            have hb1 := Held.step Hb.out.2.1 hF
            have Z1 := Lib.hid (And.intro h (And.intro hb1 (Hk.out.2.2.1.step (ct_w Hk.out.1))))
            clear h hF hb1
            go_wp2_with fail
            go_meet
            exact ⟨H, _, _, by rw [Hk.out.2.2.2.2], Z1.out.1, Z1.out.2.1, Z1.out.2.2, fun j => by have := Hk.out.2.2.2.1 j; omega⟩
        case rest =>
          obtain ⟨H', s', S', rfl, h, hb, hM, hH⟩ := hcut
          clear hHb
          have hcn' := cntH_le H' 256
          obtain ⟨cn', hcc⟩ : ∃ cn, cntH H' 256 = cn := ⟨_, rfl⟩
          rw [hcc] at hcn' ⊢
          obtain ⟨v, hHm⟩ : ∃ v, H' m = v := ⟨_, rfl⟩
          have hHb := hH m
          rw [hHm] at hHb
          obtain ⟨hc1, hf1⟩ := held_num hb HMB.out
          rw [hHm] at hc1
          have hlk := hM.l m HMB.out
          rw [hHm] at hlk
          have hn := hM.n
          rw [hcc] at hn
          have Hc := Lib.hid (And.intro h (And.intro hb (And.intro hM (And.intro hH (And.intro hlk hn)))))
          clear h hb hM hH hlk hn
          by_cases hz0 : v = 0
          · subst hz0
            have hlk := Hc.out.2.2.2.2.1
            rw [if_pos rfl] at hlk
            have HLK := Lib.hid hlk
            clear hlk
            go_wp2_with fail
            refine (get_ct Hc.out.1 (keyM m) (by unfold keyM; rw [key2_size]; omega)).mono ?_
            rintro e z1 ⟨rfl, q1, rfl, h⟩
            rw [HLK.out]
            have Z1 := Lib.hid h
            have hc2 : (wc.drewN q1).cell? ⟨ib, m, none⟩ = some (.int .i64 0) := hc1
            clear h
            go_wp2_with fail
            refine (len_ct Z1.out).mono ?_
            rintro e z3 ⟨rfl, rfl⟩
            rw [Hc.out.2.2.2.2.2]
            go_wp2_with fail
            go_roundw
            case rel => exact ⟨k + 1, H', s', S', by omega, by omega, by rw [hcc], by go_num, Z1.out, Hc.out.2.1, Hc.out.2.2.1, fun j => by have := Hc.out.2.2.2.1 j; omega⟩
            case measure => simp [intOf]; omega
          · have hlk := Hc.out.2.2.2.2.1
            rw [if_neg hz0] at hlk
            have HLK := Lib.hid hlk
            clear hlk
            go_wp2_with fail
            refine (get_ct Hc.out.1 (keyM m) (by unfold keyM; rw [key2_size]; omega)).mono ?_
            rintro e z1 ⟨rfl, q1, rfl, h⟩
            rw [HLK.out]
            have Z1 := Lib.hid h
            have hc2 : (wc.drewN q1).cell? ⟨ib, m, none⟩ = some (.int .i64 v) := hc1
            clear h
            go_wp2_with fail
            refine (len_ct Z1.out).mono ?_
            rintro e z3 ⟨rfl, rfl⟩
            rw [Hc.out.2.2.2.2.2]
            go_wp2_with fail
            go_roundw
            case rel => exact ⟨k + 1, H', s', S', by omega, by omega, by rw [hcc], by go_num, Z1.out, Hc.out.2.1, Hc.out.2.2.1, fun j => by have := Hc.out.2.2.2.1 j; omega⟩
            case measure => simp [intOf]; omega
      · have hex : (k < n0 ∧ k = 600) ∨ n0 ≤ k := by omega
        clear hlt
        obtain ⟨wOut, rfl⟩ : ∃ wo : World, wo = wr := ⟨_, rfl⟩
        rcases hex with ⟨hlt, rfl⟩ | hge
        all_goals
          go_wp2_with fail
          go_meet
          exact ⟨H, s, S, cn, by have := Hk.out.2.2.2.2; rw [this], rfl, Hk.out.1, Hk.out.2.1, Hk.out.2.2.1, fun j => by have := Hk.out.2.2.2.1 j; omega⟩
  case rest =>
    clear HS HB hib hz H2
    obtain ⟨H, s, S, cn, hcc, rfl, h, hb, hM, hH⟩ := hcut
    have hcn := cntH_le H 256
    rw [hcc] at hcn
    have Hk := Lib.hid (And.intro h (And.intro hb (And.intro hM (And.intro hH hcc))))
    clear h hb hM hH hcc
    obtain ⟨wOut, rfl⟩ : ∃ wo : World, wo = wc := ⟨_, rfl⟩
    have hlen := Hk.out.2.2.1.all (ct_w Hk.out.1)
    rw [Hk.out.2.2.2.2] at hlen
    obtain ⟨K, hK⟩ : ∃ K, keysS s = K := ⟨_, rfl⟩
    have HK := Lib.hid (And.intro hK hlen)
    rw [hK] at hlen
    clear hK hlen
    go_wp2_with fail
    refine (keys_ct Hk.out.1 (by rw [HK.out.2]; omega)).mono ?_
    rintro e z1 ⟨v, rfl, h, hH, hF⟩
    rw [HK.out.2, HK.out.1] at hH
    obtain ⟨va, vc, rfl, hvc⟩ := Sl.shape hH
    have Z1 := Lib.hid (And.intro h (And.intro hH (Held.keep Hk.out.2.1 hF (fun b hb => by omega))))
    clear h hH hF
    go_wp2_with fail
    go_loopw [13] (fun iv wr => ∃ (j : Nat), j ≤ 256 ∧ iv = .int .i64 j ∧ Sep (CT t s) w wr S ∧ Held w wr S 9 1 (.slice va cn vc) cn (strs K) ∧ Held w wr S 37 1 (.slice (some ⟨ib, 0, none⟩) 256 256) 256 (nums 256 H)) (fun iv _ => 256 - (intOf iv).toNat)
    case atStart => exact ⟨0, by omega, rfl, Z1.out.1, Z1.out.2.1, Z1.out.2.2⟩
    case round =>
      clear Z1
      obtain ⟨j, hj, rfl, h, hA, hb⟩ := hrel
      have Hj := Lib.hid (And.intro h (And.intro hA hb))
      clear h hA hb
      by_cases hjl : j < 256
      · have hj64 : (j : Int) < 256 := by omega
        have hj0 : (0 : Int) ≤ j := by omega
        have HMB := Lib.hid hjl
        have hcv := conv2 (97 + (j : Int) / 16) (97 + (j : Int) % 16) wr
        have hzs : (strOfNums [97 + (j : Int) / 16, 97 + (j : Int) % 16]).size = 2 := by rw [strOfNums_size]; rfl
        obtain ⟨sb, hsb⟩ : ∃ sb, strOfNums [97 + (j : Int) / 16, 97 + (j : Int) % 16] = sb := ⟨_, rfl⟩
        rw [hsb] at hcv hzs
        obtain ⟨wb, hwb⟩ : ∃ wb, wr.alloc (.cells #[.int .u8 (97 + (j : Int) / 16), .int .u8 (97 + (j : Int) % 16)] 5) = wb := ⟨_, rfl⟩
        rw [hwb] at hcv
        have hS0 : Sep (CT t s) w wb S := by rw [← hwb]; exact sep_fr (ct_frm t s) Hj.out.1 ((Fr.refl _ wr).alloc _)
        have hA0 : Held w wb S 9 1 (.slice va cn vc) cn (strs K) := by rw [← hwb]; exact Held.keep Hj.out.2.1 ((Fr.refl (fun _ => False) wr).alloc _) (fun _ _ q => q)
        have hB0 : Held w wb S 37 1 (.slice (some ⟨ib, 0, none⟩) 256 256) 256 (nums 256 H) := by rw [← hwb]; exact Held.keep Hj.out.2.2 ((Fr.refl (fun _ => False) wr).alloc _) (fun _ _ q => q)
        have hkey : ByteArray.mk #[107] ++ sb = keyM j := by
          rw [← hsb]
          unfold keyM key2
          rw [show ((97 + j / 16 : Nat) : Int) = 97 + (j : Int) / 16 from by omega, show ((97 + j % 16 : Nat) : Int) = 97 + (j : Int) % 16 from by omega]
        obtain ⟨v, hHm⟩ : ∃ v, H j = v := ⟨_, rfl⟩
        have hHb := Hk.out.2.2.2.1 j
        have hlk0 := Hk.out.2.2.1.l j hjl
        obtain ⟨hc1, hf1⟩ := held_num hB0 hjl
        rw [hHm] at hHb hlk0 hc1
        have Hb := Lib.hid (And.intro hS0 (And.intro hA0 (And.intro hB0 hkey)))
        clear hS0 hA0 hB0 hkey hsb hHm
        by_cases hz0 : v = 0
        · -- none
          subst hz0
          have hlk := hlk0
          rw [if_pos rfl] at hlk
          have ht : timesK (keyM j) K = 0 := by rw [← HK.out.1, times_keys (ct_w Hb.out.1), hlk]; rfl
          have HLK := Lib.hid (And.intro hlk ht)
          clear hlk ht hlk0
          go_wp2_with fail
          rw [Hb.out.2.2.2]
          clear hcv hzs hwb
          refine (get_ct Hb.out.1 (keyM j) (by unfold keyM; rw [key2_size]; omega)).mono ?_
          rintro e z1 ⟨rfl, q1, rfl, h⟩
          rw [HLK.out.1]
          have Z1 := Lib.hid h
          have hc2 : (wb.drewN q1).cell? ⟨ib, j, none⟩ = some (.int .i64 0) := hc1
          clear h
          go_wp2_with fail
          obtain ⟨wrj, rfl⟩ : ∃ wo : World, wo = wr := ⟨_, rfl⟩
          go_loopw [17, 18] (fun tv iv wr => ∃ (i : Nat), i ≤ cn ∧ tv = .int .i64 (timesK (keyM j) (K.take i)) ∧ iv = .int .i64 i ∧ Sep (CT t s) w wr S ∧ Held w wr S 9 1 (.slice va cn vc) cn (strs K) ∧ Held w wr S 37 1 (.slice (some ⟨ib, 0, none⟩) 256 256) 256 (nums 256 H)) (fun _ iv _ => cn - (intOf iv).toNat)
          case atStart => exact ⟨0, Nat.zero_le _, rfl, rfl, Z1.out, Hb.out.2.1, Hb.out.2.2.1⟩
          case round =>
            clear Z1 hc2 hc1
            obtain ⟨i, hi, rfl, rfl, h, hA, hb⟩ := hrel
            have Hi := Lib.hid (And.intro h (And.intro hA hb))
            clear h hA hb
            obtain ⟨tn, htn⟩ : ∃ n, timesK (keyM j) (K.take i) = n := ⟨_, rfl⟩
            have htb : tn ≤ i := by rw [← htn]; exact Nat.le_trans (timesK_le _ _) (by rw [List.length_take]; omega)
            rw [htn]
            have HTN := Lib.hid htn
            clear htn
            by_cases hil : i < cn
            · have hil' : (i : Int) < cn := by omega
              have hi0 : (0 : Int) ≤ i := by omega
              obtain ⟨b4, o4, c4, hv4, hb4, hl4, hn4, hx4, hf4⟩ := Sl.pos Hi.out.2.1 (by omega)
              simp at hv4
              obtain ⟨rfl, rfl⟩ := hv4
              have hKl : i < K.length := by rw [← HK.out.1, HK.out.2]; exact hil
              have hy0 := (hx4 i (by rw [strs_len]; exact hKl)).trans (strs_get hKl)
              have htk := timesK_take (k := keyM j) (List.getElem?_eq_getElem hKl)
              obtain ⟨y, hy⟩ : ∃ y, K[i] = y := ⟨_, rfl⟩
              rw [hy] at hy0 htk
              rw [HTN.out] at htk
              have HTK := Lib.hid htk
              clear hb4 hx4 hf4 hy htk
              obtain ⟨km, hkm⟩ : ∃ km, keyM j = km := ⟨_, rfl⟩
              rw [hkm] at HTK ⊢
              by_cases he : y = km
              · have HTK2 := Lib.hid (by have := HTK.out; rw [if_pos he] at this; exact this)
                subst he
                go_wp2_with fail
                go_roundw
                case rel => exact ⟨i + 1, by omega, by rw [HTK2.out]; rfl, by go_num, Hi.out.1, Hi.out.2.1, Hi.out.2.2⟩
                case measure => simp [intOf]; omega
              · have hb1 : (y.toList == km.toList) = false := bytes_ne he
                have HTK2 := Lib.hid (by have := HTK.out; rw [if_neg he] at this; exact this)
                clear he
                go_wp2_with fail
                go_roundw
                case rel => exact ⟨i + 1, by omega, by rw [HTK2.out]; rfl, by go_num, Hi.out.1, Hi.out.2.1, Hi.out.2.2⟩
                case measure => simp [intOf]; omega
            · obtain rfl : i = cn := by omega
              have htk : tn = 0 := by
                rw [← HTN.out, List.take_of_length_le (by rw [← HK.out.1, HK.out.2]; exact Nat.le_refl _)]; exact HLK.out.2
              subst htk
              clear hil htb
              go_wp2_with fail
              go_roundw
              case rel => exact ⟨j + 1, by omega, by go_num, Hi.out.1, Hi.out.2.1, Hi.out.2.2⟩
              case measure => simp [intOf]; omega
        · -- some
          have hlk := hlk0
          rw [if_neg hz0] at hlk
          have hpos : (0 : Int) < v := by omega
          have ht : timesK (keyM j) K = 1 := by rw [← HK.out.1, times_keys (ct_w Hb.out.1), hlk]; rfl
          have HLK := Lib.hid (And.intro hlk ht)
          clear hlk ht hlk0
          go_wp2_with fail
          rw [Hb.out.2.2.2]
          clear hcv hzs hwb
          refine (get_ct Hb.out.1 (keyM j) (by unfold keyM; rw [key2_size]; omega)).mono ?_
          rintro e z1 ⟨rfl, q1, rfl, h⟩
          rw [HLK.out.1]
          have Z1 := Lib.hid h
          have hc2 : (wb.drewN q1).cell? ⟨ib, j, none⟩ = some (.int .i64 v) := hc1
          clear h
          go_wp2_with fail
          obtain ⟨wrj, rfl⟩ : ∃ wo : World, wo = wr := ⟨_, rfl⟩
          go_loopw [17, 18] (fun tv iv wr => ∃ (i : Nat), i ≤ cn ∧ tv = .int .i64 (timesK (keyM j) (K.take i)) ∧ iv = .int .i64 i ∧ Sep (CT t s) w wr S ∧ Held w wr S 9 1 (.slice va cn vc) cn (strs K) ∧ Held w wr S 37 1 (.slice (some ⟨ib, 0, none⟩) 256 256) 256 (nums 256 H)) (fun _ iv _ => cn - (intOf iv).toNat)
          case atStart => exact ⟨0, Nat.zero_le _, rfl, rfl, Z1.out, Hb.out.2.1, Hb.out.2.2.1⟩
          case round =>
            clear Z1 hc2 hc1
            obtain ⟨i, hi, rfl, rfl, h, hA, hb⟩ := hrel
            have Hi := Lib.hid (And.intro h (And.intro hA hb))
            clear h hA hb
            obtain ⟨tn, htn⟩ : ∃ n, timesK (keyM j) (K.take i) = n := ⟨_, rfl⟩
            have htb : tn ≤ i := by rw [← htn]; exact Nat.le_trans (timesK_le _ _) (by rw [List.length_take]; omega)
            rw [htn]
            have HTN := Lib.hid htn
            clear htn
            by_cases hil : i < cn
            · have hil' : (i : Int) < cn := by omega
              have hi0 : (0 : Int) ≤ i := by omega
              obtain ⟨b4, o4, c4, hv4, hb4, hl4, hn4, hx4, hf4⟩ := Sl.pos Hi.out.2.1 (by omega)
              simp at hv4
              obtain ⟨rfl, rfl⟩ := hv4
              have hKl : i < K.length := by rw [← HK.out.1, HK.out.2]; exact hil
              have hy0 := (hx4 i (by rw [strs_len]; exact hKl)).trans (strs_get hKl)
              have htk := timesK_take (k := keyM j) (List.getElem?_eq_getElem hKl)
              obtain ⟨y, hy⟩ : ∃ y, K[i] = y := ⟨_, rfl⟩
              rw [hy] at hy0 htk
              rw [HTN.out] at htk
              have HTK := Lib.hid htk
              clear hb4 hx4 hf4 hy htk
              obtain ⟨km, hkm⟩ : ∃ km, keyM j = km := ⟨_, rfl⟩
              rw [hkm] at HTK ⊢
              by_cases he : y = km
              · have HTK2 := Lib.hid (by have := HTK.out; rw [if_pos he] at this; exact this)
                subst he
                go_wp2_with fail
                go_roundw
                case rel => exact ⟨i + 1, by omega, by rw [HTK2.out]; rfl, by go_num, Hi.out.1, Hi.out.2.1, Hi.out.2.2⟩
                case measure => simp [intOf]; omega
              · have hb1 : (y.toList == km.toList) = false := bytes_ne he
                have HTK2 := Lib.hid (by have := HTK.out; rw [if_neg he] at this; exact this)
                clear he
                go_wp2_with fail
                go_roundw
                case rel => exact ⟨i + 1, by omega, by rw [HTK2.out]; rfl, by go_num, Hi.out.1, Hi.out.2.1, Hi.out.2.2⟩
                case measure => simp [intOf]; omega
            · obtain rfl : i = cn := by omega
              have htk : tn = 1 := by
                rw [← HTN.out, List.take_of_length_le (by rw [← HK.out.1, HK.out.2]; exact Nat.le_refl _)]; exact HLK.out.2
              subst htk
              clear hil htb
              go_wp2_with fail
              go_roundw
              case rel => exact ⟨j + 1, by omega, by go_num, Hi.out.1, Hi.out.2.1, Hi.out.2.2⟩
              case measure => simp [intOf]; omega
      · obtain rfl : j = 256 := by omega
        clear hjl
        obtain ⟨wOut2, rfl⟩ : ∃ wo : World, wo = wr := ⟨_, rfl⟩
        go_wp2_with fail
        go_ret
        exact ⟨rfl, Hj.out.1.below⟩

set_option maxRecDepth 100000 in
theorem lifted (os : Os) (started : os.Started) (H : Type) (enc : TypeId × Value → H) :
    ReturnsInHanded {} Try.checked os 5 .any (Rows.chainMeansSpec.pre6 enc Try.prog Try.f5 Rows.chainMeansRow.domain false) (Rows.chainMeansSpec.post enc Try.prog Try.f5 false true false false) := by
  refine returnsInHanded_of_change (C := Try.checked) own started (by kernel_rfl) Try.func5
    (ChangeSpec.witness6 (enc := enc) (C := Try.checked) false ⟨#[], #[.slice none 0 0], []⟩ 8 (by kernel_rfl) (by kernel_rfl) (by kernel_rfl) (by kernel_rfl)) ?_
  intro W base args ds gs before hval0 hW hcnd _
  have hval : ∀ (j : Nat) t v, Try.f5.params[j]? = some t → args[j]? = some v → Value.okWide Try.prog W .any base t v := hval0
  have hW' := hW
  obtain ⟨p, q, hA0, hV, rfl, hfz, hnd⟩ := hW
  have hA : DataW.TrodAll enc Try.prog W 0 (fun _ => true) true Try.f5.params.toList args.toList ds p := hA0
  rw [Try.params5] at hA hval
  obtain ⟨v0, vs0, d0, ds0, p0, q0, hargs, rfl, rfl, h0, r0⟩ := trodAll_cons hA
  obtain ⟨rfl, rfl, rfl⟩ := trodAll_nil r0
  obtain rfl : args = #[v0] := by cases args; simp_all
  obtain ⟨rfl, rfl⟩ := trodVars_none hV
  obtain ⟨a0, n0, c0, rfl⟩ := okWide_slice Try.underlying36 (hval 0 36 v0 rfl rfl)
  have k0 := h0
  have lt0 : ∀ x ∈ p0, x.block < W.heap.size := by obtain ⟨m, hm⟩ := k0; exact DataW.trod_lt m _ _ _ hm
  have w0 := open_in (C := fun cs => ∃ x : Int, cs = [.int .i64 x] ∧ (Lit.int .i64 x).wf = true) Try.underlying36 k0 1 (by kernel_rfl) (by decide) (fun m cs x h => by obtain ⟨x, e, _, hw⟩ := DataW.trod_int Try.underlying3 h; exact ⟨x, e, hw⟩)
  clear hA0 hval0
  refine (walk W a0 n0 c0 w0).mono fun e W' ⟨he, bel⟩ => ?_
  subst he
  exact ⟨_, rfl, _, _, _, [], _, [], hW', trodAll_mk1 (shut_bool Try.underlying4 _), (trodAll_cons_mk (Below.trod laidOut (by kernel_rfl) (of_decide_eq_true (by kernel_rfl)) k0 bel lt0) trodAll_mk0), rfl, bel.frame _, fun h => by cases h⟩

theorem over : Rows.chainMeansRow.holds Try.pinned (OpenSpec.ofChange Rows.chainMeansSpec) :=
  OpenClaim.holds_of_wide 5 Try.f5 rfl rfl rfl rfl rfl rfl rfl ⟨rfl, rfl, rfl, rfl, rfl⟩ rfl rfl rfl rfl rfl (by kernel_rfl) Try.func5 (by kernel_rfl)
    (of_decide_eq_true (by kernel_rfl)) (by unfold Func.isWrapper; first | (rw [if_pos (by decide +kernel)]; kernel_rfl) | (rw [if_neg (by decide +kernel)]; exact ⟨rfl, rfl⟩))
    (fun os started H enc _ => lifted os started H enc)

theorem proved : Rows.ChainMeansSaid := over
#print axioms proved
end Go.Proofs.Ytnabgcnndehaaaa.chainMeans
