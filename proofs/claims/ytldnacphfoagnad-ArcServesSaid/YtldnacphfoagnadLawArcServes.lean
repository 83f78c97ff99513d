/- 'ambry/ambrylaw13.ArcServes' returns true, for every input, and leaves its arguments as they were. No condition. -/
import Derived.Test.YtldnacphfoagnadIn
import Derived.Test.YtldnacphfoagnadArcHas
import Derived.Test.YtldnacphfoagnadAppend
import Derived.Test.YtldnacphfoagnadIn
import Derived.Deep.QuietTactic
import Derived.BigQuiet
import Derived.Deep.DeepCutAuto
import Derived.Deep.CutBlock
import Derived.Deep.RegionHeld3
import Derived.WalkKit
import Derived.ProofKit
import Derived.OpenShut
import Derived.ShutString
import Derived.ChangeOld
import Derived.Below
namespace Go.Proofs.Ytldnacphfoagnad.arcServes
open Go.ChangeShapes Go.WideShapes Go.ChangeAt Go.RowKit
open Go.ChangeMaps (open_string shut_string)
set_option linter.unusedVariables false

theorem own : ownKnob Try.prog.godebug = none := by kernel_rfl
theorem laidOut : laidOutB Try.prog = true := by kernel_rfl

theorem info_int : (Try.prog.info? 3).map (fun i => (i.zero, i.size, i.bytes)) = some (some (.int .i64 0), 1, 8) := by kernel_rfl
theorem div7 (i : Int) (h : 0 ≤ i ∧ i ≤ 15) : wrap64 (IntKind.u64.wrap ((7 * i).tdiv 7)) = i := by
  rw [Int.mul_tdiv_cancel_left _ (by decide), IntKind.wrap_u64]
  unfold wrap64
  omega
set_option maxRecDepth 100000 in
set_option maxHeartbeats 4000000 in
theorem walk (w : World) (a0 : Int) (w0 : (Lit.int .i64 a0).wf = true) (a1 : Option Addr) (n1 c1 : Nat) (w1 : n1 ≤ c1 ∧ ∀ i, i < n1 → InAt w a1 1 i (fun cs => ∃ x : Int, cs = [.int .i64 x] ∧ (Lit.int .i64 x).wf = true)) :
    Calls Try.prog 7 #[.int .i64 a0, .slice a1 n1 c1] w fun e w' => e = .returned (.bool true) ∧ Below w.heap.size w w' := by
  have b0 := bounds_i64 w0
  go_enter Try.func7, Try.ntmps7
  go_wp2_with fail
  refine (shown_any _).mono ?_
  rintro e y1 ⟨rfl, hF⟩
  have HF := Lib.hid (hF.mono (T := From w.heap.size) (fun _ _ h => h.elim))
  clear hF
  go_upto_if 18 with fail
  go_cut [0] (fun s wx => ∃ q : Nat, q ≤ 9223372036854775807 ∧ s = .int .i64 q ∧ y1 = wx)
  case first =>
    by_cases hp : a0 < 0
    · go_wp2
      go_meet
      exact ⟨(-(a0 + 1)).toNat, by omega, by rw [Int.toNat_of_nonneg (by omega)], rfl⟩
    · go_wp2
      go_meet
      exact ⟨a0.toNat, by omega, by rw [Int.toNat_of_nonneg (by omega)], rfl⟩
  case rest =>
    obtain ⟨q0, hq0, rfl, rfl⟩ := hcut
    clear b0
    go_upto_region 4 with fail
    go_cut [0] (fun s wx => ∃ n : Nat, 1 ≤ n ∧ n ≤ 9 ∧ s = .int .i64 n ∧ y1 = wx)
    case first =>
      go_wp2
      go_meet
      exact ⟨1 + q0 % 9, by omega, by omega, by simp <;> omega, rfl⟩
    case rest =>
      obtain ⟨pl, hp1, hp9, rfl, rfl⟩ := hcut
      clear hq0
      go_wp2_with fail
      refine (new_ar (w0 := w) HF.out).mono ?_
      rintro e y2 ⟨p, S, rfl, h, _, _⟩
      have H := Lib.hid h
      clear h HF
      go_wp2_with fail
      refine (cap_ar H.out pl (by omega)).mono ?_
      rintro e y3 ⟨rfl, h, _⟩
      have H3 := Lib.hid h
      clear h H
      go_wp2_with fail
      go_loopw [7, 8, 9, 10, 11, 12, 13, 14, 15] (fun i _ _ _ _ _ _ _ _ wr => ∃ (k N M : Nat) (s : ArcS) (S : Nat → Prop), k ≤ n1 ∧ k ≤ 150 ∧ N ≤ 2 * k ∧ M ≤ k ∧ i = .int .i64 k ∧ Sep (AR p s N M) w wr S ∧ SV pl s) (fun i _ _ _ _ _ _ _ _ _ => 150 - (intOf i).toNat)
      case atStart => exact ⟨0, 0, 0, _, _, by omega, by omega, by omega, by omega, rfl, H3.out, SV_start pl⟩
      case round =>
        clear H3
        obtain ⟨k, N, M, s, S, hk, hk2, hN, hM, rfl, h, hB⟩ := hrel
        have Hk := Lib.hid (And.intro h hB)
        clear h hB
        by_cases hlt : k < n1 ∧ k < 150
        · obtain ⟨hlt, hlt2⟩ := hlt
          obtain ⟨b, off, vv, rfl, hbl, hEl, hc⟩ := (w1.2 k hlt).one
          obtain ⟨x, he, hw⟩ := hEl
          simp at he
          subst he
          have hc' : wr.cell? ⟨b, off + k, none⟩ = some (.int .i64 x) := (Hk.out.1.fr.cell hbl (by unfold From; simp; omega)).trans hc
          obtain ⟨m, hm, hmb⟩ := and_mask x 15 (by decide)
          have hm' : bits .and .i64 x 15 = m := hm
          have W1 := Lib.hid w1
          clear w1 hc hm hw
          obtain ⟨bt, hbt⟩ : ∃ bt, decide (0 ≤ rowOf 2 s.L m) = bt := ⟨_, rfl⟩
          have HT := Lib.hid hbt
          clear hbt
          go_upto_if 56 with (go_at_call 12; refine (touch_ar Hk.out.1 m (by omega)).mono ?_; rintro e y4 ⟨rfl, h, _⟩; have H4 := Lib.hid h; clear h; rw [HT.out])
          go_cut [8, 9, 10] (fun id _ _ wx => id = .int .i64 m ∧ ∃ (N' M' : Nat) (s' : ArcS) (S' : Nat → Prop), N' ≤ N + 2 ∧ M' ≤ M + 1 ∧ Sep (AR p s' N' M') w wx S' ∧ SV pl s' ∧ In2 s' m)
          case first =>
            rcases bt with _ | _
            · have hno : ¬ In2 s m := fun q => by have := of_decide_eq_false HT.out; exact this ((rowOf2_nn _ _).2 q)
              have hts : touchA s m = s := touchA_no (fun q => hno (.inl q)) (fun q => hno (.inr q))
              have H4' := Lib.hid (hts ▸ H4.out)
              have HNO := Lib.hid hno
              clear hno hts H4
              obtain ⟨g, hcg, _⟩ := all_ar H4'.out (by omega)
              have hcd : y4.drew.cell? ⟨p, 0, none⟩ = some (.pointer (some ⟨g, 0, none⟩)) := hcg
              have HNN := Lib.hid (show N + 1 ≤ 1000000 by omega)
              obtain ⟨l0, hl0⟩ : ∃ l, (s.L 0).length = l := ⟨_, rfl⟩
              obtain ⟨l1, hl1⟩ : ∃ l, (s.L 1).length = l := ⟨_, rfl⟩
              have htt : l0 + l1 ≤ pl := by have := Hk.out.2.tot; unfold tot2 at this; omega
              have HL := Lib.hid (And.intro hl0 (And.intro hl1 htt))
              clear hl0 hl1 htt
              go_upto_region 15 with fail
              go_cut [71] (fun c wx => ∃ S, c = .bool (decide (pl ≤ l0 + l1)) ∧ Sep (AR p s (N + 1) M) w wx S)
              case first =>
                go_region_held3 (fun w' => w'.cell? ⟨p, 0, none⟩ = some (.pointer (some ⟨g, 0, none⟩))) (first | exact hcd | exact hc1 | exact hc2) (first
                  | (go_at_call 13; refine (all_ar_at Z1.out HNN.out hc1 1).mono ?_; rintro e z2 ⟨vb, rfl, hV, h, _, hc2⟩; rw [show (rowL s.L 1).length = l1 from HL.out.2.1] at hV; obtain ⟨a2, cap2, rfl, _⟩ := hV.shape; have Z2 := Lib.hid h; clear h hV)
                  | (go_at_call 13; refine (all_ar_at (ar_drew H4'.out) HNN.out hcd 0).mono ?_; rintro e z1 ⟨va, rfl, hV, h, _, hc1⟩; rw [show (rowL s.L 0).length = l0 from HL.out.1] at hV; obtain ⟨a1, cap1, rfl, _⟩ := hV.shape; have Z1 := Lib.hid h; clear h hV))
                go_wp2
                go_meet
                exact ⟨_, congrArg Value.bool (decide_eq_decide.2 (by have := HL.out.2.2; rw [IntKind.wrap_i64]; omega)), Z2.out⟩
              case rest =>
                obtain ⟨S2, rfl, h⟩ := hcut
                obtain ⟨wy, rfl⟩ : ∃ wy : World, wy = wc := ⟨_, rfl⟩
                have Hy := Lib.hid h
                clear h hcg hcd
                by_cases hf : pl ≤ l0 + l1
                · have htt : tot2 s = l0 + l1 := by unfold tot2; rw [HL.out.1, HL.out.2.1]
                  have hv := Hk.out.2.vic (7 * m) (by omega)
                  have hev := Hk.out.2.evict (ar_rw2 Hy.out) hv
                  have hd : decide (pl ≤ l0 + l1) = true := decide_eq_true hf
                  rw [hd]
                  obtain ⟨v, hvv⟩ : ∃ v, victA s (7 * m) = v := ⟨_, rfl⟩
                  rw [hvv] at hv hev
                  have hvr := Hk.out.2.rng v hv
                  have hvm : (v == (m : Int)) = false := by rw [beq_eq_false_iff_ne]; intro e; exact HNO.out (e ▸ hv)
                  have hv0 : decide (v < 0) = false := decide_eq_false (by omega)
                  have hrow : decide (0 ≤ rowOf 2 s.L v) = true := decide_eq_true ((rowOf2_nn _ _).2 hv)
                  have HV := Lib.hid (And.intro hvv (And.intro hev hrow))
                  have HTT := Lib.hid htt
                  clear hv hev hvv hvr hrow hd htt
                  have HMUL := Lib.hid (Int.mul_comm (m : Int) 7)
                  go_wp2_with fail
                  rw [HMUL.out]
                  refine (victim_ar Hy.out (7 * m)).mono ?_
                  rintro e z3 ⟨q3, rfl, rfl, h⟩
                  have Z3 := Lib.hid h
                  clear h
                  rw [HV.out.1]
                  go_wp2_with fail
                  refine (evict_ar Z3.out v (by omega) (by omega)).mono ?_
                  rintro e z4 ⟨rfl, h, _⟩
                  have Z4 := Lib.hid h
                  clear h
                  rw [HV.out.2.2]
                  have hSV := HV.out.2.1.1
                  have HP := Lib.hid (show 0 ≤ (evictA s v).P ∧ (evictA s v).P ≤ 1000000000000 from ⟨hSV.P0, by have := hSV.P1; omega⟩)
                  have HI := Lib.hid (hSV.insert (ar_rw2 Z4.out) (id := m) (by omega) (fun q => HNO.out ((HV.out.2.1.2.2 m).1 q).1) (by have := HV.out.2.1.2.1; have := HTT.out; have := HL.out.2.2; omega))
                  clear hSV
                  go_wp2_with fail
                  refine (insert_ar Z4.out m (7 * m) (by omega) (by omega) HP.out).mono ?_
                  rintro e z6 ⟨rfl, h, _⟩
                  have Z6 := Lib.hid h
                  clear h
                  rw [HI.out.1]
                  go_wp2
                  go_meet
                  exact ⟨rfl, _, _, _, _, by omega, by omega, Z6.out, HI.out.2.1, HI.out.2.2⟩
                · have htt : tot2 s = l0 + l1 := by unfold tot2; rw [HL.out.1, HL.out.2.1]
                  have hd : decide (pl ≤ l0 + l1) = false := decide_eq_false hf
                  rw [hd]
                  have HMUL := Lib.hid (Int.mul_comm (m : Int) 7)
                  have HP := Lib.hid (show 0 ≤ s.P ∧ s.P ≤ 1000000000000 from ⟨Hk.out.2.P0, by have := Hk.out.2.P1; omega⟩)
                  have HI := Lib.hid (Hk.out.2.insert (ar_rw2 Hy.out) (id := m) (by omega) HNO.out (by omega))
                  clear htt hd
                  go_wp2_with fail
                  rw [HMUL.out]
                  refine (insert_ar Hy.out m (7 * m) (by omega) (by omega) HP.out).mono ?_
                  rintro e z6 ⟨rfl, h, _⟩
                  have Z6 := Lib.hid h
                  clear h
                  rw [HI.out.1]
                  go_wp2
                  go_meet
                  exact ⟨rfl, _, _, _, _, by omega, by omega, Z6.out, HI.out.2.1, HI.out.2.2⟩
            · go_wp2
              go_meet
              have hin : In2 s m := (rowOf2_nn _ _).1 (of_decide_eq_true HT.out)
              have ht := Hk.out.2.touch (ar_rw2 Hk.out.1) hin
              exact ⟨rfl, N + 1, M, _, _, by omega, by omega, H4.out, ht.1, (ht.2.2 m).2 hin⟩
          case rest =>
            obtain ⟨rfl, N', M', s', S', hN', hM', h, hS, hin⟩ := hcut
            obtain ⟨wq, rfl⟩ : ∃ wq : World, wq = wc := ⟨_, rfl⟩
            have Hq := Lib.hid (And.intro h (And.intro hS hin))
            clear h hS hin
            obtain ⟨g, hcg, _⟩ := all_ar Hq.out.1 (by omega)
            have HNN := Lib.hid (show N' ≤ 1000000 by omega)
            obtain ⟨l0, hl0⟩ : ∃ l, s'.L 0 = l := ⟨_, rfl⟩
            obtain ⟨l1, hl1⟩ : ∃ l, s'.L 1 = l := ⟨_, rfl⟩
            have hlen : l0.length + l1.length ≤ pl := by have := Hq.out.2.1.tot; unfold tot2 at this; rw [hl0, hl1] at this; exact this
            have HL := Lib.hid (And.intro hl0 hl1)
            clear hl0 hl1
            go_wp2_with fail
            refine (all_ar_at Hq.out.1 HNN.out hcg 0).mono ?_
            rintro e z1 ⟨va, rfl, hV, h, hF, hc1⟩
            rw [show rowL s'.L 0 = l0 from HL.out.1] at hV
            obtain ⟨a1, cap1, rfl, _⟩ := hV.shape
            have Z1 := Lib.hid (And.intro h hV)
            clear h hV hF
            go_wp2_with fail
            refine (all_ar_at Z1.out.1 HNN.out hc1 1).mono ?_
            rintro e z2 ⟨vb, rfl, hV, h, hF, hc2⟩
            rw [show rowL s'.L 1 = l1 from HL.out.2] at hV
            obtain ⟨a2, cap2, rfl, _⟩ := hV.shape
            have Z2 := Lib.hid (And.intro h (And.intro (Held.keep Z1.out.2 hF (fun b hb => by omega)) hV))
            clear h hV hF hc1 hc2 hcg
            have hsum : decide ((pl : Int) < (l0.length : Int) + l1.length) = false := decide_eq_false (by omega)
            have hP0 : decide (s'.P < 0) = false := decide_eq_false (by have := Hq.out.2.1.P0; omega)
            have hP1 : decide ((pl : Int) < s'.P) = false := decide_eq_false (by have := Hq.out.2.1.P1; omega)
            go_upto_region 23 with fail
            go_cut [130] (fun c wx => c = .bool false ∧ Sep (AR p s' N' M') w wx S' ∧ Held w wx S' 3 1 (.slice a1 l0.length cap1) l0.length (l0.map (Value.int .i64)) ∧ Held w wx S' 3 1 (.slice a2 l1.length cap2) l1.length (l1.map (Value.int .i64)))
            case first =>
              go_wp2_with fail
              refine (target_ar Z2.out.1).mono ?_
              rintro e z3 ⟨rfl, rfl⟩
              go_wp2_with fail
              refine (target_ar Z2.out.1).mono ?_
              rintro e z3 ⟨rfl, rfl⟩
              obtain ⟨i0, hi0, hz0, hz1, hz2⟩ := info_parts info_int
              have hl0 : l0.length ≤ 9 := by omega
              have hl1 : l1.length ≤ 9 := by omega
              have HO := Lib.hid (show Sl (z2.alloc (.cells #[] 3)) (fun b => z2.heap.size ≤ b) 3 1 (.slice (some ⟨z2.heap.size, 0, none⟩) 0 0) 0 [] from ⟨rfl, Or.inr ⟨z2.heap.size, 0, 0, #[], rfl, Nat.le_refl _, heap_alloc_new _ _, Nat.le_refl _, by unfold maxLen; omega, by simp, fun i hi => by simp at hi⟩⟩)
              go_wp2_with (first
                | (at_builtin; refine wpList_append_from (S := fun b => z2.heap.size ≤ b) rfl _ _ 29 rfl 3 i0 (.int .i64 0) 8 Try.underlying29 hi0 hz0 hz1 hz2 rfl _ _ _ rfl X1.out.1 _ _ _ rfl X1.out.2.2 (ints_oneCell .i64 l1) (by unfold maxLen; omega) (by omega) ?_; intro v2 w2 hs2 hf2; obtain ⟨a6, cap6, rfl, _⟩ := hs2.shape; have X2 := Lib.hid (And.intro hs2 hf2); clear hs2 hf2)
                | (at_builtin; refine wpList_append_from (S := fun b => z2.heap.size ≤ b) rfl _ _ 29 rfl 3 i0 (.int .i64 0) 8 Try.underlying29 hi0 hz0 hz1 hz2 rfl _ _ _ rfl HO.out _ _ _ rfl (Sl.alloc Z2.out.2.1 _) (ints_oneCell .i64 l0) (by unfold maxLen; omega) (by omega) ?_; intro v1 w1 hs1 hf1; rw [Nat.zero_add, List.nil_append] at hs1; obtain ⟨a5, cap5, rfl, _⟩ := hs1.shape; have hFz := ((Fr.refl (fun b => z2.heap.size ≤ b) z2).alloc (.cells #[] 3)).trans hf1.arr (fun b _ q => q); have hs1' : Sl w1 (fun b => z2.heap.size ≤ b) 3 1 (.slice a5 l0.length cap5) l0.length (l0.map (Value.int .i64)) := hs1.mono (fun b _ q => q.elim (fun q => q) (fun q => by have h1 := q.1; simp at h1; omega)); have X1 := Lib.hid (And.intro hs1' (And.intro hFz (Held.keep Z2.out.2.2 hFz (fun b hb => by omega)))); clear hs1 hs1' hf1 hFz))
              have hs2 : Sl w2 (grow (fun b => z2.heap.size ≤ b) w1 w2) 3 1 (.slice a6 (l0.length + l1.length) cap6) (l0 ++ l1).length ((l0 ++ l1).map (Value.int .i64)) := by
                have := X2.out.1
                rw [← List.map_append] at this
                rw [show (l0 ++ l1).length = l0.length + l1.length from List.length_append]
                exact this
              refine (has_any (l0 ++ l1) m w2 hs2 (by rw [List.length_append]; omega)).mono ?_
              rintro e w3 ⟨rfl, rfl⟩
              have hmem : decide ((m : Int) ∈ l0 ++ l1) = true := decide_eq_true (by
                rw [List.mem_append, ← HL.out.1, ← HL.out.2]; exact Hq.out.2.2)
              rw [hmem]
              have FrZ := X1.out.2.1.trans X2.out.2.arr (fun b _ q => q)
              have HE := Lib.hid (And.intro (ar_keep Z2.out.1 FrZ (fun b hb _ => by omega) (fun b hb => by have := Z2.out.1.fr.size; omega)) (And.intro (Held.keep Z2.out.2.1 FrZ (fun b hb => by omega)) (Held.keep Z2.out.2.2 FrZ (fun b hb => by omega))))
              clear hs2 hmem FrZ
              go_wp2_with fail
              go_meet
              exact ⟨rfl, HE.out⟩
            case rest =>
              obtain ⟨rfl, h1, h2, h3⟩ := hcut
              obtain ⟨wz, rfl⟩ : ∃ wz : World, wz = wc := ⟨_, rfl⟩
              have HE := Lib.hid (And.intro h1 (And.intro h2 h3))
              clear h1 h2 h3
              have HS := Lib.hid (And.intro Hq.out.2.1 (show k + 1 ≤ n1 ∧ k + 1 ≤ 150 ∧ N' ≤ 2 * (k + 1) ∧ M' ≤ k + 1 from ⟨by omega, by omega, by omega, by omega⟩))
              clear Z1 Z2 Hq Hk hsum hP0 hP1 hN hM hN' hM' hbl hc' hmb hm' HNN hp1
              go_wp2_with fail
              obtain ⟨wOut, rfl⟩ : ∃ wo : World, wo = wr := ⟨_, rfl⟩
              go_loopw [13, 14, 15] (fun kk _ _ wr => ∃ (r : Nat), r ≤ 2 ∧ kk = .int .i64 r ∧ Sep (AR p s' N' M') w wr S' ∧ Held w wr S' 3 1 (.slice a1 l0.length cap1) l0.length (l0.map (Value.int .i64)) ∧ Held w wr S' 3 1 (.slice a2 l1.length cap2) l1.length (l1.map (Value.int .i64))) (fun kk _ _ _ => 2 - (intOf kk).toNat)
              case atStart => exact ⟨0, by omega, rfl, HE.out.1, HE.out.2.1, HE.out.2.2⟩
              case round =>
                clear HE
                obtain ⟨r, hr, rfl, h1, h2, h3⟩ := hrel
                have HR := Lib.hid (And.intro h1 (And.intro h2 h3))
                clear h1 h2 h3
                by_cases hlt : r < 2
                · have HMM := Lib.hid (show M' ≤ 1000000 by have := HS.out.2.2.2.2; have := HS.out.2.2.1; omega)
                  obtain ⟨gs, hgs⟩ : ∃ gs, ghosts s' r = gs := ⟨_, rfl⟩
                  have hgg : gs.length ≤ pl ∧ ∀ y ∈ gs, ∃ i : Int, y = 7 * i ∧ (0 ≤ i ∧ i ≤ 15) ∧ i ∉ l0 ∧ i ∉ l1 := by
                    have hgc : gs = s'.B1 ∨ gs = s'.B2 := by
                      rw [← hgs]
                      unfold ghosts
                      by_cases e : (r : Int) = 0
                      · rw [if_pos e]; exact .inl rfl
                      · rw [if_neg e, if_pos (by omega)]; exact .inr rfl
                    refine ⟨?_, fun y hy => ?_⟩
                    · rcases hgc with e | e
                      · rw [e]; exact HS.out.1.c1
                      · rw [e]; exact HS.out.1.c2
                    · obtain ⟨i, e1, e2, e3⟩ := HS.out.1.G y (by rcases hgc with e | e <;> rw [e] at hy <;> simp [hy])
                      exact ⟨i, e1, e2, fun q => e3 (.inl (by rw [HL.out.1]; exact q)), fun q => e3 (.inr (by rw [HL.out.2]; exact q))⟩
                  have hglt : decide (pl < gs.length) = false := decide_eq_false (by omega)
                  have hg9 : gs.length ≤ 9 := by have := hgg.1; omega
                  have HGG := Lib.hid hgg
                  clear hgg
                  go_wp2_with fail
                  refine (ghosts_ar HR.out.1 r HMM.out).mono ?_
                  rintro e z5 ⟨vg, rfl, hV, h, hF⟩
                  rw [hgs] at hV
                  obtain ⟨a7, cap7, rfl, _⟩ := hV.shape
                  have HZ := Lib.hid (And.intro h (And.intro hV (And.intro (Held.keep HR.out.2.1 hF (fun b hb => by omega)) (Held.keep HR.out.2.2 hF (fun b hb => by omega)))))
                  clear h hV hF hgs
                  go_wp2_with fail
                  obtain ⟨wRow, rfl⟩ : ∃ wo : World, wo = wr := ⟨_, rfl⟩
                  go_loopw [15] (fun jj wr => ∃ j : Nat, j ≤ gs.length ∧ jj = .int .i64 j ∧ Fr (fun b => z5.heap.size ≤ b) z5 wr) (fun jj _ => gs.length - (intOf jj).toNat)
                  case atStart => exact ⟨0, by omega, rfl, Fr.refl _ _⟩
                  case round =>
                    obtain ⟨j, hj, rfl, hFj⟩ := hrel
                    have HJ := Lib.hid (And.intro (Held.keep HZ.out.2.1 hFj (fun b hb => by omega)) (And.intro (Held.keep HZ.out.2.2.1 hFj (fun b hb => by omega)) (And.intro (Held.keep HZ.out.2.2.2 hFj (fun b hb => by omega)) hFj)))
                    clear hFj
                    by_cases hlt2 : j < gs.length
                    · obtain ⟨y, hy⟩ : ∃ y, gs[j]? = some y := ⟨_, List.getElem?_eq_getElem hlt2⟩
                      obtain ⟨i0, hy7, hi0, hn0, hn1⟩ := HGG.out.2 y (List.mem_of_getElem? hy)
                      obtain ⟨b7, off7, cap7', hv7, _, _, _, hc7, _⟩ := HJ.out.1.pos (by omega)
                      simp at hv7
                      obtain ⟨rfl, rfl⟩ := hv7
                      have hcy : wr.cell? ⟨b7, off7 + j, none⟩ = some (.int .u64 y) := by
                        rw [hc7 j (by simp [u64s]; omega)]; simp [u64s, hy]
                      clear hc7
                      have hd0 : decide (i0 ∈ l0) = false := decide_eq_false hn0
                      have hd1 : decide (i0 ∈ l1) = false := decide_eq_false hn1
                      have hyd : wrap64 (IntKind.u64.wrap (y.tdiv 7)) = i0 := by rw [hy7]; exact div7 i0 hi0
                      have HY := Lib.hid (And.intro hyd (And.intro hd0 hd1))
                      have HLn := Lib.hid (show l0.length ≤ 1000000 ∧ l1.length ≤ 1000000 by omega)
                      clear hy hn0 hn1 hd0 hd1 hy7 hi0 hyd
                      go_wp2_with fail
                      rw [HY.out.1]
                      refine (has_any l0 i0 wr HJ.out.2.1 HLn.out.1).mono ?_
                      rintro e z6 ⟨rfl, rfl⟩
                      rw [HY.out.2.1]
                      go_wp2_with fail
                      rw [HY.out.1]
                      refine (has_any l1 i0 wr HJ.out.2.2.1 HLn.out.2).mono ?_
                      rintro e z6 ⟨rfl, rfl⟩
                      rw [HY.out.2.2]
                      go_wp2_with fail
                      go_roundw
                      case rel => exact ⟨j + 1, by omega, by go_num, HJ.out.2.2.2⟩
                      case measure => simp [intOf]; omega
                    · go_wp2_with fail
                      go_roundw
                      case rel => exact ⟨r + 1, by omega, by go_num, ar_keep HZ.out.1 HJ.out.2.2.2 (fun b hb _ => by omega) (fun b hb => by have := HZ.out.1.fr.size; omega), HJ.out.2.1, HJ.out.2.2.1⟩
                      case measure => simp [intOf]; omega
                · go_wp2_with fail
                  go_roundw
                  case rel => exact ⟨k + 1, N', M', s', S', HS.out.2.1, HS.out.2.2.1, HS.out.2.2.2.1, HS.out.2.2.2.2, by go_num, HR.out.1, HS.out.1⟩
                  case measure => have := HS.out.2.2.1; simp [intOf]; omega
        · by_cases hlt1 : k < n1
          · have hlt2 : ¬ k < 150 := fun q => hlt ⟨hlt1, q⟩
            clear hlt
            go_wp2
            go_ret
            exact ⟨rfl, Hk.out.1.below⟩
          · clear hlt
            go_wp2
            go_ret
            exact ⟨rfl, Hk.out.1.below⟩

set_option maxRecDepth 100000 in
theorem lifted (os : Os) (started : os.Started) (H : Type) (enc : TypeId × Value → H) :
    ReturnsInHanded {} Try.checked os 7 .any (Rows.arcServesSpec.pre6 enc Try.prog Try.f7 Rows.arcServesRow.domain false) (Rows.arcServesSpec.post enc Try.prog Try.f7 false true false false) := by
  refine returnsInHanded_of_change (C := Try.checked) own started (by kernel_rfl) Try.func7
    (ChangeSpec.witness6 (enc := enc) (C := Try.checked) false ⟨#[], #[.int .i64 0, .slice none 0 0], []⟩ 8 (by kernel_rfl) (by kernel_rfl) (by kernel_rfl) (by kernel_rfl)) ?_
  intro W base args ds gs before hval0 hW hcnd _
  have hval : ∀ (j : Nat) t v, Try.f7.params[j]? = some t → args[j]? = some v → Value.okWide Try.prog W .any base t v := hval0
  have hW' := hW
  obtain ⟨p, q, hA0, hV, rfl, hfz, hnd⟩ := hW
  have hA : DataW.TrodAll enc Try.prog W 0 (fun _ => true) true Try.f7.params.toList args.toList ds p := hA0
  rw [Try.params7] at hA hval
  obtain ⟨v0, vs0, d0, ds0, p0, q0, hargs, rfl, rfl, h0, r0⟩ := trodAll_cons hA
  obtain ⟨v1, vs1, d1, ds1, p1, q1, rfl, rfl, rfl, h1, r1⟩ := trodAll_cons r0
  obtain ⟨rfl, rfl, rfl⟩ := trodAll_nil r1
  obtain rfl : args = #[v0, v1] := by cases args; simp_all
  obtain ⟨rfl, rfl⟩ := trodVars_none hV
  obtain ⟨a0, rfl, rfl, rfl, w0⟩ := open_int Try.underlying3 (hval 0 3 v0 rfl rfl) h0
  obtain ⟨a1, n1, c1, rfl⟩ := okWide_slice Try.underlying29 (hval 1 29 v1 rfl rfl)
  have k1 := h1
  have lt1 : ∀ x ∈ p1, x.block < W.heap.size := by obtain ⟨m, hm⟩ := k1; exact DataW.trod_lt m _ _ _ hm
  have w1 := open_in (C := fun cs => ∃ x : Int, cs = [.int .i64 x] ∧ (Lit.int .i64 x).wf = true) Try.underlying29 k1 1 (by kernel_rfl) (by decide) (fun m cs x h => by obtain ⟨x, e, _, hw⟩ := DataW.trod_int Try.underlying3 h; exact ⟨x, e, hw⟩)
  clear hA0 hval0
  refine (walk W a0 w0 a1 n1 c1 w1).mono fun e W' ⟨he, bel⟩ => ?_
  subst he
  exact ⟨_, rfl, _, _, _, [], _, [], hW', trodAll_mk1 (shut_bool Try.underlying4 _), (trodAll_cons_mk (shut_int Try.underlying3 w0) (trodAll_cons_mk (Below.trod laidOut (by kernel_rfl) (of_decide_eq_true (by kernel_rfl)) k1 bel lt1) trodAll_mk0)), rfl, bel.frame _, fun h => by cases h⟩

theorem over : Rows.arcServesRow.holds Try.pinned (OpenSpec.ofChange Rows.arcServesSpec) :=
  OpenClaim.holds_of_wide 7 Try.f7 rfl rfl rfl rfl rfl rfl rfl ⟨rfl, rfl, rfl, rfl, rfl⟩ rfl rfl rfl rfl rfl (by kernel_rfl) Try.func7 (by kernel_rfl)
    (of_decide_eq_true (by kernel_rfl)) (by unfold Func.isWrapper; first | (rw [if_pos (by decide +kernel)]; kernel_rfl) | (rw [if_neg (by decide +kernel)]; exact ⟨rfl, rfl⟩))
    (fun os started H enc _ => lifted os started H enc)

theorem proved : Rows.ArcServesSaid := over
#print axioms proved
end Go.Proofs.Ytldnacphfoagnad.arcServes
