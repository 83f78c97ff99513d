/- 'ambry/ambrylaw13.ArcScan' returns true, for every input, and leaves its arguments as they were. No condition. -/
import Derived.Test.YtemdhnolccnnfaaIn
import Derived.Test.YtemdhnolccnnfaaArcFacts
import Derived.Test.YtemdhnolccnnfaaIn
import Derived.Deep.QuietTactic
import Derived.BigQuiet
import Derived.Deep.DeepCutAuto
import Derived.Deep.CutBlock
import Derived.Deep.RegionHeld3
import Derived.WalkKit
import Derived.ProofKit
import Derived.OpenShut
import Derived.ShutString
import Derived.ChangeOld
import Derived.Below
namespace Go.Proofs.Ytemdhnolccnnfaa.arcScan
open Go.ChangeShapes Go.WideShapes Go.ChangeAt Go.RowKit
open Go.ChangeMaps (open_string shut_string)
set_option linter.unusedVariables false

theorem own : ownKnob Try.prog.godebug = none := by kernel_rfl
theorem laidOut : laidOutB Try.prog = true := by kernel_rfl

structure Fst (k : Nat) (s : ArcS) : Prop where
  L0 : s.L 0 = []
  L1 : s.L 1 = upA 0 k
  B1 : s.B1 = []
  B2 : s.B2 = []
  m1 : s.m1 = 10
  most : s.most = 10
  P : s.P = 0
theorem Fst_start : Fst 0 (capA arc0 10) := ⟨rfl, rfl, by simp [capA, cut, arc0], by simp [capA, cut, arc0], by decide, by decide, by decide⟩
theorem Fst_step {k : Nat} {s : ArcS} (h : Fst k s) (hk : k < 100) (hw : Wid s.L) : insOk s k = true ∧ (insA s k k).P = 0 ∧ decide (0 ≤ rowOf 2 (insA s k k).L k) = true ∧ Fst (k + 1) (touchA (insA s k k) k) := by
  have hn : (k : Int) ∉ s.L 0 := by rw [h.L0]; simp
  have hn1 : (k : Int) ∉ s.L 1 := by rw [h.L1, mem_upA]; omega
  have hok := insOk_new hn hn1 (by omega)
  have e := insA_new (h := k) hok (by rw [h.B1]; simp) (by rw [h.B2]; simp)
  obtain ⟨t, ht⟩ : ∃ t, insA s k k = t := ⟨_, rfl⟩
  rw [ht] at e ⊢
  have t0 : t.L 0 = [(k : Int)] := by rw [e]; show (k : Int) :: (s.L 0).filter _ = _; rw [h.L0]; rfl
  have t1 : t.L 1 = upA 0 k := by rw [e]; show (s.L 1).filter _ = _; rw [filter_no hn1, h.L1]
  have wt : Wid t.L := fun r x hr hx => by
    match r, hr, hx with
    | 0, _, hx => rw [t0] at hx; simp at hx; omega
    | 1, _, hx => rw [t1, mem_upA] at hx; omega
  have hm : (k : Int) ∈ t.L 0 := by rw [t0]; simp
  refine ⟨hok, by rw [e]; exact h.P, decide_eq_true ((rowOf2_nn _ _).2 (.inl hm)), ?_⟩
  rw [touchA_yes wt (.inl hm)]
  refine ⟨?_, ?_, by rw [e]; exact h.B1, by rw [e]; exact h.B2, by rw [e]; exact h.m1, by rw [e]; exact h.most, by rw [e]; exact h.P⟩
  · show (t.L 0).filter _ = []
    rw [t0]; simp
  · show (k : Int) :: (t.L 1).filter _ = _
    rw [filter_no (by rw [t1, mem_upA]; omega), t1, show upA 0 (k + 1) = (0 + (k : Int)) :: upA 0 k from rfl, Int.zero_add]
structure AS (a : Int) (j i : Nat) (s : ArcS) : Prop where
  L0 : s.L 0 = upA a j
  sum : a + j = 1000 + i
  lo : 1000 ≤ a
  L1 : s.L 1 = upA 0 5
  B1 : ∀ x ∈ s.B1, x < 1000 + i
  B2 : s.B2 = []
  m1 : s.m1 = 10
  P : s.P = 0
  H : ∀ x ∈ s.L 0, s.H x = x
theorem AS_start {s : ArcS} (h : Fst 5 s) : AS 1000 0 0 s := ⟨h.L0, by omega, by omega, h.L1, by rw [h.B1]; simp, h.B2, h.m1, h.P, by rw [h.L0]; simp⟩
theorem AS_ins {a : Int} {j i : Nat} {s : ArcS} (h : AS a j i s) (hi : i ≤ 1000) : insOk s (1000 + i) = true ∧ AS a (j + 1) (i + 1) (insA s (1000 + i) (1000 + i)) := by
  have := h.sum
  have hl := h.lo
  have hn : (1000 + (i : Int)) ∉ s.L 0 := by rw [h.L0, mem_upA]; omega
  have hn1 : (1000 + (i : Int)) ∉ s.L 1 := by rw [h.L1, mem_upA]; omega
  have hok := insOk_new hn hn1 (by omega)
  refine ⟨hok, ?_⟩
  rw [insA_new hok (fun q => by have := h.B1 _ q; omega) (by rw [h.B2]; simp)]
  refine ⟨?_, by omega, hl, ?_, fun x hx => by have := h.B1 x hx; omega, h.B2, h.m1, h.P, ?_⟩
  · show (1000 + (i : Int)) :: (s.L 0).filter _ = (a + j) :: upA a j
    rw [filter_no hn, h.L0, this]
  · show (s.L 1).filter _ = _
    rw [filter_no hn1, h.L1]
  · intro x hx
    have hx' : x ∈ (1000 + (i : Int)) :: (s.L 0).filter (· != (1000 + (i : Int))) := hx
    show setH s.H _ _ x = x
    unfold setH
    split
    · omega
    · rename_i hne
      rcases List.mem_cons.1 hx' with q | q
      · exact absurd q hne
      · exact h.H x (List.mem_filter.1 q).1
theorem AS_ev {a : Int} {i : Nat} {s : ArcS} (h : AS a 5 i s) (hh : Int) : victA s hh = a ∧ decide (0 ≤ rowOf 2 s.L a) = true ∧ AS (a + 1) 4 i (evictA s a) := by
  have := h.sum
  have hl := h.lo
  have m0 : a ∈ s.L 0 := by rw [h.L0, mem_upA]; omega
  refine ⟨?_, decide_eq_true ((rowOf2_nn _ _).2 (.inl m0)), ?_⟩
  · unfold victA
    rw [if_pos (Or.inl (by rw [h.P, h.L0, len_upA]; omega)), h.L0, lastOf_upA]
  · rw [evictA_0 m0]
    refine ⟨?_, by omega, by omega, ?_, ?_, h.B2, h.m1, h.P, ?_⟩
    · show (s.L 0).filter _ = _
      rw [h.L0, del_upA]
    · show (s.L 1).filter _ = _
      rw [h.L1, filter_no (by rw [mem_upA]; omega)]
    · intro x hx
      have hx' : x ∈ gadd s.m1 s.B1 (s.H a) := hx
      unfold gadd cut at hx'
      have := List.mem_of_mem_drop hx'
      rcases List.mem_append.1 this with q | q
      · exact h.B1 x (List.mem_filter.1 q).1
      · simp at q
        rw [q, h.H a m0]; omega
    · intro x hx
      have hx' : x ∈ (s.L 0).filter (· != a) := hx
      have hx2 := List.mem_filter.1 hx'
      show setH s.H a 0 x = x
      unfold setH
      rw [if_neg (by simpa using hx2.2)]
      exact h.H x hx2.1
set_option maxRecDepth 100000 in
set_option maxHeartbeats 4000000 in
theorem walk (w : World) (a0 : Int) (w0 : (Lit.int .i64 a0).wf = true) :
    Calls Try.prog 3 #[.int .i64 a0] w fun e w' => e = .returned (.bool true) ∧ Below w.heap.size w w' := by
  have b0 := bounds_i64 w0
  go_enter Try.func3, Try.ntmps3
  go_wp2_with fail
  refine (shown_any _).mono ?_
  rintro e y1 ⟨rfl, hF⟩
  have HF := Lib.hid (hF.mono (T := From w.heap.size) (fun _ _ h => h.elim))
  clear hF
  go_wp2_with fail
  refine (new_ar (w0 := w) HF.out).mono ?_
  rintro e y2 ⟨p, S, rfl, h, _, _⟩
  have H := Lib.hid h
  clear h HF
  go_upto_if 18 with fail
  go_cut [0] (fun s wx => ∃ q : Nat, q ≤ 9223372036854775807 ∧ s = .int .i64 q ∧ y2 = wx)
  case first =>
    by_cases hp : a0 < 0
    · go_wp2
      go_meet
      exact ⟨(-(a0 + 1)).toNat, by omega, by rw [Int.toNat_of_nonneg (by omega)], rfl⟩
    · go_wp2
      go_meet
      exact ⟨a0.toNat, by omega, by rw [Int.toNat_of_nonneg (by omega)], rfl⟩
  case rest =>
    obtain ⟨q0, hq0, rfl, rfl⟩ := hcut
    clear b0
    go_upto_region 7 with fail
    go_cut [0] (fun s wx => ∃ n : Nat, n ≤ 299 ∧ s = .int .i64 n ∧ y2 = wx)
    case first =>
      go_wp2
      go_meet
      exact ⟨q0 % 300, by omega, by simp <;> omega, rfl⟩
    case rest =>
      obtain ⟨n, hn, rfl, rfl⟩ := hcut
      clear hq0
      go_wp2_with fail
      refine (cap_ar H.out 10 (by omega)).mono ?_
      rintro e y3 ⟨rfl, h, _⟩
      have H3 := Lib.hid h
      clear h H
      go_wp2_with fail
      go_loopw [5] (fun i wr => ∃ (k : Nat) (s : ArcS) (S : Nat → Prop), k ≤ 5 ∧ i = .int .i64 k ∧ Sep (AR p s (2 * k) 0) w wr S ∧ Fst k s) (fun i _ => 5 - (intOf i).toNat)
      case atStart => exact ⟨0, _, _, by omega, rfl, H3.out, Fst_start⟩
      case round =>
        clear H3
        obtain ⟨k, s, S, hk, rfl, h, hB⟩ := hrel
        have Hk := Lib.hid (And.intro h hB)
        clear h hB
        by_cases hlt : k < 5
        · have HE := Lib.hid (Fst_step Hk.out.2 (by omega) (ar_rows Hk.out.1).2.2.2.2)
          go_wp2_with fail
          refine (insert_ar Hk.out.1 k k (by omega) (by omega) (by rw [Hk.out.2.P]; omega)).mono ?_
          rintro e y4 ⟨rfl, h, _⟩
          have H4 := Lib.hid h
          clear h
          rw [HE.out.1]
          go_wp2_with fail
          refine (touch_ar H4.out k (by omega)).mono ?_
          rintro e y5 ⟨rfl, h, _⟩
          have H5 := Lib.hid h
          clear h
          rw [HE.out.2.2.1]
          go_wp2_with fail
          go_roundw
          case rel => exact ⟨k + 1, _, _, by omega, by go_num, H5.out, HE.out.2.2.2⟩
          case measure => simp [intOf]; omega
        · have hk5 : k = 5 := by omega
          have HF5 := Lib.hid (hk5 ▸ Hk.out.2)
          have H10 := Lib.hid (show 2 * k ≤ 10 by omega)
          clear hk5
          obtain ⟨wz, rfl⟩ : ∃ wz : World, wz = wr := ⟨_, rfl⟩
          go_wp2_with fail
          go_loopw [6, 7, 8] (fun t _ _ wr => ∃ (i j N : Nat) (a : Int) (s : ArcS) (S : Nat → Prop), i ≤ n ∧ j ≤ 5 ∧ N ≤ 10 + i ∧ t = .int .i64 i ∧ Sep (AR p s N i) w wr S ∧ AS a j i s) (fun t _ _ _ => n - (intOf t).toNat)
          case atStart => exact ⟨0, 0, _, 1000, _, _, by omega, by omega, (by have := H10.out; omega), rfl, Hk.out.1, AS_start HF5.out⟩
          case round =>
            clear Hk
            obtain ⟨i, j, N, a, s, S, hi, hj, hN, rfl, h, hB⟩ := hrel
            have Hi := Lib.hid (And.intro h hB)
            clear h hB
            by_cases hlt2 : i < n
            · obtain ⟨g, hcg, _⟩ := all_ar Hi.out.1 (by omega)
              have hcd : wr.drew.cell? ⟨p, 0, none⟩ = some (.pointer (some ⟨g, 0, none⟩)) := hcg
              have hj1 : (s.L 0).length = j ∧ (s.L 1).length = 5 := ⟨by rw [Hi.out.2.L0, len_upA], by rw [Hi.out.2.L1, len_upA]⟩
              have HJ := Lib.hid hj1
              have HN := Lib.hid (show N ≤ 1000000 by omega)
              clear hj1
              go_upto_region 18 with fail
              go_cut [63] (fun c wx => ∃ S, c = .bool (decide (5 ≤ j)) ∧ Sep (AR p s N i) w wx S)
              case first =>
                go_region_held3 (fun w' => w'.cell? ⟨p, 0, none⟩ = some (.pointer (some ⟨g, 0, none⟩))) (first | exact hcd | exact hc1 | exact hc2) (first
                  | (go_at_call 9; refine (all_ar_at Z1.out HN.out hc1 1).mono ?_; rintro e z2 ⟨vb, rfl, hV, h, _, hc2⟩; rw [show (rowL s.L 1).length = 5 from HJ.out.2] at hV; obtain ⟨a2, cap2, rfl, _⟩ := hV.shape; have Z2 := Lib.hid h; clear h hV)
                  | (go_at_call 9; refine (all_ar_at (ar_drew Hi.out.1) HN.out hcd 0).mono ?_; rintro e z1 ⟨va, rfl, hV, h, _, hc1⟩; rw [show (rowL s.L 0).length = j from HJ.out.1] at hV; obtain ⟨a1, cap1, rfl, _⟩ := hV.shape; have Z1 := Lib.hid h; clear h hV))
                go_wp2
                go_meet
                exact ⟨S, congrArg Value.bool (decide_eq_decide.2 (by rw [IntKind.wrap_i64]; omega)), Z2.out⟩
              case rest =>
                obtain ⟨S2, rfl, h⟩ := hcut
                obtain ⟨wy, rfl⟩ : ∃ wy : World, wy = wc := ⟨_, rfl⟩
                have Hy := Lib.hid h
                clear h hcg hcd
                by_cases h5 : j = 5
                · subst h5
                  have HE := Lib.hid (AS_ev Hi.out.2 (1000 + (i : Int)))
                  go_wp2_with fail
                  refine (victim_ar Hy.out (1000 + (i : Int))).mono ?_
                  rintro e z3 ⟨q3, rfl, rfl, h⟩
                  have Z3 := Lib.hid h
                  clear h
                  rw [HE.out.1]
                  have HG := Lib.hid (AS_ins HE.out.2.2 (by omega))
                  have ha5 : decide (a < 5) = false := decide_eq_false (by have := Hi.out.2.lo; omega)
                  go_wp2_with fail
                  refine (evict_ar Z3.out a HN.out (by omega)).mono ?_
                  rintro e z4 ⟨rfl, h, _⟩
                  have Z4 := Lib.hid h
                  clear h
                  rw [HE.out.2.1]
                  go_wp2_with fail
                  refine (insert_ar Z4.out (1000 + (i : Int)) (1000 + (i : Int)) (by omega) (by omega) (by rw [HE.out.2.2.P]; omega)).mono ?_
                  rintro e z5 ⟨rfl, h, _⟩
                  have Z5 := Lib.hid h
                  clear h
                  rw [HG.out.1]
                  go_wp2_with fail
                  go_roundw
                  case rel => exact ⟨i + 1, 5, _, _, _, _, by omega, by omega, by omega, by go_num, Z5.out, HG.out.2⟩
                  case measure => simp [intOf]; omega
                · have HG := Lib.hid (AS_ins Hi.out.2 (by omega))
                  have h5b : decide (5 ≤ j) = false := decide_eq_false (by omega)
                  rw [h5b]
                  go_wp2_with fail
                  refine (insert_ar (ar_more Hy.out (Nat.le_refl _) (Nat.le_succ _)) (1000 + (i : Int)) (1000 + (i : Int)) (by omega) (by omega) (by rw [Hi.out.2.P]; omega)).mono ?_
                  rintro e z5 ⟨rfl, h, _⟩
                  have Z5 := Lib.hid h
                  clear h
                  rw [HG.out.1]
                  go_wp2_with fail
                  go_roundw
                  case rel => exact ⟨i + 1, j + 1, _, _, _, _, by omega, by omega, by omega, by go_num, Z5.out, HG.out.2⟩
                  case measure => simp [intOf]; omega
            · obtain rfl : i = n := by omega
              obtain ⟨g, hcg, hAll, _⟩ := all_ar Hi.out.1 (by omega)
              have HAll := Lib.hid hAll
              clear hAll
              go_wp2_with fail
              refine (HAll.out 1).mono ?_
              rintro e z5 ⟨va, rfl, hV, h, _⟩
              rw [show (rowL s.L 1).length = 5 from by show (s.L 1).length = 5; rw [Hi.out.2.L1]; rfl] at hV
              obtain ⟨a1, cap1, rfl, _⟩ := hV.shape
              have Z5 := Lib.hid h
              clear h hV hcg
              go_wp2
              go_ret
              exact ⟨rfl, Z5.out.below⟩

set_option maxRecDepth 100000 in
theorem lifted (os : Os) (started : os.Started) (H : Type) (enc : TypeId × Value → H) :
    ReturnsInHanded {} Try.checked os 3 .any (Rows.arcScanSpec.pre6 enc Try.prog Try.f3 Rows.arcScanRow.domain false) (Rows.arcScanSpec.post enc Try.prog Try.f3 false true false false) := by
  refine returnsInHanded_of_change (C := Try.checked) own started (by kernel_rfl) Try.func3
    (ChangeSpec.witness6 (enc := enc) (C := Try.checked) false ⟨#[], #[.int .i64 0], []⟩ 8 (by kernel_rfl) (by kernel_rfl) (by kernel_rfl) (by kernel_rfl)) ?_
  intro W base args ds gs before hval0 hW hcnd _
  have hval : ∀ (j : Nat) t v, Try.f3.params[j]? = some t → args[j]? = some v → Value.okWide Try.prog W .any base t v := hval0
  have hW' := hW
  obtain ⟨p, q, hA0, hV, rfl, hfz, hnd⟩ := hW
  have hA : DataW.TrodAll enc Try.prog W 0 (fun _ => true) true Try.f3.params.toList args.toList ds p := hA0
  rw [Try.params3] at hA hval
  obtain ⟨v0, vs0, d0, ds0, p0, q0, hargs, rfl, rfl, h0, r0⟩ := trodAll_cons hA
  obtain ⟨rfl, rfl, rfl⟩ := trodAll_nil r0
  obtain rfl : args = #[v0] := by cases args; simp_all
  obtain ⟨rfl, rfl⟩ := trodVars_none hV
  obtain ⟨a0, rfl, rfl, rfl, w0⟩ := open_int Try.underlying3 (hval 0 3 v0 rfl rfl) h0
  clear hA0 hval0
  refine (walk W a0 w0).mono fun e W' ⟨he, bel⟩ => ?_
  subst he
  exact ⟨_, rfl, _, _, _, [], _, [], hW', trodAll_mk1 (shut_bool Try.underlying4 _), (trodAll_cons_mk (shut_int Try.underlying3 w0) trodAll_mk0), rfl, bel.frame _, fun h => by cases h⟩

theorem over : Rows.arcScanRow.holds Try.pinned (OpenSpec.ofChange Rows.arcScanSpec) :=
  OpenClaim.holds_of_wide 3 Try.f3 rfl rfl rfl rfl rfl rfl rfl ⟨rfl, rfl, rfl, rfl, rfl⟩ rfl rfl rfl rfl rfl (by kernel_rfl) Try.func3 (by kernel_rfl)
    (of_decide_eq_true (by kernel_rfl)) (by unfold Func.isWrapper; first | (rw [if_pos (by decide +kernel)]; kernel_rfl) | (rw [if_neg (by decide +kernel)]; exact ⟨rfl, rfl⟩))
    (fun os started H enc _ => lifted os started H enc)

theorem proved : Rows.ArcScanSaid := over
#print axioms proved
end Go.Proofs.Ytemdhnolccnnfaa.arcScan
