/- 'ambry/ambrylaw13.ArcBack' returns true, for every input, and leaves its arguments as they were. No condition. -/
import Derived.Test.YtldnacphfoagnadIn
import Derived.Test.YtldnacphfoagnadArcFacts
import Derived.Test.YtldnacphfoagnadIn
import Derived.Deep.QuietTactic
import Derived.BigQuiet
import Derived.Deep.DeepCutAuto
import Derived.Deep.CutBlock
import Derived.WalkKit
import Derived.ProofKit
import Derived.OpenShut
import Derived.ShutString
import Derived.ChangeOld
import Derived.Below
namespace Go.Proofs.Ytldnacphfoagnad.arcBack
open Go.ChangeShapes Go.WideShapes Go.ChangeAt Go.RowKit
open Go.ChangeMaps (open_string shut_string)
set_option linter.unusedVariables false

theorem own : ownKnob Try.prog.godebug = none := by kernel_rfl
theorem laidOut : laidOutB Try.prog = true := by kernel_rfl

structure BI (n k : Nat) (s : ArcS) : Prop where
  L0 : s.L 0 = upA 0 k
  L1 : s.L 1 = []
  B1 : s.B1 = []
  B2 : s.B2 = []
  m1 : s.m1 = n
  m2 : s.m2 = n
  most : s.most = n
  P : s.P = 0
  H : ∀ i : Int, 0 ≤ i → i < k → s.H i = i
theorem BI_start (n : Nat) : BI n 0 (capA arc0 n) := by
  have h : max (0 : Int) n = n := by omega
  refine ⟨rfl, rfl, by simp [capA, cut, arc0], by simp [capA, cut, arc0], h, h, h, ?_, fun i h0 h1 => by omega⟩
  show min (0 : Int) (max 0 (n : Int)) = 0
  omega
theorem BI_step {n k : Nat} {s : ArcS} (h : BI n k s) (hk : k < 100) : insOk s k = true ∧ BI n (k + 1) (insA s k k) := by
  have hn : (k : Int) ∉ s.L 0 := by rw [h.L0, mem_upA]; omega
  have hn1 : (k : Int) ∉ s.L 1 := by rw [h.L1]; simp
  have hok := insOk_new hn hn1 (by omega)
  refine ⟨hok, ?_⟩
  rw [insA_new hok (by rw [h.B1]; simp) (by rw [h.B2]; simp)]
  refine ⟨?_, ?_, h.B1, h.B2, h.m1, h.m2, h.most, h.P, fun i h0 h1 => ?_⟩
  · show (k : Int) :: (s.L 0).filter (· != (k : Int)) = _
    rw [filter_no hn, h.L0, show upA 0 (k + 1) = (0 + (k : Int)) :: upA 0 k from rfl, Int.zero_add]
  · show (s.L 1).filter _ = []
    rw [h.L1]; rfl
  · show setH s.H k k i = i
    unfold setH
    split
    · omega
    · exact h.H i h0 (by omega)
theorem gadd_one (n : Nat) (h : 1 ≤ n) (x : Int) : gadd n [] x = [x] := by
  unfold gadd
  exact cut_all (by simp; omega)
theorem BI_end {n : Nat} {s : ArcS} (h : BI n n s) (h1 : 1 ≤ n) (h20 : n ≤ 20) :
    victA s 999 = 0 ∧ decide (0 ≤ rowOf 2 s.L 0) = true ∧ insOk (evictA s 0) 100 = true ∧ (evictA s 0).P = 0 ∧ (insA (evictA s 0) 100 0).P = 1 ∧ rowL (insA (evictA s 0) 100 0).L 1 = [100] ∧ ghosts (insA (evictA s 0) 100 0) 0 = [] ∧
    decide (0 ≤ rowOf 2 (insA (evictA s 0) 100 0).L 100) = true ∧ (evictA (insA (evictA s 0) 100 0) 100).P = 1 ∧ ghosts (evictA (insA (evictA s 0) 100 0) 100) 1 = [0] ∧ insOk (evictA (insA (evictA s 0) 100 0) 100) 200 = true ∧
    (insA (evictA (insA (evictA s 0) 100 0) 100) 200 0).P = 0 ∧ ghosts (insA (evictA (insA (evictA s 0) 100 0) 100) 200 0) 1 = [] := by
  obtain ⟨j, rfl⟩ : ∃ j, n = j + 1 := ⟨n - 1, by omega⟩
  have m0 : (0 : Int) ∈ s.L 0 := by rw [h.L0, mem_upA]; omega
  have a1 : victA s 999 = 0 := by
    unfold victA
    rw [if_pos (Or.inl (by rw [h.P, h.L0, len_upA]; omega)), h.L0, lastOf_upA]
  have a2 : decide (0 ≤ rowOf 2 s.L 0) = true := decide_eq_true ((rowOf2_nn _ _).2 (.inl m0))
  have e1 := evictA_0 (s := s) (id := 0) m0
  rw [h.H 0 (by omega) (by omega), h.B1, h.m1, gadd_one _ (by omega)] at e1
  obtain ⟨t, ht⟩ : ∃ t, evictA s 0 = t := ⟨_, rfl⟩
  rw [ht] at e1 ⊢
  have tL0 : t.L 0 = upA 1 j := by rw [e1]; show (s.L 0).filter _ = _; rw [h.L0, del_upA]; rfl
  have tL1 : t.L 1 = [] := by rw [e1]; show (s.L 1).filter _ = _; rw [h.L1]; rfl
  have tB1 : t.B1 = [0] := by rw [e1]
  have tB2 : t.B2 = [] := by rw [e1]; exact h.B2
  have tP : t.P = 0 := by rw [e1]; exact h.P
  have tm : t.most = ((j + 1 : Nat) : Int) := by rw [e1]; exact h.most
  have tm2 : t.m2 = ((j + 1 : Nat) : Int) := by rw [e1]; exact h.m2
  have a3 : insOk t 100 = true := insOk_new (by rw [tL0, mem_upA]; omega) (by rw [tL1]; simp) (by decide)
  have e2 := insA_b1 (s := t) (id := 100) (h := 0) a3 (by rw [tB1]; simp)
  obtain ⟨u, hu⟩ : ∃ u, insA t 100 0 = u := ⟨_, rfl⟩
  rw [hu] at e2 ⊢
  have uP : u.P = 1 := by
    rw [e2]; show min (max (t.P + max 1 ((t.B2.length : Int) / (t.B1.length : Int))) 0) t.most = 1
    rw [tP, tB1, tB2, tm]; simp; omega
  have uL1 : u.L 1 = [100] := by rw [e2]; show 100 :: (t.L 1).filter _ = _; rw [tL1]; rfl
  have uL0 : u.L 0 = upA 1 j := by rw [e2]; show (t.L 0).filter _ = _; rw [filter_no (by rw [tL0, mem_upA]; omega), tL0]
  have uB1 : u.B1 = [] := by rw [e2]; show grem t.B1 0 = _; rw [tB1]; rfl
  have uB2 : u.B2 = [] := by rw [e2]; exact tB2
  have uH : u.H 100 = 0 := by rw [e2]; rfl
  have um2 : u.m2 = ((j + 1 : Nat) : Int) := by rw [e2]; exact tm2
  have um : u.most = ((j + 1 : Nat) : Int) := by rw [e2]; exact tm
  have n100 : (100 : Int) ∉ u.L 0 := by rw [uL0, mem_upA]; omega
  have m100 : (100 : Int) ∈ u.L 1 := by rw [uL1]; simp
  have a8 : decide (0 ≤ rowOf 2 u.L 100) = true := decide_eq_true ((rowOf2_nn _ _).2 (.inr m100))
  have e3 := evictA_1 (s := u) (id := 100) n100 m100
  rw [uH, uB2, um2, gadd_one _ (by omega)] at e3
  obtain ⟨v, hv⟩ : ∃ v, evictA u 100 = v := ⟨_, rfl⟩
  rw [hv] at e3 ⊢
  have vL0 : v.L 0 = upA 1 j := by rw [e3]; show (u.L 0).filter _ = _; rw [filter_no n100, uL0]
  have vL1 : v.L 1 = [] := by rw [e3]; show (u.L 1).filter _ = _; rw [uL1]; rfl
  have vB1 : v.B1 = [] := by rw [e3]; exact uB1
  have vB2 : v.B2 = [0] := by rw [e3]
  have vP : v.P = 1 := by rw [e3]; exact uP
  have vm : v.most = ((j + 1 : Nat) : Int) := by rw [e3]; exact um
  have a11 : insOk v 200 = true := insOk_new (by rw [vL0, mem_upA]; omega) (by rw [vL1]; simp) (by decide)
  have e4 := insA_b2 (s := v) (id := 200) (h := 0) a11 (by rw [vB1]; simp) (by rw [vB2]; simp)
  obtain ⟨x, hx⟩ : ∃ x, insA v 200 0 = x := ⟨_, rfl⟩
  rw [hx] at e4 ⊢
  have xP : x.P = 0 := by
    rw [e4]; show min (max (v.P + - max 1 ((v.B1.length : Int) / (v.B2.length : Int))) 0) v.most = 0
    rw [vP, vB1, vB2, vm]; simp; omega
  have xB2 : x.B2 = [] := by rw [e4]; show grem v.B2 0 = _; rw [vB2]; rfl
  exact ⟨a1, a2, a3, tP, uP, uL1, uB1, a8, vP, vB2, a11, xP, xB2⟩
set_option maxRecDepth 100000 in
set_option maxHeartbeats 4000000 in
theorem walk (w : World) (a0 : Int) (w0 : (Lit.int .i64 a0).wf = true) :
    Calls Try.prog 5 #[.int .i64 a0] w fun e w' => e = .returned (.bool true) ∧ Below w.heap.size w w' := by
  have b0 := bounds_i64 w0
  go_enter Try.func5, Try.ntmps5
  go_wp2_with fail
  refine (shown_any _).mono ?_
  rintro e y1 ⟨rfl, hF⟩
  have HF := Lib.hid (hF.mono (T := From w.heap.size) (fun _ _ h => h.elim))
  clear hF
  go_wp2_with fail
  refine (new_ar (w0 := w) HF.out).mono ?_
  rintro e y2 ⟨p, S, rfl, h, _, _⟩
  have H := Lib.hid h
  clear h HF
  go_upto_if 18 with fail
  go_cut [0] (fun s wx => ∃ q : Nat, q ≤ 9223372036854775807 ∧ s = .int .i64 q ∧ y2 = wx)
  case first =>
    by_cases hp : a0 < 0
    · go_wp2
      go_meet
      exact ⟨(-(a0 + 1)).toNat, by omega, by rw [Int.toNat_of_nonneg (by omega)], rfl⟩
    · go_wp2
      go_meet
      exact ⟨a0.toNat, by omega, by rw [Int.toNat_of_nonneg (by omega)], rfl⟩
  case rest =>
    obtain ⟨q0, hq0, rfl, rfl⟩ := hcut
    clear b0
    go_upto_region 7 with fail
    go_cut [0] (fun s wx => ∃ n : Nat, 1 ≤ n ∧ n ≤ 20 ∧ s = .int .i64 n ∧ y2 = wx)
    case first =>
      go_wp2
      go_meet
      exact ⟨1 + q0 % 20, by omega, by omega, by simp <;> omega, rfl⟩
    case rest =>
      obtain ⟨n, hn1, hn, rfl, rfl⟩ := hcut
      clear hq0
      go_wp2_with fail
      refine (cap_ar H.out n (by omega)).mono ?_
      rintro e y3 ⟨rfl, h, _⟩
      have H3 := Lib.hid h
      clear h H
      go_wp2_with fail
      go_loopw [5] (fun i wr => ∃ (k : Nat) (s : ArcS) (S : Nat → Prop), k ≤ n ∧ i = .int .i64 k ∧ Sep (AR p s k 0) w wr S ∧ BI n k s) (fun i _ => n - (intOf i).toNat)
      case atStart => exact ⟨0, _, _, by omega, rfl, H3.out, BI_start n⟩
      case round =>
        clear H3
        obtain ⟨k, s, S, hk, rfl, h, hB⟩ := hrel
        have Hk := Lib.hid (And.intro h hB)
        clear h hB
        by_cases hlt : k < n
        · go_wp2_with fail
          refine (insert_ar Hk.out.1 k k (by omega) (by omega) (by rw [Hk.out.2.P]; omega)).mono ?_
          rintro e y4 ⟨rfl, h, _⟩
          have H4 := Lib.hid h
          clear h
          go_wp2_with fail
          go_roundw
          case rel => exact ⟨k + 1, _, _, by omega, by go_num, H4.out, (BI_step Hk.out.2 (by omega)).2⟩
          case measure => simp [intOf]; omega
        · obtain rfl : k = n := by omega
          have HE := Lib.hid (BI_end Hk.out.2 hn1 hn)
          obtain ⟨e1, e2, e3, e4, e5, e6, e7, e8, e9, e10, e11, e12, e13⟩ := HE.out
          have HE1 := Lib.hid e1
          have HE2 := Lib.hid e2
          have HE3 := Lib.hid e3
          have HE4 := Lib.hid e4
          have HE5 := Lib.hid e5
          have HE6 := Lib.hid e6
          have HE7 := Lib.hid e7
          have HE8 := Lib.hid e8
          have HE9 := Lib.hid e9
          have HE10 := Lib.hid e10
          have HE11 := Lib.hid e11
          have HE12 := Lib.hid e12
          have HE13 := Lib.hid e13
          clear e1 e2 e3 e4 e5 e6 e7 e8 e9 e10 e11 e12 e13 HE
          go_wp2_with fail
          refine (victim_ar Hk.out.1 999).mono ?_
          rintro e z1 ⟨q1, rfl, rfl, h⟩
          have Z1 := Lib.hid h
          clear h
          rw [HE1.out]
          go_wp2_with fail
          refine (evict_ar Z1.out 0 (by omega) (by omega)).mono ?_
          rintro e z2 ⟨rfl, h, _⟩
          have Z2 := Lib.hid h
          clear h
          rw [HE2.out]
          go_wp2_with fail
          refine (insert_ar Z2.out 100 0 (by omega) (by omega) (by rw [HE4.out]; omega)).mono ?_
          rintro e z3 ⟨rfl, h, _⟩
          have Z3 := Lib.hid h
          clear h
          rw [HE3.out]
          go_wp2_with fail
          refine (target_ar Z3.out).mono ?_
          rintro e z4 ⟨rfl, rfl⟩
          rw [HE5.out]
          obtain ⟨g, hcg, hAll, _⟩ := all_ar Z3.out (by omega)
          have HAll := Lib.hid hAll
          clear hAll
          go_wp2_with fail
          refine (HAll.out 1).mono ?_
          rintro e z5 ⟨va, rfl, hV, h, _⟩
          rw [HE6.out] at hV
          obtain ⟨a1, cap1, hav, hat⟩ := sl_at (l := [100]) hV
          subst hav
          obtain ⟨vb, voff, rfl, _, _, hvc, _⟩ := hat 0 100 rfl
          have Z5 := Lib.hid h
          clear h hV hat hcg
          simp only [Nat.add_zero] at hvc
          go_wp2_with fail
          refine (ghosts_ar Z5.out 0 (by omega)).mono ?_
          rintro e z6 ⟨vg, rfl, hV, h, _⟩
          rw [HE7.out] at hV
          obtain ⟨a2, cap2, rfl, _⟩ := hV.shape
          have Z6 := Lib.hid h
          clear h hV hvc
          go_wp2_with fail
          refine (evict_ar Z6.out 100 (by omega) (by omega)).mono ?_
          rintro e z7 ⟨rfl, h, _⟩
          have Z7 := Lib.hid h
          clear h
          rw [HE8.out]
          go_wp2_with fail
          refine (ghosts_ar Z7.out 1 (by omega)).mono ?_
          rintro e z8 ⟨vh, rfl, hV, h, _⟩
          rw [HE10.out] at hV
          obtain ⟨hb, hoff, hcap, rfl, _, _, _, hvd, _⟩ := Sl.pos hV (by decide)
          have hvd0 := hvd 0 (by simp [u64s])
          simp only [Nat.add_zero] at hvd0
          have hvd1 : z8.cell? ⟨hb, hoff, none⟩ = some (.int .u64 0) := hvd0
          have Z8 := Lib.hid h
          clear h hV hvd hvd0
          go_wp2_with fail
          refine (insert_ar Z8.out 200 0 (by omega) (by omega) (by rw [HE9.out]; omega)).mono ?_
          rintro e z9 ⟨rfl, h, _⟩
          have Z9 := Lib.hid h
          clear h hvd1
          rw [HE11.out]
          go_wp2_with fail
          refine (target_ar Z9.out).mono ?_
          rintro e z10 ⟨rfl, rfl⟩
          rw [HE12.out]
          go_wp2_with fail
          refine (ghosts_ar Z9.out 1 (by omega)).mono ?_
          rintro e z11 ⟨vi, rfl, hV, h, _⟩
          rw [HE13.out] at hV
          obtain ⟨a3, cap3, rfl, _⟩ := hV.shape
          have Z11 := Lib.hid h
          clear h hV
          go_wp2
          go_ret
          exact ⟨rfl, Z11.out.below⟩

set_option maxRecDepth 100000 in
theorem lifted (os : Os) (started : os.Started) (H : Type) (enc : TypeId × Value → H) :
    ReturnsInHanded {} Try.checked os 5 .any (Rows.arcBackSpec.pre6 enc Try.prog Try.f5 Rows.arcBackRow.domain false) (Rows.arcBackSpec.post enc Try.prog Try.f5 false true false false) := by
  refine returnsInHanded_of_change (C := Try.checked) own started (by kernel_rfl) Try.func5
    (ChangeSpec.witness6 (enc := enc) (C := Try.checked) false ⟨#[], #[.int .i64 0], []⟩ 8 (by kernel_rfl) (by kernel_rfl) (by kernel_rfl) (by kernel_rfl)) ?_
  intro W base args ds gs before hval0 hW hcnd _
  have hval : ∀ (j : Nat) t v, Try.f5.params[j]? = some t → args[j]? = some v → Value.okWide Try.prog W .any base t v := hval0
  have hW' := hW
  obtain ⟨p, q, hA0, hV, rfl, hfz, hnd⟩ := hW
  have hA : DataW.TrodAll enc Try.prog W 0 (fun _ => true) true Try.f5.params.toList args.toList ds p := hA0
  rw [Try.params5] at hA hval
  obtain ⟨v0, vs0, d0, ds0, p0, q0, hargs, rfl, rfl, h0, r0⟩ := trodAll_cons hA
  obtain ⟨rfl, rfl, rfl⟩ := trodAll_nil r0
  obtain rfl : args = #[v0] := by cases args; simp_all
  obtain ⟨rfl, rfl⟩ := trodVars_none hV
  obtain ⟨a0, rfl, rfl, rfl, w0⟩ := open_int Try.underlying3 (hval 0 3 v0 rfl rfl) h0
  clear hA0 hval0
  refine (walk W a0 w0).mono fun e W' ⟨he, bel⟩ => ?_
  subst he
  exact ⟨_, rfl, _, _, _, [], _, [], hW', trodAll_mk1 (shut_bool Try.underlying4 _), (trodAll_cons_mk (shut_int Try.underlying3 w0) trodAll_mk0), rfl, bel.frame _, fun h => by cases h⟩

theorem over : Rows.arcBackRow.holds Try.pinned (OpenSpec.ofChange Rows.arcBackSpec) :=
  OpenClaim.holds_of_wide 5 Try.f5 rfl rfl rfl rfl rfl rfl rfl ⟨rfl, rfl, rfl, rfl, rfl⟩ rfl rfl rfl rfl rfl (by kernel_rfl) Try.func5 (by kernel_rfl)
    (of_decide_eq_true (by kernel_rfl)) (by unfold Func.isWrapper; first | (rw [if_pos (by decide +kernel)]; kernel_rfl) | (rw [if_neg (by decide +kernel)]; exact ⟨rfl, rfl⟩))
    (fun os started H enc _ => lifted os started H enc)

theorem proved : Rows.ArcBackSaid := over
#print axioms proved
end Go.Proofs.Ytldnacphfoagnad.arcBack
