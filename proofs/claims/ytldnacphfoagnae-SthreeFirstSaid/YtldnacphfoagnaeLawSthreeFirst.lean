/- 'ambry/ambrylaw14.SthreeFirst' returns true, for every input, and leaves its arguments as they were. No condition. -/
import Derived.Test.YtldnacphfoagnaeIn
import Derived.Test.YtldnacphfoagnaeThFacts
import Derived.Test.YtldnacphfoagnaeIn
import Derived.Deep.QuietTactic
import Derived.BigQuiet
import Derived.Deep.DeepCutAuto
import Derived.Deep.CutBlock
import Derived.WalkKit
import Derived.ProofKit
import Derived.OpenShut
import Derived.ShutString
import Derived.ChangeOld
import Derived.Below
namespace Go.Proofs.Ytldnacphfoagnae.sthreeFirst
open Go.ChangeShapes Go.WideShapes Go.ChangeAt Go.RowKit
open Go.ChangeMaps (open_string shut_string)
set_option linter.unusedVariables false

theorem own : ownKnob Try.prog.godebug = none := by kernel_rfl
theorem laidOut : laidOutB Try.prog = true := by kernel_rfl

def dn (n : Nat) : List Int := (List.range n).map fun (j : Nat) => (j : Int)
theorem dn_succ (n : Nat) : dn (n + 1) = dn n ++ [(n : Int)] := by unfold dn; rw [List.range_succ, List.map_append]; rfl
theorem dn_len (n : Nat) : (dn n).length = n := by simp [dn]
theorem mem_dn {n : Nat} {x : Int} (h : x ∈ dn n) : x < n := by
  unfold dn at h
  obtain ⟨j, hj, rfl⟩ := List.mem_map.1 h
  have := List.mem_range.1 hj
  omega
theorem cut_snoc (pl : Int) (l : List Int) (x : Int) : cut pl (cut pl l ++ [x]) = cut pl (l ++ [x]) := by
  have e : cut pl l ++ [x] = (l ++ [x]).drop (l.length - pl.toNat) := by
    unfold cut; rw [List.drop_append_of_le_length (by omega)]
  rw [e]
  unfold cut
  rw [List.drop_drop]
  congr 1
  simp
  omega
structure FI (pl k : Nat) (s : ThS) : Prop where
  L0 : s.L 0 = upA 0 k
  L1 : s.L 1 = []
  B : s.B = []
  mB : s.mB = pl
  K : ∀ x : Int, s.K x = if 0 ≤ x ∧ x < k then some (x, 0) else none
theorem FI_start (pl : Nat) : FI pl 0 (capT th0 pl) := ⟨rfl, rfl, by simp [capT, cut, th0], (by show max (0 : Int) pl = pl; omega), fun x => by rw [if_neg (by omega)]; rfl⟩
theorem FI_step {pl k : Nat} {s : ThS} (h : FI pl k s) (hk : k < 100) : FI pl (k + 1) (inT s k k) := by
  have hn : s.K (k : Int) = none := by rw [h.K, if_neg (by omega)]
  rw [inT_new hn (by omega), inR_no (by rw [h.B]; simp)]
  refine ⟨?_, ?_, ?_, h.mB, fun x => ?_⟩
  · show (k : Int) :: (s.L 0).filter _ = _
    rw [filter_no (by rw [h.L0, mem_upA]; omega), h.L0, show upA 0 (k + 1) = (0 + (k : Int)) :: upA 0 k from rfl, Int.zero_add]
  · show (s.L 1).filter _ = _
    rw [h.L1]; rfl
  · show grem s.B k = _
    rw [h.B]; rfl
  · show setK s.K k (some ((k : Int), 0)) x = _
    by_cases e : x = k
    · rw [e, setK_same, if_pos (by omega)]
    · rw [setK_ne e, h.K]
      by_cases q : 0 ≤ x ∧ x < k
      · rw [if_pos q, if_pos (by omega)]
      · rw [if_neg q, if_neg (by omega)]
structure FE (pl n i : Nat) (s : ThS) : Prop where
  L0 : s.L 0 = upA i (n - i)
  L1 : s.L 1 = []
  B : s.B = cut pl (dn i)
  mB : s.mB = pl
  K : ∀ x : Int, s.K x = if i ≤ x ∧ x < n then some (x, 0) else none
theorem FE_start {pl n : Nat} {s : ThS} (h : FI pl n s) : FE pl n 0 s := ⟨h.L0, h.L1, by rw [h.B]; simp [cut, dn], h.mB, h.K⟩
theorem FE_meas {pl n i : Nat} {s : ThS} (h : FE pl n i s) : measT s ≤ n := by
  unfold measT; rw [h.L0, h.L1, len_upA]; simp
theorem FE_vic {pl n i : Nat} {s : ThS} (h : FE pl n i s) (hi : i < n) : vicT s = (s, (i : Int)) := by
  obtain ⟨j, hj⟩ : ∃ j, n - i = j + 1 := ⟨n - i - 1, by omega⟩
  have hl : lastOf (s.L 0) = i := by rw [h.L0, hj, lastOf_upA]
  have hb : smallB s = true := decide_eq_true ⟨by rw [h.L0, len_upA]; omega, .inr (by rw [h.L1]; rfl)⟩
  have := vic_small hb (by rw [hl, countT_some (h := (i : Int)) (c := 0) (by rw [h.K, if_pos (by omega)])]; omega)
  rw [hl] at this
  exact this
theorem FE_none {pl n : Nat} {s : ThS} (h : FE pl n n s) : vicT s = (s, -1) := vic_none (by rw [h.L0, Nat.sub_self]; rfl) h.L1
theorem FE_ev {pl n i : Nat} {s : ThS} (h : FE pl n i s) (hi : i < n) : decide (0 ≤ rowOf 2 s.L i) = true ∧ FE pl n (i + 1) (evT s i) := by
  obtain ⟨j, hj⟩ : ∃ j, n - i = j + 1 := ⟨n - i - 1, by omega⟩
  have hm : (i : Int) ∈ s.L 0 := by rw [h.L0, mem_upA]; omega
  refine ⟨decide_eq_true ((rowOf2_nn _ _).2 (.inl hm)), ?_⟩
  rw [evT_0 hm]
  refine ⟨?_, ?_, ?_, h.mB, fun x => ?_⟩
  · show (s.L 0).filter _ = _
    rw [h.L0, hj, del_upA, show n - (i + 1) = j from by omega]; simp
  · show (s.L 1).filter _ = _
    rw [h.L1]; rfl
  · show gadd s.mB s.B (numT s i) = _
    rw [h.mB, h.B, numT_some (h := (i : Int)) (c := 0) (by rw [h.K, if_pos (by omega)])]
    unfold gadd
    rw [filter_no (fun q => by have := mem_dn (List.mem_of_mem_drop q); omega), cut_snoc, dn_succ]
  · show setK s.K i none x = _
    by_cases e : x = i
    · rw [e, setK_same, if_neg (by omega)]
    · rw [setK_ne e, h.K]
      by_cases q : (i : Int) ≤ x ∧ x < n
      · rw [if_pos q, if_pos (by omega)]
      · rw [if_neg q, if_neg (by omega)]
theorem cut_dn_len (pl n : Nat) : (cut pl (dn n)).length = min n pl := by
  unfold cut; rw [List.length_drop, dn_len]; omega
theorem cut_dn_at (pl n : Nat) {j : Nat} (h : j < min n pl) : (cut pl (dn n))[j]? = some (((n - min n pl + j : Nat)) : Int) := by
  unfold cut
  rw [List.getElem?_drop, dn_len]
  unfold dn
  rw [List.getElem?_map, List.getElem?_range (by omega)]
  simp; omega
set_option maxRecDepth 100000 in
set_option maxHeartbeats 4000000 in
theorem walk (w : World) (a0 : Int) (w0 : (Lit.int .i64 a0).wf = true) (a1 : Int) (w1 : (Lit.int .i64 a1).wf = true) :
    Calls Try.prog 6 #[.int .i64 a0, .int .i64 a1] w fun e w' => e = .returned (.bool true) ∧ Below w.heap.size w w' := by
  obtain ⟨n, hn', hn63⟩ := and_mask a0 63 (by decide)
  have hn : bits .and .i64 a0 63 = n := hn'
  obtain ⟨pl, hp', hp63⟩ := and_mask a1 63 (by decide)
  have hp : bits .and .i64 a1 63 = pl := hp'
  clear hn' hp'
  go_enter Try.func6, Try.ntmps6
  go_wp2_with fail
  refine (shown_any _).mono ?_
  rintro e y1 ⟨rfl, hF⟩
  have HF := Lib.hid (hF.mono (T := From w.heap.size) (fun _ _ h => h.elim))
  clear hF
  go_wp2_with fail
  refine (new_th (w0 := w) HF.out).mono ?_
  rintro e y2 ⟨p, S, rfl, h, _, _⟩
  have H := Lib.hid h
  clear h HF
  go_wp2_with fail
  refine (cap_th H.out pl (by omega)).mono ?_
  rintro e y3 ⟨rfl, h, _⟩
  have H3 := Lib.hid h
  clear h H
  go_wp2_with fail
  go_loopw [7] (fun i wr => ∃ (k : Nat) (s : ThS) (S : Nat → Prop), k ≤ n ∧ i = .int .i64 k ∧ Sep (TH p s k 0) w wr S ∧ FI pl k s) (fun i _ => n - (intOf i).toNat)
  case atStart => exact ⟨0, _, _, by omega, rfl, H3.out, FI_start pl⟩
  case round =>
    clear H3
    obtain ⟨k, s, S, hk, rfl, h, hB⟩ := hrel
    have Hk := Lib.hid (And.intro h hB)
    clear h hB
    by_cases hlt : k < n
    · go_wp2_with fail
      refine (insert_th Hk.out.1 k k (by omega) (by omega)).mono ?_
      rintro e y4 ⟨rfl, h, _⟩
      have H4 := Lib.hid h
      clear h
      go_wp2_with fail
      go_roundw
      case rel => exact ⟨k + 1, _, _, by omega, by go_num, H4.out, FI_step Hk.out.2 (by omega)⟩
      case measure => simp [intOf]; omega
    · obtain rfl : k = n := by omega
      obtain ⟨wz, rfl⟩ : ∃ wz : World, wz = wr := ⟨_, rfl⟩
      go_wp2_with fail
      go_loopw [8] (fun t wr => ∃ (i N : Nat) (s : ThS) (S : Nat → Prop), i ≤ k ∧ N ≤ 63 + 64 * i ∧ t = .int .i64 i ∧ Sep (TH p s N i) w wr S ∧ FE pl k i s) (fun t _ => k - (intOf t).toNat)
      case atStart => exact ⟨0, k, s, S, by omega, by omega, rfl, Hk.out.1, FE_start Hk.out.2⟩
      case round =>
        clear Hk
        obtain ⟨i, N, s, S, hi, hN, rfl, h, hB⟩ := hrel
        have Hi := Lib.hid (And.intro h hB)
        clear h hB
        by_cases hlt2 : i < k
        · have HV := Lib.hid (FE_vic Hi.out.2 hlt2)
          have HE := Lib.hid (FE_ev Hi.out.2 hlt2)
          have HM := Lib.hid (FE_meas Hi.out.2)
          go_wp2_with fail
          refine (victim_th Hi.out.1 (by have := HM.out; omega)).mono ?_
          rintro e y5 ⟨rfl, h, _⟩
          rw [HV.out] at h
          have H5 := Lib.hid h
          clear h
          rw [HV.out]
          go_wp2_with fail
          refine (evict_th H5.out i (by have := HM.out; omega) (by omega)).mono ?_
          rintro e y6 ⟨rfl, h, _⟩
          have H6 := Lib.hid h
          clear h
          rw [show rowOf 2 (s, (i : Int)).1.L i = rowOf 2 s.L i from rfl, HE.out.1]
          go_wp2_with fail
          go_roundw
          case rel => exact ⟨i + 1, _, _, _, by omega, (by have := HM.out; omega), by go_num, H6.out, HE.out.2⟩
          case measure => simp [intOf]; omega
        · obtain rfl : i = k := by omega
          obtain ⟨wy, rfl⟩ : ∃ wy : World, wy = wr := ⟨_, rfl⟩
          have HV := Lib.hid (FE_none Hi.out.2)
          have HM := Lib.hid (FE_meas Hi.out.2)
          obtain ⟨q, hq⟩ : ∃ q, min i pl = q := ⟨_, rfl⟩
          have hG : u64s s.B = u64s (cut pl (dn i)) := by rw [Hi.out.2.B]
          have hGl : s.B.length = q := by rw [Hi.out.2.B, cut_dn_len, hq]
          have HG := Lib.hid (And.intro hG hGl)
          clear hG hGl
          go_wp2_with fail
          refine (ghosts_th Hi.out.1 (by omega)).mono ?_
          rintro e z1 ⟨v, rfl, hV, h, hF⟩
          rw [HG.out.1, HG.out.2] at hV
          obtain ⟨a, cap, rfl, _⟩ := hV.shape
          have Z1 := Lib.hid (And.intro h hV)
          clear h hV hF
          have hqi : q ≤ i := by omega
          have HX := Lib.hid (fun j (hj : j < q) => cut_dn_at pl i (j := j) (by rw [hq]; exact hj))
          go_upto_region 18 with fail
          go_cut [63] (fun c wx => c = .bool false ∧ ∃ S' N', Sep (TH p s N' i) w wx S' ∧ Held w wx S' 28 1 (.slice a q cap) q (u64s (cut pl (dn i))))
          case first =>
            go_wp2_with fail
            refine (victim_th Z1.out.1 (by have := HM.out; omega)).mono ?_
            rintro e z2 ⟨rfl, h, hF⟩
            rw [HV.out] at h
            have Z2 := Lib.hid (And.intro h (Held.step Z1.out.2 hF))
            clear h hF
            rw [HV.out]
            have hqc : (i ≤ pl ∧ q = i) ∨ (pl < i ∧ q = pl) := by omega
            clear hq
            rcases hqc with ⟨h1, rfl⟩ | ⟨h1, rfl⟩
            all_goals
              go_wp2_with fail
              go_meet
              exact ⟨rfl, _, _, Z2.out.1, Z2.out.2⟩
          case rest =>
            obtain ⟨rfl, S', N', h, hG⟩ := hcut
            obtain ⟨wx, rfl⟩ : ∃ wx : World, wx = wc := ⟨_, rfl⟩
            have HY := Lib.hid (And.intro h hG)
            have hmin : min i pl - q = i - q ∨ True := .inr trivial
            have HQ := Lib.hid hq
            clear h hG hq hmin Z1
            go_wp2_with fail
            go_loopw [10] (fun t wr => ∃ j : Nat, j ≤ q ∧ t = .int .i64 j ∧ Sep (TH p s N' i) w wr S' ∧ Held w wr S' 28 1 (.slice a q cap) q (u64s (cut pl (dn i)))) (fun t _ => q - (intOf t).toNat)
            case atStart => exact ⟨0, by omega, rfl, HY.out⟩
            case round =>
              clear HY
              obtain ⟨j, hj, rfl, h, hG⟩ := hrel
              have HY := Lib.hid (And.intro h hG)
              by_cases hjl : j < q
              · obtain ⟨b, off, cap', hve, _, _, _, hx, _⟩ := Sl.pos hG (by omega)
                simp at hve
                obtain ⟨rfl, rfl⟩ := hve
                have hx1 := hx j (by unfold u64s; rw [List.length_map, cut_dn_len]; have := HQ.out; omega)
                unfold u64s at hx1
                rw [List.getElem?_map, HX.out j hjl, HQ.out] at hx1
                have hx2 : wr.cell? ⟨b, off + j, none⟩ = some (.int .u64 ((i : Int) - q + j)) := by
                  rw [hx1]; show some (Value.int .u64 ((i - q + j : Nat) : Int)) = _
                  congr 2; omega
                clear h hG hx hx1
                go_wp2_with fail
                go_roundw
                case rel => exact ⟨j + 1, by omega, by go_num, HY.out⟩
                case measure => simp [intOf]; omega
              · obtain rfl : j = q := by omega
                clear h hG
                go_wp2
                go_ret
                exact ⟨rfl, HY.out.1.below⟩

set_option maxRecDepth 100000 in
theorem lifted (os : Os) (started : os.Started) (H : Type) (enc : TypeId × Value → H) :
    ReturnsInHanded {} Try.checked os 6 .any (Rows.sthreeFirstSpec.pre6 enc Try.prog Try.f6 Rows.sthreeFirstRow.domain false) (Rows.sthreeFirstSpec.post enc Try.prog Try.f6 false true false false) := by
  refine returnsInHanded_of_change (C := Try.checked) own started (by kernel_rfl) Try.func6
    (ChangeSpec.witness6 (enc := enc) (C := Try.checked) false ⟨#[], #[.int .i64 0, .int .i64 0], []⟩ 8 (by kernel_rfl) (by kernel_rfl) (by kernel_rfl) (by kernel_rfl)) ?_
  intro W base args ds gs before hval0 hW hcnd _
  have hval : ∀ (j : Nat) t v, Try.f6.params[j]? = some t → args[j]? = some v → Value.okWide Try.prog W .any base t v := hval0
  have hW' := hW
  obtain ⟨p, q, hA0, hV, rfl, hfz, hnd⟩ := hW
  have hA : DataW.TrodAll enc Try.prog W 0 (fun _ => true) true Try.f6.params.toList args.toList ds p := hA0
  rw [Try.params6] at hA hval
  obtain ⟨v0, vs0, d0, ds0, p0, q0, hargs, rfl, rfl, h0, r0⟩ := trodAll_cons hA
  obtain ⟨v1, vs1, d1, ds1, p1, q1, rfl, rfl, rfl, h1, r1⟩ := trodAll_cons r0
  obtain ⟨rfl, rfl, rfl⟩ := trodAll_nil r1
  obtain rfl : args = #[v0, v1] := by cases args; simp_all
  obtain ⟨rfl, rfl⟩ := trodVars_none hV
  obtain ⟨a0, rfl, rfl, rfl, w0⟩ := open_int Try.underlying3 (hval 0 3 v0 rfl rfl) h0
  obtain ⟨a1, rfl, rfl, rfl, w1⟩ := open_int Try.underlying3 (hval 1 3 v1 rfl rfl) h1
  clear hA0 hval0
  refine (walk W a0 w0 a1 w1).mono fun e W' ⟨he, bel⟩ => ?_
  subst he
  exact ⟨_, rfl, _, _, _, [], _, [], hW', trodAll_mk1 (shut_bool Try.underlying4 _), (trodAll_cons_mk (shut_int Try.underlying3 w0) (trodAll_cons_mk (shut_int Try.underlying3 w1) trodAll_mk0)), rfl, bel.frame _, fun h => by cases h⟩

theorem over : Rows.sthreeFirstRow.holds Try.pinned (OpenSpec.ofChange Rows.sthreeFirstSpec) :=
  OpenClaim.holds_of_wide 6 Try.f6 rfl rfl rfl rfl rfl rfl rfl ⟨rfl, rfl, rfl, rfl, rfl⟩ rfl rfl rfl rfl rfl (by kernel_rfl) Try.func6 (by kernel_rfl)
    (of_decide_eq_true (by kernel_rfl)) (by unfold Func.isWrapper; first | (rw [if_pos (by decide +kernel)]; kernel_rfl) | (rw [if_neg (by decide +kernel)]; exact ⟨rfl, rfl⟩))
    (fun os started H enc _ => lifted os started H enc)

theorem proved : Rows.SthreeFirstSaid := over
#print axioms proved
end Go.Proofs.Ytldnacphfoagnae.sthreeFirst
