/- 'ambry/ambrylaw15.PolicyPlain' returns true, for every input, and leaves its arguments as they were. No condition. -/
import Derived.Test.YtldnacphfoagnafIn
import Derived.Test.YtldnacphfoagnafPolLast
import Derived.Test.YtldnacphfoagnafPolIn
import Derived.Test.YtldnacphfoagnafIn
import Derived.Deep.QuietTactic
import Derived.BigQuiet
import Derived.Deep.DeepCutAuto
import Derived.Deep.CutBlock
import Derived.Deep.RegionHeld3
import Derived.WalkKit
import Derived.ProofKit
import Derived.OpenShut
import Derived.ShutString
import Derived.ChangeOld
import Derived.Below
namespace Go.Proofs.Ytldnacphfoagnaf.policyPlain
open Go.ChangeShapes Go.WideShapes Go.ChangeAt Go.RowKit
open Go.ChangeMaps (open_string shut_string)
set_option linter.unusedVariables false

theorem own : ownKnob Try.prog.godebug = none := by kernel_rfl
theorem laidOut : laidOutB Try.prog = true := by kernel_rfl

set_option maxRecDepth 100000 in
set_option maxHeartbeats 4000000 in
theorem walk (w : World) (a0 : Int) (w0 : (Lit.int .i64 a0).wf = true) (a1 : Option Addr) (n1 c1 : Nat) (w1 : n1 ≤ c1 ∧ ∀ i, i < n1 → InAt w a1 1 i (fun cs => ∃ x : Int, cs = [.int .i64 x] ∧ (Lit.int .i64 x).wf = true)) :
    Calls Try.prog 4 #[.int .i64 a0, .slice a1 n1 c1] w fun e w' => e = .returned (.bool true) ∧ Below w.heap.size w w' := by
  have b0 := bounds_i64 w0
  go_enter Try.func4, Try.ntmps4
  go_wp2_with fail
  refine (shown_any _).mono ?_
  rintro e y1 ⟨rfl, hB⟩
  have HF := Lib.hid (Fr.of_below hB)
  clear hB
  go_upto_if 15 with fail
  go_cut [0] (fun s wx => ∃ q : Nat, q ≤ 9223372036854775807 ∧ s = .int .i64 q ∧ y1 = wx)
  case first =>
    by_cases hp : a0 < 0
    · go_wp2
      go_meet
      exact ⟨(-(a0 + 1)).toNat, by omega, by rw [Int.toNat_of_nonneg (by omega)], rfl⟩
    · go_wp2
      go_meet
      exact ⟨a0.toNat, by omega, by rw [Int.toNat_of_nonneg (by omega)], rfl⟩
  case rest =>
    obtain ⟨q0, hq0, rfl, rfl⟩ := hcut
    clear b0
    go_upto_region 4 with fail
    go_cut [0] (fun s wx => ∃ n : Nat, 1 ≤ n ∧ n ≤ 12 ∧ s = .int .i64 n ∧ y1 = wx)
    case first =>
      go_wp2
      go_meet
      exact ⟨1 + q0 % 12, by omega, by omega, by simp <;> omega, rfl⟩
    case rest =>
      obtain ⟨pl, hp1, hp12, rfl, rfl⟩ := hcut
      clear hq0
      go_wp2_with fail
      refine (new_pks (w0 := w) 0 (by omega) HF.out).mono ?_
      rintro e y2 ⟨p, S, rfl, h, _, _⟩
      have H3 := Lib.hid (show Sep (PKs p (PK.pl (fun _ => [])) 0 0) w y2 S from h)
      clear h HF
      have HB := Lib.hid (show Held w (y2.alloc (.cells (List.replicate 32 (.int .i64 0)).toArray 34)) S 34 1 (.slice (some ⟨y2.heap.size, 0, none⟩) 32 32) 32 (ints 32 (fun _ => 0)) from by
        have := Held.array (w0 := w) (W := y2) (S := S) (T := 34) (n := 32) (by decide) (ints 32 (fun _ => 0)) (ints_len _ _) (fun b s => H3.out.hi b s) H3.out.fr.size
        rw [ints_zero] at this
        rw [ints_zero]
        exact this)
      go_wp2_with fail
      obtain ⟨ib, hib⟩ : ∃ ib, y2.heap.size = ib := ⟨_, rfl⟩
      rw [hib] at HB ⊢
      go_loopw [8, 9, 10, 11, 12] (fun nn s _ _ _ wr => ∃ (k N M : Nat) (L : Nat → List Int) (f : Int → Int) (S : Nat → Prop), k ≤ n1 ∧ k ≤ 200 ∧ N ≤ 2 * k ∧ M ≤ k ∧ (L 0).length ≤ pl ∧ nn = .int .i64 (L 0).length ∧ s = .int .i64 k ∧ Sep (PKs p (PK.pl L) N M) w wr S ∧ Held w wr S 34 1 (.slice (some ⟨ib, 0, none⟩) 32 32) 32 (ints 32 f) ∧ PP k (L 0) f) (fun _ s _ _ _ _ => 200 - (intOf s).toNat)
      case atStart => exact ⟨0, 0, 0, _, _, _, by omega, by omega, by omega, by omega, by simp, rfl, rfl, pks_alloc H3.out _, HB.out, PP.start⟩
      case round =>
        clear H3 HB hib
        obtain ⟨k, N, M, L, f, S, hk, hk2, hN, hM, hXl, rfl, rfl, h, hb, hL⟩ := hrel
        obtain ⟨l, hl⟩ : ∃ l, L 0 = l := ⟨_, rfl⟩
        rw [hl] at hXl hL ⊢
        have Hk := Lib.hid (And.intro h (And.intro hb (And.intro hL hl)))
        clear h hb hL hl
        obtain ⟨xl, hxl⟩ : ∃ xl, l.length = xl := ⟨_, rfl⟩
        rw [hxl] at hXl ⊢
        have HXL := Lib.hid hxl
        clear hxl
        by_cases hlt : k < n1 ∧ k < 200
        · obtain ⟨hlt, hlt2⟩ := hlt
          obtain ⟨b, off, vv, rfl, hbl, hEl, hc⟩ := (w1.2 k hlt).one
          obtain ⟨x, he, hw⟩ := hEl
          simp at he
          subst he
          have hc' : wr.cell? ⟨b, off + k, none⟩ = some (.int .i64 x) := (Hk.out.1.fr.cell hbl (by unfold From; simp; omega)).trans hc
          obtain ⟨m, hm, hmb⟩ := and_mask x 31 (by decide)
          have hm' : bits .and .i64 x 31 = m := hm
          have W1 := Lib.hid w1
          have hm32 : (m : Int) < 32 := by omega
          have HNN := Lib.hid (And.intro (show N + 1 < 1000000 by omega) (And.intro (show M < 1000000 by omega) (And.intro (show (0 : Int) ≤ m ∧ (m : Int) ≤ 4194303 by omega) (show (0 : Int) ≤ m ∧ (m : Int) < 32 by omega))))
          have hk64 : (k : Int) ≤ 200 := by omega
          clear w1 hc hm hw
          go_wp2_with fail
          refine (touch_pks Hk.out.1 m (Nat.lt_of_succ_lt HNN.out.1)).mono ?_
          rintro e z1 ⟨rfl, h, hF⟩
          have Z1 := Lib.hid (And.intro h (Held.step Hk.out.2.1 hF))
          clear h hF
          rw [pl_touB HNN.out.2.2.1, Hk.out.2.2.2]
          by_cases hin : (m : Int) ∈ l
          · rw [decide_eq_true hin]
            have hf1 := (held_int Z1.out.2 (i := m) (by omega)).2.1
            have hc1 := (held_int Z1.out.2 (i := m) (by omega)).1
            have hset := pks_held_set Z1.out.1 Z1.out.2 (i := m) (by omega) (.int .i64 ((k : Int) + 1))
            rw [Nat.zero_add, ints_setF _ (by omega)] at hset
            have hL0 := (pl_tou HNN.out.2.2.1).1 (Hk.out.2.2.2.symm ▸ hin)
            rw [Hk.out.2.2.2] at hL0
            have hlen := len_drop Hk.out.2.2.1.nd (m : Int)
            rw [if_pos hin, HXL.out] at hlen
            have Z2 := Lib.hid (And.intro hset (And.intro hL0 hlen))
            clear hset hL0 hlen
            go_wp2_with fail
            go_roundw
            case rel => exact ⟨k + 1, N + 1, M, touP L m, _, _, by omega, by omega, by omega, by omega, by rw [Z2.out.2.1, List.length_cons]; have := Z2.out.2.2; omega, by rw [Z2.out.2.1, List.length_cons, Z2.out.2.2], by go_num, Z2.out.1.2, Z2.out.1.1, by rw [Z2.out.2.1]; exact Hk.out.2.2.1.up HNN.out.2.2.2⟩
            case measure => simp [intOf]; omega
          · rw [decide_eq_false hin]
            have HNO := Lib.hid hin
            have htp := (pl_tou HNN.out.2.2.1).2 (Hk.out.2.2.2.symm ▸ hin)
            have HT := Lib.hid htp
            clear hin htp
            by_cases hf : xl = pl
            · subst hf
              have hne : l ≠ [] := fun e => by have := HXL.out; rw [e] at this; simp at this; omega
              have HNE := Lib.hid hne
              clear hne
              go_wp2_with fail
              obtain ⟨wz, rfl⟩ : ∃ wz : World, wz = wr := ⟨_, rfl⟩
              go_loopw [11, 12] (fun v s wr => ∃ (j : Nat) (vv : Int), j ≤ 32 ∧ -1 ≤ vv ∧ vv ≤ 31 ∧ v = .int .i64 vv ∧ s = .int .i64 j ∧ Lst f j vv ∧ Fr (fun b => z1.heap.size ≤ b) z1 wr) (fun _ s _ => 32 - (intOf s).toNat)
              case atStart => exact ⟨0, -1, by omega, by omega, by omega, rfl, rfl, Lst.zero f, Fr.refl _ _⟩
              case round =>
                obtain ⟨j, v, hj, hv1, hv2, rfl, rfl, hLs, hFj⟩ := hrel
                have Hj := Lib.hid (And.intro hLs (And.intro hFj (Held.keep Z1.out.2 hFj (fun b hb => by omega))))
                clear hLs hFj
                by_cases hj32 : j < 32
                · obtain ⟨fj, hfj⟩ : ∃ x, f j = x := ⟨_, rfl⟩
                  have hcj := (held_int Hj.out.2.2 (i := j) hj32).1
                  rw [hfj] at hcj
                  have hj32' : (j : Int) < 32 := by omega
                  by_cases hp : 0 < fj
                  · have hpd : decide (0 < fj) = true := decide_eq_true hp
                    by_cases hvn : v < 0
                    · have hvd : decide (v < 0) = true := decide_eq_true hvn
                      have HL := Lib.hid (Hj.out.1.new (by rw [hfj]; exact hp) (.inl hvn))
                      have HFJ := Lib.hid hfj
                      clear hfj
                      go_wp2_with fail
                      go_quiet (fail)
                      go_wp2_with fail
                      go_roundw
                      case rel => exact ⟨j + 1, (j : Int), by omega, by omega, by omega, rfl, by go_num, HL.out, Hj.out.2.1.drewN nq⟩
                      case measure => simp [intOf]; omega
                    · have hvd : decide (v < 0) = false := decide_eq_false hvn
                      obtain ⟨u, rfl⟩ : ∃ u : Nat, v = u := ⟨v.toNat, by omega⟩
                      obtain ⟨fu, hfu⟩ : ∃ x, f u = x := ⟨_, rfl⟩
                      have hcu := (held_int Hj.out.2.2 (i := u) (by omega)).1
                      rw [hfu] at hcu
                      have hu32' : (u : Int) < 32 := by omega
                      by_cases hlf : fj < fu
                      · have hld : decide (fj < fu) = true := decide_eq_true hlf
                        have HL := Lib.hid (Hj.out.1.new (by rw [hfj]; exact hp) (.inr (by rw [hfj, hfu]; exact hlf)))
                        have HFJ := Lib.hid (And.intro hfj hfu)
                        clear hfj hfu
                        go_wp2_with fail
                        go_quiet (fail)
                        go_wp2_with fail
                        go_roundw
                        case rel => exact ⟨j + 1, (j : Int), by omega, by omega, by omega, rfl, by go_num, HL.out, Hj.out.2.1.drewN nq⟩
                        case measure => simp [intOf]; omega
                      · have hld : decide (fj < fu) = false := decide_eq_false hlf
                        have HL := Lib.hid (Hj.out.1.same (.inr ⟨by omega, by rw [hfj, hfu]; exact hlf⟩))
                        have HFJ := Lib.hid (And.intro hfj hfu)
                        clear hfj hfu
                        go_wp2_with fail
                        go_quiet (fail)
                        go_wp2_with fail
                        go_roundw
                        case rel => exact ⟨j + 1, (u : Int), by omega, by omega, by omega, rfl, by go_num, HL.out, Hj.out.2.1.drewN nq⟩
                        case measure => simp [intOf]; omega
                  · have hpd : decide (0 < fj) = false := decide_eq_false hp
                    have HL := Lib.hid (Hj.out.1.same (.inl (by rw [hfj]; exact hp)))
                    have HFJ := Lib.hid hfj
                    clear hfj
                    go_wp2_with fail
                    go_quiet (fail)
                    go_wp2_with fail
                    go_roundw
                    case rel => exact ⟨j + 1, v, by omega, by omega, by omega, rfl, by go_num, HL.out, Hj.out.2.1.drewN nq⟩
                    case measure => simp [intOf]; omega
                · have hj3 : j = 32 := by omega
                  subst hj3
                  obtain ⟨e1, e2, e3, e4⟩ := Hk.out.2.2.1.want HNE.out Hj.out.1
                  obtain ⟨u, rfl⟩ : ∃ u : Nat, v = u := ⟨v.toNat, by omega⟩
                  have hLw := pks_keep Z1.out.1 Hj.out.2.1 (fun b hb _ => by omega) (fun b hb => by have := Z1.out.1.fr.size; omega)
                  rw [show (PK.pl L).tou m = PK.pl L from congrArg PK.pl HT.out] at hLw
                  have HU := Lib.hid (And.intro e1 (And.intro e4 hLw))
                  have hu32 : (u : Int) < 32 := by omega
                  have hu31 : u < 32 := by omega
                  clear e1 e2 e3 e4 hLw
                  go_wp2_with fail
                  refine (victim_pks HU.out.2.2 0 (show N + 1 + 0 < 1000000 from HNN.out.1)).mono ?_
                  rintro e z2 ⟨rfl, h, hF⟩
                  have hvu : (PK.pl L).vicI 0 = (u : Int) := by show lastOf (L 0) = _; rw [Hk.out.2.2.2]; exact HU.out.1.symm
                  rw [hvu]
                  have Z2 := Lib.hid (And.intro (show Sep (PKs p (PK.pl L) (N + 1 + 0) M) w z2 _ from h) (Held.step Hj.out.2.2 hF))
                  clear h hF hvu
                  go_wp2_with fail
                  refine (evict_pks Z2.out.1 u (Nat.le_of_lt HNN.out.1) HNN.out.2.1).mono ?_
                  rintro e z3 ⟨rfl, h, hF⟩
                  have hbu : (PK.pl L).hasB u = true := decide_eq_true (one_row.2 (show (u : Int) ∈ L 0 by rw [Hk.out.2.2.2]; exact HU.out.2.1))
                  rw [hbu]
                  have hH := Held.step Z2.out.2 hF
                  have hfu := (held_int hH (i := u) hu31).2.1
                  have hcu := (held_int hH (i := u) hu31).1
                  have hset := pks_held_set h hH (i := u) hu31 (.int .i64 0)
                  rw [Nat.zero_add, ints_setF _ hu31] at hset
                  have Z3 := Lib.hid hset
                  clear h hF hH hset hbu
                  go_wp2_with fail
                  refine (insert_pks (show Sep (PKs p (PK.pl (del L u)) (N + 1 + 0) (M + 1)) w _ _ from Z3.out.2) m 0 (show N + 1 + 0 < 1000000 by have := HNN.out.1; omega) (show M + 1 ≤ 1000000 by have := HNN.out.2.1; omega) trivial).mono ?_
                  rintro e z4 ⟨rfl, h, hF⟩
                  have hH := Held.step Z3.out.1 hF
                  have hf4 := (held_int hH (i := m) (by omega)).2.1
                  have hc4 := (held_int hH (i := m) (by omega)).1
                  have hset := pks_held_set (show Sep (PKs p (PK.pl (insP (del L u) m)) (N + 1 + 0 + 1) (M + 1)) w z4 _ from h) hH (i := m) (by omega) (.int .i64 ((k : Int) + 1))
                  rw [Nat.zero_add, ints_setF _ (by omega)] at hset
                  have hno2 : (m : Int) ∉ l.filter (· != (u : Int)) := fun q => HNO.out (List.mem_filter.1 q).1
                  have hL0 : insP (del L u) m 0 = (m : Int) :: (l.filter (· != (u : Int))).filter (· != (m : Int)) := by rw [pl_ins HNN.out.2.2.1 (show (m : Int) ∉ del L u 0 by show (m : Int) ∉ (L 0).filter _; rw [Hk.out.2.2.2]; exact hno2)]; show (m : Int) :: ((L 0).filter _).filter _ = _; rw [Hk.out.2.2.2]
                  have hlen : ((m : Int) :: (l.filter (· != (u : Int))).filter (· != (m : Int))).length = xl := by
                    rw [filter_no hno2, List.length_cons]
                    have := len_drop Hk.out.2.2.1.nd (u : Int); rw [if_pos HU.out.2.1, HXL.out] at this; exact this
                  have Z4 := Lib.hid (And.intro hset (And.intro hL0 hlen))
                  clear h hF hH hset hL0 hlen hno2
                  go_wp2_with fail
                  go_roundw
                  case rel => exact ⟨k + 1, N + 1 + 0 + 1, M + 1, insP (del L u) m, _, _, by omega, by omega, by omega, by omega, by have := Z4.out.2.2; rw [Z4.out.2.1]; omega, by (rw [Z4.out.2.1, Z4.out.2.2]) <;> (first | done | rfl | go_num), by go_num, Z4.out.1.2, Z4.out.1.1, by rw [Z4.out.2.1]; exact (Hk.out.2.2.1.drop u).up HNN.out.2.2.2⟩
                  case measure => simp [intOf]; omega
            · have hf1 : (xl == pl) = false := by rw [beq_eq_false_iff_ne]; omega
              have hf2 : ((xl : Int) == (pl : Int)) = false := by rw [beq_eq_false_iff_ne]; omega
              go_wp2_with fail
              refine (insert_pks (show Sep (PKs p (PK.pl L) (N + 1) M) w _ _ from (show (PK.pl L).tou m = PK.pl L from congrArg PK.pl HT.out) ▸ Z1.out.1) m 0 (show N + 1 < 1000000 by have := HNN.out.1; omega) (show M ≤ 1000000 by have := HNN.out.2.1; omega) trivial).mono ?_
              rintro e z4 ⟨rfl, h, hF⟩
              have hH := Held.step Z1.out.2 hF
              have hf4 := (held_int hH (i := m) (by omega)).2.1
              have hc4 := (held_int hH (i := m) (by omega)).1
              have hset := pks_held_set (show Sep (PKs p (PK.pl (insP (L) m)) (N + 1 + 1) (M)) w z4 _ from h) hH (i := m) (by omega) (.int .i64 ((k : Int) + 1))
              rw [Nat.zero_add, ints_setF _ (by omega)] at hset
              have hno2 : (m : Int) ∉ l := HNO.out
              have hL0 : insP (L) m 0 = (m : Int) :: (l).filter (· != (m : Int)) := by rw [pl_ins HNN.out.2.2.1 (by rw [Hk.out.2.2.2]; exact hno2), Hk.out.2.2.2]
              have hlen : ((m : Int) :: (l).filter (· != (m : Int))).length = xl + 1 := by
                rw [filter_no hno2, List.length_cons]
                rw [HXL.out]
              have Z4 := Lib.hid (And.intro hset (And.intro hL0 hlen))
              clear h hF hH hset hL0 hlen hno2
              go_wp2_with fail
              go_roundw
              case rel => exact ⟨k + 1, N + 1 + 1, M, insP (L) m, _, _, by omega, by omega, by omega, by omega, by have := Z4.out.2.2; rw [Z4.out.2.1]; omega, by (rw [Z4.out.2.1, Z4.out.2.2]) <;> (first | done | rfl | go_num), by go_num, Z4.out.1.2, Z4.out.1.1, by rw [Z4.out.2.1]; exact Hk.out.2.2.1.up HNN.out.2.2.2⟩
              case measure => simp [intOf]; omega
        · have hex : (k < n1 ∧ k = 200) ∨ n1 ≤ k := by omega
          clear hlt
          have hNN : N ≤ 1000000 := by omega
          rcases hex with ⟨hlt, rfl⟩ | hge
          all_goals
            go_wp2_with fail
            refine (len_pks Hk.out.1 hNN).mono ?_
            rintro e z1 ⟨rfl, j1, rfl, h⟩
            have ho := pol_ok h.at_
            have hlen : (PK.pl L).len = xl := by
              show (L 0).length + (L 1).length + (L 2).length = xl
              rw [show L 1 = [] from ho.nil 1 (show 1 ≤ 1 by decide), show L 2 = [] from ho.nil 2 (show 1 ≤ 2 by decide), Hk.out.2.2.2, HXL.out]
              rfl
            rw [hlen]
            have Z1 := Lib.hid h
            clear h ho hlen
            go_wp2
            go_ret
            exact ⟨rfl, Z1.out.below⟩

set_option maxRecDepth 100000 in
theorem lifted (os : Os) (started : os.Started) (H : Type) (enc : TypeId × Value → H) :
    ReturnsInHanded {} Try.checked os 4 .any (Rows.policyPlainSpec.pre6 enc Try.prog Try.f4 Rows.policyPlainRow.domain false) (Rows.policyPlainSpec.post enc Try.prog Try.f4 false true false false) := by
  refine returnsInHanded_of_change (C := Try.checked) own started (by kernel_rfl) Try.func4
    (ChangeSpec.witness6 (enc := enc) (C := Try.checked) false ⟨#[], #[.int .i64 0, .slice none 0 0], []⟩ 8 (by kernel_rfl) (by kernel_rfl) (by kernel_rfl) (by kernel_rfl)) ?_
  intro W base args ds gs before hval0 hW hcnd _
  have hval : ∀ (j : Nat) t v, Try.f4.params[j]? = some t → args[j]? = some v → Value.okWide Try.prog W .any base t v := hval0
  have hW' := hW
  obtain ⟨p, q, hA0, hV, rfl, hfz, hnd⟩ := hW
  have hA : DataW.TrodAll enc Try.prog W 0 (fun _ => true) true Try.f4.params.toList args.toList ds p := hA0
  rw [Try.params4] at hA hval
  obtain ⟨v0, vs0, d0, ds0, p0, q0, hargs, rfl, rfl, h0, r0⟩ := trodAll_cons hA
  obtain ⟨v1, vs1, d1, ds1, p1, q1, rfl, rfl, rfl, h1, r1⟩ := trodAll_cons r0
  obtain ⟨rfl, rfl, rfl⟩ := trodAll_nil r1
  obtain rfl : args = #[v0, v1] := by cases args; simp_all
  obtain ⟨rfl, rfl⟩ := trodVars_none hV
  obtain ⟨a0, rfl, rfl, rfl, w0⟩ := open_int Try.underlying3 (hval 0 3 v0 rfl rfl) h0
  obtain ⟨a1, n1, c1, rfl⟩ := okWide_slice Try.underlying22 (hval 1 22 v1 rfl rfl)
  have k1 := h1
  have lt1 : ∀ x ∈ p1, x.block < W.heap.size := by obtain ⟨m, hm⟩ := k1; exact DataW.trod_lt m _ _ _ hm
  have w1 := open_in (C := fun cs => ∃ x : Int, cs = [.int .i64 x] ∧ (Lit.int .i64 x).wf = true) Try.underlying22 k1 1 (by kernel_rfl) (by decide) (fun m cs x h => by obtain ⟨x, e, _, hw⟩ := DataW.trod_int Try.underlying3 h; exact ⟨x, e, hw⟩)
  clear hA0 hval0
  refine (walk W a0 w0 a1 n1 c1 w1).mono fun e W' ⟨he, bel⟩ => ?_
  subst he
  exact ⟨_, rfl, _, _, _, [], _, [], hW', trodAll_mk1 (shut_bool Try.underlying4 _), (trodAll_cons_mk (shut_int Try.underlying3 w0) (trodAll_cons_mk (Below.trod laidOut (by kernel_rfl) (of_decide_eq_true (by kernel_rfl)) k1 bel lt1) trodAll_mk0)), rfl, bel.frame _, fun h => by cases h⟩

theorem over : Rows.policyPlainRow.holds Try.pinned (OpenSpec.ofChange Rows.policyPlainSpec) :=
  OpenClaim.holds_of_wide 4 Try.f4 rfl rfl rfl rfl rfl rfl rfl ⟨rfl, rfl, rfl, rfl, rfl⟩ rfl rfl rfl rfl rfl (by kernel_rfl) Try.func4 (by kernel_rfl)
    (of_decide_eq_true (by kernel_rfl)) (by unfold Func.isWrapper; first | (rw [if_pos (by decide +kernel)]; kernel_rfl) | (rw [if_neg (by decide +kernel)]; exact ⟨rfl, rfl⟩))
    (fun os started H enc _ => lifted os started H enc)

theorem proved : Rows.PolicyPlainSaid := over
#print axioms proved
end Go.Proofs.Ytldnacphfoagnaf.policyPlain
