/- 'ambry/ambrylaw10.RowsMoves' returns true, for every input, and leaves its arguments as they were. No condition. -/
import Derived.Test.YtldnacphfoagnaaIn
import Derived.Test.YtldnacphfoagnaaRowsShown
import Derived.Test.YtldnacphfoagnaaRowsSepB
import Derived.WalkKit
import Derived.ProofKit
import Derived.OpenShut
import Derived.ShutString
import Derived.ChangeOld
import Derived.Below
namespace Go.Proofs.Ytldnacphfoagnaa.rowsMoves
open Go.ChangeShapes Go.WideShapes Go.ChangeAt Go.RowKit
open Go.ChangeMaps (open_string shut_string)
set_option linter.unusedVariables false

theorem own : ownKnob Try.prog.godebug = none := by kernel_rfl
theorem laidOut : laidOutB Try.prog = true := by kernel_rfl

theorem front_row {L : Nat → List Int} {x : Int} (h : mayIn 1 0 x = true) : rowL (frontL 1 L 0 x) 0 = x :: (L 0).filter (· != x) := by
  unfold frontL
  rw [h]
  rfl
theorem filter_get {p : Int → Bool} : ∀ (l : List Int) (i : Nat) (x : Int), l[i]? = some x → p x = true → (l.filter p)[((l.take i).filter p).length]? = some x
  | y :: l, 0, x, h, hp => by
    simp at h; subst h
    rw [List.filter_cons_of_pos hp]; simp
  | y :: l, i + 1, x, h, hp => by
    have ih := filter_get (p := p) l i x (by simpa using h) hp
    rw [List.take_succ_cons]
    by_cases hy : p y = true
    · rw [List.filter_cons_of_pos hy, List.filter_cons_of_pos hy]; simpa using ih
    · rw [List.filter_cons_of_neg hy, List.filter_cons_of_neg hy]; exact ih
theorem take_filter_snoc {p : Int → Bool} {l : List Int} {i : Nat} {x : Int} (h : l[i]? = some x) : ((l.take (i + 1)).filter p).length = ((l.take i).filter p).length + if p x = true then 1 else 0 := by
  have hi := (List.getElem?_eq_some_iff.1 h).1
  rw [List.take_succ_eq_append_getElem hi, List.filter_append]
  have : l[i] = x := (List.getElem?_eq_some_iff.1 h).2
  rw [this]
  by_cases hp : p x = true
  · simp [hp]
  · simp [hp]
theorem filter_lt {p : Int → Bool} {l : List Int} {i : Nat} : ((l.take i).filter p).length ≤ (l.filter p).length := by
  have h := (List.take_sublist i l).filter p
  exact h.length_le
set_option maxRecDepth 100000 in
set_option maxHeartbeats 4000000 in
theorem walk (w : World) (a0 : Option Addr) (n0 c0 : Nat) (w0 : n0 ≤ c0 ∧ ∀ i, i < n0 → InAt w a0 1 i (fun cs => ∃ x : Int, cs = [.int .i64 x] ∧ (Lit.int .i64 x).wf = true)) (a1 : Int) (w1 : (Lit.int .i64 a1).wf = true) :
    Calls Try.prog 3 #[.slice a0 n0 c0, .int .i64 a1] w fun e w' => e = .returned (.bool true) ∧ Below w.heap.size w w' := by
  have b1 := bounds_i64 w1
  go_enter Try.func3, Try.ntmps3
  go_wp2_with fail
  refine (shown_any _).mono ?_
  rintro e y1 ⟨rfl, hF⟩
  have HF := Lib.hid (hF.mono (T := From w.heap.size) (fun _ _ h => h.elim))
  clear hF
  go_wp2_with fail
  refine (new_rw (w0 := w) 1 (by decide) (by decide) HF.out).mono ?_
  rintro e y2 ⟨g, S, rfl, h, _, _⟩
  have H := Lib.hid h
  clear h HF
  go_wp2_with fail
  go_loopw [7] (fun i wr => ∃ (k N : Nat) (L : Nat → List Int) (S : Nat → Prop), k ≤ n0 ∧ k ≤ 40 ∧ N ≤ k ∧ i = .int .i64 k ∧ Sep (RW g 1 L N) w wr S) (fun i _ => 40 - (intOf i).toNat)
  case atStart => exact ⟨0, 0, _, _, by omega, by omega, by omega, rfl, H.out⟩
  case round =>
    clear H
    obtain ⟨k, N, L, S, hk, hk2, hN, rfl, h⟩ := hrel
    have Hk := Lib.hid h
    clear h
    by_cases hlt : k < n0 ∧ k < 40
    · obtain ⟨hlt, hlt2⟩ := hlt
      obtain ⟨b, off, v, rfl, hbl, hEl, hc⟩ := (w0.2 k hlt).one
      obtain ⟨x, he, hw⟩ := hEl
      simp at he
      subst he
      have hc' : wr.cell? ⟨b, off + k, none⟩ = some (.int .i64 x) := (Hk.out.fr.cell hbl (by unfold From; simp; omega)).trans hc
      obtain ⟨m1, hm1, _⟩ := and_mask x 1023 (by decide)
      have hm1' : bits .and .i64 x 1023 = m1 := hm1
      have W0 := Lib.hid w0
      clear w0 hc hm1 hw
      go_wp2_with fail
      refine (back_rw Hk.out 0 m1 (by omega)).mono ?_
      rintro e y3 ⟨rfl, h, _⟩
      have H3 := Lib.hid h
      clear h
      go_wp2_with fail
      go_roundw
      case rel => exact ⟨k + 1, N + 1, _, _, by omega, by omega, by omega, by go_num, H3.out⟩
      case measure => simp [intOf]; omega
    · obtain ⟨wz, rfl⟩ : ∃ wz : World, wz = wr := ⟨_, rfl⟩
      have hex : (k < n0 ∧ k = 40) ∨ n0 ≤ k := by omega
      clear hlt
      obtain ⟨l, hl⟩ : ∃ l, L 0 = l := ⟨_, rfl⟩
      have e0 : rowL L 0 = l := (rowL_nat L 0).trans hl
      have hll : l.length ≤ 40 := by have := RowsAt.len_le Hk.out.at_ 0; rw [hl] at this; omega
      have hnd : l.Nodup := by have := RowsAt.nodup Hk.out.at_ (r := 0) (by decide); rw [hl] at this; exact this
      have hrg : ∀ x, x ∈ l → 0 ≤ x ∧ x ≤ 4194303 := fun x hx => RowsAt.range Hk.out.at_ (r := 0) (by decide) (by rw [hl]; exact hx)
      have HL := Lib.hid (And.intro hl (And.intro e0 (And.intro hnd hrg)))
      clear hl e0 hnd hrg
      rcases hex with ⟨hlt, rfl⟩ | hge
      all_goals
        go_upto_region 10 with (go_at_call 11; refine (all_rw Hk.out 0 (by omega)).mono ?_; rintro e y4 ⟨v, rfl, hs, h, _⟩; have H4 := Lib.hid (And.intro h hs); clear h hs)
        have hs := H4.out.2
        rw [HL.out.2.1] at hs
        obtain ⟨va, vcap, rfl, hv⟩ := sl_at hs
        have HV := Lib.hid hv
        clear hs hv
        by_cases hm : l.length = 0
        · have hl0 : l = [] := List.eq_nil_of_length_eq_zero hm
          have hlast : lastOf (rowL L 0) = -1 := by rw [HL.out.2.1, hl0]; rfl
          have HX := Lib.hid hlast
          have hm2 : ((l.length : Int) == 0) = true := by simp [hm]
          clear hl0 hlast hm
          go_wp2_with fail
          refine (last_rw H4.out.1 0).mono ?_
          rintro e y5 ⟨q5, rfl, rfl, h⟩
          have H5 := Lib.hid h
          clear h
          rw [HX.out]
          go_wp2
          go_ret
          exact ⟨rfl, H5.out.below⟩
        · have hm2 : ((l.length : Int) == 0) = false := by rw [beq_eq_false_iff_ne]; omega
          go_upto_if 47 with fail
          go_cut [1] (fun s wx => ∃ p : Nat, p ≤ 9223372036854775807 ∧ s = .int .i64 p ∧ y4 = wx)
          case first =>
            by_cases hp : a1 < 0
            · go_wp2
              go_meet
              exact ⟨(-(a1 + 1)).toNat, by omega, by rw [Int.toNat_of_nonneg (by omega)], rfl⟩
            · go_wp2
              go_meet
              exact ⟨a1.toNat, by omega, by rw [Int.toNat_of_nonneg (by omega)], rfl⟩
          case rest =>
            obtain ⟨p, hp, rfl, rfl⟩ := hcut
            have hq : p % l.length < l.length := Nat.mod_lt _ (by omega)
            obtain ⟨q, hqe⟩ : ∃ q, p % l.length = q := ⟨_, rfl⟩
            rw [hqe] at hq
            obtain ⟨x, hx⟩ : ∃ x, l[q]? = some x := ⟨_, List.getElem?_eq_getElem hq⟩
            obtain ⟨b, off, rfl, hb, _, hcx, _⟩ := HV.out q x hx
            have hqe2 : (p : Int) % (l.length : Int) = q := by rw [← hqe]; simp
            have hxm := List.mem_of_getElem? hx
            have hmay : mayIn 1 0 x = true := decide_eq_true ⟨by decide, by decide, HL.out.2.2.2 x hxm⟩
            have HX := Lib.hid (And.intro hx (And.intro hxm (And.intro hmay (And.intro hb hqe))))
            clear hx hxm hmay hqe hb
            go_wp2_with fail
            refine (front_rw H4.out.1 0 x (by omega)).mono ?_
            rintro e y5 ⟨rfl, h, hF⟩
            have H5 := Lib.hid (And.intro h (Held.step H4.out.2 hF))
            clear h hF
            rw [HX.out.2.2.1]
            have er := front_row (L := L) HX.out.2.2.1
            rw [HL.out.1] at er
            have hlen := len_take HL.out.2.2.1 HX.out.2.1
            obtain ⟨l2, hl2⟩ : ∃ l2, x :: l.filter (· != x) = l2 := ⟨_, rfl⟩
            rw [hl2] at er
            have hln2 : l2.length = l.length := by rw [← hl2]; simp; omega
            have HE := Lib.hid (And.intro er (And.intro hl2 hln2))
            clear er hlen hl2 hln2
            go_upto_region 17 with (go_at_call 11; refine (all_rw H5.out.1 0 (by omega)).mono ?_; rintro e y6 ⟨v2, rfl, hs, h, hF⟩; have H6 := Lib.hid (And.intro h (And.intro hs (Held.keep H5.out.2 hF (fun b hb => by omega)))); clear h hs hF)
            have hs := H6.out.2.1
            rw [HE.out.1] at hs
            obtain ⟨v2a, v2cap, rfl, hv2⟩ := sl_at hs
            have hs1 := H6.out.2.2
            rw [HL.out.2.1] at hs1
            obtain ⟨v1a, v1cap, hve, hv1⟩ := sl_at hs1
            simp at hve
            obtain ⟨rfl, rfl⟩ := hve
            rw [HE.out.2.2]
            have h20 : l2[0]? = some x := by rw [← HE.out.2.1]; rfl
            obtain ⟨b2, off2, rfl, hb2, _, hc2, _⟩ := hv2 0 x h20
            have HV2 := Lib.hid (And.intro hv2 hv1)
            clear hs hs1 hv1 hv2 h20 hb2 hcx
            simp only [Nat.add_zero] at hc2
            have hm3 : (0 : Int) < l.length := by omega
            go_wp2_with fail
            clear hc2 hqe2 hm2 hm3
            obtain ⟨wy, rfl⟩ : ∃ wy : World, wy = y6 := ⟨_, rfl⟩
            have hd0 : ∃ m, wy = wy.drewN m := ⟨0, rfl⟩
            have HD0 := Lib.hid hd0
            clear hd0
            go_loopw [11, 12] (fun s t wr => ∃ (i m c : Nat), i ≤ l.length ∧ c = ((l.take i).filter (· != x)).length ∧ t = .int .i64 i ∧ s = .int .i64 (1 + c) ∧ wr = wy.drewN m) (fun _ t _ => l.length - (intOf t).toNat)
            case atStart => exact ⟨0, 0, 0, by omega, by simp, rfl, rfl, rfl⟩
            case round =>
              obtain ⟨i, m, c, hi, hc, rfl, rfl, rfl⟩ := hrel
              have hci : c ≤ i := by rw [hc]; exact Nat.le_trans (List.length_filter_le _ _) (List.length_take_le _ _)
              have HC := Lib.hid hc
              clear hc HD0
              by_cases hil : i < l.length
              · obtain ⟨xi, hxi⟩ : ∃ xi, l[i]? = some xi := ⟨_, List.getElem?_eq_getElem hil⟩
                obtain ⟨b', off', hv, hbi, _, hci1, _⟩ := HV2.out.2 i xi hxi
                simp at hv
                obtain ⟨rfl, rfl⟩ := hv
                have htf := take_filter_snoc (p := (· != x)) hxi
                rw [← HC.out] at htf
                by_cases hxx : xi = x
                · subst hxx
                  simp at htf
                  have HT := Lib.hid htf
                  clear htf hxi
                  go_wp2
                  go_roundw
                  case rel => exact ⟨i + 1, m, c, by omega, HT.out.symm, by go_num, by go_num, rfl⟩
                  case measure => simp [intOf]; omega
                · have hp : (xi != x) = true := by simpa using hxx
                  have hp2 : (xi == x) = false := by simpa using hxx
                  have hfg := filter_get (p := (· != x)) l i xi hxi hp
                  rw [← HC.out] at hfg
                  have hcl : c < (l.filter (· != x)).length := (List.getElem?_eq_some_iff.1 hfg).1
                  have hl2l : l2.length = (l.filter (· != x)).length + 1 := by rw [← HE.out.2.1]; simp
                  rw [HE.out.2.2] at hl2l
                  have hg2 : l2[1 + c]? = some xi := by rw [← HE.out.2.1, Nat.add_comm, List.getElem?_cons_succ]; exact hfg
                  obtain ⟨b', off', hv, hbj, _, hcj, _⟩ := HV2.out.1 (1 + c) xi hg2
                  simp at hv
                  obtain ⟨rfl, rfl⟩ := hv
                  rw [if_pos hp] at htf
                  have HT := Lib.hid htf
                  have hdec : decide ((l.length : Int) ≤ 1 + (c : Int)) = false := decide_eq_false (by omega)
                  have hlt3 : (1 + (c : Int)) < l.length := by omega
                  have htn : (1 + (c : Int)).toNat = 1 + c := by omega
                  have hwr : IntKind.i64.wrap (1 + (c : Int)) = 1 + c := by rw [IntKind.wrap_i64]; omega
                  clear htf hxi hfg hcl hl2l hg2 hxx hp
                  go_wp2_with fail
                  go_quiet (fail)
                  go_wp2
                  go_roundw
                  case rel => exact ⟨i + 1, _, c + 1, by omega, HT.out.symm, by go_num, by go_num, rfl⟩
                  case measure => simp [intOf]; omega
              · go_wp2
                go_ret
                exact ⟨rfl, below_drewN H6.out.1.below _⟩

set_option maxRecDepth 100000 in
theorem lifted (os : Os) (started : os.Started) (H : Type) (enc : TypeId × Value → H) :
    ReturnsInHanded {} Try.checked os 3 .any (Rows.rowsMovesSpec.pre6 enc Try.prog Try.f3 Rows.rowsMovesRow.domain false) (Rows.rowsMovesSpec.post enc Try.prog Try.f3 false true false false) := by
  refine returnsInHanded_of_change (C := Try.checked) own started (by kernel_rfl) Try.func3
    (ChangeSpec.witness6 (enc := enc) (C := Try.checked) false ⟨#[], #[.slice none 0 0, .int .i64 0], []⟩ 8 (by kernel_rfl) (by kernel_rfl) (by kernel_rfl) (by kernel_rfl)) ?_
  intro W base args ds gs before hval0 hW hcnd _
  have hval : ∀ (j : Nat) t v, Try.f3.params[j]? = some t → args[j]? = some v → Value.okWide Try.prog W .any base t v := hval0
  have hW' := hW
  obtain ⟨p, q, hA0, hV, rfl, hfz, hnd⟩ := hW
  have hA : DataW.TrodAll enc Try.prog W 0 (fun _ => true) true Try.f3.params.toList args.toList ds p := hA0
  rw [Try.params3] at hA hval
  obtain ⟨v0, vs0, d0, ds0, p0, q0, hargs, rfl, rfl, h0, r0⟩ := trodAll_cons hA
  obtain ⟨v1, vs1, d1, ds1, p1, q1, rfl, rfl, rfl, h1, r1⟩ := trodAll_cons r0
  obtain ⟨rfl, rfl, rfl⟩ := trodAll_nil r1
  obtain rfl : args = #[v0, v1] := by cases args; simp_all
  obtain ⟨rfl, rfl⟩ := trodVars_none hV
  obtain ⟨a0, n0, c0, rfl⟩ := okWide_slice Try.underlying22 (hval 0 22 v0 rfl rfl)
  have k0 := h0
  have lt0 : ∀ x ∈ p0, x.block < W.heap.size := by obtain ⟨m, hm⟩ := k0; exact DataW.trod_lt m _ _ _ hm
  have w0 := open_in (C := fun cs => ∃ x : Int, cs = [.int .i64 x] ∧ (Lit.int .i64 x).wf = true) Try.underlying22 k0 1 (by kernel_rfl) (by decide) (fun m cs x h => by obtain ⟨x, e, _, hw⟩ := DataW.trod_int Try.underlying3 h; exact ⟨x, e, hw⟩)
  obtain ⟨a1, rfl, rfl, rfl, w1⟩ := open_int Try.underlying3 (hval 1 3 v1 rfl rfl) h1
  clear hA0 hval0
  refine (walk W a0 n0 c0 w0 a1 w1).mono fun e W' ⟨he, bel⟩ => ?_
  subst he
  exact ⟨_, rfl, _, _, _, [], _, [], hW', trodAll_mk1 (shut_bool Try.underlying4 _), (trodAll_cons_mk (Below.trod laidOut (by kernel_rfl) (of_decide_eq_true (by kernel_rfl)) k0 bel lt0) (trodAll_cons_mk (shut_int Try.underlying3 w1) trodAll_mk0)), rfl, bel.frame _, fun h => by cases h⟩

theorem over : Rows.rowsMovesRow.holds Try.pinned (OpenSpec.ofChange Rows.rowsMovesSpec) :=
  OpenClaim.holds_of_wide 3 Try.f3 rfl rfl rfl rfl rfl rfl rfl ⟨rfl, rfl, rfl, rfl, rfl⟩ rfl rfl rfl rfl rfl (by kernel_rfl) Try.func3 (by kernel_rfl)
    (of_decide_eq_true (by kernel_rfl)) (by unfold Func.isWrapper; first | (rw [if_pos (by decide +kernel)]; kernel_rfl) | (rw [if_neg (by decide +kernel)]; exact ⟨rfl, rfl⟩))
    (fun os started H enc _ => lifted os started H enc)

theorem proved : Rows.RowsMovesSaid := over
#print axioms proved
end Go.Proofs.Ytldnacphfoagnaa.rowsMoves
