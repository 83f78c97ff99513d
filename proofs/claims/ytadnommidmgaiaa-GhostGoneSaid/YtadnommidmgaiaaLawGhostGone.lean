/- 'ambry/ambrylaw11.GhostGone' returns true, for every input, and leaves its arguments as they were. No condition. -/
import Derived.Test.YtadnommidmgaiaaIn
import Derived.Test.YtadnommidmgaiaaLastSpec
import Derived.Deep.QuietTactic
import Derived.BigQuiet
import Derived.WalkKit
import Derived.ProofKit
import Derived.OpenShut
import Derived.ShutString
import Derived.ChangeOld
import Derived.Below
namespace Go.Proofs.Ytadnommidmgaiaa.ghostGone
open Go.ChangeShapes Go.WideShapes Go.ChangeAt Go.RowKit
open Go.ChangeMaps (open_string shut_string)
set_option linter.unusedVariables false

theorem own : ownKnob Try.prog.godebug = none := by kernel_rfl
theorem laidOut : laidOutB Try.prog = true := by kernel_rfl

theorem drop_cons (L : List Int) (k : Nat) (x : Int) (h : L[k]? = some x) : L.drop k = x :: L.drop (k + 1) := by
  obtain ⟨hk, rfl⟩ := List.getElem?_eq_some_iff.1 h
  rw [List.drop_eq_getElem_cons hk]
theorem grem_mid (M R : List Int) (x : Int) (h : (M ++ x :: R).Nodup) : grem (M ++ x :: R) x = M ++ R ∧ x ∉ M ++ R := by
  rw [List.nodup_append] at h
  obtain ⟨h1, h2, h3⟩ := h
  obtain ⟨h4, h5⟩ := List.nodup_cons.1 h2
  have hM : x ∉ M := fun hx => h3 x hx x (.head _) rfl
  constructor
  · unfold grem
    rw [List.filter_append, List.filter_cons_of_neg (by simp), List.filter_eq_self.2, List.filter_eq_self.2]
    · intro a ha; simp only [bne_iff_ne, ne_eq]; intro e; subst e; exact h4 ha
    · intro a ha; simp only [bne_iff_ne, ne_eq]; intro e; subst e; exact hM ha
  · simp [hM, h4]
theorem grem_no (L : List Int) (x : Int) (h : x ∉ L) : grem L x = L := by
  unfold grem; rw [List.filter_eq_self]; intro a ha; simp only [bne_iff_ne, ne_eq]; intro e; subst e; exact h ha

set_option maxRecDepth 100000 in
set_option maxHeartbeats 4000000 in
theorem walk (w : World) (a0 : Option Addr) (n0 c0 : Nat) (w0 : n0 ≤ c0 ∧ ∀ i, i < n0 → InAt w a0 1 i (fun cs => ∃ x : Int, cs = [.int .u64 x] ∧ (Lit.int .u64 x).wf = true)) (a1 : Option Addr) (n1 c1 : Nat) (w1 : n1 ≤ c1 ∧ ∀ i, i < n1 → InAt w a1 1 i (fun cs => ∃ x : Bool, cs = [.bool x])) :
    Calls Try.prog 4 #[.slice a0 n0 c0, .slice a1 n1 c1] w fun e w' => e = .returned (.bool true) ∧ Below w.heap.size w w' := by
  obtain ⟨i0, hi, hz0, hz1, hz2⟩ := info_parts info_u64
  go_enter Try.func4, Try.ntmps4
  go_wp2_with fail
  refine (shown_any _).mono ?_
  rintro e q1 ⟨rfl, hF⟩
  have HF := Lib.hid (hF.mono (T := From w.heap.size) (fun _ _ h => h.elim))
  clear hF
  go_wp2_with fail
  refine (new_at 1000 q1).mono ?_
  rintro e q2 ⟨g, rfl, hG, hF⟩
  have H1 := Lib.hid (gh_new (most := 1000) HF.out hG hF)
  clear hG hF HF
  go_wp2_with fail
  go_loopw [7] (fun i wr => ∃ (k : Nat) (L : List Int), k ≤ n0 ∧ k ≤ 60 ∧ i = .int .i64 k ∧ Own (gh g 1000 L k) w wr) (fun i _ => 60 - (intOf i).toNat)
  case atStart => exact ⟨0, _, by omega, by omega, rfl, H1.out⟩
  case round =>
    obtain ⟨k, L, hk, hk2, rfl, hO⟩ := hrel
    have HO := Lib.hid hO
    clear hO
    by_cases hlt : k < n0 ∧ k < 60
    · obtain ⟨hlt, hlt2⟩ := hlt
      obtain ⟨b, off, v, rfl, hbl, ⟨x, hx, hwx⟩, hc⟩ := (w0.2 k hlt).one
      simp at hx
      subst hx
      have hc' : wr.cell? ⟨b, off + k, none⟩ = some (.int .u64 x) := (HO.out.2.cell hbl (by unfold From; simp; omega)).trans hc
      clear hc hwx
      have W0 := Lib.hid w0
      have W1 := Lib.hid w1
      clear w0 w1
      go_wp2_with (go_at_call 9; refine (add_at _ g 1000 _ _ x _ HO.out.1 (by omega)).mono ?_; rintro e w5 ⟨rfl, hG, hF⟩; have H5 := Lib.hid (gh_next HO.out hG hF); clear hG hF)
      go_roundw
      case rel => exact ⟨k + 1, _, by omega, by omega, by go_num, H5.out⟩
      case measure => simp [intOf]; omega
    · obtain ⟨wo, rfl⟩ : ∃ wo : World, wo = wr := ⟨_, rfl⟩
      have hcase : ¬ k < n0 ∨ (k < n0 ∧ ¬ k < 60) := by omega
      have hlen := HO.out.1.len_le
      have hL60 : L.length ≤ 60 := by omega
      have W0 := Lib.hid w0
      have W1 := Lib.hid w1
      clear hlt w0 w1 hlen
      rcases hcase with hlt | ⟨hlt, hlt2⟩
      all_goals
        go_wp2_with fail
        refine (all_at _ g _ _ _ _ HO.out.1 (by omega)).mono ?_
        rintro e q4 ⟨v, rfl, hs, hF⟩
        have hG4 : GhostAt q4 (fun b => w.heap.size ≤ b ∧ b < wo.heap.size) g 1000 L k := by
          have h1 : GhostAt wo (fun b => w.heap.size ≤ b ∧ b < wo.heap.size) g 1000 L k := GhostAt.mono HO.out.1 (fun b hb h => ⟨h, hb⟩)
          exact h1.fr hF (fun b hb _ => by omega)
        obtain ⟨vb, vcap, rfl, hvn, hvx⟩ := sl_intsS hs
        have hF4 : Fr (From w.heap.size) w q4 := HO.out.2.trans hF (fun i hi h => by have := HO.out.2.size; omega)
        have hsz1 := HO.out.2.size
        have hsz2 := hF.size
        have H4 := Lib.hid (And.intro hG4 (And.intro hvx (And.intro hF4 (And.intro hsz1 hsz2))))
        clear hs hF hG4 hvx hF4 hsz1 hsz2
        go_wp2_with fail
        go_loopw [9, 10] (fun s i wr => ∃ (j : Nat) (M : List Int), j ≤ L.length ∧ i = .int .i64 j ∧ M.length ≤ j ∧ GhostAt wr (fun b => w.heap.size ≤ b ∧ b < wo.heap.size) g 1000 (M ++ L.drop j) k ∧ Sl wr (fun b => q4.heap.size ≤ b) 22 1 s M.length (u64s M) ∧ Fr (fun b => w.heap.size ≤ b ∧ b < wo.heap.size) q4 wr) (fun _ i _ => L.length - (intOf i).toNat)
        case atStart => exact ⟨0, [], by omega, rfl, by simp, H4.out.1, Sl.nil _ _ _ _, Fr.refl _ _⟩
        case round =>
          obtain ⟨j, M, hj, rfl, hMj, hG, hs, hF⟩ := hrel
          have HR := Lib.hid (And.intro hG (And.intro hs hF))
          obtain ⟨sa, scap, rfl, _⟩ := hs.shape
          clear hG hs hF
          by_cases hlt : j < L.length
          · obtain ⟨x, hx⟩ : ∃ x, L[j]? = some x := ⟨_, List.getElem?_eq_getElem hlt⟩
            obtain ⟨b, off, rfl, hb1, hb2, hc⟩ := H4.out.2.1 j x hx
            have hc' : wr.cell? ⟨b, off + j, none⟩ = some (.int .u64 x) := (HR.out.2.2.cell hb2 (by simp; omega)).trans hc
            have hdc := drop_cons L j x hx
            have hnd := HR.out.1.nodup
            rw [hdc] at hnd
            obtain ⟨hgm, hno⟩ := grem_mid M (L.drop (j + 1)) x hnd
            have hin : decide (x ∈ M ++ L.drop j) = true := decide_eq_true (by rw [hdc]; simp)
            have hgr : grem (M ++ L.drop j) x = M ++ L.drop (j + 1) := by rw [hdc]; exact hgm
            have HX := Lib.hid (And.intro hin (And.intro hgr (And.intro hno hdc)))
            clear hc hdc hnd hgm hno hin hgr hx
            by_cases hj1 : j < n1
            · obtain ⟨b', off', v', rfl, hbl', ⟨y, hy⟩, hcy⟩ := (W1.out.2 j hj1).one
              simp at hy
              subst hy
              have hcy' : wr.cell? ⟨b', off' + j, none⟩ = some (.bool y) :=
                (HR.out.2.2.cell (p := ⟨b', off' + j, none⟩) (Nat.lt_of_lt_of_le hbl' H4.out.2.2.1.size) (by simp; omega)).trans ((H4.out.2.2.1.cell hbl' (by unfold From; simp; omega)).trans hcy)
              clear hcy
              cases y
              · go_wp2_with (at_builtin; go_must (refine wpList_append_sl (S := fun b => q4.heap.size ≤ b) rfl _ _ 27 rfl 22 i0 (.int .u64 0) 1 8 Try.underlying27 hi hz0 hz1 hz2 rfl (by decide) _ _ _ rfl (HR.out.2.1.alloc _) ⟨_, 0, none⟩ 1 1 [.int .u64 x] rfl rfl (cell_one_at _ _ _ (by simp)) (ints_oneCell .u64 [x]) (by unfold maxLen; omega) (by omega) ?_); intro v1 q5 hs1 hf1; have HS1 := Lib.hid (And.intro hs1 hf1); clear hs1 hf1)
                go_roundw
                case rel =>
                  obtain ⟨hs1, hf1⟩ := HS1.out
                  have hsz := HR.out.2.2.size
                  have hall : Fr (fun b => q4.heap.size ≤ b) wr q5 := ((Fr.refl _ wr).alloc _).trans hf1.arr (fun _ _ h => h)
                  refine ⟨j + 1, M ++ [x], by omega, by go_num, by simp; omega, ?_, ?_, ?_⟩
                  · have h2 := HR.out.1.fr hall (fun b hb hS => by have hS' := hS.2; have := H4.out.2.2.2; omega)
                    rw [HX.out.2.2.2] at h2
                    simpa using h2
                  · have h2 := hs1.mono (S' := fun b => q4.heap.size ≤ b) (fun b _ hb => hb.elim id (fun ⟨q, _⟩ => by simp at q; omega))
                    simpa [u64s] using h2
                  · exact HR.out.2.2.trans hall (fun i hi h => by omega)
                case measure => simp [intOf]; omega
              · go_wp2_with fail
                refine (remove_at _ g _ _ _ x _ HR.out.1 (by omega)).mono ?_
                rintro e q5 ⟨rfl, hG, hF⟩
                rw [HX.out.1]
                rw [HX.out.2.1] at hG
                have hb5 : wr.heap.size ≤ q5.heap.size := hF.size
                have hb4 := HR.out.2.2.size
                have hc5 : q5.cell? ⟨b, off + j, none⟩ = some (.int .u64 x) := (hF.cell (p := ⟨b, off + j, none⟩) (Nat.lt_of_lt_of_le hb2 hb4) (by simp; omega)).trans hc'
                have H5 := Lib.hid (And.intro hG hF)
                clear hG hF hb5 hb4
                go_wp2_with fail
                refine (remove_at _ g _ _ _ x _ H5.out.1 (by omega)).mono ?_
                rintro e q6 ⟨rfl, hG, hF⟩
                rw [decide_eq_false HX.out.2.2.1]
                rw [grem_no _ _ HX.out.2.2.1] at hG
                have H6 := Lib.hid (And.intro hG hF)
                clear hG hF
                go_wp2
                go_roundw
                case rel =>
                  have hall : Fr (fun b => w.heap.size ≤ b ∧ b < wo.heap.size) wr q6 := H5.out.2.trans H6.out.2 (fun _ _ h => h)
                  refine ⟨j + 1, M, by omega, by go_num, by omega, H6.out.1, ?_, HR.out.2.2.trans hall (fun _ _ h => h)⟩
                  exact HR.out.2.1.fr hall (fun b hb hS h => by have h1 : q4.heap.size ≤ b := hS; have h2 := h.2; have := H4.out.2.2.2; omega)
                case measure => simp [intOf]; omega
            · go_wp2_with (at_builtin; go_must (refine wpList_append_sl (S := fun b => q4.heap.size ≤ b) rfl _ _ 27 rfl 22 i0 (.int .u64 0) 1 8 Try.underlying27 hi hz0 hz1 hz2 rfl (by decide) _ _ _ rfl (HR.out.2.1.alloc _) ⟨_, 0, none⟩ 1 1 [.int .u64 x] rfl rfl (cell_one_at _ _ _ (by simp)) (ints_oneCell .u64 [x]) (by unfold maxLen; omega) (by omega) ?_); intro v1 q5 hs1 hf1; have HS1 := Lib.hid (And.intro hs1 hf1); clear hs1 hf1)
              go_roundw
              case rel =>
                obtain ⟨hs1, hf1⟩ := HS1.out
                have hsz := HR.out.2.2.size
                have hall : Fr (fun b => q4.heap.size ≤ b) wr q5 := ((Fr.refl _ wr).alloc _).trans hf1.arr (fun _ _ h => h)
                refine ⟨j + 1, M ++ [x], by omega, by go_num, by simp; omega, ?_, ?_, ?_⟩
                · have h2 := HR.out.1.fr hall (fun b hb hS => by have hS' := hS.2; have := H4.out.2.2.2; omega)
                  rw [HX.out.2.2.2] at h2
                  simpa using h2
                · have h2 := hs1.mono (S' := fun b => q4.heap.size ≤ b) (fun b _ hb => hb.elim id (fun ⟨q, _⟩ => by simp at q; omega))
                  simpa [u64s] using h2
                · exact HR.out.2.2.trans hall (fun i hi h => by omega)
              case measure => simp [intOf]; omega
          · obtain rfl : j = L.length := by omega
            obtain ⟨wz, rfl⟩ : ∃ wz : World, wz = wr := ⟨_, rfl⟩
            have hG5 := HR.out.1
            rw [List.drop_length, List.append_nil] at hG5
            obtain ⟨sb, scap2, hsv, hsn, hsx⟩ := sl_intsS HR.out.2.1
            simp at hsv
            obtain ⟨rfl, rfl⟩ := hsv
            have H5 := Lib.hid (And.intro hG5 hsx)
            clear hG5 hsx
            go_wp2_with fail
            refine (all_at _ g _ _ _ _ H5.out.1 (by omega)).mono ?_
            rintro e q5 ⟨v, rfl, hs, hF⟩
            have hG6 : GhostAt q5 (fun b => w.heap.size ≤ b ∧ b < wo.heap.size) g 1000 M k := H5.out.1.fr hF (fun b hb hS => by have hS' := hS.2; have := H4.out.2.2.2; have := HR.out.2.2.size; omega)
            obtain ⟨ib, icap, rfl, hin, hix⟩ := sl_intsS hs
            have H6 := Lib.hid (And.intro hG6 (And.intro hix hF))
            clear hs hF hG6 hix
            go_wp2_with (go_at_call 11; refine (len_at _ _ _ _ _ _ H6.out.1).mono ?_; rintro e w8 ⟨rfl, rfl⟩)
            go_loopw [12] (fun s wr => ∃ i : Nat, i ≤ M.length ∧ s = .int .i64 i ∧ Fr (fun _ => False) q5 wr) (fun s _ => M.length - (intOf s).toNat)
            case atStart => exact ⟨0, by omega, rfl, Fr.refl _ _⟩
            case round =>
              obtain ⟨i, hi2, rfl, hF6⟩ := hrel
              have HF6 := Lib.hid hF6
              clear hF6
              by_cases hlt3 : i < M.length
              · obtain ⟨y, hy⟩ : ∃ y, M[i]? = some y := ⟨_, List.getElem?_eq_getElem hlt3⟩
                obtain ⟨b1, off1, rfl, _, hb1, hc1⟩ := H6.out.2.1 i y hy
                obtain ⟨b2, off2, rfl, _, hb2, hc2⟩ := H5.out.2 i y hy
                have hd1 : wr.cell? ⟨b1, off1 + i, none⟩ = some (.int .u64 y) := (HF6.out.cell hb1 (fun h => h)).trans hc1
                have hd2 : wr.cell? ⟨b2, off2 + i, none⟩ = some (.int .u64 y) := (HF6.out.cell (p := ⟨b2, off2 + i, none⟩) (Nat.lt_of_lt_of_le hb2 H6.out.2.2.size) (fun h => h)).trans ((H6.out.2.2.cell hb2 (by simp; omega)).trans hc2)
                clear hc1 hc2 hy
                go_wp2
                go_quiet (fail)
                go_wp2
                go_roundw
                case rel => exact ⟨i + 1, by omega, by go_num, HF6.out.drewN _⟩
                case measure => simp [intOf]; omega
              · go_wp2
                go_ret
                refine ⟨rfl, Fr.below (S := From w.heap.size) ?_ (Nat.le_refl _) (fun b hb h => h)⟩
                exact ((H4.out.2.2.1.trans HR.out.2.2 (fun i hi h => by have := h.1; omega)).trans H6.out.2.2 (fun i hi h => by have := H4.out.2.2.2; have := HR.out.2.2.size; omega)).trans HF6.out (fun _ _ h => h.elim)

set_option maxRecDepth 100000 in
theorem lifted (os : Os) (started : os.Started) (H : Type) (enc : TypeId × Value → H) :
    ReturnsInHanded {} Try.checked os 4 .any (Rows.ghostGoneSpec.pre6 enc Try.prog Try.f4 Rows.ghostGoneRow.domain false) (Rows.ghostGoneSpec.post enc Try.prog Try.f4 false true false false) := by
  refine returnsInHanded_of_change (C := Try.checked) own started (by kernel_rfl) Try.func4
    (ChangeSpec.witness6 (enc := enc) (C := Try.checked) false ⟨#[], #[.slice none 0 0, .slice none 0 0], []⟩ 8 (by kernel_rfl) (by kernel_rfl) (by kernel_rfl) (by kernel_rfl)) ?_
  intro W base args ds gs before hval0 hW hcnd _
  have hval : ∀ (j : Nat) t v, Try.f4.params[j]? = some t → args[j]? = some v → Value.okWide Try.prog W .any base t v := hval0
  have hW' := hW
  obtain ⟨p, q, hA0, hV, rfl, hfz, hnd⟩ := hW
  have hA : DataW.TrodAll enc Try.prog W 0 (fun _ => true) true Try.f4.params.toList args.toList ds p := hA0
  rw [Try.params4] at hA hval
  obtain ⟨v0, vs0, d0, ds0, p0, q0, hargs, rfl, rfl, h0, r0⟩ := trodAll_cons hA
  obtain ⟨v1, vs1, d1, ds1, p1, q1, rfl, rfl, rfl, h1, r1⟩ := trodAll_cons r0
  obtain ⟨rfl, rfl, rfl⟩ := trodAll_nil r1
  obtain rfl : args = #[v0, v1] := by cases args; simp_all
  obtain ⟨rfl, rfl⟩ := trodVars_none hV
  obtain ⟨a0, n0, c0, rfl⟩ := okWide_slice Try.underlying27 (hval 0 27 v0 rfl rfl)
  have k0 := h0
  have lt0 : ∀ x ∈ p0, x.block < W.heap.size := by obtain ⟨m, hm⟩ := k0; exact DataW.trod_lt m _ _ _ hm
  have w0 := open_in (C := fun cs => ∃ x : Int, cs = [.int .u64 x] ∧ (Lit.int .u64 x).wf = true) Try.underlying27 k0 1 (by kernel_rfl) (by decide) (fun m cs x h => by obtain ⟨x, e, _, hw⟩ := DataW.trod_int Try.underlying22 h; exact ⟨x, e, hw⟩)
  obtain ⟨a1, n1, c1, rfl⟩ := okWide_slice Try.underlying32 (hval 1 32 v1 rfl rfl)
  have k1 := h1
  have lt1 : ∀ x ∈ p1, x.block < W.heap.size := by obtain ⟨m, hm⟩ := k1; exact DataW.trod_lt m _ _ _ hm
  have w1 := open_in (C := fun cs => ∃ x : Bool, cs = [.bool x]) Try.underlying32 k1 1 (by kernel_rfl) (by decide) (fun m cs x h => by obtain ⟨x, e, _⟩ := DataW.trod_bool Try.underlying4 h; exact ⟨x, e⟩)
  clear hA0 hval0
  refine (walk W a0 n0 c0 w0 a1 n1 c1 w1).mono fun e W' ⟨he, bel⟩ => ?_
  subst he
  exact ⟨_, rfl, _, _, _, [], _, [], hW', trodAll_mk1 (shut_bool Try.underlying4 _), (trodAll_cons_mk (Below.trod laidOut (by kernel_rfl) (of_decide_eq_true (by kernel_rfl)) k0 bel lt0) (trodAll_cons_mk (Below.trod laidOut (by kernel_rfl) (of_decide_eq_true (by kernel_rfl)) k1 bel lt1) trodAll_mk0)), rfl, bel.frame _, fun h => by cases h⟩

theorem over : Rows.ghostGoneRow.holds Try.pinned (OpenSpec.ofChange Rows.ghostGoneSpec) :=
  OpenClaim.holds_of_wide 4 Try.f4 rfl rfl rfl rfl rfl rfl rfl ⟨rfl, rfl, rfl, rfl, rfl⟩ rfl rfl rfl rfl rfl (by kernel_rfl) Try.func4 (by kernel_rfl)
    (of_decide_eq_true (by kernel_rfl)) (by unfold Func.isWrapper; first | (rw [if_pos (by decide +kernel)]; kernel_rfl) | (rw [if_neg (by decide +kernel)]; exact ⟨rfl, rfl⟩))
    (fun os started H enc _ => lifted os started H enc)

theorem proved : Rows.GhostGoneSaid := over
#print axioms proved
end Go.Proofs.Ytadnommidmgaiaa.ghostGone
