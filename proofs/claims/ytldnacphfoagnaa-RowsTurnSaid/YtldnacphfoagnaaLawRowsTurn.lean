/- 'ambry/ambrylaw10.RowsTurn' returns true, for every input, and leaves its arguments as they were. No condition. -/
import Derived.Test.YtldnacphfoagnaaIn
import Derived.Test.YtldnacphfoagnaaRowsShown
import Derived.Test.YtldnacphfoagnaaRowsSepB
import Derived.WalkKit
import Derived.ProofKit
import Derived.OpenShut
import Derived.ShutString
import Derived.ChangeOld
import Derived.Below
namespace Go.Proofs.Ytldnacphfoagnaa.rowsTurn
open Go.ChangeShapes Go.WideShapes Go.ChangeAt Go.RowKit
open Go.ChangeMaps (open_string shut_string)
set_option linter.unusedVariables false

theorem own : ownKnob Try.prog.godebug = none := by kernel_rfl
theorem laidOut : laidOutB Try.prog = true := by kernel_rfl

/-- Row 1 holds those that came, the others nobody. -/
structure TI (back : Bool) (ins : List Int) (L : Nat → List Int) : Prop where
  one : L 1 = if back then ins else ins.reverse
  zero : L 0 = []
  two : L 2 = []
theorem TI.row {back : Bool} {ins : List Int} {L : Nat → List Int} (h : TI back ins L) (id : Int) : rowOf 3 L id = if id ∈ ins then 1 else -1 := by
  have hm : id ∈ L 1 ↔ id ∈ ins := by rw [h.one]; cases back <;> simp
  by_cases hi : id ∈ ins
  · rw [if_pos hi]
    exact rowOf_some (r := 1) (by decide) (hm.2 hi) (fun s hs hq => by
      match s, hs, hq with
      | 0, _, hq => rw [h.zero] at hq; cases hq
      | 1, _, _ => rfl
      | 2, _, hq => rw [h.two] at hq; cases hq)
  · rw [if_neg hi]
    exact rowOf_none (fun s hs hq => by
      match s, hs, hq with
      | 0, _, hq => rw [h.zero] at hq; cases hq
      | 1, _, hq => exact hi (hm.1 hq)
      | 2, _, hq => rw [h.two] at hq; cases hq)
theorem TI.del {back : Bool} {ins : List Int} {L : Nat → List Int} (h : TI back ins L) (id : Int) : TI back (ins.filter (· != id)) (del L id) := by
  refine ⟨?_, ?_, ?_⟩
  · show (L 1).filter _ = _
    rw [h.one]; cases back <;> simp
  · show (L 0).filter _ = _
    rw [h.zero]; rfl
  · show (L 2).filter _ = _
    rw [h.two]; rfl
theorem TI.put {back : Bool} {ins : List Int} {L : Nat → List Int} (h : TI back ins L) {id : Int} (hi : id ∉ ins) (h0 : 0 ≤ id ∧ id ≤ 4194303) : TI back (ins ++ [id]) (if back then backL 3 L 1 id else frontL 3 L 1 id) := by
  have hm : mayIn 3 1 id = true := decide_eq_true ⟨by decide, by decide, h0⟩
  have hd := h.del id
  rw [List.filter_eq_self.2 (fun x hx => by simp only [bne_iff_ne, ne_eq]; intro e; subst e; exact hi hx)] at hd
  cases back
  · simp only [Bool.false_eq_true, if_false]
    unfold frontL
    rw [hm, if_pos rfl]
    refine ⟨?_, ?_, ?_⟩
    · show id :: Proofs.Ytldnacphfoagnaa.del L id 1 = _
      rw [hd.one]; simp
    · exact hd.zero
    · exact hd.two
  · simp only [if_true]
    unfold backL
    rw [hm, if_pos rfl]
    refine ⟨?_, ?_, ?_⟩
    · show Proofs.Ytldnacphfoagnaa.del L id 1 ++ [id] = _
      rw [hd.one]; simp
    · exact hd.zero
    · exact hd.two
theorem TI.len {back : Bool} {ins : List Int} {L : Nat → List Int} (h : TI back ins L) : (rowL L 1).length = ins.length ∧ (rowL L 0).length = 0 := by
  have e1 : rowL L 1 = L 1 := rowL_nat L 1
  have e0 : rowL L 0 = L 0 := rowL_nat L 0
  rw [e1, e0, h.one, h.zero]
  cases back <;> simp
theorem TI.ends {back : Bool} {x : Int} {ins : List Int} {L : Nat → List Int} (h : TI back (x :: ins) L) : (if back then firstOf (rowL L 1) else lastOf (rowL L 1)) = x := by
  have e1 : rowL L 1 = L 1 := rowL_nat L 1
  rw [e1, h.one]
  cases back
  · simp [lastOf]
  · simp [firstOf]
theorem TI.none {back : Bool} {L : Nat → List Int} (h : TI back [] L) : firstOf (rowL L 1) = -1 ∧ lastOf (rowL L 1) = -1 := by
  have e1 : rowL L 1 = L 1 := rowL_nat L 1
  rw [e1, h.one]
  cases back <;> exact ⟨rfl, rfl⟩
theorem held_app {w0 W w1 : World} {g n : Nat} {L : Nat → List Int} {N : Nat} {S : Nat → Prop} {T : TypeId} {v' : Value} {n' : Nat} {xs : List Value} (hS : Sep (RW g n L N) w0 W S) (hs : Sl w1 (grow (fun b => ¬ S b ∧ w0.heap.size ≤ b) W w1) T 1 v' n' xs)
    (hF : Fr (Arr (fun b => ¬ S b ∧ w0.heap.size ≤ b) W T) W w1) : Held w0 w1 S T 1 v' n' xs ∧ Sep (RW g n L N) w0 w1 S :=
  ⟨hs.mono fun b _ q => q.elim (fun q => q) (fun q => ⟨fun s => by have := hS.hi b s; omega, by have := hS.fr.size; omega⟩),
   rw_keep hS hF (fun b _ s q => q.1.1 s) (fun b hb q => by have := q.1.2; omega)⟩
theorem rw_alloc {w0 W : World} {g n : Nat} {L : Nat → List Int} {N : Nat} {S : Nat → Prop} (hS : Sep (RW g n L N) w0 W S) (o : Obj) : Sep (RW g n L N) w0 (W.alloc o) S := rw_below hS (((Fr.refl (fun _ => False) W).alloc o).belowAll)
set_option maxRecDepth 100000 in
set_option maxHeartbeats 4000000 in
theorem walk (w : World) (a0 : Option Addr) (n0 c0 : Nat) (w0 : n0 ≤ c0 ∧ ∀ i, i < n0 → InAt w a0 1 i (fun cs => ∃ x : Int, cs = [.int .i64 x] ∧ (Lit.int .i64 x).wf = true)) (a1 : Bool) :
    Calls Try.prog 5 #[.slice a0 n0 c0, .bool a1] w fun e w' => e = .returned (.bool true) ∧ Below w.heap.size w w' := by
  go_enter Try.func5, Try.ntmps5
  go_wp2_with fail
  refine (shown_any _).mono ?_
  rintro e y1 ⟨rfl, hF⟩
  have HF := Lib.hid (hF.mono (T := From w.heap.size) (fun _ _ h => h.elim))
  clear hF
  go_wp2_with fail
  refine (new_rw (w0 := w) 3 (by decide) (by decide) HF.out).mono ?_
  rintro e y2 ⟨g, S, rfl, h, _, _⟩
  have H := Lib.hid h
  clear h HF
  obtain ⟨i0, hi, hz0, hz1, hz2⟩ := info_parts info_i64
  go_wp2_with fail
  go_loopw [7, 8, 9] (fun v i _ wr => ∃ (k N : Nat) (ins : List Int) (L : Nat → List Int) (S : Nat → Prop), k ≤ n0 ∧ k ≤ 60 ∧ N ≤ k ∧ ins.length ≤ k ∧ i = .int .i64 k ∧ TI a1 ins L ∧ ins.Nodup ∧ Sep (RW g 3 L N) w wr S ∧ Held w wr S 3 1 v ins.length (ins.map (Value.int .i64))) (fun _ i _ _ => 60 - (intOf i).toNat)
  case atStart => exact ⟨0, 0, [], _, _, by omega, by omega, by omega, by simp, rfl, ⟨by cases a1 <;> rfl, rfl, rfl⟩, List.nodup_nil, H.out, Sl.nil _ _ _ _⟩
  case round =>
    clear H
    obtain ⟨k, N, ins, L, S, hk, hk2, hN, hil, rfl, hT, hnd, h, hv⟩ := hrel
    have Hk := Lib.hid h
    have HV := Lib.hid hv
    have HT := Lib.hid (And.intro hT hnd)
    clear h hT hnd
    by_cases hlt : k < n0 ∧ k < 60
    · obtain ⟨hlt, hlt2⟩ := hlt
      obtain ⟨b, off, vv, rfl, hbl, hEl, hc⟩ := (w0.2 k hlt).one
      obtain ⟨x, he, hw⟩ := hEl
      simp at he
      subst he
      have hc' : wr.cell? ⟨b, off + k, none⟩ = some (.int .i64 x) := (Hk.out.fr.cell hbl (by unfold From; simp; omega)).trans hc
      obtain ⟨m1, hm1, hmb⟩ := and_mask x 65535 (by decide)
      have hm1' : bits .and .i64 x 65535 = m1 := hm1
      have W0 := Lib.hid w0
      clear w0 hc hm1 hw hv
      go_wp2_with fail
      refine (row_rw Hk.out m1).mono ?_
      rintro e y3 ⟨rfl, rfl⟩
      by_cases hin : (m1 : Int) ∈ ins
      · have hr := HT.out.1.row m1
        rw [if_pos hin] at hr
        rw [hr]
        clear hr hin
        go_wp2_with fail
        go_roundw
        case rel => exact ⟨k + 1, N, ins, L, S, by omega, by omega, by omega, by omega, by go_num, HT.out.1, HT.out.2, Hk.out, HV.out⟩
        case measure => simp [intOf]; omega
      · have hr := HT.out.1.row m1
        rw [if_neg hin] at hr
        rw [hr]
        have hput := HT.out.1.put hin (by omega)
        have hnd2 : (ins ++ [(m1 : Int)]).Nodup := List.nodup_append.2 ⟨HT.out.2, by simp, fun a ha b hb e => hin (by simp at hb; rw [← hb, ← e]; exact ha)⟩
        have hmay : mayIn 3 1 (m1 : Int) = true := decide_eq_true ⟨by decide, by decide, by omega⟩
        have HP := Lib.hid (And.intro hput (And.intro hnd2 hmay))
        clear hr hin hput hnd2 hmay
        rcases a1 with _ | _
        all_goals
          go_wp2_with fail
          first
            | (refine (front_rw Hk.out 1 m1 (by omega)).mono ?_
               rintro e y4 ⟨rfl, h, hF⟩)
            | (refine (back_rw Hk.out 1 m1 (by omega)).mono ?_
               rintro e y4 ⟨rfl, h, hF⟩)
          have H4 := Lib.hid (And.intro h (Held.step HV.out hF))
          clear h hF
          rw [HP.out.2.2]
          go_wp2_with (at_builtin; go_must (refine wpList_append_sl (S := fun b => ¬ grow S wr y4 b ∧ w.heap.size ≤ b) rfl _ _ 22 rfl 3 i0 (.int .i64 0) 1 8 Try.underlying22 hi hz0 hz1 hz2 rfl (by decide) _ ins.length _ rfl (Sl.alloc H4.out.2 _) ⟨_, 0, none⟩ 1 1 [.int .i64 m1] rfl rfl (cell_one_at _ _ _ (by simp)) (ints_oneCell .i64 [(m1 : Int)]) (by unfold maxLen; omega) (by omega) ?_); intro v1 y5 hs1 hf1; have HS1 := Lib.hid (held_app (rw_alloc H4.out.1 _) hs1 hf1); clear hs1 hf1)
          go_roundw
          case rel => exact ⟨k + 1, N + 1, _, _, _, by omega, by omega, by omega, by simp; omega, by go_num, HP.out.1, HP.out.2.1, HS1.out.2, by have := HS1.out.1; simpa using this⟩
          case measure => simp [intOf]; omega
    · have hex : (k < n0 ∧ k = 60) ∨ n0 ≤ k := by omega
      obtain ⟨va, vcap, rfl, _⟩ := Sl.shape hv
      obtain ⟨wz, rfl⟩ : ∃ wz : World, wz = wr := ⟨_, rfl⟩
      have hl := HT.out.1.len
      have HL := Lib.hid hl
      clear hlt hv hl
      rcases hex with ⟨hlt, rfl⟩ | hge
      all_goals
        go_wp2_with fail
        refine (len_rw Hk.out 1).mono ?_
        rintro e y4 ⟨rfl, rfl⟩
        rw [HL.out.1]
        go_wp2_with fail
        refine (len_rw Hk.out 0).mono ?_
        rintro e y4 ⟨rfl, rfl⟩
        rw [HL.out.2]
        go_wp2_with fail
        refine (all_rw Hk.out 1 (by omega)).mono ?_
        rintro e y4 ⟨v2, rfl, hs, h, hF⟩
        obtain ⟨v2a, v2cap, rfl, _⟩ := Sl.shape hs
        have H4 := Lib.hid (And.intro h (Held.keep HV.out hF (fun b hb => by omega)))
        clear hs h hF
        rw [HL.out.1]
        go_wp2_with fail
        go_loopw [10, 11] (fun i _ wr => ∃ (j N : Nat) (L : Nat → List Int) (S : Nat → Prop), j ≤ ins.length ∧ N ≤ 60 ∧ i = .int .i64 j ∧ TI a1 (ins.drop j) L ∧ Sep (RW g 3 L N) w wr S ∧ Held w wr S 3 1 (.slice va ins.length vcap) ins.length (ins.map (Value.int .i64))) (fun i _ _ => ins.length - (intOf i).toNat)
        case atStart => exact ⟨0, N, L, S, by omega, by omega, rfl, HT.out.1, H4.out.1, H4.out.2⟩
        case round =>
          clear H4 HL Hk HV
          obtain ⟨j, N2, L2, S2, hj, hN2, rfl, hT2, h2, hv2⟩ := hrel
          have H5 := Lib.hid (And.intro hT2 (And.intro h2 hv2))
          clear hT2 h2
          by_cases hjl : j < ins.length
          · obtain ⟨x, hx⟩ : ∃ x, ins[j]? = some x := ⟨_, List.getElem?_eq_getElem hjl⟩
            obtain ⟨va', vcap', hve, hvx⟩ := sl_at hv2
            simp at hve
            obtain ⟨rfl, rfl⟩ := hve
            obtain ⟨b, off, rfl, hb, _, hcx, _⟩ := hvx j x hx
            have hdr : ins.drop j = x :: ins.drop (j + 1) := by
              rw [List.drop_eq_getElem_cons hjl]
              congr 1
              exact (List.getElem?_eq_some_iff.1 hx).2
            have hT3 := H5.out.1
            rw [hdr] at hT3
            have hnd3 : (x :: ins.drop (j + 1)).Nodup := by rw [← hdr]; exact HT.out.2.sublist (List.drop_sublist _ _)
            have hends := hT3.ends
            have hrow := hT3.row x
            rw [if_pos (by simp)] at hrow
            have hdel := hT3.del x
            rw [List.filter_cons_of_neg (by simp), List.filter_eq_self.2 (fun y hy => by simp only [bne_iff_ne, ne_eq]; intro e; subst e; exact (List.nodup_cons.1 hnd3).1 hy)] at hdel
            have hlen := hdel.len
            rw [List.length_drop] at hlen
            have HD := Lib.hid (And.intro hends (And.intro hrow (And.intro hdel hlen)))
            clear hvx hx hdr hT3 hnd3 hends hrow hdel hlen hv2 hb
            rcases a1 with _ | _
            · go_wp2_with fail
              refine (last_rw H5.out.2.1 1).mono ?_
              rintro e y5 ⟨q5, rfl, rfl, h⟩
              have H6 := Lib.hid h
              clear h
              have hh : lastOf (rowL L2 1) = x := HD.out.1
              rw [hh]
              clear hh
              go_wp2_with fail
              refine (take_rw H6.out x (by omega)).mono ?_
              rintro e y6 ⟨rfl, h, hF⟩
              have H7 := Lib.hid (And.intro h (Held.step (Held.keep H5.out.2.2 ((Fr.refl (fun _ => False) wr).drewN q5) (fun _ _ h => h)) hF))
              clear h hF
              rw [HD.out.2.1]
              go_wp2_with fail
              refine (len_rw H7.out.1 1).mono ?_
              rintro e y7 ⟨rfl, rfl⟩
              rw [HD.out.2.2.2.1]
              have hle : ((ins.length - (j + 1) : Nat) : Int) = (ins.length : Int) - 1 - j := by omega
              rw [hle]
              clear hle
              go_wp2_with fail
              go_roundw
              case rel => exact ⟨j + 1, N2, _, _, by omega, hN2, by go_num, HD.out.2.2.1, H7.out.1, H7.out.2⟩
              case measure => simp [intOf]; omega
            · go_wp2_with fail
              refine (last_rw H5.out.2.1 1).mono ?_
              rintro e y5 ⟨q5, rfl, rfl, h⟩
              have H6 := Lib.hid h
              clear h
              go_wp2_with fail
              refine (first_rw H6.out 1).mono ?_
              rintro e y5 ⟨q6, rfl, rfl, h⟩
              rw [World.drewN_drewN] at h
              have H6 := Lib.hid h
              clear h
              have hh : firstOf (rowL L2 1) = x := HD.out.1
              rw [hh]
              clear hh
              go_wp2_with fail
              refine (take_rw H6.out x (by omega)).mono ?_
              rintro e y6 ⟨rfl, h, hF⟩
              have H7 := Lib.hid (And.intro h (Held.step (Held.keep H5.out.2.2 ((Fr.refl (fun _ => False) wr).drewN (q5 + q6)) (fun _ _ h => h)) hF))
              clear h hF
              rw [HD.out.2.1]
              go_wp2_with fail
              refine (len_rw H7.out.1 1).mono ?_
              rintro e y7 ⟨rfl, rfl⟩
              rw [HD.out.2.2.2.1]
              have hle : ((ins.length - (j + 1) : Nat) : Int) = (ins.length : Int) - 1 - j := by omega
              rw [hle]
              clear hle
              go_wp2_with fail
              go_roundw
              case rel => exact ⟨j + 1, N2, _, _, by omega, hN2, by go_num, HD.out.2.2.1, H7.out.1, H7.out.2⟩
              case measure => simp [intOf]; omega
          · have hT3 := H5.out.1
            rw [List.drop_eq_nil_of_le (by omega)] at hT3
            have HN := Lib.hid hT3.none
            clear hT3 hv2
            go_wp2_with fail
            refine (first_rw H5.out.2.1 1).mono ?_
            rintro e y5 ⟨q5, rfl, rfl, h⟩
            have H6 := Lib.hid h
            clear h
            rw [HN.out.1]
            go_wp2_with fail
            refine (last_rw H6.out 1).mono ?_
            rintro e y5 ⟨q6, rfl, rfl, h⟩
            rw [World.drewN_drewN] at h
            have H7 := Lib.hid h
            clear h
            rw [HN.out.2]
            go_wp2
            go_ret
            exact ⟨rfl, H7.out.below⟩

set_option maxRecDepth 100000 in
theorem lifted (os : Os) (started : os.Started) (H : Type) (enc : TypeId × Value → H) :
    ReturnsInHanded {} Try.checked os 5 .any (Rows.rowsTurnSpec.pre6 enc Try.prog Try.f5 Rows.rowsTurnRow.domain false) (Rows.rowsTurnSpec.post enc Try.prog Try.f5 false true false false) := by
  refine returnsInHanded_of_change (C := Try.checked) own started (by kernel_rfl) Try.func5
    (ChangeSpec.witness6 (enc := enc) (C := Try.checked) false ⟨#[], #[.slice none 0 0, .bool false], []⟩ 8 (by kernel_rfl) (by kernel_rfl) (by kernel_rfl) (by kernel_rfl)) ?_
  intro W base args ds gs before hval0 hW hcnd _
  have hval : ∀ (j : Nat) t v, Try.f5.params[j]? = some t → args[j]? = some v → Value.okWide Try.prog W .any base t v := hval0
  have hW' := hW
  obtain ⟨p, q, hA0, hV, rfl, hfz, hnd⟩ := hW
  have hA : DataW.TrodAll enc Try.prog W 0 (fun _ => true) true Try.f5.params.toList args.toList ds p := hA0
  rw [Try.params5] at hA hval
  obtain ⟨v0, vs0, d0, ds0, p0, q0, hargs, rfl, rfl, h0, r0⟩ := trodAll_cons hA
  obtain ⟨v1, vs1, d1, ds1, p1, q1, rfl, rfl, rfl, h1, r1⟩ := trodAll_cons r0
  obtain ⟨rfl, rfl, rfl⟩ := trodAll_nil r1
  obtain rfl : args = #[v0, v1] := by cases args; simp_all
  obtain ⟨rfl, rfl⟩ := trodVars_none hV
  obtain ⟨a0, n0, c0, rfl⟩ := okWide_slice Try.underlying22 (hval 0 22 v0 rfl rfl)
  have k0 := h0
  have lt0 : ∀ x ∈ p0, x.block < W.heap.size := by obtain ⟨m, hm⟩ := k0; exact DataW.trod_lt m _ _ _ hm
  have w0 := open_in (C := fun cs => ∃ x : Int, cs = [.int .i64 x] ∧ (Lit.int .i64 x).wf = true) Try.underlying22 k0 1 (by kernel_rfl) (by decide) (fun m cs x h => by obtain ⟨x, e, _, hw⟩ := DataW.trod_int Try.underlying3 h; exact ⟨x, e, hw⟩)
  obtain ⟨a1, rfl, rfl, rfl⟩ := open_bool Try.underlying4 (hval 1 4 v1 rfl rfl) h1
  clear hA0 hval0
  refine (walk W a0 n0 c0 w0 a1).mono fun e W' ⟨he, bel⟩ => ?_
  subst he
  exact ⟨_, rfl, _, _, _, [], _, [], hW', trodAll_mk1 (shut_bool Try.underlying4 _), (trodAll_cons_mk (Below.trod laidOut (by kernel_rfl) (of_decide_eq_true (by kernel_rfl)) k0 bel lt0) (trodAll_cons_mk (shut_bool Try.underlying4 a1) trodAll_mk0)), rfl, bel.frame _, fun h => by cases h⟩

theorem over : Rows.rowsTurnRow.holds Try.pinned (OpenSpec.ofChange Rows.rowsTurnSpec) :=
  OpenClaim.holds_of_wide 5 Try.f5 rfl rfl rfl rfl rfl rfl rfl ⟨rfl, rfl, rfl, rfl, rfl⟩ rfl rfl rfl rfl rfl (by kernel_rfl) Try.func5 (by kernel_rfl)
    (of_decide_eq_true (by kernel_rfl)) (by unfold Func.isWrapper; first | (rw [if_pos (by decide +kernel)]; kernel_rfl) | (rw [if_neg (by decide +kernel)]; exact ⟨rfl, rfl⟩))
    (fun os started H enc _ => lifted os started H enc)

theorem proved : Rows.RowsTurnSaid := over
#print axioms proved
end Go.Proofs.Ytldnacphfoagnaa.rowsTurn
