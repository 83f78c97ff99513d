/- 'ambry/ambrylaw12.SeglruKeeps' returns true, for every input, and leaves its arguments as they were. No condition. -/
import Derived.Test.YtldnacphfoagnacIn
import Derived.Test.YtldnacphfoagnacSegShown
import Derived.Test.YtldnacphfoagnacSegMore
import Derived.Deep.QuietTactic
import Derived.BigQuiet
import Derived.WalkKit
import Derived.ProofKit
import Derived.OpenShut
import Derived.ShutString
import Derived.ChangeOld
import Derived.Below
namespace Go.Proofs.Ytldnacphfoagnac.seglruKeeps
open Go.ChangeShapes Go.WideShapes Go.ChangeAt Go.RowKit
open Go.ChangeMaps (open_string shut_string)
set_option linter.unusedVariables false

theorem own : ownKnob Try.prog.godebug = none := by kernel_rfl
theorem laidOut : laidOutB Try.prog = true := by kernel_rfl

def mk (L : Nat → List Int) : Nat → Bool := fun j => decide ((j : Int) ∈ flat L 3)
def Sm (L : Nat → List Int) : Prop := ∀ x, x ∈ flat L 3 → 0 ≤ x ∧ x ≤ 63
theorem Sm.wide {L : Nat → List Int} (h : Sm L) : ∀ x, x ∈ flat L 3 → 0 ≤ x ∧ x ≤ 4194303 := fun x hx => by have := h x hx; omega
theorem Sm.ins {L : Nat → List Int} (h : Sm L) {i : Nat} (hi : i ≤ 63) : Sm (insL L i) := fun x hx => by
  rcases (ins_mem (by omega)).1 hx with q | q
  · omega
  · exact h x q
theorem Sm.step {L : Nat → List Int} (h : Sm L) (A : Int → Bool) : Sm (stepL L A) := fun x hx => h x ((step_mem h.wide).1 hx)
theorem mk_ins {L : Nat → List Int} {i : Nat} (hi : i ≤ 63) : (bools 64 (mk L)).set i (.bool true) = bools 64 (mk (insL L i)) := by
  rw [bools_set _ _ (by omega)]
  apply bools_congr
  intro j hj
  unfold mk
  by_cases e : j = i
  · rw [if_pos e, decide_eq_true ((ins_mem (by omega)).2 (Or.inl (by omega)))]
  · rw [if_neg e, Bool.eq_iff_iff, decide_eq_true_iff, decide_eq_true_iff, ins_mem (by omega)]
    exact ⟨Or.inr, fun q => q.elim (fun q => absurd q (by omega)) id⟩
theorem mk_step {L : Nat → List Int} (h : Sm L) (A : Int → Bool) : bools 64 (mk L) = bools 64 (mk (stepL L A)) := by
  apply bools_congr
  intro j hj
  unfold mk
  rw [Bool.eq_iff_iff, decide_eq_true_iff, decide_eq_true_iff, step_mem h.wide]
theorem mk_nil : mk (fun _ => []) = fun _ => false := by funext j; simp [mk, mem_flat]
set_option maxRecDepth 100000 in
set_option maxHeartbeats 4000000 in
theorem walk (w : World) (a0 : Option Addr) (n0 c0 : Nat) (w0 : n0 ≤ c0 ∧ ∀ i, i < n0 → InAt w a0 1 i (fun cs => ∃ x : Int, cs = [.int .i64 x] ∧ (Lit.int .i64 x).wf = true)) (a1 : Option Addr) (n1 c1 : Nat) (w1 : n1 ≤ c1 ∧ ∀ i, i < n1 → InAt w a1 1 i (fun cs => ∃ x : Int, cs = [.int .i64 x] ∧ (Lit.int .i64 x).wf = true)) (a2 : Int) (w2 : (Lit.int .i64 a2).wf = true) :
    Calls Try.prog 6 #[.slice a0 n0 c0, .slice a1 n1 c1, .int .i64 a2] w fun e w' => e = .returned (.bool true) ∧ Below w.heap.size w w' := by
  obtain ⟨st, hst', hst127⟩ := and_mask a2 127 (by decide)
  have hst : bits .and .i64 a2 127 = st := hst'
  clear hst'
  go_enter Try.func6, Try.ntmps6
  go_wp2_with fail
  refine (shown_any _).mono ?_
  rintro e y1 ⟨rfl, hF⟩
  have HF := Lib.hid (hF.mono (T := From w.heap.size) (fun _ _ h => h.elim))
  clear hF
  go_wp2_with fail
  refine (new_sg (w0 := w) HF.out).mono ?_
  rintro e y2 ⟨p, S, rfl, h, _, _⟩
  have H := Lib.hid h
  have HB := Lib.hid (Held.array (w0 := w) (W := y2) (S := S) (T := 36) (n := 64) (by decide) (bools 64 (fun _ => false)) (bools_len _ _) (fun b s => h.hi b s) h.fr.size)
  clear h HF
  go_wp2_with fail
  have HB2 := Lib.hid (show Held w (y2.alloc (.cells (List.replicate 64 (.bool false)).toArray 36)) S 36 1 (.slice (some ⟨y2.heap.size, 0, none⟩) 64 64) 64 (bools 64 (mk (fun _ => []))) from by
    have := HB.out
    rw [bools_none] at this
    rw [mk_nil, bools_none]
    exact this)
  clear HB
  obtain ⟨ib, hib⟩ : ∃ ib, y2.heap.size = ib := ⟨_, rfl⟩
  rw [hib] at HB2 ⊢
  go_loopw [10] (fun s wr => ∃ (k N : Nat) (L : Nat → List Int) (A : Int → Bool) (S : Nat → Prop), k ≤ n0 ∧ k ≤ 60 ∧ N ≤ k ∧ s = .int .i64 k ∧ Sep (SG p L A N) w wr S ∧ Held w wr S 36 1 (.slice (some ⟨ib, 0, none⟩) 64 64) 64 (bools 64 (mk L)) ∧ Sm L) (fun s _ => 60 - (intOf s).toNat)
  case atStart => exact ⟨0, 0, _, _, S, by omega, by omega, by omega, rfl, sg_alloc H.out _, HB2.out, fun x hx => by rw [mem_flat] at hx; obtain ⟨_, _, h⟩ := hx; cases h⟩
  case round =>
    clear H HB2 hib
    obtain ⟨k, N, L, A, S, hk, hk2, hN, rfl, h, hb, hSm⟩ := hrel
    have Hk := Lib.hid (And.intro h (And.intro hb hSm))
    clear h hb hSm
    by_cases hlt : k < n0 ∧ k < 60
    · obtain ⟨hlt, hlt2⟩ := hlt
      obtain ⟨b, off, vv, rfl, hbl, hEl, hc⟩ := (w0.2 k hlt).one
      obtain ⟨x, he, hw⟩ := hEl
      simp at he
      subst he
      have hc' : wr.cell? ⟨b, off + k, none⟩ = some (.int .i64 x) := (Hk.out.1.fr.cell hbl (by unfold From; simp; omega)).trans hc
      obtain ⟨m1, hm1, hmb⟩ := and_mask x 63 (by decide)
      have hm1' : bits .and .i64 x 63 = m1 := hm1
      have W0 := Lib.hid w0
      have W1 := Lib.hid w1
      obtain ⟨tb', toff, tcap, hve, hSb, hbl2, _, htx, htf⟩ := Sl.pos Hk.out.2.1 (by decide)
      simp at hve
      obtain ⟨⟨rfl, rfl⟩, rfl⟩ := hve
      have hc2 := htx m1 (by rw [bools_len]; omega)
      rw [bools_get _ (by omega), Nat.zero_add] at hc2
      have hf2 := htf m1
      have hne : b ≠ ib := fun e => by have := hSb.2; omega
      have hm64 : (m1 : Int) < 64 := by omega
      have hset := sg_held_set Hk.out.1 Hk.out.2.1 (i := m1) (by omega) (.bool true)
      rw [Nat.zero_add, mk_ins hmb] at hset
      have H2 := Lib.hid hset
      clear w0 w1 hc hm1 hw htx htf hSb hset
      go_wp2_with fail
      refine (insert_sg H2.out.2 m1 (by omega)).mono ?_
      rintro e y4 ⟨rfl, h, hF⟩
      have H4 := Lib.hid (And.intro h (Held.step H2.out.1 hF))
      clear h hF
      by_cases ht : k < n1
      · obtain ⟨b', off', vv, rfl, hbl', hEl', hc1⟩ := (W1.out.2 k ht).one
        obtain ⟨x', he, _⟩ := hEl'
        simp at he
        subst he
        have hc3 : y4.cell? ⟨b', off' + k, none⟩ = some (.int .i64 x') := (H4.out.1.fr.cell hbl' (by unfold From; simp; omega)).trans hc1
        obtain ⟨m2, hm2, _⟩ := and_mask x' 63 (by decide)
        have hm2' : bits .and .i64 x' 63 = m2 := hm2
        clear hc1 hm2
        go_wp2_with fail
        refine (touch_sg H4.out.1 m2).mono ?_
        rintro e y5 ⟨rfl, h, hF⟩
        have H5 := Lib.hid (And.intro h (Held.step H4.out.2 hF))
        clear h hF
        go_wp2_with fail
        go_roundw
        case rel => exact ⟨k + 1, N + 1, _, _, _, by omega, by omega, by omega, by go_num, H5.out.1, H5.out.2, Hk.out.2.2.ins hmb⟩
        case measure => simp [intOf]; omega
      · go_wp2_with fail
        go_roundw
        case rel => exact ⟨k + 1, N + 1, _, _, _, by omega, by omega, by omega, by go_num, H4.out.1, H4.out.2, Hk.out.2.2.ins hmb⟩
        case measure => simp [intOf]; omega
    · have hex : (k < n0 ∧ k = 60) ∨ n0 ≤ k := by omega
      obtain ⟨wz, rfl⟩ : ∃ wz : World, wz = wr := ⟨_, rfl⟩
      clear hlt
      rcases hex with ⟨hlt, rfl⟩ | hge
      all_goals
        go_wp2_with fail
        go_loopw [11] (fun s wr => ∃ (j N : Nat) (L : Nat → List Int) (A : Int → Bool) (S : Nat → Prop), j ≤ st ∧ N ≤ 60 + j ∧ s = .int .i64 j ∧ Sep (SG p L A N) w wr S ∧ Held w wr S 36 1 (.slice (some ⟨ib, 0, none⟩) 64 64) 64 (bools 64 (mk L)) ∧ Sm L) (fun s _ => st - (intOf s).toNat)
        case atStart => exact ⟨0, N, L, A, S, by omega, by omega, rfl, Hk.out.1, Hk.out.2.1, Hk.out.2.2⟩
        case round =>
          clear Hk
          obtain ⟨j, N, L, A, S, hj, hN, rfl, h, hb, hSm⟩ := hrel
          have Hj := Lib.hid (And.intro h (And.intro hb hSm))
          clear h hb hSm
          by_cases hjl : j < st
          · go_wp2_with fail
            refine (step_sg Hj.out.1 (by omega)).mono ?_
            rintro e y4 ⟨rfl, h, hF⟩
            have H4 := Lib.hid (And.intro h (Held.step Hj.out.2.1 hF))
            clear h hF
            go_wp2_with fail
            go_roundw
            case rel => exact ⟨j + 1, N + 1, _, _, _, by omega, by omega, by go_num, H4.out.1, by rw [← mk_step Hj.out.2.2]; exact H4.out.2, Hj.out.2.2.step A⟩
            case measure => simp [intOf]; omega
          · obtain ⟨wq, rfl⟩ : ∃ wq : World, wq = wr := ⟨_, rfl⟩
            go_wp2_with fail
            have hnd := sg_flat Hj.out.1
            obtain ⟨_, _, hll, _, _⟩ := sg_rows Hj.out.1
            have hfl : ∀ r, (flat L r).length ≤ r * 200 := fun r => flat_len_le (fun r => by have := hll r; omega) r
            have HL := Lib.hid (And.intro hnd (And.intro hfl hll))
            have HT := Lib.hid (Held.array (w0 := w) (W := wq) (S := S) (T := 37) (n := 64) (by decide) (counts 64 []) (counts_len _ _) (fun b s => Hj.out.1.hi b s) Hj.out.1.fr.size)
            have HT0 := Lib.hid (show Held w (wq.alloc (.cells (List.replicate 64 (.int .i64 0)).toArray 37)) S 37 1 (.slice (some ⟨wq.heap.size, 0, none⟩) 64 64) 64 (counts 64 (flat L 0)) from by
              have := HT.out
              rw [counts_nil] at this
              rw [flat_zero, counts_nil]
              exact this)
            clear hnd hll hfl HT
            obtain ⟨tb, htb⟩ : ∃ tb, wq.heap.size = tb := ⟨_, rfl⟩
            rw [htb] at HT0 ⊢
            have hFa : ∀ o : Obj, Fr (fun b => wq.heap.size ≤ b) wq (wq.alloc o) := fun o => (Fr.refl (fun b => wq.heap.size ≤ b) wq).alloc o
            have HFA := Lib.hid hFa
            clear hFa htb
            go_loopw [13, 14, 15] (fun t _ _ wr => ∃ r : Nat, r ≤ 3 ∧ t = .int .i64 r ∧ Sep (SG p L A N) w wr S ∧ Held w wr S 36 1 (.slice (some ⟨ib, 0, none⟩) 64 64) 64 (bools 64 (mk L)) ∧ Held w wr S 37 1 (.slice (some ⟨tb, 0, none⟩) 64 64) 64 (counts 64 (flat L r))) (fun t _ _ _ => 3 - (intOf t).toNat)
            case atStart => exact ⟨0, by omega, rfl, sg_alloc Hj.out.1 _, Held.keep Hj.out.2.1 (HFA.out _) (fun b hb => by omega), HT0.out⟩
            case round =>
              clear HT0 HFA
              obtain ⟨r, hr, rfl, h, hb, hT⟩ := hrel
              have H2 := Lib.hid (And.intro h (And.intro hb hT))
              clear h hb hT
              have hfl1 := HL.out.2.1 r
              have hfl2 := HL.out.2.2 r
              obtain ⟨P, hP⟩ : ∃ P, flat L r = P := ⟨_, rfl⟩
              obtain ⟨ll, hl⟩ : ∃ ll, L r = ll := ⟨_, rfl⟩
              have hsc := flat_succ L r
              have hrl : rowL L r = L r := rowL_nat L r
              rw [hP, hl] at hsc
              rw [hl] at hrl hfl2
              rw [hP] at hfl1
              have HP := Lib.hid (And.intro hP (And.intro hl (And.intro hsc hrl)))
              clear hP hl hsc hrl
              by_cases hrn : r < 3
              · obtain ⟨wo, rfl⟩ : ∃ wo : World, wo = wr := ⟨_, rfl⟩
                obtain ⟨g, hcg, hAll⟩ := all_sg H2.out.1 (by omega)
                have HA := Lib.hid hAll
                clear hAll
                go_wp2_with fail
                refine (HA.out r).mono ?_
                rintro e y4 ⟨v2, rfl, hs, h, hF⟩
                rw [HP.out.2.2.2] at hs
                obtain ⟨v2a, v2cap, rfl, _⟩ := Sl.shape hs
                have H4 := Lib.hid (And.intro h (And.intro hs (And.intro (Held.keep H2.out.2.1 hF (fun b hb => by omega)) (Held.keep H2.out.2.2 hF (fun b hb => by omega)))))
                clear hs h hF hcg
                go_wp2_with fail
                go_loopw [15] (fun t wr => ∃ i : Nat, i ≤ ll.length ∧ t = .int .i64 i ∧ Sep (SG p L A N) w wr S ∧ Held w wr S 3 1 (.slice v2a ll.length v2cap) ll.length (ll.map (Value.int .i64)) ∧ Held w wr S 36 1 (.slice (some ⟨ib, 0, none⟩) 64 64) 64 (bools 64 (mk L)) ∧ Held w wr S 37 1 (.slice (some ⟨tb, 0, none⟩) 64 64) 64 (counts 64 (P ++ ll.take i))) (fun t _ => ll.length - (intOf t).toNat)
                case atStart => exact ⟨0, by omega, rfl, H4.out.1, H4.out.2.1, H4.out.2.2.1, by rw [List.take_zero, List.append_nil]; have := H4.out.2.2.2; rw [HP.out.1] at this; exact this⟩
                case round =>
                  clear H2 H4 HA
                  obtain ⟨i, hi, rfl, h, hs, hb, hT⟩ := hrel
                  by_cases hil : i < ll.length
                  · obtain ⟨x, hx⟩ : ∃ x, ll[i]? = some x := ⟨_, List.getElem?_eq_getElem hil⟩
                    have hxm := List.mem_of_getElem? hx
                    have hxr := Hj.out.2.2 x (mem_flat.2 ⟨r, hrn, by rw [HP.out.2.1]; exact hxm⟩)
                    obtain ⟨m, rfl⟩ : ∃ m : Nat, x = m := ⟨x.toNat, by omega⟩
                    obtain ⟨va, vcap, hve, hvx⟩ := sl_at hs
                    simp at hve
                    obtain ⟨rfl, rfl⟩ := hve
                    obtain ⟨b, off, rfl, hbb, _, hcx, _⟩ := hvx i m hx
                    obtain ⟨tb', toff, tcap, hve, _, _, _, htx, htf⟩ := Sl.pos hT (by decide)
                    simp at hve
                    obtain ⟨⟨rfl, rfl⟩, rfl⟩ := hve
                    have hc2 := htx m (by rw [counts_len]; omega)
                    rw [counts_get _ (by omega), Nat.zero_add] at hc2
                    have hf2 := htf m
                    obtain ⟨c, hc⟩ : ∃ c, List.count (m : Int) (P ++ ll.take i) = c := ⟨_, rfl⟩
                    have hc1 : c ≤ 1000 := by
                      have := List.count_le_length (a := (m : Int)) (l := P ++ ll.take i)
                      rw [hc, List.length_append] at this
                      have := List.length_take_le i ll
                      omega
                    rw [hc] at hc2
                    have hsnoc := counts_snoc (P ++ ll.take i) (j := m) (m := 64) (by omega)
                    rw [hc, List.append_assoc, ← (show ll.take (i + 1) = ll.take i ++ [(m : Int)] from by rw [List.take_succ_eq_append_getElem hil]; congr 2; exact (List.getElem?_eq_some_iff.1 hx).2)] at hsnoc
                    have HX := Lib.hid (And.intro h (And.intro hs (And.intro hb (And.intro hT hsnoc))))
                    have hm31 : (m : Int) ≤ 63 := by omega
                    have hm32 : (m : Int) < 64 := by omega
                    clear h hs hT hb hsnoc hxm hxr hvx htx htf hbb hx hc
                    go_wp2_with fail
                    go_roundw
                    case rel =>
                      obtain ⟨h, hs, hb, hT, hsnoc⟩ := HX.out
                      have hset := sg_held_set h hT (i := m) (by omega) (.int .i64 ((c : Int) + 1))
                      rw [Nat.zero_add] at hset
                      refine ⟨i + 1, by omega, by go_num, hset.2, hs.set_type hT (by decide) m _, hb.set_type hT (by decide) m _, ?_⟩
                      rw [hsnoc]; exact hset.1
                    case measure => simp [intOf]; omega
                  · obtain rfl : i = ll.length := by omega
                    have HX := Lib.hid (And.intro h (And.intro hb hT))
                    clear h hs hb hT
                    go_wp2_with fail
                    go_roundw
                    case rel => exact ⟨r + 1, by omega, by go_num, HX.out.1, HX.out.2.1, by rw [HP.out.2.2.1]; have := HX.out.2.2; rw [List.take_length] at this; exact this⟩
                    case measure => simp [intOf]; omega
              · obtain rfl : r = 3 := by omega
                obtain ⟨wy, rfl⟩ : ∃ wy : World, wy = wr := ⟨_, rfl⟩
                have hPn : P = flat L 3 := HP.out.1.symm
                have hcnt := fun x => count_one (l := P) (by rw [hPn]; exact HL.out.1) x
                have hmk : ∀ j, mk L j = decide ((j : Int) ∈ P) := fun j => by rw [hPn]; rfl
                have HT2 := H2.out.2.2
                rw [HP.out.1] at HT2
                have HT3 := Lib.hid (And.intro HT2 (And.intro hcnt hmk))
                clear HT2 hcnt hmk hPn hfl1 hfl2
                go_wp2_with fail
                go_loopw [16] (fun t wr => ∃ j : Nat, j ≤ 64 ∧ t = .int .i64 j ∧ Sep (SG p L A N) w wr S ∧ Held w wr S 36 1 (.slice (some ⟨ib, 0, none⟩) 64 64) 64 (bools 64 (mk L)) ∧ Held w wr S 37 1 (.slice (some ⟨tb, 0, none⟩) 64 64) 64 (counts 64 P)) (fun t _ => 64 - (intOf t).toNat)
                case atStart => exact ⟨0, by omega, rfl, H2.out.1, H2.out.2.1, HT3.out.1⟩
                case round =>
                  clear H2
                  obtain ⟨j, hj, rfl, h, hb, hT⟩ := hrel
                  by_cases hjl : j < 64
                  · obtain ⟨tb', toff, tcap, hve, _, _, _, htx, htf⟩ := Sl.pos hT (by decide)
                    simp at hve
                    obtain ⟨⟨rfl, rfl⟩, rfl⟩ := hve
                    obtain ⟨tb', toff, tcap, hve, _, _, _, hbx, _⟩ := Sl.pos hb (by decide)
                    simp at hve
                    obtain ⟨⟨rfl, rfl⟩, rfl⟩ := hve
                    have hc2 := htx j (by rw [counts_len]; omega)
                    rw [counts_get _ (by omega), Nat.zero_add, HT3.out.2.1] at hc2
                    have hc3 := hbx j (by rw [bools_len]; omega)
                    rw [bools_get _ (by omega), Nat.zero_add, HT3.out.2.2] at hc3
                    have HX := Lib.hid (And.intro h (And.intro hb hT))
                    rcases hm : decide ((j : Int) ∈ P) with _ | _
                    · rw [if_neg (of_decide_eq_false hm)] at hc2
                      rw [hm] at hc3
                      have hc4 : wr.cell? ⟨tb, j, none⟩ = some (.int .i64 0) := hc2
                      clear h hb hT htx htf hbx hm hc2
                      go_wp2_with fail
                      go_quiet (fail)
                      go_wp2
                      go_roundw
                      case rel => exact ⟨j + 1, by omega, by go_num, sg_drewN HX.out.1 _, Held.keep HX.out.2.1 ((Fr.refl (fun _ => False) wr).drewN nq) (fun _ _ h => h), Held.keep HX.out.2.2 ((Fr.refl (fun _ => False) wr).drewN nq) (fun _ _ h => h)⟩
                      case measure => simp [intOf]; omega
                    · rw [if_pos (of_decide_eq_true hm)] at hc2
                      rw [hm] at hc3
                      have hc4 : wr.cell? ⟨tb, j, none⟩ = some (.int .i64 1) := hc2
                      clear h hb hT htx htf hbx hm hc2
                      go_wp2_with fail
                      go_quiet (fail)
                      go_wp2
                      go_roundw
                      case rel => exact ⟨j + 1, by omega, by go_num, sg_drewN HX.out.1 _, Held.keep HX.out.2.1 ((Fr.refl (fun _ => False) wr).drewN nq) (fun _ _ h => h), Held.keep HX.out.2.2 ((Fr.refl (fun _ => False) wr).drewN nq) (fun _ _ h => h)⟩
                      case measure => simp [intOf]; omega
                  · have HX := Lib.hid h
                    clear h hb hT
                    go_wp2
                    go_ret
                    exact ⟨rfl, HX.out.below⟩

set_option maxRecDepth 100000 in
theorem lifted (os : Os) (started : os.Started) (H : Type) (enc : TypeId × Value → H) :
    ReturnsInHanded {} Try.checked os 6 .any (Rows.seglruKeepsSpec.pre6 enc Try.prog Try.f6 Rows.seglruKeepsRow.domain false) (Rows.seglruKeepsSpec.post enc Try.prog Try.f6 false true false false) := by
  refine returnsInHanded_of_change (C := Try.checked) own started (by kernel_rfl) Try.func6
    (ChangeSpec.witness6 (enc := enc) (C := Try.checked) false ⟨#[], #[.slice none 0 0, .slice none 0 0, .int .i64 0], []⟩ 8 (by kernel_rfl) (by kernel_rfl) (by kernel_rfl) (by kernel_rfl)) ?_
  intro W base args ds gs before hval0 hW hcnd _
  have hval : ∀ (j : Nat) t v, Try.f6.params[j]? = some t → args[j]? = some v → Value.okWide Try.prog W .any base t v := hval0
  have hW' := hW
  obtain ⟨p, q, hA0, hV, rfl, hfz, hnd⟩ := hW
  have hA : DataW.TrodAll enc Try.prog W 0 (fun _ => true) true Try.f6.params.toList args.toList ds p := hA0
  rw [Try.params6] at hA hval
  obtain ⟨v0, vs0, d0, ds0, p0, q0, hargs, rfl, rfl, h0, r0⟩ := trodAll_cons hA
  obtain ⟨v1, vs1, d1, ds1, p1, q1, rfl, rfl, rfl, h1, r1⟩ := trodAll_cons r0
  obtain ⟨v2, vs2, d2, ds2, p2, q2, rfl, rfl, rfl, h2, r2⟩ := trodAll_cons r1
  obtain ⟨rfl, rfl, rfl⟩ := trodAll_nil r2
  obtain rfl : args = #[v0, v1, v2] := by cases args; simp_all
  obtain ⟨rfl, rfl⟩ := trodVars_none hV
  obtain ⟨a0, n0, c0, rfl⟩ := okWide_slice Try.underlying28 (hval 0 28 v0 rfl rfl)
  have k0 := h0
  have lt0 : ∀ x ∈ p0, x.block < W.heap.size := by obtain ⟨m, hm⟩ := k0; exact DataW.trod_lt m _ _ _ hm
  have w0 := open_in (C := fun cs => ∃ x : Int, cs = [.int .i64 x] ∧ (Lit.int .i64 x).wf = true) Try.underlying28 k0 1 (by kernel_rfl) (by decide) (fun m cs x h => by obtain ⟨x, e, _, hw⟩ := DataW.trod_int Try.underlying3 h; exact ⟨x, e, hw⟩)
  obtain ⟨a1, n1, c1, rfl⟩ := okWide_slice Try.underlying28 (hval 1 28 v1 rfl rfl)
  have k1 := h1
  have lt1 : ∀ x ∈ p1, x.block < W.heap.size := by obtain ⟨m, hm⟩ := k1; exact DataW.trod_lt m _ _ _ hm
  have w1 := open_in (C := fun cs => ∃ x : Int, cs = [.int .i64 x] ∧ (Lit.int .i64 x).wf = true) Try.underlying28 k1 1 (by kernel_rfl) (by decide) (fun m cs x h => by obtain ⟨x, e, _, hw⟩ := DataW.trod_int Try.underlying3 h; exact ⟨x, e, hw⟩)
  obtain ⟨a2, rfl, rfl, rfl, w2⟩ := open_int Try.underlying3 (hval 2 3 v2 rfl rfl) h2
  clear hA0 hval0
  refine (walk W a0 n0 c0 w0 a1 n1 c1 w1 a2 w2).mono fun e W' ⟨he, bel⟩ => ?_
  subst he
  exact ⟨_, rfl, _, _, _, [], _, [], hW', trodAll_mk1 (shut_bool Try.underlying4 _), (trodAll_cons_mk (Below.trod laidOut (by kernel_rfl) (of_decide_eq_true (by kernel_rfl)) k0 bel lt0) (trodAll_cons_mk (Below.trod laidOut (by kernel_rfl) (of_decide_eq_true (by kernel_rfl)) k1 bel lt1) (trodAll_cons_mk (shut_int Try.underlying3 w2) trodAll_mk0))), rfl, bel.frame _, fun h => by cases h⟩

theorem over : Rows.seglruKeepsRow.holds Try.pinned (OpenSpec.ofChange Rows.seglruKeepsSpec) :=
  OpenClaim.holds_of_wide 6 Try.f6 rfl rfl rfl rfl rfl rfl rfl ⟨rfl, rfl, rfl, rfl, rfl⟩ rfl rfl rfl rfl rfl (by kernel_rfl) Try.func6 (by kernel_rfl)
    (of_decide_eq_true (by kernel_rfl)) (by unfold Func.isWrapper; first | (rw [if_pos (by decide +kernel)]; kernel_rfl) | (rw [if_neg (by decide +kernel)]; exact ⟨rfl, rfl⟩))
    (fun os started H enc _ => lifted os started H enc)

theorem proved : Rows.SeglruKeepsSaid := over
#print axioms proved
end Go.Proofs.Ytldnacphfoagnac.seglruKeeps
