/- 'ambry/ambrylaw10.RowsOne' returns true, for every input, and leaves its arguments as they were. No condition. -/
import Derived.Test.YtldnacphfoagnaaIn
import Derived.Test.YtldnacphfoagnaaRowsShown
import Derived.Test.YtldnacphfoagnaaRowsSepB
import Derived.Test.YtldnacphfoagnaaRowsMore
import Derived.Test.YtldnacphfoagnaaCount
import Derived.Deep.QuietTactic
import Derived.BigQuiet
import Derived.WalkKit
import Derived.ProofKit
import Derived.OpenShut
import Derived.ShutString
import Derived.ChangeOld
import Derived.Below
namespace Go.Proofs.Ytldnacphfoagnaa.rowsOne
open Go.ChangeShapes Go.WideShapes Go.ChangeAt Go.RowKit
open Go.ChangeMaps (open_string shut_string)
set_option linter.unusedVariables false

theorem own : ownKnob Try.prog.godebug = none := by kernel_rfl
theorem laidOut : laidOutB Try.prog = true := by kernel_rfl
def El34 : List Value → Prop := fun cs => ∃ (x0 : Int) (x1 : Int) (x2 : Int), cs = [.int .i64 x0, .int .i64 x1, .int .i64 x2] ∧ (Lit.int .i64 x0).wf = true ∧ (Lit.int .i64 x1).wf = true ∧ (Lit.int .i64 x2).wf = true
theorem cells34 : Try.prog.cellsOf 34 = 3 := by kernel_rfl
theorem one34_3 : Try.prog.cellsOf 3 = 1 := by kernel_rfl
theorem el34 {H : Type} {enc : TypeId × Value → H} {w : World} {base : Nat} {spare : Nat → Bool} {held : Bool} (m : Nat) (cs : List Value) (x : DataW H × List MemPlace) (h : DataW.trod enc Try.prog w base spare held m 34 cs = some x) : El34 cs := by
  obtain ⟨xs, m', _, _, hlen, hl, hg⟩ := DataW.trod_struct Try.underlying34 h
  rw [cells34] at hlen
  match cs, hlen, xs, hl, hg with
  | [c0, c1, c2], _, [y0, y1, y2], _, hg =>
    have g0 := hg 0 _ rfl
    have g0 : DataW.trod enc Try.prog w base spare held m' 3 (([c0, c1, c2].drop 0).take (Try.prog.cellsOf 3)) = some y0 := g0
    rw [one34_3] at g0
    obtain ⟨x0, e0, _, w0⟩ := DataW.trod_int Try.underlying3 g0
    have g1 := hg 1 _ rfl
    have g1 : DataW.trod enc Try.prog w base spare held m' 3 (([c0, c1, c2].drop 1).take (Try.prog.cellsOf 3)) = some y1 := g1
    rw [one34_3] at g1
    obtain ⟨x1, e1, _, w1⟩ := DataW.trod_int Try.underlying3 g1
    have g2 := hg 2 _ rfl
    have g2 : DataW.trod enc Try.prog w base spare held m' 3 (([c0, c1, c2].drop 2).take (Try.prog.cellsOf 3)) = some y2 := g2
    rw [one34_3] at g2
    obtain ⟨x2, e2, _, w2⟩ := DataW.trod_int Try.underlying3 g2
    simp at e0 e1 e2
    subst e0 e1 e2
    exact ⟨x0, x1, x2, rfl, w0, w1, w2⟩

theorem may_lt {n : Nat} {r i : Nat} (hr : r ≤ 7) (hi : i ≤ 31) : mayIn n (r : Int) (i : Int) = decide ((r : Int) < n) := by
  unfold mayIn
  by_cases h : (r : Int) < n
  · rw [decide_eq_true h, decide_eq_true (by omega)]
  · rw [decide_eq_false h, decide_eq_false (by omega)]
/-- All ids are below 32. -/
def Low (L : Nat → List Int) : Prop := ∀ r x, x ∈ L r → 0 ≤ x ∧ x ≤ 31
theorem Low.del {L : Nat → List Int} (h : Low L) (id : Int) : Low (del L id) := fun r x hx => h r x (List.mem_filter.1 hx).1
theorem Low.front {n : Nat} {L : Nat → List Int} (h : Low L) (r i : Nat) (hi : i ≤ 31) : Low (frontL n L r i) := by
  unfold frontL
  split
  · intro s x hx
    unfold putF at hx
    split at hx
    · rcases List.mem_cons.1 hx with q | q
      · omega
      · exact h.del i s x q
    · exact h.del i s x hx
  · exact h
theorem Low.back {n : Nat} {L : Nat → List Int} (h : Low L) (r i : Nat) (hi : i ≤ 31) : Low (backL n L r i) := by
  unfold backL
  split
  · intro s x hx
    unfold putB at hx
    split at hx
    · rcases List.mem_append.1 hx with q | q
      · exact h.del i s x q
      · simp at q; omega
    · exact h.del i s x hx
  · exact h
theorem front_first {n : Nat} {L : Nat → List Int} {r i : Nat} (h : mayIn n (r : Int) (i : Int) = true) : firstOf (rowL (frontL n L r i) r) = i := by
  rw [rowL_nat]; unfold frontL; rw [h]; simp [putF, firstOf]
theorem back_last {n : Nat} {L : Nat → List Int} {r i : Nat} (h : mayIn n (r : Int) (i : Int) = true) : lastOf (rowL (backL n L r i) r) = i := by
  rw [rowL_nat]; unfold backL; rw [h]; simp [putB, lastOf]
theorem row_del (n : Nat) (L : Nat → List Int) (id : Int) : rowOf n (del L id) id = -1 := rowOf_none fun r _ => not_in_del L id r
theorem rowOf_nonneg {n : Nat} {L : Nat → List Int} {id : Int} : 0 ≤ rowOf n L id ↔ id ∈ flat L n := by
  rw [mem_flat]
  unfold rowOf
  rcases h : (List.range n).find? (fun r => decide (id ∈ L r)) with _ | r
  · constructor
    · intro h; simp at h
    · rintro ⟨r, hr, hm⟩
      exact absurd hm (by simpa using List.find?_eq_none.1 h r (List.mem_range.2 hr))
  · have h1 := List.find?_some h
    have h2 := List.mem_of_find?_eq_some h
    exact ⟨fun _ => ⟨r, List.mem_range.1 h2, by simpa using h1⟩, fun _ => by simp⟩
theorem row_same {w0 w : World} {S : Nat → Prop} {g n : Nat} {L : Nat → List Int} {N : Nat} (h : Sep (RW g n L N) w0 w S) (id : Int) :
    Calls Try.prog 19 #[.pointer (some ⟨g, 0, none⟩), .int .i64 id] w fun e w' => e = .returned (.int .i64 (rowOf n L id)) ∧ w' = w := (row_rw h id).mono fun _ _ ⟨a, b⟩ => ⟨a, b.symm⟩
set_option maxRecDepth 100000 in
set_option maxHeartbeats 4000000 in
theorem walk (w : World) (a0 : Int) (w0 : (Lit.int .i64 a0).wf = true) (a1 : Option Addr) (n1 c1 : Nat) (w1 : n1 ≤ c1 ∧ ∀ i, i < n1 → InAt w a1 3 i (El34)) :
    Calls Try.prog 6 #[.int .i64 a0, .slice a1 n1 c1] w fun e w' => e = .returned (.bool true) ∧ Below w.heap.size w w' := by
  have b0 := bounds_i64 w0
  go_enter Try.func6, Try.ntmps6
  go_upto_if 20 with (go_at_call 8; refine (shown_any _).mono ?_; rintro e y1 ⟨rfl, hF⟩; have HF := Lib.hid (hF.mono (T := From w.heap.size) (fun _ _ h => h.elim)); clear hF)
  go_cut [0] (fun s wx => ∃ p : Nat, p ≤ 9223372036854775807 ∧ s = .int .i64 p ∧ y1 = wx)
  case first =>
    by_cases hp : a0 < 0
    · go_wp2
      go_meet
      exact ⟨(-(a0 + 1)).toNat, by omega, by rw [Int.toNat_of_nonneg (by omega)], rfl⟩
    · go_wp2
      go_meet
      exact ⟨a0.toNat, by omega, by rw [Int.toNat_of_nonneg (by omega)], rfl⟩
  case rest =>
    obtain ⟨p, hp, rfl, rfl⟩ := hcut
    clear b0
    go_upto_region 4 with fail
    go_cut [0] (fun s wx => ∃ n : Nat, 1 ≤ n ∧ n ≤ 8 ∧ s = .int .i64 n ∧ y1 = wx)
    case first =>
      go_wp2
      go_meet
      exact ⟨1 + p % 8, by omega, by omega, by simp, rfl⟩
    case rest =>
      obtain ⟨n, hn1, hn8, rfl, rfl⟩ := hcut
      clear hp
      go_wp2_with fail
      refine (new_rw (w0 := w) n hn1 hn8 HF.out).mono ?_
      rintro e y2 ⟨g, S, rfl, h, _, _⟩
      have H := Lib.hid h
      clear h HF
      go_wp2_with fail
      go_loopw [7, 8, 9, 10, 11] (fun i _ _ _ _ wr => ∃ (k N : Nat) (L : Nat → List Int) (S : Nat → Prop), k ≤ n1 ∧ k ≤ 100 ∧ N ≤ k ∧ i = .int .i64 k ∧ Low L ∧ Sep (RW g n L N) w wr S) (fun i _ _ _ _ _ => 100 - (intOf i).toNat)
      case atStart => exact ⟨0, 0, _, _, by omega, by omega, by omega, rfl, (fun r x hx => by cases hx), H.out⟩
      case round =>
        clear H
        obtain ⟨k, N, L, S, hk, hk2, hN, rfl, hLo, h⟩ := hrel
        have Hk := Lib.hid (And.intro h hLo)
        clear h hLo
        by_cases hlt : k < n1 ∧ k < 100
        · obtain ⟨hlt, hlt2⟩ := hlt
          obtain ⟨b, off, u, v, x, rfl, hbl, hEl, hc0, hc1, hc2⟩ := (w1.2 k hlt).three
          obtain ⟨x0, x1, x2, he, hw0, hw1, hw2⟩ := hEl
          simp at he
          obtain ⟨rfl, rfl, rfl⟩ := he
          have hd0 : wr.cell? ⟨b, off + k * 3, none⟩ = some (.int .i64 x0) := (Hk.out.1.fr.cell hbl (by unfold From; simp; omega)).trans hc0
          have hd1 : wr.cell? ⟨b, off + k * 3 + 1, none⟩ = some (.int .i64 x1) := (Hk.out.1.fr.cell hbl (by unfold From; simp; omega)).trans hc1
          have hd2 : wr.cell? ⟨b, off + k * 3 + 2, none⟩ = some (.int .i64 x2) := (Hk.out.1.fr.cell hbl (by unfold From; simp; omega)).trans hc2
          obtain ⟨m1, hm1, hmb1⟩ := and_mask x1 7 (by decide)
          obtain ⟨m2, hm2, hmb2⟩ := and_mask x2 31 (by decide)
          have hm1' : bits .and .i64 x1 7 = m1 := hm1
          have hm2' : bits .and .i64 x2 31 = m2 := hm2
          have W1 := Lib.hid w1
          clear w1 hc0 hc1 hc2 hm1 hm2 hw0 hw1 hw2
          have HA := Lib.hid (rw_alloc Hk.out.1 (.cells #[.int .i64 x0, .int .i64 x1, .int .i64 x2] 34))
          by_cases h1 : x0 = 1
          · subst h1
            go_wp2_with fail
            refine (front_rw HA.out m1 m2 (by omega)).mono ?_
            rintro e y4 ⟨rfl, h, hF⟩
            have H4 := Lib.hid h
            clear h hF
            rcases hmn : decide ((m1 : Int) < n) with _ | _
            · have hm := (may_lt (n := n) hmb1 hmb2).trans hmn
              rw [hm]
              have hge : ¬ (m1 : Int) < n := of_decide_eq_false hmn
              clear hm
              go_wp2_with fail
              go_roundw
              case rel => exact ⟨k + 1, N + 1, _, _, by omega, by omega, by omega, by go_num, Hk.out.2.front m1 m2 hmb2, H4.out⟩
              case measure => simp [intOf]; omega
            · have hm := (may_lt (n := n) hmb1 hmb2).trans hmn
              rw [hm]
              have hge : (m1 : Int) < n := of_decide_eq_true hmn
              have HM := Lib.hid (front_first (L := L) hm)
              clear hm
              go_wp2_with fail
              refine (first_rw H4.out m1).mono ?_
              rintro e y5 ⟨q5, rfl, rfl, h⟩
              have H5 := Lib.hid h
              clear h
              rw [HM.out]
              go_wp2_with fail
              go_roundw
              case rel => exact ⟨k + 1, N + 1, _, _, by omega, by omega, by omega, by go_num, Hk.out.2.front m1 m2 hmb2, H5.out⟩
              case measure => simp [intOf]; omega
          · have h1b : (x0 == 1) = false := by simpa using h1
            clear h1
            by_cases h2 : x0 = 2
            · subst h2
              go_wp2_with fail
              refine (back_rw HA.out m1 m2 (by omega)).mono ?_
              rintro e y4 ⟨rfl, h, hF⟩
              have H4 := Lib.hid h
              clear h hF
              rcases hmn : decide ((m1 : Int) < n) with _ | _
              · have hm := (may_lt (n := n) hmb1 hmb2).trans hmn
                rw [hm]
                have hge : ¬ (m1 : Int) < n := of_decide_eq_false hmn
                clear hm
                go_wp2_with fail
                go_roundw
                case rel => exact ⟨k + 1, N + 1, _, _, by omega, by omega, by omega, by go_num, Hk.out.2.back m1 m2 hmb2, H4.out⟩
                case measure => simp [intOf]; omega
              · have hm := (may_lt (n := n) hmb1 hmb2).trans hmn
                rw [hm]
                have hge : (m1 : Int) < n := of_decide_eq_true hmn
                have HM := Lib.hid (back_last (L := L) hm)
                clear hm
                go_wp2_with fail
                refine (last_rw H4.out m1).mono ?_
                rintro e y5 ⟨q5, rfl, rfl, h⟩
                have H5 := Lib.hid h
                clear h
                rw [HM.out]
                go_wp2_with fail
                go_roundw
                case rel => exact ⟨k + 1, N + 1, _, _, by omega, by omega, by omega, by go_num, Hk.out.2.back m1 m2 hmb2, H5.out⟩
                case measure => simp [intOf]; omega
            · have h2b : (x0 == 2) = false := by simpa using h2
              clear h2
              obtain ⟨ro, hro⟩ : ∃ ro, rowOf n L m2 = ro := ⟨_, rfl⟩
              have HR := Lib.hid hro
              clear hro
              have HD := Lib.hid (row_del n L m2)
              rcases hdr : decide (0 ≤ ro) with _ | _
              all_goals
                have hdd := hdr
                simp only [decide_eq_true_eq, decide_eq_false_iff_not] at hdd
                go_wp2_with fail
                refine (row_rw HA.out m2).mono ?_
                rintro e y4 ⟨rfl, rfl⟩
                rw [HR.out]
                go_wp2_with fail
                refine (take_rw HA.out m2 (by omega)).mono ?_
                rintro e y5 ⟨rfl, h, hF⟩
                have H5 := Lib.hid h
                clear h hF
                rw [HR.out, hdr]
                go_wp2_with fail
                refine (row_rw H5.out m2).mono ?_
                rintro e y6 ⟨rfl, rfl⟩
                rw [HD.out]
                go_wp2_with fail
                go_roundw
                case rel => exact ⟨k + 1, N, _, _, by omega, by omega, by omega, by go_num, Hk.out.2.del m2, H5.out⟩
                case measure => simp [intOf]; omega
        · have hex : (k < n1 ∧ k = 100) ∨ n1 ≤ k := by omega
          obtain ⟨wz, rfl⟩ : ∃ wz : World, wz = wr := ⟨_, rfl⟩
          have hnd : (flat L n).Nodup := flat_nodup n (fun r hr => RowsAt.nodup Hk.out.1.at_ hr) (fun r s hr hs x h1 h2 => RowsAt.disj Hk.out.1.at_ hr hs h1 h2)
          have hfn : ∀ x, x ∈ flat L n → 0 ≤ x ∧ x ≤ 31 := fun x hx => by
            obtain ⟨r, _, hr⟩ := mem_flat.1 hx
            exact Hk.out.2 r x hr
          have hfl : ∀ k, (flat L k).length ≤ k * 100 := fun k => flat_len_le (fun r => by have := RowsAt.len_le Hk.out.1.at_ r; omega) k
          have hll : ∀ r, (L r).length ≤ 100 := fun r => by have := RowsAt.len_le Hk.out.1.at_ r; omega
          have hro : ∀ r x, r < n → x ∈ L r → rowOf n L x = r := fun r x hr hx => rowOf_some hr hx (fun s hs h => RowsAt.disj Hk.out.1.at_ hr hs hx h)
          have HL := Lib.hid (And.intro hnd (And.intro hfn (And.intro hfl (And.intro hll hro))))
          have HT := Lib.hid (Held.array (w0 := w) (W := wz) (S := S) (T := 39) (n := 32) (by decide) (counts 32 []) (counts_len _ _) (fun b s => Hk.out.1.hi b s) Hk.out.1.fr.size)
          clear hlt hnd hfn hfl hll hro
          rcases hex with ⟨hlt, rfl⟩ | hge
          all_goals
            go_wp2_with fail
            have hT0 : Held w (wz.alloc (.cells (List.replicate 32 (.int .i64 0)).toArray 39)) S 39 1 (.slice (some ⟨wz.heap.size, 0, none⟩) 32 32) 32 (counts 32 (flat L 0)) := by
              have := HT.out
              rw [counts_nil] at this
              rw [flat_zero, counts_nil]
              exact this
            have HT0 := Lib.hid hT0
            clear hT0
            obtain ⟨tb, htb⟩ : ∃ tb, wz.heap.size = tb := ⟨_, rfl⟩
            rw [htb] at HT0 ⊢
            go_loopw [13, 14, 15, 16] (fun s t _ _ wr => ∃ k : Nat, k ≤ n ∧ t = .int .i64 k ∧ s = .int .i64 (flat L k).length ∧ Sep (RW g n L N) w wr S ∧ Held w wr S 39 1 (.slice (some ⟨tb, 0, none⟩) 32 32) 32 (counts 32 (flat L k))) (fun _ t _ _ _ => n - (intOf t).toNat)
            case atStart => exact ⟨0, by omega, rfl, rfl, rw_alloc Hk.out.1 _, HT0.out⟩
            case round =>
              clear HT0 HT htb
              obtain ⟨r, hr, rfl, rfl, h, hT⟩ := hrel
              have H2 := Lib.hid (And.intro h hT)
              clear h hT
              have hfl1 := HL.out.2.2.1 r
              have hfl2 := HL.out.2.2.2.1 r
              obtain ⟨P, hP⟩ : ∃ P, flat L r = P := ⟨_, rfl⟩
              obtain ⟨ll, hl⟩ : ∃ ll, L r = ll := ⟨_, rfl⟩
              have hsc := flat_succ L r
              have hrl : rowL L r = L r := rowL_nat L r
              rw [hP, hl] at hsc
              rw [hl] at hrl hfl2
              rw [hP] at hfl1 ⊢
              have HP := Lib.hid (And.intro hP (And.intro hl (And.intro hsc hrl)))
              clear hP hl hsc hrl
              by_cases hrn : r < n
              · obtain ⟨wo, rfl⟩ : ∃ wo : World, wo = wr := ⟨_, rfl⟩
                have hfl3 : P.length ≤ 800 := by have : r * 100 ≤ 8 * 100 := Nat.mul_le_mul_right _ (by omega); omega
                clear hfl1
                go_wp2_with fail
                refine (all_rw H2.out.1 r (by omega)).mono ?_
                rintro e y4 ⟨v2, rfl, hs, h, hF⟩
                rw [HP.out.2.2.2] at hs
                obtain ⟨v2a, v2cap, rfl, _⟩ := Sl.shape hs
                have H4 := Lib.hid (And.intro h (And.intro hs (Held.keep H2.out.2 hF (fun b hb => by omega))))
                clear hs h hF
                go_wp2_with fail
                refine (len_rw H4.out.1 r).mono ?_
                rintro e y5 ⟨rfl, rfl⟩
                rw [HP.out.2.2.2]
                go_wp2_with fail
                go_loopw [16] (fun t wr => ∃ i : Nat, i ≤ ll.length ∧ t = .int .i64 i ∧ Sep (RW g n L N) w wr S ∧ Held w wr S 3 1 (.slice v2a ll.length v2cap) ll.length (ll.map (Value.int .i64)) ∧ Held w wr S 39 1 (.slice (some ⟨tb, 0, none⟩) 32 32) 32 (counts 32 (P ++ ll.take i))) (fun t _ => ll.length - (intOf t).toNat)
                case atStart => exact ⟨0, by omega, rfl, H4.out.1, H4.out.2.1, by rw [List.take_zero, List.append_nil]; have := H4.out.2.2; rw [HP.out.1] at this; exact this⟩
                case round =>
                  clear H2 H4
                  obtain ⟨i, hi, rfl, h, hs, hT⟩ := hrel
                  by_cases hil : i < ll.length
                  · obtain ⟨x, hx⟩ : ∃ x, ll[i]? = some x := ⟨_, List.getElem?_eq_getElem hil⟩
                    have hxm := List.mem_of_getElem? hx
                    have hxr := HL.out.2.1 x (mem_flat.2 ⟨r, hrn, by rw [HP.out.2.1]; exact hxm⟩)
                    have hrow := HL.out.2.2.2.2 r x hrn (by rw [HP.out.2.1]; exact hxm)
                    obtain ⟨m, rfl⟩ : ∃ m : Nat, x = m := ⟨x.toNat, by omega⟩
                    obtain ⟨va, vcap, hve, hvx⟩ := sl_at hs
                    simp at hve
                    obtain ⟨rfl, rfl⟩ := hve
                    obtain ⟨b, off, rfl, hb, _, hcx, _⟩ := hvx i m hx
                    obtain ⟨tb', toff, tcap, hve, _, _, _, htx, htf⟩ := Sl.pos hT (by decide)
                    simp at hve
                    obtain ⟨⟨rfl, rfl⟩, rfl⟩ := hve
                    have hc2 := htx m (by rw [counts_len]; omega)
                    rw [counts_get _ (by omega), Nat.zero_add] at hc2
                    have hf2 := htf m
                    obtain ⟨c, hc⟩ : ∃ c, List.count (m : Int) (P ++ ll.take i) = c := ⟨_, rfl⟩
                    have hc1 : c ≤ 1000 := by
                      have := List.count_le_length (a := (m : Int)) (l := P ++ ll.take i)
                      rw [hc, List.length_append] at this
                      have := List.length_take_le i ll
                      omega
                    rw [hc] at hc2
                    have hsnoc := counts_snoc (P ++ ll.take i) (j := m) (m := 32) (by omega)
                    rw [hc, List.append_assoc, ← (show ll.take (i + 1) = ll.take i ++ [(m : Int)] from by rw [List.take_succ_eq_append_getElem hil]; congr 2; exact (List.getElem?_eq_some_iff.1 hx).2)] at hsnoc
                    have HX := Lib.hid (And.intro h (And.intro hs (And.intro hT (And.intro hrow hsnoc))))
                    have hm31 : (m : Int) ≤ 31 := by omega
                    have hm32 : (m : Int) < 32 := by omega
                    clear h hs hT hrow hsnoc hxm hxr hvx htx htf hb hx hc
                    go_wp2_with fail
                    refine (row_rw HX.out.1 m).mono ?_
                    rintro e y7 ⟨rfl, rfl⟩
                    rw [HX.out.2.2.2.1]
                    go_wp2_with fail
                    go_roundw
                    case rel =>
                      obtain ⟨h, hs, hT, hrow, hsnoc⟩ := HX.out
                      have hset := rw_held_set h hT (i := m) (by omega) (.int .i64 ((c : Int) + 1))
                      rw [Nat.zero_add] at hset
                      refine ⟨i + 1, by omega, by go_num, hset.2, hs.set_type hT (by decide) m _, ?_⟩
                      rw [hsnoc]; exact hset.1
                    case measure => simp [intOf]; omega
                  · obtain rfl : i = ll.length := by omega
                    have HX := Lib.hid (And.intro h hT)
                    clear h hs hT
                    go_wp2_with fail
                    go_roundw
                    case rel => exact ⟨r + 1, by omega, by go_num, by rw [HP.out.2.2.1, List.length_append]; go_num, HX.out.1, by rw [HP.out.2.2.1]; have := HX.out.2; rw [List.take_length] at this; exact this⟩
                    case measure => simp [intOf]; omega
              · obtain rfl : n = r := by omega
                have hPn : P = flat L n := HP.out.1.symm
                have hnd := HL.out.1
                have hin := HL.out.2.1
                rw [← hPn] at hnd hin
                have h0 := low_zero (fun x hx => (hin x hx).1)
                have h32 := low_all (m := 32) (fun x hx => by have := (hin x hx).2; omega)
                have hPl : P.length ≤ 800 := by have : n * 100 ≤ 8 * 100 := Nat.mul_le_mul_right _ (by omega); omega
                have hcnt := fun x => count_one hnd x
                have hrow : ∀ x, 0 ≤ rowOf n L x ↔ x ∈ P := fun x => by rw [hPn]; exact rowOf_nonneg
                have hlow := low_succ P
                have hlle := low_le P
                have H3 := Lib.hid (And.intro h0 (And.intro h32 (And.intro hcnt (And.intro hrow (And.intro hlow hlle)))))
                have HT2 := H2.out.2
                rw [HP.out.1] at HT2
                have HT3 := Lib.hid HT2
                clear h0 h32 hcnt hrow hnd hin hPn hrn hfl1 hfl2 hlow hlle HT2
                obtain ⟨wy, rfl⟩ : ∃ wy : World, wy = wr := ⟨_, rfl⟩
                go_wp2_with fail
                go_loopw [13, 17] (fun s t wr => ∃ j q : Nat, j ≤ 32 ∧ q = P.length - low P j ∧ t = .int .i64 j ∧ s = .int .i64 q ∧ Sep (RW g n L N) w wr S ∧ Held w wr S 39 1 (.slice (some ⟨tb, 0, none⟩) 32 32) 32 (counts 32 P)) (fun _ t _ => 32 - (intOf t).toNat)
                case atStart => exact ⟨0, P.length, by omega, by rw [H3.out.1]; rfl, rfl, rfl, H2.out.1, HT3.out⟩
                case round =>
                  clear H2 HT3
                  obtain ⟨j, q, hj, hq, rfl, rfl, h, hT⟩ := hrel
                  have HQ := Lib.hid hq
                  have hql : q ≤ 800 := by omega
                  clear hq
                  by_cases hjl : j < 32
                  · obtain ⟨tb', toff, tcap, hve, _, _, _, htx, htf⟩ := Sl.pos hT (by decide)
                    simp at hve
                    obtain ⟨⟨rfl, rfl⟩, rfl⟩ := hve
                    have hc2 := htx j (by rw [counts_len]; omega)
                    rw [counts_get _ (by omega), Nat.zero_add] at hc2
                    have hcj := H3.out.2.2.1 (j : Int)
                    have hrj := H3.out.2.2.2.1 (j : Int)
                    have hlj := H3.out.2.2.2.2.1 j
                    have hle := H3.out.2.2.2.2.2 (j + 1)
                    rcases hm : decide ((j : Int) ∈ P) with _ | _
                    · have hmm : ¬ (j : Int) ∈ P := of_decide_eq_false hm
                      rw [if_neg hmm] at hcj
                      rw [hcj] at hc2 hlj
                      have hd : decide (0 ≤ rowOf n L (j : Int)) = false := decide_eq_false (fun h => hmm (hrj.1 h))
                      have HX := Lib.hid (And.intro h (And.intro hT (And.intro hlj hle)))
                      have HR := Lib.hid (fun k => row_same (rw_drewN h k) (j : Int))
                      have hc3 : wr.cell? ⟨tb, j, none⟩ = some (.int .i64 0) := hc2
                      clear h hT hcj hrj hlj hle htx htf hm hmm hc2
                      go_wp2_with fail
                      go_quiet ((go_at_call 19; exact Calls.quiet_of_same (HR.out _)))
                      go_wp2
                      go_roundw
                      case rel => exact ⟨j + 1, q, by omega, by have := HX.out.2.2.1; have := HQ.out; omega, by go_num, by go_num, rw_drewN HX.out.1 _, Held.keep HX.out.2.1 ((Fr.refl (fun _ => False) wr).drewN nq) (fun _ _ h => h)⟩
                      case measure => simp [intOf]; omega
                    · have hmm : (j : Int) ∈ P := of_decide_eq_true hm
                      rw [if_pos hmm] at hcj
                      rw [hcj] at hc2 hlj
                      have hd : decide (0 ≤ rowOf n L (j : Int)) = true := decide_eq_true (hrj.2 hmm)
                      have HX := Lib.hid (And.intro h (And.intro hT (And.intro hlj hle)))
                      have HR := Lib.hid (fun k => row_same (rw_drewN h k) (j : Int))
                      have hc3 : wr.cell? ⟨tb, j, none⟩ = some (.int .i64 1) := hc2
                      have hq1 : 1 ≤ q := by have := HQ.out; omega
                      clear h hT hcj hrj hlj hle htx htf hm hmm hc2
                      go_wp2_with fail
                      go_quiet ((go_at_call 19; exact Calls.quiet_of_same (HR.out _)))
                      go_wp2
                      go_roundw
                      case rel => exact ⟨j + 1, q - 1, by omega, by have := HX.out.2.2.1; have := HQ.out; omega, by go_num, by rw [Int.ofNat_sub hq1]; go_num, rw_drewN HX.out.1 _, Held.keep HX.out.2.1 ((Fr.refl (fun _ => False) wr).drewN nq) (fun _ _ h => h)⟩
                      case measure => simp [intOf]; omega
                  · obtain rfl : j = 32 := by omega
                    have hq0 : q = 0 := by have := HQ.out; have := H3.out.2.1; omega
                    subst hq0
                    have HX := Lib.hid h
                    clear h hT
                    go_wp2
                    go_ret
                    exact ⟨rfl, HX.out.below⟩

set_option maxRecDepth 100000 in
theorem lifted (os : Os) (started : os.Started) (H : Type) (enc : TypeId × Value → H) :
    ReturnsInHanded {} Try.checked os 6 .any (Rows.rowsOneSpec.pre6 enc Try.prog Try.f6 Rows.rowsOneRow.domain false) (Rows.rowsOneSpec.post enc Try.prog Try.f6 false true false false) := by
  refine returnsInHanded_of_change (C := Try.checked) own started (by kernel_rfl) Try.func6
    (ChangeSpec.witness6 (enc := enc) (C := Try.checked) false ⟨#[], #[.int .i64 0, .slice none 0 0], []⟩ 8 (by kernel_rfl) (by kernel_rfl) (by kernel_rfl) (by kernel_rfl)) ?_
  intro W base args ds gs before hval0 hW hcnd _
  have hval : ∀ (j : Nat) t v, Try.f6.params[j]? = some t → args[j]? = some v → Value.okWide Try.prog W .any base t v := hval0
  have hW' := hW
  obtain ⟨p, q, hA0, hV, rfl, hfz, hnd⟩ := hW
  have hA : DataW.TrodAll enc Try.prog W 0 (fun _ => true) true Try.f6.params.toList args.toList ds p := hA0
  rw [Try.params6] at hA hval
  obtain ⟨v0, vs0, d0, ds0, p0, q0, hargs, rfl, rfl, h0, r0⟩ := trodAll_cons hA
  obtain ⟨v1, vs1, d1, ds1, p1, q1, rfl, rfl, rfl, h1, r1⟩ := trodAll_cons r0
  obtain ⟨rfl, rfl, rfl⟩ := trodAll_nil r1
  obtain rfl : args = #[v0, v1] := by cases args; simp_all
  obtain ⟨rfl, rfl⟩ := trodVars_none hV
  obtain ⟨a0, rfl, rfl, rfl, w0⟩ := open_int Try.underlying3 (hval 0 3 v0 rfl rfl) h0
  obtain ⟨a1, n1, c1, rfl⟩ := okWide_slice Try.underlying30 (hval 1 30 v1 rfl rfl)
  have k1 := h1
  have lt1 : ∀ x ∈ p1, x.block < W.heap.size := by obtain ⟨m, hm⟩ := k1; exact DataW.trod_lt m _ _ _ hm
  have w1 := open_in (C := El34) Try.underlying30 k1 3 (by kernel_rfl) (by decide) (el34)
  clear hA0 hval0
  refine (walk W a0 w0 a1 n1 c1 w1).mono fun e W' ⟨he, bel⟩ => ?_
  subst he
  exact ⟨_, rfl, _, _, _, [], _, [], hW', trodAll_mk1 (shut_bool Try.underlying4 _), (trodAll_cons_mk (shut_int Try.underlying3 w0) (trodAll_cons_mk (Below.trod laidOut (by kernel_rfl) (of_decide_eq_true (by kernel_rfl)) k1 bel lt1) trodAll_mk0)), rfl, bel.frame _, fun h => by cases h⟩

theorem over : Rows.rowsOneRow.holds Try.pinned (OpenSpec.ofChange Rows.rowsOneSpec) :=
  OpenClaim.holds_of_wide 6 Try.f6 rfl rfl rfl rfl rfl rfl rfl ⟨rfl, rfl, rfl, rfl, rfl⟩ rfl rfl rfl rfl rfl (by kernel_rfl) Try.func6 (by kernel_rfl)
    (of_decide_eq_true (by kernel_rfl)) (by unfold Func.isWrapper; first | (rw [if_pos (by decide +kernel)]; kernel_rfl) | (rw [if_neg (by decide +kernel)]; exact ⟨rfl, rfl⟩))
    (fun os started H enc _ => lifted os started H enc)

theorem proved : Rows.RowsOneSaid := over
#print axioms proved
end Go.Proofs.Ytldnacphfoagnaa.rowsOne
