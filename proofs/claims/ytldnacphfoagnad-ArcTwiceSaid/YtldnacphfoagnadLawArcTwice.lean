/- 'ambry/ambrylaw13.ArcTwice' returns true, for every input, and leaves its arguments as they were. No condition. -/
import Derived.Test.YtldnacphfoagnadIn
import Derived.Test.YtldnacphfoagnadArcFacts
import Derived.Test.YtldnacphfoagnadCount
import Derived.Test.YtldnacphfoagnadIn
import Derived.Deep.QuietTactic
import Derived.BigQuiet
import Derived.Deep.DeepCutAuto
import Derived.Deep.CutBlock
import Derived.WalkKit
import Derived.ProofKit
import Derived.OpenShut
import Derived.ShutString
import Derived.ChangeOld
import Derived.Below
namespace Go.Proofs.Ytldnacphfoagnad.arcTwice
open Go.ChangeShapes Go.WideShapes Go.ChangeAt Go.RowKit
open Go.ChangeMaps (open_string shut_string)
set_option linter.unusedVariables false

theorem own : ownKnob Try.prog.godebug = none := by kernel_rfl
theorem laidOut : laidOutB Try.prog = true := by kernel_rfl

structure TW (n i : Nat) (f : Int → Int) (s : ArcS) : Prop where
  one : ∀ x ∈ s.L 1, (0 ≤ x ∧ x < n) ∧ 0 < f x ∧ f x ≤ i
  zero : ∀ x ∈ s.L 0, (0 ≤ x ∧ x < n) ∧ f x = 0
  all : ∀ x : Int, 0 ≤ x → x < n → x ∈ s.L 0 ∨ x ∈ s.L 1
  s1 : (s.L 1).Pairwise (fun a b => f b < f a)
  s0 : (s.L 0).Pairwise (fun a b => b < a)
  len : (s.L 0).length + (s.L 1).length = n
theorem upA_sorted (a : Int) : ∀ n, (upA a n).Pairwise (fun x y => y < x)
  | 0 => List.Pairwise.nil
  | n + 1 => List.pairwise_cons.2 ⟨fun y hy => by rw [mem_upA] at hy; omega, upA_sorted a n⟩
theorem TW_start {n : Nat} {s : ArcS} (h : BI 40 n s) : TW n 0 (fun _ => 0) s :=
  ⟨by rw [h.L1]; simp, fun x hx => by rw [h.L0, mem_upA] at hx; omega, fun x h0 h1 => .inl (by rw [h.L0, mem_upA]; omega), by rw [h.L1]; exact List.Pairwise.nil, by rw [h.L0]; exact upA_sorted 0 n, by rw [h.L0, h.L1, len_upA]; rfl⟩
theorem TW_miss {n i : Nat} {f : Int → Int} {s : ArcS} (h : TW n i f s) {k : Int} (hk : ¬ k < n) : touchA s k = s ∧ decide (0 ≤ rowOf 2 s.L k) = false := by
  have h0 : k ∉ s.L 0 := fun q => by have := h.zero k q; omega
  have h1 : k ∉ s.L 1 := fun q => by have := h.one k q; omega
  exact ⟨touchA_no h0 h1, decide_eq_false (fun q => ((rowOf2_nn _ _).1 q).elim h0 h1)⟩
theorem TW_next {n i : Nat} {f : Int → Int} {s : ArcS} (h : TW n i f s) : TW n (i + 1) f s :=
  ⟨fun x hx => by have := h.one x hx; omega, h.zero, h.all, h.s1, h.s0, h.len⟩
theorem TW_hit {n i : Nat} {f : Int → Int} {s : ArcS} (h : TW n i f s) {k : Int} (h0 : 0 ≤ k) (hk : k < n) (hw : Wid s.L) (hn0 : (s.L 0).Nodup) (hn1 : (s.L 1).Nodup) (hd : k ∈ s.L 0 → k ∉ s.L 1) :
    decide (0 ≤ rowOf 2 s.L k) = true ∧ TW n (i + 1) (fun x => if x = k then (i : Int) + 1 else f x) (touchA s k) := by
  have hm := h.all k h0 hk
  refine ⟨decide_eq_true ((rowOf2_nn _ _).2 hm), ?_⟩
  rw [touchA_yes hw hm]
  have e0 : (putF (del s.L k) 1 k) 0 = (s.L 0).filter (· != k) := rfl
  have e1 : (putF (del s.L k) 1 k) 1 = k :: (s.L 1).filter (· != k) := rfl
  refine ⟨?_, ?_, ?_, ?_, ?_, ?_⟩
  · intro x hx
    have hx' : x ∈ k :: (s.L 1).filter (· != k) := hx
    rcases List.mem_cons.1 hx' with q | q
    · subst q; rw [if_pos rfl]; omega
    · obtain ⟨q1, q2⟩ := List.mem_filter.1 q
      have := h.one x q1
      rw [if_neg (by simpa using q2)]; omega
  · intro x hx
    have hx' : x ∈ (s.L 0).filter (· != k) := hx
    obtain ⟨q1, q2⟩ := List.mem_filter.1 hx'
    rw [if_neg (by simpa using q2)]
    exact h.zero x q1
  · intro x hx0 hx1
    by_cases e : x = k
    · exact .inr (by show x ∈ k :: _; rw [e]; exact List.mem_cons_self)
    · exact (h.all x hx0 hx1).imp (fun q => List.mem_filter.2 ⟨q, by simpa using e⟩) (fun q => List.mem_cons_of_mem _ (List.mem_filter.2 ⟨q, by simpa using e⟩))
  · show (k :: (s.L 1).filter (· != k)).Pairwise _
    refine List.pairwise_cons.2 ⟨fun y hy => ?_, ?_⟩
    · obtain ⟨q1, q2⟩ := List.mem_filter.1 hy
      have := h.one y q1
      rw [if_pos rfl, if_neg (by simpa using q2)]; omega
    · refine (h.s1.filter _).imp_of_mem ?_
      intro a b ha hb hab
      have qa := (List.mem_filter.1 ha).2
      have qb := (List.mem_filter.1 hb).2
      rw [if_neg (by simpa using qb), if_neg (by simpa using qa)]; exact hab
  · show ((s.L 0).filter (· != k)).Pairwise _
    exact h.s0.filter _
  · show ((s.L 0).filter (· != k)).length + (k :: (s.L 1).filter (· != k)).length = n
    have hl := h.len
    by_cases m0 : k ∈ s.L 0
    · have l0 := len_take hn0 m0
      rw [filter_no (hd m0), List.length_cons]
      have := List.length_pos_of_mem m0
      omega
    · have l1 := len_take hn1 (hm.resolve_left m0)
      rw [filter_no m0, List.length_cons]
      omega
theorem pair_at {R : Int → Int → Prop} {l : List Int} (h : l.Pairwise R) {i : Nat} {x y : Int} (hx : l[i]? = some x) (hy : l[i + 1]? = some y) : R x y := by
  obtain ⟨h1, e1⟩ := List.getElem?_eq_some_iff.1 hx
  obtain ⟨h2, e2⟩ := List.getElem?_eq_some_iff.1 hy
  have := List.pairwise_iff_getElem.1 h i (i + 1) h1 h2 (by omega)
  rw [e1, e2] at this
  exact this
set_option maxRecDepth 100000 in
set_option maxHeartbeats 4000000 in
theorem walk (w : World) (a0 : Int) (w0 : (Lit.int .i64 a0).wf = true) (a1 : Option Addr) (n1 c1 : Nat) (w1 : n1 ≤ c1 ∧ ∀ i, i < n1 → InAt w a1 1 i (fun cs => ∃ x : Int, cs = [.int .i64 x] ∧ (Lit.int .i64 x).wf = true)) :
    Calls Try.prog 4 #[.int .i64 a0, .slice a1 n1 c1] w fun e w' => e = .returned (.bool true) ∧ Below w.heap.size w w' := by
  obtain ⟨n, hn', hn31⟩ := and_mask a0 31 (by decide)
  have hn : bits .and .i64 a0 31 = n := hn'
  clear hn'
  go_enter Try.func4, Try.ntmps4
  go_wp2_with fail
  refine (shown_any _).mono ?_
  rintro e y1 ⟨rfl, hF⟩
  have HF := Lib.hid (hF.mono (T := From w.heap.size) (fun _ _ h => h.elim))
  clear hF
  go_wp2_with fail
  refine (new_ar (w0 := w) HF.out).mono ?_
  rintro e y2 ⟨p, S, rfl, h, _, _⟩
  have H := Lib.hid h
  clear h HF
  go_wp2_with fail
  refine (cap_ar H.out 40 (by omega)).mono ?_
  rintro e y3 ⟨rfl, h, _⟩
  have H3 := Lib.hid h
  clear h H
  go_wp2_with fail
  go_loopw [7] (fun i wr => ∃ (k : Nat) (s : ArcS) (S : Nat → Prop), k ≤ n ∧ i = .int .i64 k ∧ Sep (AR p s k 0) w wr S ∧ BI 40 k s) (fun i _ => n - (intOf i).toNat)
  case atStart => exact ⟨0, _, _, by omega, rfl, H3.out, BI_start 40⟩
  case round =>
    clear H3
    obtain ⟨k, s, S, hk, rfl, h, hB⟩ := hrel
    have Hk := Lib.hid (And.intro h hB)
    clear h hB
    by_cases hlt : k < n
    · have HE := Lib.hid (BI_step Hk.out.2 (by omega))
      go_wp2_with fail
      refine (insert_ar Hk.out.1 k k (by omega) (by omega) (by rw [Hk.out.2.P]; omega)).mono ?_
      rintro e y4 ⟨rfl, h, _⟩
      have H4 := Lib.hid h
      clear h
      go_wp2_with fail
      go_roundw
      case rel => exact ⟨k + 1, _, _, by omega, by go_num, H4.out, HE.out.2⟩
      case measure => simp [intOf]; omega
    · obtain rfl : k = n := by omega
      obtain ⟨wz, rfl⟩ : ∃ wz : World, wz = wr := ⟨_, rfl⟩
      have HB := Lib.hid (Held.array (w0 := w) (W := wz) (S := S) (T := 38) (n := 32) (by decide) (ints 32 (fun _ => 0)) (ints_len _ _) (fun b s => Hk.out.1.hi b s) Hk.out.1.fr.size)
      go_wp2_with fail
      have HB2 := Lib.hid (show Held w (wz.alloc (.cells (List.replicate 32 (.int .i64 0)).toArray 38)) S 38 1 (.slice (some ⟨wz.heap.size, 0, none⟩) 32 32) 32 (ints 32 (fun _ => 0)) from by
        have := HB.out
        rw [ints_zero] at this
        rw [ints_zero]
        exact this)
      clear HB
      obtain ⟨tb, htb⟩ : ∃ tb, wz.heap.size = tb := ⟨_, rfl⟩
      rw [htb] at HB2 ⊢
      go_loopw [9, 10] (fun t _ wr => ∃ (i N : Nat) (f : Int → Int) (s : ArcS) (S : Nat → Prop), i ≤ n1 ∧ i ≤ 60 ∧ N ≤ 31 + i ∧ t = .int .i64 i ∧ Sep (AR p s N 0) w wr S ∧ Held w wr S 38 1 (.slice (some ⟨tb, 0, none⟩) 32 32) 32 (ints 32 f) ∧ TW k i f s) (fun t _ _ => 60 - (intOf t).toNat)
      case atStart => exact ⟨0, k, _, s, S, by omega, by omega, by omega, rfl, ar_alloc Hk.out.1 _, HB2.out, TW_start Hk.out.2⟩
      case round =>
        clear Hk HB2 htb
        obtain ⟨i, N, f, s, S, hi, hi2, hN, rfl, h, hb, hB⟩ := hrel
        have Hi := Lib.hid (And.intro h (And.intro hb hB))
        clear h hb hB
        by_cases hlt2 : i < n1 ∧ i < 60
        · obtain ⟨hl1, hl2⟩ := hlt2
          obtain ⟨b, off, vv, rfl, hbl, hEl, hc⟩ := (w1.2 i hl1).one
          obtain ⟨x, he, hw⟩ := hEl
          simp at he
          subst he
          have hc' : wr.cell? ⟨b, off + i, none⟩ = some (.int .i64 x) := (Hi.out.1.fr.cell hbl (by unfold From; simp; omega)).trans hc
          obtain ⟨m, hm, hmb⟩ := and_mask x 31 (by decide)
          have hm' : bits .and .i64 x 31 = m := hm
          have W1 := Lib.hid w1
          clear w1 hc hm hw
          by_cases hmk : (m : Int) < k
          · obtain ⟨_, _, _, _, _⟩ := ar_rows Hi.out.1
            have HE := Lib.hid (TW_hit Hi.out.2.2 (k := m) (by omega) hmk (ar_rows Hi.out.1).2.2.2.2 ((ar_rows Hi.out.1).1 0 (by decide)) ((ar_rows Hi.out.1).1 1 (by decide)) (fun q0 q1 => by have := (ar_rows Hi.out.1).2.1 0 1 (by decide) (by decide) _ q0 q1; omega))
            go_wp2_with fail
            refine (touch_ar Hi.out.1 m (by omega)).mono ?_
            rintro e y5 ⟨rfl, h, hF⟩
            have hb5 := Held.step Hi.out.2.1 hF
            have hset := ar_held_set h hb5 (i := m) (by omega) (.int .i64 ((i : Int) + 1))
            rw [Nat.zero_add, ints_set _ _ (by omega)] at hset
            obtain ⟨tb', toff, tcap, hve, hSb, hbl2, _, htx, htf⟩ := Sl.pos hb5 (by decide)
            simp at hve
            obtain ⟨⟨rfl, rfl⟩, rfl⟩ := hve
            have hc2 := htx m (by rw [ints_len]; omega)
            rw [ints_get _ (by omega), Nat.zero_add] at hc2
            have hf2 := htf m
            have H5 := Lib.hid hset
            have hm32 : (m : Int) < 32 := by omega
            clear h hF hb5 hset htx htf hSb hbl2
            rw [HE.out.1]
            go_wp2_with fail
            go_roundw
            case rel => exact ⟨i + 1, N + 1, _, _, _, by omega, by omega, by omega, by go_num, H5.out.2, H5.out.1, HE.out.2⟩
            case measure => simp [intOf]; omega
          · have HE := Lib.hid (TW_miss Hi.out.2.2 hmk)
            go_wp2_with fail
            refine (touch_ar Hi.out.1 m (by omega)).mono ?_
            rintro e y5 ⟨rfl, h, hF⟩
            rw [HE.out.1] at h
            have H5 := Lib.hid (And.intro h (Held.step Hi.out.2.1 hF))
            clear h hF
            rw [HE.out.2]
            go_wp2_with fail
            go_roundw
            case rel => exact ⟨i + 1, N + 1, _, _, _, by omega, by omega, by omega, by go_num, H5.out.1, H5.out.2, TW_next Hi.out.2.2⟩
            case measure => simp [intOf]; omega
        · have hex : (i < n1 ∧ i = 60) ∨ n1 ≤ i := by omega
          obtain ⟨wy, rfl⟩ : ∃ wy : World, wy = wr := ⟨_, rfl⟩
          clear hlt2
          obtain ⟨g, hcg, _⟩ := all_ar Hi.out.1 (by omega)
          have HN := Lib.hid (show N ≤ 1000000 by omega)
          obtain ⟨l1, hl1⟩ : ∃ l, s.L 1 = l := ⟨_, rfl⟩
          obtain ⟨l0, hl0⟩ : ∃ l, s.L 0 = l := ⟨_, rfl⟩
          have HL := Lib.hid (And.intro hl0 hl1)
          have hlen : l0.length + l1.length = k := by have := Hi.out.2.2.len; rw [hl0, hl1] at this; exact this
          clear hl0 hl1
          rcases hex with ⟨hlt, rfl⟩ | hge
          all_goals
            go_wp2_with fail
            refine (all_ar_at Hi.out.1 HN.out hcg 1).mono ?_
            rintro e z1 ⟨va, rfl, hV, h, hF, hc1⟩
            rw [show rowL s.L 1 = l1 from HL.out.2] at hV
            obtain ⟨a1, cap1, rfl, _⟩ := hV.shape
            have Z1 := Lib.hid (And.intro h (And.intro hV (Held.keep Hi.out.2.1 hF (fun b hb => by omega))))
            clear h hV hF
            go_wp2_with fail
            refine (all_ar_at Z1.out.1 HN.out hc1 0).mono ?_
            rintro e z2 ⟨vb, rfl, hV, h, hF, hc2⟩
            rw [show rowL s.L 0 = l0 from HL.out.1] at hV
            obtain ⟨a2, cap2, rfl, _⟩ := hV.shape
            have Z2 := Lib.hid (And.intro h (And.intro (Held.keep Z1.out.2.1 hF (fun b hb => by omega)) (And.intro hV (Held.keep Z1.out.2.2 hF (fun b hb => by omega)))))
            clear h hV hF hc1 hc2 hcg
            have hsum : (l1.length : Int) + l0.length = k := by omega
            go_wp2_with fail
            go_loopw [13] (fun t wr => ∃ j : Nat, j ≤ l1.length ∧ t = .int .i64 j ∧ Sep (AR p s N 0) w wr S ∧ Held w wr S 3 1 (.slice a1 l1.length cap1) l1.length (l1.map (Value.int .i64)) ∧ Held w wr S 3 1 (.slice a2 l0.length cap2) l0.length (l0.map (Value.int .i64)) ∧ Held w wr S 38 1 (.slice (some ⟨tb, 0, none⟩) 32 32) 32 (ints 32 f)) (fun t _ => l1.length - (intOf t).toNat)
            case atStart => exact ⟨0, by omega, rfl, Z2.out⟩
            case round =>
              clear Z1 Z2
              obtain ⟨j, hj, rfl, h, hs1, hs0, hT⟩ := hrel
              by_cases hjl : j < l1.length
              · have HX := Lib.hid (And.intro h (And.intro hs1 (And.intro hs0 hT)))
                obtain ⟨x, hx⟩ : ∃ x, l1[j]? = some x := ⟨_, List.getElem?_eq_getElem hjl⟩
                have hxm := List.mem_of_getElem? hx
                have hx1 := Hi.out.2.2.one x (by rw [HL.out.2]; exact hxm)
                obtain ⟨m, rfl⟩ : ∃ m : Nat, x = m := ⟨x.toNat, by omega⟩
                obtain ⟨va, vcap, hve, hvx⟩ := sl_at hs1
                simp at hve
                obtain ⟨rfl, rfl⟩ := hve
                obtain ⟨b, off, rfl, _, _, hcx, _⟩ := hvx j m hx
                obtain ⟨tb', toff, tcap, hve, _, _, _, htx, _⟩ := Sl.pos hT (by decide)
                simp at hve
                obtain ⟨⟨rfl, rfl⟩, rfl⟩ := hve
                have hc2 := htx m (by rw [ints_len]; omega)
                rw [ints_get _ (by omega), Nat.zero_add] at hc2
                have hp1 : decide ((m : Int) < 0) = false := decide_eq_false (by omega)
                have hp2 : decide (31 < (m : Int)) = false := decide_eq_false (by omega)
                have hp3 : (f m == 0) = false := by rw [beq_eq_false_iff_ne]; omega
                have hm32 : (m : Int) < 32 := by omega
                have hm0 : (0 : Int) ≤ m := by omega
                rcases (show j = 0 ∨ ∃ i', j = i' + 1 from by cases j with | zero => exact .inl rfl | succ i' => exact .inr ⟨i', rfl⟩) with hj0 | ⟨i', hij⟩
                · subst hj0
                  simp only [Nat.add_zero] at hcx
                  have hl0 : (0 : Int) < l1.length := by omega
                  clear h hs1 hs0 hT hvx htx hx1 hxm hx
                  go_wp2_with fail
                  go_quiet (fail)
                  go_wp2
                  go_roundw
                  case rel => exact ⟨1, by omega, by go_num, ar_drewN HX.out.1 _, Held.keep HX.out.2.1 ((Fr.refl (fun _ => False) wr).drewN nq) (fun _ _ h => h), Held.keep HX.out.2.2.1 ((Fr.refl (fun _ => False) wr).drewN nq) (fun _ _ h => h), Held.keep HX.out.2.2.2 ((Fr.refl (fun _ => False) wr).drewN nq) (fun _ _ h => h)⟩
                  case measure => simp [intOf]; omega
                · have hx' : _ := hx
                  rw [hij] at hx'
                  obtain ⟨y, hy⟩ : ∃ y, l1[i']? = some y := ⟨_, List.getElem?_eq_getElem (by omega)⟩
                  have hy1 := Hi.out.2.2.one y (by rw [HL.out.2]; exact List.mem_of_getElem? hy)
                  obtain ⟨r, rfl⟩ : ∃ r : Nat, y = r := ⟨y.toNat, by omega⟩
                  obtain ⟨b2, off2, hbe, _, _, hcy, _⟩ := hvx i' r hy
                  cases hbe
                  have hc3 := htx r (by rw [ints_len]; omega)
                  rw [ints_get _ (by omega), Nat.zero_add] at hc3
                  have hord := pair_at (HL.out.2 ▸ Hi.out.2.2.s1) hy hx'
                  have hp4 : decide (f r ≤ f m) = false := decide_eq_false (by omega)
                  have hr32 : (r : Int) < 32 := by omega
                  have hr0 : (0 : Int) ≤ r := by omega
                  have hi1 : (0 : Int) < (j : Int) := by omega
                  have hi0 : 0 < j := by omega
                  have hi2 : (j : Int) < l1.length := by omega
                  have hi3 : IntKind.i64.wrap ((j : Int) - 1) = i' := by rw [IntKind.wrap_i64]; omega
                  clear h hs1 hs0 hT hvx htx hx1 hxm hx hy1 hy hord hx' hi0 hi1 hi2 hi3
                  subst hij
                  have hi1 : (0 : Int) < (i' : Int) + 1 := by omega
                  have hi2 : (i' : Int) + 1 < l1.length := by omega
                  have hi3 : IntKind.i64.wrap ((i' : Int) + 1 - 1) = i' := by rw [IntKind.wrap_i64]; omega
                  go_wp2_with fail
                  go_quiet (fail)
                  go_wp2
                  go_roundw
                  case rel => exact ⟨i' + 1 + 1, by omega, by go_num, ar_drewN HX.out.1 _, Held.keep HX.out.2.1 ((Fr.refl (fun _ => False) wr).drewN nq) (fun _ _ h => h), Held.keep HX.out.2.2.1 ((Fr.refl (fun _ => False) wr).drewN nq) (fun _ _ h => h), Held.keep HX.out.2.2.2 ((Fr.refl (fun _ => False) wr).drewN nq) (fun _ _ h => h)⟩
                  case measure => simp [intOf]; omega
              · obtain rfl : j = l1.length := by omega
                have HX := Lib.hid (And.intro h (And.intro hs0 hT))
                clear h hs1 hs0 hT
                obtain ⟨wx, rfl⟩ : ∃ wx : World, wx = wr := ⟨_, rfl⟩
                go_wp2_with fail
                go_loopw [14] (fun t wr => ∃ j : Nat, j ≤ l0.length ∧ t = .int .i64 j ∧ Sep (AR p s N 0) w wr S ∧ Held w wr S 3 1 (.slice a2 l0.length cap2) l0.length (l0.map (Value.int .i64)) ∧ Held w wr S 38 1 (.slice (some ⟨tb, 0, none⟩) 32 32) 32 (ints 32 f)) (fun t _ => l0.length - (intOf t).toNat)
                case atStart => exact ⟨0, by omega, rfl, HX.out⟩
                case round =>
                  clear HX
                  obtain ⟨j, hj, rfl, h, hs0, hT⟩ := hrel
                  by_cases hjl : j < l0.length
                  · have HX := Lib.hid (And.intro h (And.intro hs0 hT))
                    obtain ⟨x, hx⟩ : ∃ x, l0[j]? = some x := ⟨_, List.getElem?_eq_getElem hjl⟩
                    have hxm := List.mem_of_getElem? hx
                    have hx1 := Hi.out.2.2.zero x (by rw [HL.out.1]; exact hxm)
                    obtain ⟨m, rfl⟩ : ∃ m : Nat, x = m := ⟨x.toNat, by omega⟩
                    obtain ⟨va, vcap, hve, hvx⟩ := sl_at hs0
                    simp at hve
                    obtain ⟨rfl, rfl⟩ := hve
                    obtain ⟨b, off, rfl, _, _, hcx, _⟩ := hvx j m hx
                    obtain ⟨tb', toff, tcap, hve, _, _, _, htx, _⟩ := Sl.pos hT (by decide)
                    simp at hve
                    obtain ⟨⟨rfl, rfl⟩, rfl⟩ := hve
                    have hc2 := htx m (by rw [ints_len]; omega)
                    rw [ints_get _ (by omega), Nat.zero_add, hx1.2] at hc2
                    have hp1 : decide ((m : Int) < 0) = false := decide_eq_false (by omega)
                    have hp2 : decide (31 < (m : Int)) = false := decide_eq_false (by omega)
                    have hm32 : (m : Int) < 32 := by omega
                    have hm0 : (0 : Int) ≤ m := by omega
                    rcases (show j = 0 ∨ ∃ i', j = i' + 1 from by cases j with | zero => exact .inl rfl | succ i' => exact .inr ⟨i', rfl⟩) with hj0 | ⟨i', hij⟩
                    · subst hj0
                      simp only [Nat.add_zero] at hcx
                      have hl0 : (0 : Int) < l0.length := by omega
                      clear h hs0 hT hvx htx hx1 hxm hx
                      go_wp2_with fail
                      go_quiet (fail)
                      go_wp2
                      go_roundw
                      case rel => exact ⟨1, by omega, by go_num, ar_drewN HX.out.1 _, Held.keep HX.out.2.1 ((Fr.refl (fun _ => False) wr).drewN nq) (fun _ _ h => h), Held.keep HX.out.2.2 ((Fr.refl (fun _ => False) wr).drewN nq) (fun _ _ h => h)⟩
                      case measure => simp [intOf]; omega
                    · have hx' : _ := hx
                      rw [hij] at hx'
                      obtain ⟨y, hy⟩ : ∃ y, l0[i']? = some y := ⟨_, List.getElem?_eq_getElem (by omega)⟩
                      have hy1 := Hi.out.2.2.zero y (by rw [HL.out.1]; exact List.mem_of_getElem? hy)
                      obtain ⟨r, rfl⟩ : ∃ r : Nat, y = r := ⟨y.toNat, by omega⟩
                      obtain ⟨b2, off2, hbe, _, _, hcy, _⟩ := hvx i' r hy
                      cases hbe
                      have hord := pair_at (HL.out.1 ▸ Hi.out.2.2.s0) hy hx'
                      have hp4 : decide (r ≤ m) = false := decide_eq_false (by omega)
                      have hp5 : ¬ r ≤ m := by omega
                      have hi1 : (0 : Int) < (j : Int) := by omega
                      have hi0 : 0 < j := by omega
                      have hi2 : (j : Int) < l0.length := by omega
                      have hi3 : IntKind.i64.wrap ((j : Int) - 1) = i' := by rw [IntKind.wrap_i64]; omega
                      clear h hs0 hT hvx htx hx1 hxm hx hy1 hy hord hx' hi0 hi1 hi2 hi3
                      subst hij
                      have hi1 : (0 : Int) < (i' : Int) + 1 := by omega
                      have hi2 : (i' : Int) + 1 < l0.length := by omega
                      have hi3 : IntKind.i64.wrap ((i' : Int) + 1 - 1) = i' := by rw [IntKind.wrap_i64]; omega
                      go_wp2_with fail
                      go_quiet (fail)
                      go_wp2
                      go_roundw
                      case rel => exact ⟨i' + 1 + 1, by omega, by go_num, ar_drewN HX.out.1 _, Held.keep HX.out.2.1 ((Fr.refl (fun _ => False) wr).drewN nq) (fun _ _ h => h), Held.keep HX.out.2.2 ((Fr.refl (fun _ => False) wr).drewN nq) (fun _ _ h => h)⟩
                      case measure => simp [intOf]; omega
                  · obtain rfl : j = l0.length := by omega
                    have HX := Lib.hid h
                    clear h hs0 hT
                    go_wp2
                    go_ret
                    exact ⟨rfl, HX.out.below⟩

set_option maxRecDepth 100000 in
theorem lifted (os : Os) (started : os.Started) (H : Type) (enc : TypeId × Value → H) :
    ReturnsInHanded {} Try.checked os 4 .any (Rows.arcTwiceSpec.pre6 enc Try.prog Try.f4 Rows.arcTwiceRow.domain false) (Rows.arcTwiceSpec.post enc Try.prog Try.f4 false true false false) := by
  refine returnsInHanded_of_change (C := Try.checked) own started (by kernel_rfl) Try.func4
    (ChangeSpec.witness6 (enc := enc) (C := Try.checked) false ⟨#[], #[.int .i64 0, .slice none 0 0], []⟩ 8 (by kernel_rfl) (by kernel_rfl) (by kernel_rfl) (by kernel_rfl)) ?_
  intro W base args ds gs before hval0 hW hcnd _
  have hval : ∀ (j : Nat) t v, Try.f4.params[j]? = some t → args[j]? = some v → Value.okWide Try.prog W .any base t v := hval0
  have hW' := hW
  obtain ⟨p, q, hA0, hV, rfl, hfz, hnd⟩ := hW
  have hA : DataW.TrodAll enc Try.prog W 0 (fun _ => true) true Try.f4.params.toList args.toList ds p := hA0
  rw [Try.params4] at hA hval
  obtain ⟨v0, vs0, d0, ds0, p0, q0, hargs, rfl, rfl, h0, r0⟩ := trodAll_cons hA
  obtain ⟨v1, vs1, d1, ds1, p1, q1, rfl, rfl, rfl, h1, r1⟩ := trodAll_cons r0
  obtain ⟨rfl, rfl, rfl⟩ := trodAll_nil r1
  obtain rfl : args = #[v0, v1] := by cases args; simp_all
  obtain ⟨rfl, rfl⟩ := trodVars_none hV
  obtain ⟨a0, rfl, rfl, rfl, w0⟩ := open_int Try.underlying3 (hval 0 3 v0 rfl rfl) h0
  obtain ⟨a1, n1, c1, rfl⟩ := okWide_slice Try.underlying29 (hval 1 29 v1 rfl rfl)
  have k1 := h1
  have lt1 : ∀ x ∈ p1, x.block < W.heap.size := by obtain ⟨m, hm⟩ := k1; exact DataW.trod_lt m _ _ _ hm
  have w1 := open_in (C := fun cs => ∃ x : Int, cs = [.int .i64 x] ∧ (Lit.int .i64 x).wf = true) Try.underlying29 k1 1 (by kernel_rfl) (by decide) (fun m cs x h => by obtain ⟨x, e, _, hw⟩ := DataW.trod_int Try.underlying3 h; exact ⟨x, e, hw⟩)
  clear hA0 hval0
  refine (walk W a0 w0 a1 n1 c1 w1).mono fun e W' ⟨he, bel⟩ => ?_
  subst he
  exact ⟨_, rfl, _, _, _, [], _, [], hW', trodAll_mk1 (shut_bool Try.underlying4 _), (trodAll_cons_mk (shut_int Try.underlying3 w0) (trodAll_cons_mk (Below.trod laidOut (by kernel_rfl) (of_decide_eq_true (by kernel_rfl)) k1 bel lt1) trodAll_mk0)), rfl, bel.frame _, fun h => by cases h⟩

theorem over : Rows.arcTwiceRow.holds Try.pinned (OpenSpec.ofChange Rows.arcTwiceSpec) :=
  OpenClaim.holds_of_wide 4 Try.f4 rfl rfl rfl rfl rfl rfl rfl ⟨rfl, rfl, rfl, rfl, rfl⟩ rfl rfl rfl rfl rfl (by kernel_rfl) Try.func4 (by kernel_rfl)
    (of_decide_eq_true (by kernel_rfl)) (by unfold Func.isWrapper; first | (rw [if_pos (by decide +kernel)]; kernel_rfl) | (rw [if_neg (by decide +kernel)]; exact ⟨rfl, rfl⟩))
    (fun os started H enc _ => lifted os started H enc)

theorem proved : Rows.ArcTwiceSaid := over
#print axioms proved
end Go.Proofs.Ytldnacphfoagnad.arcTwice
