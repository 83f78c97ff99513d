/- The reference of layer 15 (policy): New, Len, Victim. -/
import Derived.Test.YtgdlndpjfejmcaaGreatPrC
import Derived.Deep.QuietTactic
import Derived.BigQuiet
import Derived.Deep.RegionHeld3
namespace Go.Proofs.YtgdlndpjfejmcaaGreat
open Go.RowKit
set_option linter.unusedVariables false
set_option maxRecDepth 100000
section
variable {w w' : World} {S : Nat → Prop} {q : Nat} {r r' : RK} {a b c d : Nat} {Si : Nat → Prop} {j : Nat} {k : PK} {N M : Nat}
theorem rok_next {wr y : World} (h : ROk wr (grow S w wr) q r a b c d (grow Si w wr)) (hk : r'.kind = r.kind) (hF : Fr Si w wr) (hI : RIn r' a b c d y (grow (grow Si w wr) wr y)) (hG : Fr (grow Si w wr) wr y) : ROk y (grow S w y) q r' a b c d (grow Si w y) ∧ Fr Si w y := by
  have hq := lt_of_heap h.hp
  have hz := hG.size
  have hz2 := hF.size
  refine ⟨⟨h.hq.imp (fun y => y) (fun y => ⟨y.1, Nat.lt_of_lt_of_le y.2 hz⟩), fun z => z.elim (fun z => h.hqi (Or.inl z)) (fun z => h.hqi (Or.inr ⟨z.1, hq⟩)), fun x z => ?_, ?_, hI.mono fun x _ z => grow_grow hz2 hz z⟩, hF.grown hG⟩
  · rcases z with z | z
    · exact (h.hi x (Or.inl z)).imp (fun y => y) (fun y => ⟨y.1, Nat.lt_of_lt_of_le y.2 hz⟩)
    · exact Or.inr z
  · rw [hk]; exact (hG.block q hq h.hqi).trans h.hp
theorem rk_new (n : Nat) (hn : n ≤ 3) (w : World) :
    Calls Tryz.prog 6 #[.int .i64 n] w fun e w' => ∃ q, e = .returned (.pointer (some ⟨q, 0, none⟩)) ∧ RAt w' (fun b => w.heap.size ≤ b ∧ b < w'.heap.size) q (RK.new n) ∧ Fr (fun _ => False) w w' := by
  have h1 : decide (n < 0) = false := decide_eq_false (by omega)
  have h2 : decide ((n : Int) < 0) = false := decide_eq_false (by omega)
  have h3 : decide (3 < n) = false := decide_eq_false (by omega)
  have h4 : decide ((3 : Int) < n) = false := decide_eq_false (by omega)
  go_enter Tryz.func6, Tryz.ntmps6
  go_wp2_with fail
  refine (rf_new 1 (by decide) (by decide) _).mono ?_
  rintro e y1 ⟨a, rfl, hA, hF⟩
  have H1 := Lib.hid (And.intro hA hF)
  clear hA hF
  go_wp2_with fail
  refine (Seg.sf_new _).mono ?_
  rintro e y2 ⟨b, rfl, hA, hF⟩
  have H2 := Lib.hid (And.intro hA hF)
  clear hA hF
  go_wp2_with fail
  refine (Arc.af_new _).mono ?_
  rintro e y3 ⟨c, rfl, hA, hF⟩
  have H3 := Lib.hid (And.intro hA hF)
  clear hA hF
  go_wp2_with fail
  refine (Thr.tf_new _).mono ?_
  rintro e y4 ⟨d, rfl, hA, hF⟩
  have H4 := Lib.hid (And.intro hA hF)
  clear hA hF
  go_wp2
  go_ret
  have hk : (RK.new n).kind = n := by
    match n, hn with
    | 0, _ => rfl
    | 1, _ => rfl
    | 2, _ => rfl
    | 3, _ => rfl
  have f1 := H1.out.2
  have f2 := H2.out.2
  have f3 := H3.out.2
  have f4 := H4.out.2
  have z1 := f1.size
  have z2 := f2.size
  have z3 := f3.size
  have z4 := f4.size
  have hI : RIn (RK.new n) a b c d y4 (fun x => w.heap.size ≤ x ∧ x < y4.heap.size) := by
    match n, hn with
    | 0, _ => exact Rf.mono (Rf.fr H1.out.1 (f2.trans (f3.trans f4 fun _ _ q => q) fun _ _ q => q) fun _ _ _ q => q) (fun x _ q => ⟨q.1, by have := q.2; omega⟩)
    | 1, _ => exact Seg.Sf.mono (Seg.Sf.fr H2.out.1 (f3.trans f4 fun _ _ q => q) fun _ _ _ q => q) (fun x _ q => ⟨by have := q.1; omega, by have := q.2; omega⟩)
    | 2, _ => exact Arc.Af.mono (Arc.Af.fr H3.out.1 f4 fun _ _ _ q => q) (fun x _ q => ⟨by have := q.1; omega, by have := q.2; omega⟩)
    | 3, _ => exact Thr.Tf.mono H4.out.1 (fun x _ q => ⟨by have := q.1; omega, q.2⟩)
  refine ⟨y4.heap.size, rfl, ⟨a, b, c, d, _, ⟨by omega, by simp⟩, fun q => by have := q.2; omega, fun x q => ⟨q.1, by have := q.2; simp; omega⟩, by rw [hk]; exact heap_alloc_new _ _, hI.frame (by simp) fun x hx _ => heap_alloc_old _ hx⟩, ?_⟩
  exact (f1.trans (f2.trans (f3.trans f4 fun _ _ q => q) fun _ _ q => q) fun _ _ q => q).alloc _
theorem rk_new_no (n : Int) (hn : n < 0 ∨ 3 < n) (w : World) : Calls Tryz.prog 6 #[.int .i64 n] w fun e w' => e = .returned (.pointer none) ∧ w = w' := by
  by_cases h : n < 0
  · go_enter Tryz.func6, Tryz.ntmps6
    go_wp2
    go_ret
    exact ⟨rfl, rfl⟩
  · have h3 : 3 < n := by omega
    have h2 : decide (n < 0) = false := decide_eq_false h
    clear hn h
    go_enter Tryz.func6, Tryz.ntmps6
    go_wp2
    go_ret
    exact ⟨rfl, rfl⟩
theorem rk_len (h : RAt w S q r) (hL : RLim r) :
    Calls Tryz.prog 20 #[.pointer (some ⟨q, 0, none⟩)] w fun e w' => e = .returned (.int .i64 r.len) ∧ ∃ j, w' = w.drewN j := by
  obtain ⟨a, b, c, d, Si, h⟩ := h
  obtain ⟨c0, c1, c2, c3, c4, hs⟩ := h.cells
  obtain ⟨g, Sr, hR, hg⟩ := h.hI.rows
  have HR := Lib.hid (fun j row => (rf_len Sr g r.n r.L row (w.drewN j) (hR.frame fun _ _ _ => rfl)).mono fun _ _ (q : _ ∧ _) => And.intro q.1 q.2.symm)
  have q0 : (rowL r.L 0).length = (r.L 0).length := by rw [rowL_0]
  have q1 : (rowL r.L 1).length = (r.L 1).length := by rw [rowL_1]
  have q2 : (rowL r.L 2).length = (r.L 2).length := by rw [Seg.rowL_2]
  have b0 := hL.len_le 0
  have b1 := hL.len_le 1
  have b2 := hL.len_le 2
  obtain ⟨n0, e0⟩ : ∃ v, (r.L 0).length = v := ⟨_, rfl⟩
  obtain ⟨n1, e1⟩ : ∃ v, (r.L 1).length = v := ⟨_, rfl⟩
  obtain ⟨n2, e2⟩ : ∃ v, (r.L 2).length = v := ⟨_, rfl⟩
  rw [e0] at q0 b0
  rw [e1] at q1 b1
  rw [e2] at q2 b2
  have HQ := Lib.hid (And.intro q0 (And.intro q1 q2))
  clear h hL hR q0 q1 q2
  cases r with
  | pl L =>
    simp only [RK.kind] at c0
    simp only [RowAt] at hg
    subst hg
    change (L 0).length = n0 at e0
    have hw0 : wrap64 (n0 : Int) = n0 := by unfold wrap64; omega
    have hl : RK.len (.pl L) = n0 := e0
    rw [hl]
    clear e0 e1 e2 hl
    go_enter Tryz.func20, Tryz.ntmps20
    go_wp2_with fail
    have HR0 := HR.out 0 0
    rw [World.drewN_zero] at HR0
    refine HR0.mono ?_
    rintro e y ⟨rfl, rfl⟩
    rw [HQ.out.1]
    go_wp2
    go_ret
    exact ⟨rfl, 0, rfl⟩
  | sg L Al =>
    simp only [RK.kind] at c0
    simp only [RowAt] at hg
    change (L 0).length = n0 at e0
    change (L 1).length = n1 at e1
    change (L 2).length = n2 at e2
    have hl : RK.len (.sg L Al) = n0 + n1 + n2 := by show (L 0).length + (L 1).length + (L 2).length = _; rw [e0, e1, e2]
    rw [hl]
    clear e0 e1 e2 hl
    go_enter Tryz.func20, Tryz.ntmps20
    go_wp2_with fail
    go_quiet ((go_at_call 51; exact Calls.quiet_of_same (HR.out _ _)))
    rw [HQ.out.1, HQ.out.2.1, HQ.out.2.2]
    have hww : wrap64 (wrap64 ((n0 : Int) + n1) + n2) = ((n0 + n1 + n2 : Nat) : Int) := by unfold wrap64; omega
    go_wp2
    go_ret
    exact ⟨by rw [← hww]; rfl, nq, rfl⟩
  | ar t =>
    simp only [RK.kind] at c0
    simp only [RowAt] at hg
    change (t.L 0).length = n0 at e0
    change (t.L 1).length = n1 at e1
    have hl : RK.len (.ar t) = n0 + n1 := by show (t.L 0).length + (t.L 1).length = _; rw [e0, e1]
    rw [hl]
    clear e0 e1 e2 hl
    go_enter Tryz.func20, Tryz.ntmps20
    go_wp2_with fail
    go_quiet ((go_at_call 51; exact Calls.quiet_of_same (HR.out _ _)))
    rw [HQ.out.1, HQ.out.2.1]
    have hww : wrap64 ((n0 : Int) + n1) = ((n0 + n1 : Nat) : Int) := by unfold wrap64; omega
    go_wp2
    go_ret
    exact ⟨by rw [← hww]; rfl, nq, rfl⟩
  | th s =>
    simp only [RK.kind] at c0
    simp only [RowAt] at hg
    change (s.L 0).length = n0 at e0
    change (s.L 1).length = n1 at e1
    have hl : RK.len (.th s) = n0 + n1 := by show (s.L 0).length + (s.L 1).length = _; rw [e0, e1]
    rw [hl]
    clear e0 e1 e2 hl
    go_enter Tryz.func20, Tryz.ntmps20
    go_wp2_with fail
    go_quiet ((go_at_call 51; exact Calls.quiet_of_same (HR.out _ _)))
    rw [HQ.out.1, HQ.out.2.1]
    have hww : wrap64 ((n0 : Int) + n1) = ((n0 + n1 : Nat) : Int) := by unfold wrap64; omega
    go_wp2
    go_ret
    exact ⟨by rw [← hww]; rfl, nq, rfl⟩
theorem rk_victim (h : RAt w S q r) (hh : Int) (hS : SynK j k r) (hn : PNum N M k) (hL : RLim r) (hj : j ≤ 1000) (hN : N + 5 ≤ 1000000) (hM : M ≤ 1000) :
    Calls Tryz.prog 17 #[.pointer (some ⟨q, 0, none⟩), .int .u64 hh] w fun e w' => e = .returned (.int .i64 (k.vicI hh)) ∧ ∃ r', RAt w' (grow S w w') q r' ∧ SynK j k.vicS r' ∧ Fr S w w' := by
  obtain ⟨a, b, c, d, Si, h⟩ := h
  obtain ⟨c0, c1, c2, c3, c4, hs⟩ := h.cells
  cases k <;> cases r <;> first | exact hS.elim | skip
  · rename_i L L2
    have e : L2 = L := hS
    subst e
    have HC := rf_last Si a 1 L2 0 w h.hI (by rw [rowL_0]; exact hL.1 0)
    rw [rowL_0] at HC
    have HC := Lib.hid HC
    have HT := Lib.hid h
    simp only [RK.kind] at c0
    show Calls _ _ _ _ fun e w' => e = .returned (.int .i64 (lastOf (L2 0))) ∧ _
    obtain ⟨v, hv⟩ : ∃ v, lastOf (L2 0) = v := ⟨_, rfl⟩
    rw [hv] at HC ⊢
    clear h hL hn hS hv
    go_enter Tryz.func17, Tryz.ntmps17
    go_wp2_with fail
    refine HC.out.mono ?_
    rintro e y ⟨rfl, rfl⟩
    go_wp2
    go_ret
    have := HT.out.same
    exact ⟨rfl, _, this.1, rfl, this.2⟩
  · rename_i L A L2 Al
    obtain ⟨e, ha, hal⟩ := hS
    subst e
    subst ha
    simp only [RK.kind] at c0
    show Calls _ _ _ _ fun e w' => e = .returned (.int .i64 (Seg.vict (stpN 5 (L2, Seg.actOf Al)).1)) ∧ ∃ r', RAt w' (grow S w w') q r' ∧ SynK j (.sg (stpN 5 (L2, Seg.actOf Al)).1 (stpN 5 (L2, Seg.actOf Al)).2) r' ∧ Fr S w w'
    obtain ⟨rv, hrv⟩ : ∃ rv, stpN 5 (L2, Seg.actOf Al) = rv := ⟨_, rfl⟩
    rw [hrv]
    have HT := Lib.hid (And.intro h (And.intro hrv (And.intro hn.2 (And.intro hn.1 hal))))
    clear h hL hn hal hrv
    go_enter Tryz.func17, Tryz.ntmps17
    go_wp2_with fail
    go_loopw [5, 6] (fun m i wr => ∃ (n : Nat) (L' : Nat → List Int) (B : List Int) (bm : Bool), n ≤ 5 ∧ i = .int .i64 n ∧ m = .bool bm ∧ ROk wr (grow S w wr) q (.sg L' B) a b c d (grow Si w wr) ∧ Fr Si w wr ∧ stpN (5 - n) (L', Seg.actOf B) = rv ∧ B.length ≤ j ∧ ((∀ k, (L' k).length ≤ N + n) ∧ Dsj 3 L') ∧ (bm = false → (L', Seg.actOf B) = rv)) (fun _ i _ => 5 - (intOf i).toNat)
    case atStart => exact ⟨0, L2, Al, true, by omega, rfl, rfl, ⟨Or.inl HT.out.1.hq, fun y => y.elim HT.out.1.hqi (fun y => by have := HT.out.1.cells.2.2.2.2.2; omega), fun x y => y.imp (HT.out.1.hi x) (fun y => y), HT.out.1.hp, HT.out.1.hI.mono fun x _ y => Or.inl y⟩, Fr.refl _ _, HT.out.2.1, HT.out.2.2.2.2, ⟨HT.out.2.2.1, HT.out.2.2.2.1⟩, by intro h; cases h⟩
    case round =>
      clear c0 c1 c2 c3 c4 hs
      obtain ⟨n, L', B, bm, hn, rfl, rfl, hO, hF, hst, hB, hx, hbm⟩ := hrel
      obtain ⟨c0, c1, c2, c3, c4, hs⟩ := hO.cells
      simp only [RK.kind] at c0
      have HQ := Lib.hid (And.intro hO (And.intro hF (And.intro hst (And.intro hB (And.intro hx hbm)))))
      clear hO hF hst hB hx hbm
      by_cases hlt : n < 5 ∧ bm = true
      · obtain ⟨hlt, rfl⟩ := hlt
        have HC := Lib.hid (Seg.sf_step (S := grow Si w wr) (p := b) (L := L') (Al := B) (w := wr) HQ.out.1.hI (fun k => by have := HQ.out.2.2.2.2.1.1 k; omega) HQ.out.2.2.2.2.1.2 (by have := HQ.out.2.2.2.1; omega))
        obtain ⟨wb, hwb⟩ : ∃ wb, decide (0 ≤ Seg.whoF L' (Seg.actOf B)) = wb := ⟨_, rfl⟩
        rw [hwb] at HC
        have HWB := Lib.hid hwb
        clear hwb
        go_wp2_with fail
        refine HC.out.mono ?_
        rintro e y ⟨rfl, hA, hG⟩
        have hN := rok_next (r' := .sg (Seg.stepL L' (Seg.actOf B)) (if Seg.whoF L' (Seg.actOf B) < 0 then B else B.filter (· != Seg.whoF L' (Seg.actOf B)))) HQ.out.1 rfl HQ.out.2.1 hA hG
        have H1 := Lib.hid hN
        clear hA hG hN
        go_wp2_with fail
        go_roundw
        case rel =>
          refine ⟨n + 1, _, _, wb, by omega, by go_num, rfl, H1.out.1, H1.out.2, ?_, ?_, seg_step_ok (N := N + n) HQ.out.2.2.2.2.1, ?_⟩
          · have := HQ.out.2.2.1
            rw [show 5 - n = (5 - (n + 1)) + 1 from by omega] at this
            rw [← act_step]
            exact this
          · split
            · exact HQ.out.2.2.2.1
            · exact Nat.le_trans (List.length_filter_le _ _) HQ.out.2.2.2.1
          · intro e
            have hw : ¬ 0 ≤ Seg.whoF L' (Seg.actOf B) := of_decide_eq_false (HWB.out.trans e)
            rw [← act_step]
            have h1 := stp_still (q := (L', Seg.actOf B)) hw 1
            have h2 := stp_still (q := (L', Seg.actOf B)) hw (5 - n)
            exact (h1.trans h2.symm).trans HQ.out.2.2.1
        case measure => simp [intOf]; omega
      · have hrv : (L', Seg.actOf B) = rv := by
          cases bm with
          | false => exact HQ.out.2.2.2.2.2 rfl
          | true =>
            have e5 : n = 5 := by
              have : ¬ n < 5 := fun h => hlt ⟨h, rfl⟩
              omega
            have := HQ.out.2.2.1
            rw [e5] at this
            exact this
        subst hrv
        have HC := Lib.hid (Seg.sf_victim (S := grow Si w wr) (p := b) (L := L') (Al := B) (w := wr) HQ.out.1.hI (fun k => by have := HQ.out.2.2.2.2.1.1 k; omega))
        have hex : (n < 5 ∧ bm = false) ∨ n = 5 := by
          rcases Nat.lt_or_ge n 5 with h | h
          · exact Or.inl ⟨h, by cases bm with | false => rfl | true => exact absurd ⟨h, rfl⟩ hlt⟩
          · exact Or.inr (by omega)
        clear hlt
        have hfin : RAt wr (grow S w wr) q (.sg L' B) ∧ SynK j (.sg L' (Seg.actOf B)) (.sg L' B) ∧ Fr S w wr := ⟨⟨a, b, c, d, _, HQ.out.1⟩, ⟨rfl, rfl, HQ.out.2.2.2.1⟩, HQ.out.2.1.mono fun x _ y => HT.out.1.hi x y⟩
        have HFIN := Lib.hid hfin
        clear hfin
        obtain ⟨v, hv⟩ : ∃ v, Seg.vict L' = v := ⟨_, rfl⟩
        show _
        rcases hex with ⟨hlt, rfl⟩ | rfl
        all_goals
          go_wp2_with fail
          refine HC.out.mono ?_
          rintro e y ⟨rfl, rfl⟩
          go_wp2
          go_ret
          exact ⟨rfl, _, HFIN.out.1, HFIN.out.2.1, HFIN.out.2.2⟩
  · rename_i s t
    have hS : Arc.Syn j s t := hS
    have HC := Arc.af_victim Si c t hh w h.hI hL.N (Nat.le_of_lt hL.B2) hL.P0
    rw [Arc.syn_vict hS hh] at HC
    have HC := Lib.hid HC
    have HT := Lib.hid (And.intro h hS)
    simp only [RK.kind] at c0
    show Calls _ _ _ _ fun e w' => e = .returned (.int .i64 (Arc.victA s hh)) ∧ _
    obtain ⟨v, hv⟩ : ∃ v, Arc.victA s hh = v := ⟨_, rfl⟩
    rw [hv] at HC ⊢
    clear h hL hn hS hv
    go_enter Tryz.func17, Tryz.ntmps17
    go_wp2_with fail
    refine HC.out.mono ?_
    rintro e y ⟨rfl, rfl⟩
    go_wp2
    go_ret
    have := HT.out.1.same
    exact ⟨rfl, _, this.1, HT.out.2, this.2⟩
  · rename_i t s
    obtain ⟨hS, hH⟩ := hS
    have HC := Lib.hid (Thr.tf_victim Si d s t w h.hI hS hn.1 hn.2.2.1 (by omega))
    have HT := Lib.hid (And.intro h hH)
    simp only [RK.kind] at c0
    show Calls _ _ _ _ fun e w' => e = .returned (.int .i64 (Thr.vicT t).2) ∧ ∃ r', RAt w' (grow S w w') q r' ∧ SynK j (.th (Thr.vicT t).1) r' ∧ Fr S w w'
    obtain ⟨v, hv⟩ : ∃ v, Thr.vicT t = v := ⟨_, rfl⟩
    rw [hv] at HC ⊢
    clear h hL hn hS hv hH
    go_enter Tryz.func17, Tryz.ntmps17
    go_wp2_with fail
    refine HC.out.mono ?_
    rintro e y ⟨rfl, ⟨s', hA, hs', hl'⟩, hF⟩
    have H1 := Lib.hid (And.intro hA (And.intro hF (And.intro hs' hl')))
    clear hA hF hs' hl'
    go_wp2
    go_ret
    have := HT.out.1.turn (r' := .th s') rfl H1.out.1 H1.out.2.1
    exact ⟨rfl, _, this.1, ⟨H1.out.2.2.1, by rw [H1.out.2.2.2]; exact HT.out.2⟩, this.2⟩
end
end Go.Proofs.YtgdlndpjfejmcaaGreat
