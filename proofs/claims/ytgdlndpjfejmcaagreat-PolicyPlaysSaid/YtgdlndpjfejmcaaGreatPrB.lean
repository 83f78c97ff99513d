/- The reference of layer 15 (policy): what each call does. -/
import Derived.Test.YtgdlndpjfejmcaaGreatPrA
import Derived.Deep.QuietTactic
import Derived.BigQuiet
import Derived.Deep.RegionHeld3
namespace Go.Proofs.YtgdlndpjfejmcaaGreat
open Go.RowKit
set_option linter.unusedVariables false
set_option maxRecDepth 100000
section
variable {w w' : World} {S : Nat → Prop} {q : Nat} {r r' : RK} {a b c d : Nat} {Si : Nat → Prop}
theorem rk_insert (h : RAt w S q r) (id hh : Int) (hL : RLim r) :
    Calls Tryz.prog 8 #[.pointer (some ⟨q, 0, none⟩), .int .i64 id, .int .u64 hh] w fun e w' => e = .returned (.bool (r.insB id)) ∧ RAt w' (grow S w w') q (r.ins id hh) ∧ Fr S w w' := by
  have HH := Lib.hid (rk_has h id hL)
  obtain ⟨hv, hhv⟩ : ∃ hv, r.hasB id = hv := ⟨_, rfl⟩
  rw [hhv] at HH
  obtain ⟨a, b, c, d, Si, h⟩ := h
  cases r with
  | pl L =>
    obtain ⟨c0, c1, c2, c3, c4, hs⟩ := h.cells
    simp only [RK.kind] at c0
    have HC := Lib.hid (rf_front Si a 1 L 0 id w h.hI hL.1 hL.2)
    have HT := Lib.hid h
    by_cases hb : rowOf 1 L id < 0
    · have hv0 : hv = false := hhv.symm.trans (decide_eq_false (by show ¬ 0 ≤ rowOf 1 L id; omega))
      have e1 : RK.insB (.pl L) id = mayIn 1 0 id := by show (decide (rowOf 1 L id < 0) && _) = _; rw [decide_eq_true hb, Bool.true_and]
      have e2 : RK.ins (.pl L) id hh = .pl (frontL 1 L 0 id) := by show RK.pl (insP L id) = _; unfold insP; rw [if_pos hb]
      rw [e1, e2]
      subst hv0
      obtain ⟨mb, hmb⟩ : ∃ mb, mayIn 1 0 id = mb := ⟨_, rfl⟩
      rw [hmb] at HC ⊢
      clear h hL hhv hb e1 e2 hmb
      go_enter Tryz.func8, Tryz.ntmps8
      go_wp2_with fail
      refine HH.out.mono ?_
      rintro e y ⟨rfl, rfl⟩
      go_wp2_with fail
      refine HC.out.mono ?_
      rintro e y ⟨rfl, hA, hF⟩
      have H1 := Lib.hid (And.intro hA hF)
      clear hA hF
      go_wp2
      go_ret
      exact ⟨rfl, HT.out.turn (r' := .pl (frontL 1 L 0 id)) rfl H1.out.1 H1.out.2⟩
    · have hv0 : hv = true := hhv.symm.trans (decide_eq_true (by show 0 ≤ rowOf 1 L id; omega))
      have e1 : RK.insB (.pl L) id = false := by show (decide (rowOf 1 L id < 0) && _) = _; rw [decide_eq_false hb, Bool.false_and]
      have e2 : RK.ins (.pl L) id hh = .pl L := by show RK.pl (insP L id) = _; unfold insP; rw [if_neg hb]
      rw [e1, e2]
      subst hv0
      clear h hL hhv hb e1 e2
      go_enter Tryz.func8, Tryz.ntmps8
      go_wp2_with fail
      refine HH.out.mono ?_
      rintro e y ⟨rfl, rfl⟩
      go_wp2
      go_ret
      exact ⟨rfl, HT.out.same⟩
  | sg L Al =>
    obtain ⟨c0, c1, c2, c3, c4, hs⟩ := h.cells
    simp only [RK.kind] at c0
    have HC := Lib.hid (Seg.sf_insert Si b L Al w h.hI hL.1 hL.2.1 id)
    have HT := Lib.hid h
    obtain ⟨mb, hmb⟩ : ∃ mb, (decide (rowOf 3 L id < 0) && mayIn 3 0 id) = mb := ⟨_, rfl⟩
    change Calls _ _ _ _ fun e w' => e = .returned (.bool (decide (rowOf 3 L id < 0) && mayIn 3 0 id)) ∧ _
    rw [hmb] at HC ⊢
    clear h hL hmb
    go_enter Tryz.func8, Tryz.ntmps8
    go_wp2_with fail
    refine HH.out.mono ?_
    rintro e y ⟨rfl, rfl⟩
    go_wp2_with fail
    refine HC.out.mono ?_
    rintro e y ⟨rfl, hA, hF⟩
    have H1 := Lib.hid (And.intro hA hF)
    clear hA hF
    go_wp2
    go_ret
    exact ⟨rfl, HT.out.turn (r' := .sg (Seg.insL L id) Al) rfl H1.out.1 H1.out.2⟩
  | ar t =>
    obtain ⟨c0, c1, c2, c3, c4, hs⟩ := h.cells
    simp only [RK.kind] at c0
    have HC := Lib.hid (Arc.af_insert Si c t id hh w h.hI hL)
    have HT := Lib.hid h
    obtain ⟨mb, hmb⟩ : ∃ mb, (Arc.insOkF t id) = mb := ⟨_, rfl⟩
    change Calls _ _ _ _ fun e w' => e = .returned (.bool (Arc.insOkF t id)) ∧ _
    rw [hmb] at HC ⊢
    clear h hL hmb
    go_enter Tryz.func8, Tryz.ntmps8
    go_wp2_with fail
    refine HH.out.mono ?_
    rintro e y ⟨rfl, rfl⟩
    go_wp2_with fail
    refine HC.out.mono ?_
    rintro e y ⟨rfl, hA, hF⟩
    have H1 := Lib.hid (And.intro hA hF)
    clear hA hF
    go_wp2
    go_ret
    exact ⟨rfl, HT.out.turn (r' := .ar (t.ins id hh)) rfl H1.out.1 H1.out.2⟩
  | th s =>
    obtain ⟨c0, c1, c2, c3, c4, hs⟩ := h.cells
    simp only [RK.kind] at c0
    have HC := Lib.hid (Thr.tf_insert Si d s id hh w h.hI hL.N hL.d hL.H (Nat.le_of_lt hL.B))
    have HT := Lib.hid h
    obtain ⟨mb, hmb⟩ : ∃ mb, s.inOk id = mb := ⟨_, rfl⟩
    obtain ⟨s', hs'⟩ : ∃ s', (if s.inOk id then s.put id hh else s) = s' := ⟨_, rfl⟩
    change Calls _ _ _ _ fun e w' => e = .returned (.bool (s.inOk id)) ∧ RAt w' (grow S w w') q (.th (if s.inOk id then s.put id hh else s)) ∧ _
    rw [hs', hmb] at HC ⊢
    clear hs' hmb
    clear h hL
    go_enter Tryz.func8, Tryz.ntmps8
    go_wp2_with fail
    refine HH.out.mono ?_
    rintro e y ⟨rfl, rfl⟩
    go_wp2_with fail
    refine HC.out.mono ?_
    rintro e y ⟨rfl, hA, hF⟩
    have H1 := Lib.hid (And.intro hA hF)
    clear hA hF
    go_wp2
    go_ret
    exact ⟨rfl, HT.out.turn (r' := .th s') rfl H1.out.1 H1.out.2⟩
theorem rk_touch (h : RAt w S q r) (id : Int) (hL : RLim r) :
    Calls Tryz.prog 10 #[.pointer (some ⟨q, 0, none⟩), .int .i64 id] w fun e w' => e = .returned (.bool (r.touB id)) ∧ RAt w' (grow S w w') q (r.tou id) ∧ Fr S w w' := by
  have HH := Lib.hid (rk_has h id hL)
  obtain ⟨hv, hhv⟩ : ∃ hv, r.hasB id = hv := ⟨_, rfl⟩
  rw [hhv] at HH
  obtain ⟨a, b, c, d, Si, h⟩ := h
  cases r with
  | pl L =>
    obtain ⟨c0, c1, c2, c3, c4, hs⟩ := h.cells
    simp only [RK.kind] at c0
    have HC := Lib.hid (rf_front Si a 1 L 0 id w h.hI hL.1 hL.2)
    have HT := Lib.hid h
    by_cases hb : 0 ≤ rowOf 1 L id
    · have hv0 : hv = true := hhv.symm.trans (decide_eq_true hb)
      have e1 : RK.touB (.pl L) id = mayIn 1 0 id := by show (decide (0 ≤ rowOf 1 L id) && _) = _; rw [decide_eq_true hb, Bool.true_and]
      have e2 : RK.tou (.pl L) id = .pl (frontL 1 L 0 id) := by show RK.pl (touP L id) = _; unfold touP; rw [if_pos hb]
      rw [e1, e2]
      subst hv0
      obtain ⟨mb, hmb⟩ : ∃ mb, mayIn 1 0 id = mb := ⟨_, rfl⟩
      rw [hmb] at HC ⊢
      clear h hL hhv hb e1 e2 hmb
      go_enter Tryz.func10, Tryz.ntmps10
      go_wp2_with fail
      refine HH.out.mono ?_
      rintro e y ⟨rfl, rfl⟩
      go_wp2_with fail
      refine HC.out.mono ?_
      rintro e y ⟨rfl, hA, hF⟩
      have H1 := Lib.hid (And.intro hA hF)
      clear hA hF
      go_wp2
      go_ret
      exact ⟨rfl, HT.out.turn (r' := .pl (frontL 1 L 0 id)) rfl H1.out.1 H1.out.2⟩
    · have hv0 : hv = false := hhv.symm.trans (decide_eq_false hb)
      have e1 : RK.touB (.pl L) id = false := by show (decide (0 ≤ rowOf 1 L id) && _) = _; rw [decide_eq_false hb, Bool.false_and]
      have e2 : RK.tou (.pl L) id = .pl L := by show RK.pl (touP L id) = _; unfold touP; rw [if_neg hb]
      rw [e1, e2]
      subst hv0
      clear h hL hhv hb e1 e2
      go_enter Tryz.func10, Tryz.ntmps10
      go_wp2_with fail
      refine HH.out.mono ?_
      rintro e y ⟨rfl, rfl⟩
      go_wp2
      go_ret
      exact ⟨rfl, HT.out.same⟩
  | sg L Al =>
    obtain ⟨c0, c1, c2, c3, c4, hs⟩ := h.cells
    simp only [RK.kind] at c0
    have HC := Lib.hid (Seg.sf_touch Si b L Al w h.hI hL.1 hL.2.1 hL.2.2 id)
    have HT := Lib.hid h
    obtain ⟨mb, hmb⟩ : ∃ mb, (decide (0 ≤ rowOf 3 L id)) = mb := ⟨_, rfl⟩
    obtain ⟨s', hs'⟩ : ∃ s', (if 0 ≤ rowOf 3 L id then Al.filter (· != id) ++ [id] else Al) = s' := ⟨_, rfl⟩
    change Calls _ _ _ _ fun e w' => e = .returned (.bool (decide (0 ≤ rowOf 3 L id))) ∧ RAt w' (grow S w w') q (.sg L (if 0 ≤ rowOf 3 L id then Al.filter (· != id) ++ [id] else Al)) ∧ _
    rw [hs', hmb] at HC ⊢
    clear h hL hs' hmb
    go_enter Tryz.func10, Tryz.ntmps10
    go_wp2_with fail
    refine HH.out.mono ?_
    rintro e y ⟨rfl, rfl⟩
    go_wp2_with fail
    refine HC.out.mono ?_
    rintro e y ⟨rfl, hA, hF⟩
    have H1 := Lib.hid (And.intro hA hF)
    clear hA hF
    go_wp2
    go_ret
    exact ⟨rfl, HT.out.turn (r' := .sg L s') rfl H1.out.1 H1.out.2⟩
  | ar t =>
    obtain ⟨c0, c1, c2, c3, c4, hs⟩ := h.cells
    simp only [RK.kind] at c0
    have HC := Lib.hid (Arc.af_touch Si c t id w h.hI hL.N hL.d)
    have HT := Lib.hid h
    obtain ⟨mb, hmb⟩ : ∃ mb, (if 0 ≤ rowOf 2 t.L id then mayIn 2 1 id else false) = mb := ⟨_, rfl⟩
    obtain ⟨s', hs'⟩ : ∃ s', (if 0 ≤ rowOf 2 t.L id then t.front 1 id else t) = s' := ⟨_, rfl⟩
    change Calls _ _ _ _ fun e w' => e = .returned (.bool (if 0 ≤ rowOf 2 t.L id then mayIn 2 1 id else false)) ∧ RAt w' (grow S w w') q (.ar (if 0 ≤ rowOf 2 t.L id then t.front 1 id else t)) ∧ _
    rw [hs', hmb] at HC ⊢
    clear h hL hs' hmb
    go_enter Tryz.func10, Tryz.ntmps10
    go_wp2_with fail
    refine HH.out.mono ?_
    rintro e y ⟨rfl, rfl⟩
    go_wp2_with fail
    refine HC.out.mono ?_
    rintro e y ⟨rfl, hA, hF⟩
    have H1 := Lib.hid (And.intro hA hF)
    clear hA hF
    go_wp2
    go_ret
    exact ⟨rfl, HT.out.turn (r' := .ar s') rfl H1.out.1 H1.out.2⟩
  | th s =>
    obtain ⟨c0, c1, c2, c3, c4, hs⟩ := h.cells
    simp only [RK.kind] at c0
    have HC := Lib.hid ((Thr.tf_touch Si d s id w h.hI (Nat.le_of_lt hL.H) hL.c).mono fun e w' ⟨he, hA', hF, _⟩ => show e = Ending.returned (.bool (Thr.lk s.H id).isSome) ∧ Thr.Tf w' (grow Si w w') d (s.touch id) ∧ Fr Si w w' from ⟨he, Thr.Tf.mono hA' fun b _ q => Or.inl q, hF⟩)
    have HT := Lib.hid h
    obtain ⟨mb, hmb⟩ : ∃ mb, ((Thr.lk s.H id).isSome) = mb := ⟨_, rfl⟩
    obtain ⟨s', hs'⟩ : ∃ s', (s.touch id) = s' := ⟨_, rfl⟩
    change Calls _ _ _ _ fun e w' => e = .returned (.bool ((Thr.lk s.H id).isSome)) ∧ RAt w' (grow S w w') q (.th (s.touch id)) ∧ _
    rw [hs', hmb] at HC ⊢
    clear h hL hs' hmb
    go_enter Tryz.func10, Tryz.ntmps10
    go_wp2_with fail
    refine HH.out.mono ?_
    rintro e y ⟨rfl, rfl⟩
    go_wp2_with fail
    refine HC.out.mono ?_
    rintro e y ⟨rfl, hA, hF⟩
    have H1 := Lib.hid (And.intro hA hF)
    clear hA hF
    go_wp2
    go_ret
    exact ⟨rfl, HT.out.turn (r' := .th s') rfl H1.out.1 H1.out.2⟩
theorem rk_remove (h : RAt w S q r) (id : Int) (hL : RLim r) :
    Calls Tryz.prog 12 #[.pointer (some ⟨q, 0, none⟩), .int .i64 id] w fun e w' => e = .returned (.bool (r.hasB id)) ∧ RAt w' (grow S w w') q (r.rem id) ∧ Fr S w w' := by
  obtain ⟨a, b, c, d, Si, h⟩ := h
  cases r with
  | pl L =>
    obtain ⟨c0, c1, c2, c3, c4, hs⟩ := h.cells
    simp only [RK.kind] at c0
    have HC := Lib.hid (rf_take Si a 1 L id w h.hI hL.1 hL.2)
    have HT := Lib.hid h
    obtain ⟨mb, hmb⟩ : ∃ mb, (decide (0 ≤ rowOf 1 L id)) = mb := ⟨_, rfl⟩
    obtain ⟨s', hs'⟩ : ∃ s', (del L id) = s' := ⟨_, rfl⟩
    change Calls _ _ _ _ fun e w' => e = .returned (.bool (decide (0 ≤ rowOf 1 L id))) ∧ RAt w' (grow S w w') q (.pl (del L id)) ∧ _
    rw [hs', hmb] at HC ⊢
    clear h hL hs' hmb
    go_enter Tryz.func12, Tryz.ntmps12
    go_wp2_with fail
    refine HC.out.mono ?_
    rintro e y ⟨rfl, hA, hF⟩
    have H1 := Lib.hid (And.intro hA hF)
    clear hA hF
    go_wp2
    go_ret
    exact ⟨rfl, HT.out.turn (r' := .pl s') rfl H1.out.1 H1.out.2⟩
  | sg L Al =>
    obtain ⟨c0, c1, c2, c3, c4, hs⟩ := h.cells
    simp only [RK.kind] at c0
    have HC := Lib.hid (show Calls Tryz.prog 39 #[.pointer (some ⟨b, 0, none⟩), .int .i64 id] w fun e w' => e = .returned (.bool (decide (0 ≤ rowOf 3 L id))) ∧ RIn (.sg (del L id) (Al.filter (· != id))) a b c d w' (grow Si w w') ∧ Fr Si w w' from Seg.sf_remove Si b L Al w h.hI hL.1 hL.2.1 hL.2.2 id)
    have HT := Lib.hid h
    obtain ⟨mb, hmb⟩ : ∃ mb, (decide (0 ≤ rowOf 3 L id)) = mb := ⟨_, rfl⟩
    have hk' : RK.kind (RK.sg (del L id) (Al.filter (· != id))) = RK.kind (.sg L Al) := rfl
    obtain ⟨s', hs'⟩ : ∃ s', (RK.sg (del L id) (Al.filter (· != id))) = s' := ⟨_, rfl⟩
    change Calls _ _ _ _ fun e w' => e = .returned (.bool (decide (0 ≤ rowOf 3 L id))) ∧ RAt w' (grow S w w') q ((RK.sg (del L id) (Al.filter (· != id)))) ∧ _
    rw [hs', hmb] at HC ⊢
    rw [hs'] at hk'
    have HK := Lib.hid hk'
    clear hk'
    clear h hL hs' hmb
    go_enter Tryz.func12, Tryz.ntmps12
    go_wp2_with fail
    refine HC.out.mono ?_
    rintro e y ⟨rfl, hA, hF⟩
    have H1 := Lib.hid (And.intro hA hF)
    clear hA hF
    go_wp2
    go_ret
    exact ⟨rfl, HT.out.turn (r' := s') HK.out H1.out.1 H1.out.2⟩
  | ar t =>
    obtain ⟨c0, c1, c2, c3, c4, hs⟩ := h.cells
    simp only [RK.kind] at c0
    have HC := Lib.hid (Arc.af_remove Si c t id w h.hI hL.N hL.d (Nat.le_of_lt hL.H))
    have HT := Lib.hid h
    obtain ⟨mb, hmb⟩ : ∃ mb, (decide (0 ≤ rowOf 2 t.L id)) = mb := ⟨_, rfl⟩
    obtain ⟨s', hs'⟩ : ∃ s', (t.drop id) = s' := ⟨_, rfl⟩
    change Calls _ _ _ _ fun e w' => e = .returned (.bool (decide (0 ≤ rowOf 2 t.L id))) ∧ RAt w' (grow S w w') q (.ar (t.drop id)) ∧ _
    rw [hs', hmb] at HC ⊢
    clear h hL hs' hmb
    go_enter Tryz.func12, Tryz.ntmps12
    go_wp2_with fail
    refine HC.out.mono ?_
    rintro e y ⟨rfl, hA, hF⟩
    have H1 := Lib.hid (And.intro hA hF)
    clear hA hF
    go_wp2
    go_ret
    exact ⟨rfl, HT.out.turn (r' := .ar s') rfl H1.out.1 H1.out.2⟩
  | th s =>
    obtain ⟨c0, c1, c2, c3, c4, hs⟩ := h.cells
    simp only [RK.kind] at c0
    have HC := Lib.hid (Thr.tf_rem Si d s id w h.hI hL.N hL.d (Nat.le_of_lt hL.H) hL.nd hL.in_)
    have HT := Lib.hid h
    obtain ⟨mb, hmb⟩ : ∃ mb, (decide (0 ≤ rowOf 2 s.L id)) = mb := ⟨_, rfl⟩
    obtain ⟨s', hs'⟩ : ∃ s', (s.rem id) = s' := ⟨_, rfl⟩
    change Calls _ _ _ _ fun e w' => e = .returned (.bool (decide (0 ≤ rowOf 2 s.L id))) ∧ RAt w' (grow S w w') q (.th (s.rem id)) ∧ _
    rw [hs', hmb] at HC ⊢
    clear h hL hs' hmb
    go_enter Tryz.func12, Tryz.ntmps12
    go_wp2_with fail
    refine HC.out.mono ?_
    rintro e y ⟨rfl, hA, hF⟩
    have H1 := Lib.hid (And.intro hA hF)
    clear hA hF
    go_wp2
    go_ret
    exact ⟨rfl, HT.out.turn (r' := .th s') rfl H1.out.1 H1.out.2⟩
theorem rk_evict (h : RAt w S q r) (id : Int) (hL : RLim r) :
    Calls Tryz.prog 14 #[.pointer (some ⟨q, 0, none⟩), .int .i64 id] w fun e w' => e = .returned (.bool (r.hasB id)) ∧ RAt w' (grow S w w') q (r.evi id) ∧ Fr S w w' := by
  obtain ⟨a, b, c, d, Si, h⟩ := h
  cases r with
  | pl L =>
    have HC := Lib.hid (rk_remove ⟨a, b, c, d, Si, h⟩ id hL)
    obtain ⟨c0, c1, c2, c3, c4, hs⟩ := h.cells
    simp only [RK.kind] at c0
    obtain ⟨mb, hmb⟩ : ∃ mb, RK.hasB (RK.pl L) id = mb := ⟨_, rfl⟩
    obtain ⟨s', hs'⟩ : ∃ s', RK.rem (RK.pl L) id = s' := ⟨_, rfl⟩
    change Calls _ _ _ _ fun e w' => e = .returned (.bool (RK.hasB (RK.pl L) id)) ∧ RAt w' (grow S w w') q (RK.rem (RK.pl L) id) ∧ _
    rw [hs', hmb] at HC ⊢
    clear h hL hs' hmb
    go_enter Tryz.func14, Tryz.ntmps14
    go_wp2_with fail
    refine HC.out.mono ?_
    rintro e y ⟨rfl, hA, hF⟩
    have H1 := Lib.hid (And.intro hA hF)
    clear hA hF
    go_wp2
    go_ret
    exact ⟨rfl, H1.out⟩
  | sg L Al =>
    have HC := Lib.hid (rk_remove ⟨a, b, c, d, Si, h⟩ id hL)
    obtain ⟨c0, c1, c2, c3, c4, hs⟩ := h.cells
    simp only [RK.kind] at c0
    obtain ⟨mb, hmb⟩ : ∃ mb, RK.hasB (RK.sg L Al) id = mb := ⟨_, rfl⟩
    obtain ⟨s', hs'⟩ : ∃ s', RK.rem (RK.sg L Al) id = s' := ⟨_, rfl⟩
    change Calls _ _ _ _ fun e w' => e = .returned (.bool (RK.hasB (RK.sg L Al) id)) ∧ RAt w' (grow S w w') q (RK.rem (RK.sg L Al) id) ∧ _
    rw [hs', hmb] at HC ⊢
    clear h hL hs' hmb
    go_enter Tryz.func14, Tryz.ntmps14
    go_wp2_with fail
    refine HC.out.mono ?_
    rintro e y ⟨rfl, hA, hF⟩
    have H1 := Lib.hid (And.intro hA hF)
    clear hA hF
    go_wp2
    go_ret
    exact ⟨rfl, H1.out⟩
  | ar t =>
    obtain ⟨c0, c1, c2, c3, c4, hs⟩ := h.cells
    simp only [RK.kind] at c0
    have HC := Lib.hid (Arc.af_evict Si c t id w h.hI hL.N hL.d (Nat.le_of_lt hL.H) hL.m hL.B1 hL.B2)
    have HT := Lib.hid h
    obtain ⟨mb, hmb⟩ : ∃ mb, (decide (0 ≤ rowOf 2 t.L id)) = mb := ⟨_, rfl⟩
    obtain ⟨s', hs'⟩ : ∃ s', (t.evict id) = s' := ⟨_, rfl⟩
    change Calls _ _ _ _ fun e w' => e = .returned (.bool (decide (0 ≤ rowOf 2 t.L id))) ∧ RAt w' (grow S w w') q (.ar (t.evict id)) ∧ _
    rw [hs', hmb] at HC ⊢
    clear h hL hs' hmb
    go_enter Tryz.func14, Tryz.ntmps14
    go_wp2_with fail
    refine HC.out.mono ?_
    rintro e y ⟨rfl, hA, hF⟩
    have H1 := Lib.hid (And.intro hA hF)
    clear hA hF
    go_wp2
    go_ret
    exact ⟨rfl, HT.out.turn (r' := .ar s') rfl H1.out.1 H1.out.2⟩
  | th s =>
    obtain ⟨c0, c1, c2, c3, c4, hs⟩ := h.cells
    simp only [RK.kind] at c0
    have HC := Lib.hid (Thr.tf_evict Si d s id w h.hI hL.N hL.d (Nat.le_of_lt hL.H) hL.nd hL.in_ hL.m hL.B)
    have HT := Lib.hid h
    obtain ⟨mb, hmb⟩ : ∃ mb, (decide (0 ≤ rowOf 2 s.L id)) = mb := ⟨_, rfl⟩
    obtain ⟨s', hs'⟩ : ∃ s', (s.ev id) = s' := ⟨_, rfl⟩
    change Calls _ _ _ _ fun e w' => e = .returned (.bool (decide (0 ≤ rowOf 2 s.L id))) ∧ RAt w' (grow S w w') q (.th (s.ev id)) ∧ _
    rw [hs', hmb] at HC ⊢
    clear h hL hs' hmb
    go_enter Tryz.func14, Tryz.ntmps14
    go_wp2_with fail
    refine HC.out.mono ?_
    rintro e y ⟨rfl, hA, hF⟩
    have H1 := Lib.hid (And.intro hA hF)
    clear hA hF
    go_wp2
    go_ret
    exact ⟨rfl, HT.out.turn (r' := .th s') rfl H1.out.1 H1.out.2⟩
theorem rk_cap (h : RAt w S q r) (n : Int) (hL : RLim r) :
    Calls Tryz.prog 16 #[.pointer (some ⟨q, 0, none⟩), .int .i64 n] w fun e w' => e = .returned (.tuple #[]) ∧ RAt w' (grow S w w') q (r.cap n) ∧ Fr S w w' := by
  obtain ⟨a, b, c, d, Si, h⟩ := h
  cases r with
  | pl L =>
    obtain ⟨c0, c1, c2, c3, c4, hs⟩ := h.cells
    simp only [RK.kind] at c0
    have HT := Lib.hid h
    clear h hL
    go_enter Tryz.func16, Tryz.ntmps16
    go_wp2
    go_end0
    exact ⟨rfl, HT.out.same⟩
  | sg L Al =>
    obtain ⟨c0, c1, c2, c3, c4, hs⟩ := h.cells
    simp only [RK.kind] at c0
    have HT := Lib.hid h
    clear h hL
    go_enter Tryz.func16, Tryz.ntmps16
    go_wp2
    go_end0
    exact ⟨rfl, HT.out.same⟩
  | ar t =>
    obtain ⟨c0, c1, c2, c3, c4, hs⟩ := h.cells
    simp only [RK.kind] at c0
    have HC := Lib.hid (Arc.af_cap Si c t n w h.hI (Nat.le_of_lt hL.B1) (Nat.le_of_lt hL.B2))
    have HT := Lib.hid h
    obtain ⟨s', hs'⟩ : ∃ s', (t.cap n) = s' := ⟨_, rfl⟩
    change Calls _ _ _ _ fun e w' => e = .returned (.tuple #[]) ∧ RAt w' (grow S w w') q (.ar (t.cap n)) ∧ _
    rw [hs'] at HC ⊢
    clear h hL hs'
    go_enter Tryz.func16, Tryz.ntmps16
    go_wp2_with fail
    refine HC.out.mono ?_
    rintro e y ⟨rfl, hA, hF⟩
    have H1 := Lib.hid (And.intro hA hF)
    clear hA hF
    go_wp2
    go_end0
    exact ⟨rfl, HT.out.turn (r' := .ar s') rfl H1.out.1 H1.out.2⟩
  | th s =>
    obtain ⟨c0, c1, c2, c3, c4, hs⟩ := h.cells
    simp only [RK.kind] at c0
    have HC := Lib.hid (Thr.tf_cap Si d s n w h.hI (Nat.le_of_lt hL.B))
    have HT := Lib.hid h
    obtain ⟨s', hs'⟩ : ∃ s', (s.cap n) = s' := ⟨_, rfl⟩
    change Calls _ _ _ _ fun e w' => e = .returned (.tuple #[]) ∧ RAt w' (grow S w w') q (.th (s.cap n)) ∧ _
    rw [hs'] at HC ⊢
    clear h hL hs'
    go_enter Tryz.func16, Tryz.ntmps16
    go_wp2_with fail
    refine HC.out.mono ?_
    rintro e y ⟨rfl, hA, hF⟩
    have H1 := Lib.hid (And.intro hA hF)
    clear hA hF
    go_wp2
    go_end0
    exact ⟨rfl, HT.out.turn (r' := .th s') rfl H1.out.1 H1.out.2⟩
end
end Go.Proofs.YtgdlndpjfejmcaaGreat
