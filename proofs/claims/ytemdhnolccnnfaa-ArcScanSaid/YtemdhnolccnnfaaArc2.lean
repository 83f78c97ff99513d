/- Layer 13 (arc): what each call does, two: Cap, Victim, Evict. -/
import Derived.Test.YtemdhnolccnnfaaArc
import Derived.Test.YtemdhnolccnnfaaRowsTwo
import Derived.Deep.QuietTactic
import Derived.BigQuiet
import Derived.Test.YtemdhnolccnnfaaStill
namespace Go.Proofs.Ytemdhnolccnnfaa
open Go.RowKit
set_option linter.unusedVariables false
/-- Evict, off memory. -/
def evA (s : ArcS) (id : Int) : ArcS :=
  { s with L := del s.L id, H := setH s.H id 0, B1 := if rowOf 2 s.L id = 0 then gadd s.m1 s.B1 (s.H id) else s.B1, B2 := if rowOf 2 s.L id = 1 then gadd s.m2 s.B2 (s.H id) else s.B2 }
def evictA (s : ArcS) (id : Int) : ArcS := if 0 ≤ rowOf 2 s.L id then evA s id else s
set_option maxHeartbeats 1000000 in
theorem arc_evict (S : Nat → Prop) (p : Nat) (s : ArcS) (N M : Nat) (id : Int) (w : World) (h : ArcAt w S p s N M) (hN : N ≤ 1000000) (hM : M < 1000000) :
    Calls Try.prog 11 #[.pointer (some ⟨p, 0, none⟩), .int .i64 id] w fun e w' =>
      e = .returned (.bool (decide (0 ≤ rowOf 2 s.L id))) ∧ ArcAt w' (grow S w w') p (evictA s id) N (M + 1) ∧ Fr S w w' := by
  obtain ⟨g, b1, b2, m, l, o, Sr, S1, S2, h⟩ := h
  have c0 := cell_of_heap h.hp 0
  have c1 := cell_of_heap h.hp 1
  have c2 := cell_of_heap h.hp 2
  have c5 := cell_of_heap h.hp 5
  simp at c0 c1 c2 c5
  have hmo := h.hmo
  have hmb := h.hmb
  have HC := Lib.hid (rows_row Sr g 2 s.L N id w h.hR)
  unfold evictA evA
  rcases rowOf_two h.hR id with ⟨hr, hi⟩ | ⟨hr, hi⟩ | ⟨hr, hi⟩
  · rw [hr] at HC ⊢
    have HH := Lib.hid (And.intro h (And.intro hN hM))
    have HR := Lib.hid hr
    clear h hi hr hN hM
    rw [if_pos (by decide), if_pos rfl, if_neg (by decide)]
    go_enter Try.func11, Try.ntmps11
    go_wp2_with (go_at_call 16; refine HC.out.mono ?_; rintro e w1 ⟨rfl, rfl⟩)
    have HA := Lib.hid (add_at S1 b1 s.m1 s.B1 M (s.H id) w.drew (HH.out.1.hG1.frame fun _ _ _ => rfl) HH.out.2.2)
    go_still_tail 12, (by kernel_rfl)
    refine wpStill_lookup_imap rfl _ _ 34 rfl 3 27 .i64 Try.underlying34 Try.underlying3 _ (zero_u64 _) m rfl o l hmo hmb id rfl ?_
    refine wpStill_nil ?_
    rw [HH.out.1.hH id]
    go_wp2_with fail
    refine HA.out.mono ?_
    rintro e w1 ⟨rfl, hG, hF⟩
    have H1 := Lib.hid (And.intro (ArcO.one (w := w.drew) (HH.out.1.frame (Nat.le_refl _) fun _ _ _ => rfl) hG hF (Nat.le_succ _)) (Fr.mono (T := S) hF (fun b _ q => HH.out.1.hS1 b q)))
    clear hG hF
    go_wp2_with fail
    refine (arc_remove _ p _ N (M + 1) id w1 H1.out.1.shut HH.out.2.1).mono ?_
    rintro e w2 ⟨rfl, hA, hF⟩
    have H2 := Lib.hid (And.intro hA hF)
    clear hA hF
    go_wp2
    go_ret
    have hz1 : w.heap.size ≤ w1.heap.size := H1.out.2.size
    exact ⟨by show Ending.returned (Value.bool (decide (0 ≤ rowOf 2 s.L id))) = _; rw [HR.out], H2.out.1.mono (fun b _ q => grow_grow (a := w) (b := w1) hz1 H2.out.2.size q), Fr.grown (a := w) (b := w1) ((Fr.refl S w).drew.trans H1.out.2 (fun _ _ q => q)) H2.out.2⟩
  · rw [hr] at HC ⊢
    have HH := Lib.hid (And.intro h (And.intro hN hM))
    have HR := Lib.hid hr
    clear h hi hr hN hM
    rw [if_pos (by decide), if_neg (by decide), if_pos rfl]
    go_enter Try.func11, Try.ntmps11
    go_wp2_with (go_at_call 16; refine HC.out.mono ?_; rintro e w1 ⟨rfl, rfl⟩)
    have HA := Lib.hid (add_at S2 b2 s.m2 s.B2 M (s.H id) w.drew (HH.out.1.hG2.frame fun _ _ _ => rfl) HH.out.2.2)
    go_still_tail 12, (by kernel_rfl)
    refine wpStill_lookup_imap rfl _ _ 34 rfl 3 27 .i64 Try.underlying34 Try.underlying3 _ (zero_u64 _) m rfl o l hmo hmb id rfl ?_
    refine wpStill_nil ?_
    rw [HH.out.1.hH id]
    go_wp2_with fail
    refine HA.out.mono ?_
    rintro e w1 ⟨rfl, hG, hF⟩
    have H1 := Lib.hid (And.intro (ArcO.two (w := w.drew) (HH.out.1.frame (Nat.le_refl _) fun _ _ _ => rfl) hG hF (Nat.le_succ _)) (Fr.mono (T := S) hF (fun b _ q => HH.out.1.hS2 b q)))
    clear hG hF
    go_wp2_with fail
    refine (arc_remove _ p _ N (M + 1) id w1 H1.out.1.shut HH.out.2.1).mono ?_
    rintro e w2 ⟨rfl, hA, hF⟩
    have H2 := Lib.hid (And.intro hA hF)
    clear hA hF
    go_wp2
    go_ret
    have hz1 : w.heap.size ≤ w1.heap.size := H1.out.2.size
    exact ⟨by show Ending.returned (Value.bool (decide (0 ≤ rowOf 2 s.L id))) = _; rw [HR.out], H2.out.1.mono (fun b _ q => grow_grow (a := w) (b := w1) hz1 H2.out.2.size q), Fr.grown (a := w) (b := w1) ((Fr.refl S w).drew.trans H1.out.2 (fun _ _ q => q)) H2.out.2⟩
  · rw [hr] at HC ⊢
    have HH := Lib.hid (And.intro h (And.intro hN hM))
    clear h hi hr hN hM
    rw [if_neg (by decide)]
    go_enter Try.func11, Try.ntmps11
    go_wp2_with (go_at_call 16; refine HC.out.mono ?_; rintro e w1 ⟨rfl, rfl⟩)
    go_ret
    exact ⟨rfl, (HH.out.1.mono fun b _ q => Or.inl q).shut.more (Nat.le_refl _) (Nat.le_succ _), Fr.refl _ _⟩
end Go.Proofs.Ytemdhnolccnnfaa
