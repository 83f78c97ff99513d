/- Layer 13 (arc): what each call does, one. -/
import Derived.Test.YtemdhnolccnnfaaArcMem
import Derived.WalkSpells
import Derived.WalkLawsBesides
import Derived.StillTailTactics
import Derived.Deep.CutBlock
namespace Go.Proofs.Ytemdhnolccnnfaa
open Go.RowKit
set_option linter.unusedVariables false
theorem zero_u64 (w : World) : (zeroValue 27).run Try.prog w = .ok (.int .u64 0) w := by kernel_rfl
def arc0 : ArcS := ⟨fun _ => [], [], [], 0, 0, 0, 0, fun _ => 0⟩
set_option maxHeartbeats 1000000 in
theorem arc_new (w : World) :
    Calls Try.prog 5 #[] w fun e w' => ∃ p, e = .returned (.pointer (some ⟨p, 0, none⟩)) ∧ ArcAt w' (fun b => w.heap.size ≤ b ∧ b < w'.heap.size) p arc0 0 0 ∧ Fr (fun _ => False) w w' := by
  have hmm := @run_makeMap Try.prog
  go_enter Try.func5, Try.ntmps5
  go_wp2_with fail
  refine (rows_new 2 (by decide) (by decide) w).mono ?_
  rintro e w1 ⟨g, rfl, hA, hF⟩
  have H1 := Lib.hid (And.intro hA hF)
  clear hA hF
  go_wp2_with fail
  refine (new_at 0 w1).mono ?_
  rintro e w2 ⟨b1, rfl, hA, hF⟩
  have H2 := Lib.hid (And.intro hA hF)
  clear hA hF
  go_wp2_with fail
  refine (new_at 0 w2).mono ?_
  rintro e w3 ⟨b2, rfl, hA, hF⟩
  have H3 := Lib.hid (And.intro hA hF)
  clear hA hF
  go_wp2
  go_ret
  obtain ⟨hA1, hF1⟩ := H1.out
  obtain ⟨hA2, hF2⟩ := H2.out
  obtain ⟨hA3, hF3⟩ := H3.out
  have z1 := hF1.size
  have z2 := hF2.size
  have z3 := hF3.size
  have hFm : Fr (fun _ => False) w3 ((w3.alloc (.map #[] 0)).alloc (.cells #[.pointer (some ⟨g, 0, none⟩), .pointer (some ⟨b1, 0, none⟩), .pointer (some ⟨b2, 0, none⟩), .int .i64 0, .int .i64 0, .map (some w3.heap.size)] 36)) := ((Fr.refl _ w3).alloc _).alloc _
  have hz : ((w3.alloc (.map #[] 0)).alloc (.cells #[.pointer (some ⟨g, 0, none⟩), .pointer (some ⟨b1, 0, none⟩), .pointer (some ⟨b2, 0, none⟩), .int .i64 0, .int .i64 0, .map (some w3.heap.size)] 36)).heap.size = w3.heap.size + 2 := by simp
  have hfin : ∀ b, b < w3.heap.size → ((w3.alloc (.map #[] 0)).alloc (.cells #[.pointer (some ⟨g, 0, none⟩), .pointer (some ⟨b1, 0, none⟩), .pointer (some ⟨b2, 0, none⟩), .int .i64 0, .int .i64 0, .map (some w3.heap.size)] 36)).heap[b]? = w3.heap[b]? := fun b hb => hFm.block b hb (fun h => h)
  refine ⟨_, rfl, ⟨g, b1, b2, w3.heap.size, [], .map #[] 0, fun b => w.heap.size ≤ b ∧ b < w1.heap.size, fun b => w1.heap.size ≤ b ∧ b < w2.heap.size, fun b => w2.heap.size ≤ b ∧ b < w3.heap.size, ?_⟩, ((hF1.trans hF2 (fun _ _ h => h)).trans hF3 (fun _ _ h => h)).trans hFm (fun _ _ h => h)⟩
  refine ⟨?_, ?_, ?_, ?_, ?_, ?_, ⟨?_, ?_, ?_⟩, ⟨?_, ?_, ?_⟩, ?_, ?_, ?_, ?_, ?_, mapBlk_nil _, fun k => rfl, ?_, ?_, ?_⟩
  · exact ⟨by omega, by rw [hz]; omega⟩
  · exact ⟨by omega, by rw [hz]; omega⟩
  · exact fun b q => ⟨by have := q.1; omega, by have := q.2; rw [hz]; omega⟩
  · exact fun b q => ⟨by have := q.1; omega, by have := q.2; rw [hz]; omega⟩
  · exact fun b q => ⟨by have := q.1; omega, by have := q.2; rw [hz]; omega⟩
  · exact fun b q => by rw [hz]; rcases q with q | q | q <;> (have := q.2; omega)
  · exact fun q => by have := q.2; omega
  · exact fun q => by have := q.2; omega
  · exact fun q => by have := q.2; omega
  · exact fun q => by have := q.2; omega
  · exact fun q => by have := q.2; omega
  · exact fun q => by have := q.2; omega
  · exact fun b q r => by have := q.1; have := r.1; have := q.2; have := r.2; omega
  · exact fun b q r => by have := q.1; have := r.1; have := q.2; have := r.2; omega
  · exact fun b q r => by have := q.1; have := r.1; have := q.2; have := r.2; omega
  · have := heap_alloc_new (w3.alloc (.map #[] 0)) (.cells #[.pointer (some ⟨g, 0, none⟩), .pointer (some ⟨b1, 0, none⟩), .pointer (some ⟨b2, 0, none⟩), .int .i64 0, .int .i64 0, .map (some w3.heap.size)] 36)
    simpa [arc0] using this
  · rw [heap_alloc_old _ (by simp), heap_alloc_new]
  · exact ((hA1.fr hF2 (fun _ _ _ h => h)).fr hF3 (fun _ _ _ h => h)).frame fun b hb q => hfin b hb
  · exact (hA2.fr hF3 (fun _ _ _ h => h)).frame fun b hb q => hfin b hb
  · exact hA3.frame fun b hb q => hfin b hb
theorem arc_touch (S : Nat → Prop) (p : Nat) (s : ArcS) (N M : Nat) (id : Int) (w : World) (h : ArcAt w S p s N M) (hN : N < 1000000) :
    Calls Try.prog 8 #[.pointer (some ⟨p, 0, none⟩), .int .i64 id] w fun e w' =>
      e = .returned (.bool (decide (0 ≤ rowOf 2 s.L id))) ∧ ArcAt w' (grow S w w') p (if 0 ≤ rowOf 2 s.L id then { s with L := frontL 2 s.L 1 id } else s) (N + 1) M ∧ Fr S w w' := by
  obtain ⟨g, b1, b2, m, l, o, Sr, S1, S2, h⟩ := h
  have c0 := cell_of_heap h.hp 0
  simp at c0
  have HC := Lib.hid (rows_row Sr g 2 s.L N id w h.hR)
  have HF := Lib.hid (rows_front Sr g 2 s.L N 1 id w h.hR hN)
  by_cases hr : 0 ≤ rowOf 2 s.L id
  · have hm : mayIn 2 1 id = true := by
      by_cases h0 : id ∈ s.L 0
      · exact decide_eq_true ⟨by decide, by decide, h.hR.range (by decide) h0⟩
      · by_cases h1 : id ∈ s.L 1
        · exact decide_eq_true ⟨by decide, by decide, h.hR.range (by decide) h1⟩
        · rw [rowOf_none (fun r hr q => by
            match r, hr, q with
            | 0, _, q => exact h0 q
            | 1, _, q => exact h1 q)] at hr
          exact absurd hr (by decide)
    have HH := Lib.hid (And.intro h hm)
    clear h hm
    have hd : decide (0 ≤ rowOf 2 s.L id) = true := decide_eq_true hr
    rw [hd, if_pos hr]
    obtain ⟨ro, hro⟩ : ∃ ro, rowOf 2 s.L id = ro := ⟨_, rfl⟩
    rw [hro] at hr HC
    clear hd hro
    go_enter Try.func8, Try.ntmps8
    go_wp2_with fail
    refine HC.out.mono ?_
    rintro e w1 ⟨rfl, rfl⟩
    go_wp2_with fail
    refine HF.out.mono ?_
    rintro e w1 ⟨rfl, hA, hF⟩
    have H1 := Lib.hid (And.intro hA hF)
    clear hA hF
    rw [HH.out.2]
    go_wp2
    go_ret
    exact ⟨rfl, (HH.out.1.rows H1.out.1 H1.out.2).shut, H1.out.2.mono fun b _ q => HH.out.1.hSr b q⟩
  · have HH := Lib.hid h
    clear h
    have hd : decide (0 ≤ rowOf 2 s.L id) = false := decide_eq_false hr
    rw [hd, if_neg hr]
    obtain ⟨ro, hro⟩ : ∃ ro, rowOf 2 s.L id = ro := ⟨_, rfl⟩
    rw [hro] at hr HC
    have hr2 : decide (0 ≤ ro) = false := decide_eq_false hr
    clear hd hro hr
    go_enter Try.func8, Try.ntmps8
    go_wp2_with fail
    refine HC.out.mono ?_
    rintro e w1 ⟨rfl, rfl⟩
    go_wp2
    go_ret
    exact ⟨rfl, (HH.out.mono fun b _ q => Or.inl q).shut.more (Nat.le_succ _) (Nat.le_refl _), Fr.refl _ _⟩
theorem arc_remove (S : Nat → Prop) (p : Nat) (s : ArcS) (N M : Nat) (id : Int) (w : World) (h : ArcAt w S p s N M) (hN : N ≤ 1000000) :
    Calls Try.prog 26 #[.pointer (some ⟨p, 0, none⟩), .int .i64 id] w fun e w' =>
      e = .returned (.bool (decide (0 ≤ rowOf 2 s.L id))) ∧ ArcAt w' (grow S w w') p { s with L := del s.L id, H := setH s.H id 0 } N M ∧ Fr S w w' := by
  obtain ⟨g, b1, b2, m, l, o, Sr, S1, S2, h⟩ := h
  have c0 := cell_of_heap h.hp 0
  have c1 := cell_of_heap h.hp 5
  simp at c0 c1
  have hmo := h.hmo
  have hmb := h.hmb
  have d0 := fun o' : Obj => cell_putObj (w := w) (b := m) o' (p := ⟨p, 0, none⟩) h.pm
  have HH := Lib.hid h
  clear h
  go_enter Try.func26, Try.ntmps26
  go_wp2_with (first
    | (at_delete; refine wpList_delete_imap rfl _ _ 34 3 rfl 27 .i64 Try.underlying34 Try.underlying3 m rfl o l hmo hmb id rfl ?_; intro o3 ho3; have HO := Lib.hid (HH.out.off id ho3); clear ho3)
    | (go_at_call 28; refine (rows_take Sr g 2 s.L N id _ HO.out.hR hN).mono ?_; rintro e w1 ⟨rfl, hA, hF⟩; have H1 := Lib.hid (And.intro hA hF); clear hA hF))
  go_ret
  have hsz : (w.putObj m o3).heap.size = w.heap.size := by simp
  refine ⟨rfl, (HO.out.rows H1.out.1 H1.out.2).shut.mono (fun b _ q => q.imp (fun q => q) (fun q => by rw [hsz] at q; exact q)), ?_⟩
  exact ((Fr.refl S w).putObj (fun _ => HH.out.hSm) o3).trans (H1.out.2.mono fun b _ q => HH.out.hSr b q) (fun _ _ q => q)
theorem arc_target (S : Nat → Prop) (p : Nat) (s : ArcS) (N M : Nat) (w : World) (h : ArcAt w S p s N M) :
    Calls Try.prog 12 #[.pointer (some ⟨p, 0, none⟩)] w fun e w' => e = .returned (.int .i64 s.P) ∧ w = w' := by
  obtain ⟨g, b1, b2, m, l, o, Sr, S1, S2, h⟩ := h
  have c4 := cell_of_heap h.hp 4
  simp at c4
  clear h
  go_enter Try.func12, Try.ntmps12
  go_wp2
  go_ret
  exact ⟨rfl, rfl⟩
/-- A ghost's numbers, whatever its number. -/
def ghosts (s : ArcS) (row : Int) : List Int := if row = 0 then s.B1 else if row = 1 then s.B2 else []
end Go.Proofs.Ytemdhnolccnnfaa
