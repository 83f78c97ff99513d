/- Layer 15 (policy): the plain kind: what each call does. -/
import Derived.Test.YtgdlndpjfejmcaaGreatPRd
import Derived.WalkSpells
import Derived.WalkLawsBesides
namespace Go.Proofs.YtgdlndpjfejmcaaGreat
open Go.RowKit
set_option linter.unusedVariables false
set_option maxRecDepth 100000
/-- Insert and Touch, on the one row. -/
def insP (L : Nat → List Int) (id : Int) : Nat → List Int := if rowOf 1 L id < 0 then frontL 1 L 0 id else L
def touP (L : Nat → List Int) (id : Int) : Nat → List Int := if 0 ≤ rowOf 1 L id then frontL 1 L 0 id else L
theorem grown_alloc {S : Nat → Prop} {w w' : World} (o : Obj) (b : Nat) (q : grow S (w.alloc o) w' b) : grow S w w' b := q.imp (fun q => q) (fun q => ⟨by have := q.1; simp at this; omega, q.2⟩)
theorem fr_alloc {S : Nat → Prop} {w w' : World} {o : Obj} (h : Fr S (w.alloc o) w') : Fr S w w' := ((Fr.refl S w).alloc o).trans h (fun _ _ q => q)
theorem rows_alloc {S : Nat → Prop} {g n : Nat} {L : Nat → List Int} {N : Nat} {w : World} (h : RowsAt w S g n L N) (o : Obj) : RowsAt (w.alloc o) S g n L N := h.frame fun b hb _ => heap_alloc_old _ hb
section
variable (S : Nat → Prop) (g : Nat) (L : Nat → List Int) (N : Nat) (w : World)
theorem plain_cap (n : Int) : Calls Tryz.prog 86 #[.agg #[.pointer (some ⟨g, 0, none⟩)], .int .i64 n] w fun e w' => e = .returned (.tuple #[]) ∧ ∃ o, w' = w.alloc o := by
  go_enter Tryz.func86, Tryz.ntmps86
  go_wp2
  go_end0
  exact ⟨rfl, _, rfl⟩
theorem plain_remove (id : Int) (h : RowsAt w S g 1 L N) (hN : N ≤ 1000000) :
    Calls Tryz.prog 89 #[.agg #[.pointer (some ⟨g, 0, none⟩)], .int .i64 id] w fun e w' => e = .returned (.bool (decide (0 ≤ rowOf 1 L id))) ∧ RowsAt w' (grow S w w') g 1 (del L id) N ∧ Fr S w w' := by
  have H := Lib.hid (fun o => rows_take S g 1 L N id (w.alloc o) (rows_alloc h o) hN)
  clear h
  obtain ⟨b, hb⟩ : ∃ b, decide (0 ≤ rowOf 1 L id) = b := ⟨_, rfl⟩
  rw [hb] at H ⊢
  clear hb
  go_enter Tryz.func89, Tryz.ntmps89
  go_wp2_with fail
  refine (H.out _).mono ?_
  rintro e w1 ⟨rfl, hA, hF⟩
  have H1 := Lib.hid (And.intro hA hF)
  clear hA hF
  go_wp2
  go_ret
  exact ⟨rfl, H1.out.1.mono fun b _ q => grown_alloc _ b q, fr_alloc H1.out.2⟩
theorem plain_evict (id : Int) (h : RowsAt w S g 1 L N) (hN : N ≤ 1000000) :
    Calls Tryz.prog 87 #[.agg #[.pointer (some ⟨g, 0, none⟩)], .int .i64 id] w fun e w' => e = .returned (.bool (decide (0 ≤ rowOf 1 L id))) ∧ RowsAt w' (grow S w w') g 1 (del L id) N ∧ Fr S w w' := by
  have H := Lib.hid (fun o => rows_take S g 1 L N id (w.alloc o) (rows_alloc h o) hN)
  clear h
  obtain ⟨b, hb⟩ : ∃ b, decide (0 ≤ rowOf 1 L id) = b := ⟨_, rfl⟩
  rw [hb] at H ⊢
  clear hb
  go_enter Tryz.func87, Tryz.ntmps87
  go_wp2_with fail
  refine (H.out _).mono ?_
  rintro e w1 ⟨rfl, hA, hF⟩
  have H1 := Lib.hid (And.intro hA hF)
  clear hA hF
  go_wp2
  go_ret
  exact ⟨rfl, H1.out.1.mono fun b _ q => grown_alloc _ b q, fr_alloc H1.out.2⟩
theorem plain_victim (hh : Int) (h : RowsAt w S g 1 L N) :
    Calls Tryz.prog 91 #[.agg #[.pointer (some ⟨g, 0, none⟩)], .int .u64 hh] w fun e w' => e = .returned (.int .i64 (lastOf (L 0))) ∧ RowsAt w' (grow S w w') g 1 L N ∧ Fr S w w' := by
  have H := Lib.hid (fun o => rowL_0 L ▸ rows_last S g 1 L N 0 (w.alloc o) (rows_alloc h o))
  have HH := Lib.hid h
  clear h
  obtain ⟨b, hb⟩ : ∃ b, lastOf (L 0) = b := ⟨_, rfl⟩
  rw [hb] at H ⊢
  clear hb
  go_enter Tryz.func91, Tryz.ntmps91
  go_wp2_with fail
  refine (H.out _).mono ?_
  rintro e w1 ⟨rfl, k, rfl⟩
  go_wp2
  go_ret
  exact ⟨rfl, (row_drewN (rows_alloc HH.out _) k).mono fun b _ q => Or.inl q, ((Fr.refl S w).alloc _).drewN k⟩
theorem plain_insert (id hh : Int) (h : RowsAt w S g 1 L N) (hN : N < 1000000) :
    Calls Tryz.prog 88 #[.agg #[.pointer (some ⟨g, 0, none⟩)], .int .i64 id, .int .u64 hh] w fun e w' =>
      e = .returned (.bool (decide (rowOf 1 L id < 0) && mayIn 1 0 id)) ∧ RowsAt w' (grow S w w') g 1 (insP L id) (N + 1) ∧ Fr S w w' := by
  have HC := Lib.hid (fun o => rows_row S g 1 L N id (w.alloc o) (rows_alloc h o))
  have HF := Lib.hid (fun o => rows_front S g 1 L N 0 id (w.alloc o) (rows_alloc h o) hN)
  have HH := Lib.hid h
  clear h
  unfold insP
  by_cases hr : rowOf 1 L id < 0
  · have hd : decide (rowOf 1 L id < 0) = true := decide_eq_true hr
    rw [hd, if_pos hr]
    obtain ⟨ro, hro⟩ : ∃ ro, rowOf 1 L id = ro := ⟨_, rfl⟩
    rw [hro] at hr HC
    obtain ⟨bm, hbm⟩ : ∃ bm, mayIn 1 0 id = bm := ⟨_, rfl⟩
    rw [hbm] at HF ⊢
    clear hd hro hbm
    go_enter Tryz.func88, Tryz.ntmps88
    go_wp2_with fail
    refine (HC.out _).mono ?_
    rintro e w1 ⟨rfl, rfl⟩
    go_wp2_with fail
    refine (HF.out _).mono ?_
    rintro e w1 ⟨rfl, hA, hF⟩
    have H1 := Lib.hid (And.intro hA hF)
    clear hA hF
    go_wp2
    go_ret
    exact ⟨rfl, H1.out.1.mono fun b _ q => grown_alloc _ b q, fr_alloc H1.out.2⟩
  · have hd : decide (rowOf 1 L id < 0) = false := decide_eq_false hr
    rw [hd, if_neg hr]
    obtain ⟨ro, hro⟩ : ∃ ro, rowOf 1 L id = ro := ⟨_, rfl⟩
    rw [hro] at hr HC
    clear hd hro
    go_enter Tryz.func88, Tryz.ntmps88
    go_wp2_with fail
    refine (HC.out _).mono ?_
    rintro e w1 ⟨rfl, rfl⟩
    go_wp2
    go_ret
    exact ⟨rfl, ((rows_alloc HH.out _).mono fun b _ q => Or.inl q).more (Nat.le_succ _), (Fr.refl S w).alloc _⟩
theorem plain_touch (id : Int) (h : RowsAt w S g 1 L N) (hN : N < 1000000) :
    Calls Tryz.prog 90 #[.agg #[.pointer (some ⟨g, 0, none⟩)], .int .i64 id] w fun e w' =>
      e = .returned (.bool (decide (0 ≤ rowOf 1 L id) && mayIn 1 0 id)) ∧ RowsAt w' (grow S w w') g 1 (touP L id) (N + 1) ∧ Fr S w w' := by
  have HC := Lib.hid (fun o => rows_row S g 1 L N id (w.alloc o) (rows_alloc h o))
  have HF := Lib.hid (fun o => rows_front S g 1 L N 0 id (w.alloc o) (rows_alloc h o) hN)
  have HH := Lib.hid h
  clear h
  unfold touP
  by_cases hr : 0 ≤ rowOf 1 L id
  · have hd : decide (0 ≤ rowOf 1 L id) = true := decide_eq_true hr
    rw [hd, if_pos hr]
    obtain ⟨ro, hro⟩ : ∃ ro, rowOf 1 L id = ro := ⟨_, rfl⟩
    rw [hro] at hr HC
    obtain ⟨bm, hbm⟩ : ∃ bm, mayIn 1 0 id = bm := ⟨_, rfl⟩
    rw [hbm] at HF ⊢
    clear hd hro hbm
    go_enter Tryz.func90, Tryz.ntmps90
    go_wp2_with fail
    refine (HC.out _).mono ?_
    rintro e w1 ⟨rfl, rfl⟩
    go_wp2_with fail
    refine (HF.out _).mono ?_
    rintro e w1 ⟨rfl, hA, hF⟩
    have H1 := Lib.hid (And.intro hA hF)
    clear hA hF
    go_wp2
    go_ret
    exact ⟨rfl, H1.out.1.mono fun b _ q => grown_alloc _ b q, fr_alloc H1.out.2⟩
  · have hd : decide (0 ≤ rowOf 1 L id) = false := decide_eq_false hr
    rw [hd, if_neg hr]
    obtain ⟨ro, hro⟩ : ∃ ro, rowOf 1 L id = ro := ⟨_, rfl⟩
    rw [hro] at hr HC
    clear hd hro
    go_enter Tryz.func90, Tryz.ntmps90
    go_wp2_with fail
    refine (HC.out _).mono ?_
    rintro e w1 ⟨rfl, rfl⟩
    go_wp2
    go_ret
    exact ⟨rfl, ((rows_alloc HH.out _).mono fun b _ q => Or.inl q).more (Nat.le_succ _), (Fr.refl S w).alloc _⟩
end
end Go.Proofs.YtgdlndpjfejmcaaGreat
