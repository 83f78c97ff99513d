/- Layer 12 (seglru): what each call does. -/
import Derived.Test.YtldnacphfoagnacSegMem
import Derived.WalkSpells
import Derived.WalkLawsBesides
namespace Go.Proofs.Ytldnacphfoagnac
open Go.RowKit
set_option linter.unusedVariables false
theorem zero_bool (w : World) : (zeroValue 4).run Try.prog w = .ok (.bool false) w := by kernel_rfl
theorem seg_new (w : World) :
    Calls Try.prog 9 #[] w fun e w' => ∃ p, e = .returned (.pointer (some ⟨p, 0, none⟩)) ∧ SegAt w' (fun b => w.heap.size ≤ b ∧ b < w'.heap.size) p (fun _ => []) (fun _ => false) 0 ∧ Fr (fun _ => False) w w' := by
  have hmm := @run_makeMap Try.prog
  go_enter Try.func9, Try.ntmps9
  go_wp2_with fail
  refine (rows_new 3 (by decide) (by decide) w).mono ?_
  rintro e w1 ⟨g, rfl, hA, hF⟩
  have H1 := Lib.hid (And.intro hA hF)
  clear hA hF
  go_wp2
  go_ret
  obtain ⟨hA, hF⟩ := H1.out
  have hz := hF.size
  refine ⟨_, rfl, ⟨g, w1.heap.size, [], .map #[] 0, fun b => w.heap.size ≤ b ∧ b < w1.heap.size, ?_, ?_, ?_, ?_, ?_, ?_, ?_, mapBlk_nil _, (fun k v h => by cases h), (fun k => rfl), ?_⟩, (hF.alloc _).alloc _⟩
  · simp; omega
  · simp; omega
  · intro b q; simp; omega
  · exact fun q => absurd q.2 (by simp)
  · exact fun q => absurd q.2 (by simp)
  · have := heap_alloc_new (w1.alloc (.map #[] 0)) (.cells #[.pointer (some ⟨g, 0, none⟩), .map (some w1.heap.size)] 34)
    simpa using this
  · rw [heap_alloc_old _ (by simp), heap_alloc_new]
  · exact hA.frame fun b hb _ => by rw [heap_alloc_old _ (by simp; omega), heap_alloc_old _ hb]
theorem seg_insert (S : Nat → Prop) (p : Nat) (L : Nat → List Int) (A : Int → Bool) (N : Nat) (id : Int) (w : World) (h : SegAt w S p L A N) (hN : N < 1000000) :
    Calls Try.prog 10 #[.pointer (some ⟨p, 0, none⟩), .int .i64 id] w fun e w' =>
      e = .returned (.bool (decide (rowOf 3 L id < 0) && mayIn 3 0 id)) ∧ SegAt w' (grow S w w') p (if rowOf 3 L id < 0 then frontL 3 L 0 id else L) A (N + 1) ∧ Fr S w w' := by
  obtain ⟨g, m, l, o, Sr, h⟩ := h
  have c0 := cell_of_heap h.hp 0
  simp at c0
  have HC := Lib.hid (rows_row Sr g 3 L N id w h.hR)
  have HF := Lib.hid (rows_front Sr g 3 L N 0 id w h.hR hN)
  have HH := Lib.hid h
  clear h
  by_cases hr : rowOf 3 L id < 0
  · have hd : decide (rowOf 3 L id < 0) = true := decide_eq_true hr
    rw [hd, if_pos hr]
    obtain ⟨ro, hro⟩ : ∃ ro, rowOf 3 L id = ro := ⟨_, rfl⟩
    rw [hro] at hr HC
    obtain ⟨bm, hbm⟩ : ∃ bm, mayIn 3 0 id = bm := ⟨_, rfl⟩
    rw [hbm] at HF ⊢
    clear hd hro hbm
    go_enter Try.func10, Try.ntmps10
    go_wp2_with fail
    refine HC.out.mono ?_
    rintro e w1 ⟨rfl, rfl⟩
    go_wp2_with fail
    refine HF.out.mono ?_
    rintro e w1 ⟨rfl, hA, hF⟩
    have H1 := Lib.hid (And.intro hA hF)
    clear hA hF
    go_wp2
    go_ret
    exact ⟨rfl, (HH.out.rows H1.out.1 H1.out.2).shut, HH.out.fr H1.out.2⟩
  · have hd : decide (rowOf 3 L id < 0) = false := decide_eq_false hr
    rw [hd, if_neg hr]
    obtain ⟨ro, hro⟩ : ∃ ro, rowOf 3 L id = ro := ⟨_, rfl⟩
    rw [hro] at hr HC
    clear hd hro
    go_enter Try.func10, Try.ntmps10
    go_wp2_with fail
    refine HC.out.mono ?_
    rintro e w1 ⟨rfl, rfl⟩
    go_wp2
    go_ret
    exact ⟨rfl, (HH.out.shut.mono fun b _ q => Or.inl q).more (Nat.le_succ _), Fr.refl _ _⟩
theorem seg_touch (S : Nat → Prop) (p : Nat) (L : Nat → List Int) (A : Int → Bool) (N : Nat) (id : Int) (w : World) (h : SegAt w S p L A N) :
    Calls Try.prog 11 #[.pointer (some ⟨p, 0, none⟩), .int .i64 id] w fun e w' =>
      e = .returned (.bool (decide (0 ≤ rowOf 3 L id))) ∧ SegAt w' S p L (if 0 ≤ rowOf 3 L id then setB' A id true else A) N ∧ Fr S w w' := by
  obtain ⟨g, m, l, o, Sr, h⟩ := h
  have c0 := cell_of_heap h.hp 0
  have c1 := cell_of_heap h.hp 1
  simp at c0 c1
  have HC := Lib.hid (rows_row Sr g 3 L N id w h.hR)
  have hmo := h.hmo
  have hmb := h.hmb
  have HH := Lib.hid h
  clear h
  by_cases hr : 0 ≤ rowOf 3 L id
  · have hd : decide (0 ≤ rowOf 3 L id) = true := decide_eq_true hr
    rw [hd, if_pos hr]
    obtain ⟨ro, hro⟩ : ∃ ro, rowOf 3 L id = ro := ⟨_, rfl⟩
    rw [hro] at hr HC
    have hr2 : decide (ro < 0) = false := decide_eq_false (by omega)
    clear hd hro
    go_enter Try.func11, Try.ntmps11
    go_wp2_with (first
      | (go_at_call 27; refine HC.out.mono ?_; rintro e w1 ⟨rfl, rfl⟩)
      | (at_mapUpdate; refine wpList_update_imap rfl _ _ _ 32 rfl 3 4 .i64 Try.underlying32 Try.underlying3 m rfl o l hmo hmb id rfl _ rfl ?_; intro o6 ho6; have HO6 := Lib.hid ho6; clear ho6))
    go_ret
    exact ⟨rfl, (HH.out.on id HO6.out).shut, (Fr.refl S w).putObj (fun _ => HH.out.hSm) _⟩
  · have hd : decide (0 ≤ rowOf 3 L id) = false := decide_eq_false hr
    rw [hd, if_neg hr]
    obtain ⟨ro, hro⟩ : ∃ ro, rowOf 3 L id = ro := ⟨_, rfl⟩
    rw [hro] at hr HC
    have hr2 : ro < 0 := by omega
    clear hd hro
    go_enter Try.func11, Try.ntmps11
    go_wp2_with (go_at_call 27; refine HC.out.mono ?_; rintro e w1 ⟨rfl, rfl⟩)
    go_ret
    exact ⟨rfl, HH.out.shut, Fr.refl _ _⟩
theorem seg_remove (S : Nat → Prop) (p : Nat) (L : Nat → List Int) (A : Int → Bool) (N : Nat) (id : Int) (w : World) (h : SegAt w S p L A N) (hN : N ≤ 1000000) :
    Calls Try.prog 14 #[.pointer (some ⟨p, 0, none⟩), .int .i64 id] w fun e w' =>
      e = .returned (.bool (decide (0 ≤ rowOf 3 L id))) ∧ SegAt w' (grow S w w') p (del L id) (setB' A id false) N ∧ Fr S w w' := by
  obtain ⟨g, m, l, o, Sr, h⟩ := h
  have c0 := cell_of_heap h.hp 0
  have c1 := cell_of_heap h.hp 1
  simp at c0 c1
  have hmo := h.hmo
  have hmb := h.hmb
  have d0 := fun o' : Obj => cell_putObj (w := w) (b := m) o' (p := ⟨p, 0, none⟩) h.pm
  have HH := Lib.hid h
  clear h
  go_enter Try.func14, Try.ntmps14
  go_wp2_with (first
    | (at_delete; refine wpList_delete_imap rfl _ _ 32 3 rfl 4 .i64 Try.underlying32 Try.underlying3 m rfl o l hmo hmb id rfl ?_; intro o3 ho3; have HO := Lib.hid (HH.out.off id ho3); clear ho3)
    | (go_at_call 31; refine (rows_take Sr g 3 L N id _ HO.out.hR hN).mono ?_; rintro e w1 ⟨rfl, hA, hF⟩; have H1 := Lib.hid (And.intro hA hF); clear hA hF))
  go_ret
  have hsz : (w.putObj m o3).heap.size = w.heap.size := by simp
  refine ⟨rfl, (HO.out.rows H1.out.1 H1.out.2).shut.mono (fun b _ q => q.imp (fun q => q) (fun q => by rw [hsz] at q; exact q)), ?_⟩
  exact ((Fr.refl S w).putObj (fun _ => HH.out.hSm) o3).trans (HO.out.fr H1.out.2) (fun _ _ q => q)
theorem seg_active (S : Nat → Prop) (p : Nat) (L : Nat → List Int) (A : Int → Bool) (N : Nat) (id : Int) (w : World) (h : SegAt w S p L A N) :
    Calls Try.prog 16 #[.pointer (some ⟨p, 0, none⟩), .int .i64 id] w fun e w' => e = .returned (.bool (A id)) ∧ w = w' := by
  obtain ⟨g, m, l, o, Sr, h⟩ := h
  have c1 := cell_of_heap h.hp 1
  simp at c1
  have hmo := h.hmo
  have hmb := h.hmb
  have HV := Lib.hid (h.val id)
  clear h
  go_enter Try.func16, Try.ntmps16
  go_wp2_with (at_lookup; refine wpList_lookup_imap rfl _ _ 32 rfl 3 4 .i64 Try.underlying32 Try.underlying3 _ (zero_bool _) m rfl o l hmo hmb id rfl ?_; rw [HV.out])
  go_ret
  exact ⟨rfl, rfl⟩
end Go.Proofs.Ytldnacphfoagnac
