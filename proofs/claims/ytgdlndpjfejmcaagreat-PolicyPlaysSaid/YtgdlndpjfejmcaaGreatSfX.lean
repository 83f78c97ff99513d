/- The reference of layer 12 (seglru): rows and who is active. -/
import Derived.Test.YtgdlndpjfejmcaaGreatRfX
import Derived.Test.YtgdlndpjfejmcaaGreatPSb
import Derived.Deep.QuietTactic
import Derived.BigQuiet
import Derived.Deep.CutBlock
import Derived.Deep.DeepCutAuto
namespace Go.Proofs.YtgdlndpjfejmcaaGreat.Seg
open Go.RowKit
set_option linter.unusedVariables false
set_option maxRecDepth 100000
structure SfO (w : World) (S : Nat → Prop) (p : Nat) (L : Nat → List Int) (Al : List Int) (r : Nat) (sv : Value) (Sr Sa : Nat → Prop) : Prop where
  hSp : S p
  hSr : ∀ b, Sr b → S b
  hSa : ∀ b, Sa b → S b
  hpr : ¬ Sr p
  hpa : ¬ Sa p
  hra : ∀ b, Sr b → Sa b → False
  hir : ∀ b, Sr b → b < w.heap.size
  hia : ∀ b, Sa b → b < w.heap.size
  hp : w.heap[p]? = some (.cells #[.pointer (some ⟨r, 0, none⟩), sv] 69 (0, 0))
  hs : Sl w Sa 3 1 sv Al.length (Al.map (Value.int .i64))
  hR : Rf w Sr r 3 L
def Sf (w : World) (S : Nat → Prop) (p : Nat) (L : Nat → List Int) (Al : List Int) : Prop := ∃ r sv Sr Sa, SfO w S p L Al r sv Sr Sa
section
variable {w w' : World} {S S' : Nat → Prop} {p r : Nat} {L L' : Nat → List Int} {Al l : List Int} {sv v : Value} {Sr Sa : Nat → Prop}
theorem SfO.frame (h : SfO w S p L Al r sv Sr Sa) (hz : w.heap.size ≤ w'.heap.size) (hf : ∀ b, b < w.heap.size → S b → w'.heap[b]? = w.heap[b]?) : SfO w' S p L Al r sv Sr Sa :=
  ⟨h.hSp, h.hSr, h.hSa, h.hpr, h.hpa, h.hra, fun b q => Nat.lt_of_lt_of_le (h.hir b q) hz, fun b q => Nat.lt_of_lt_of_le (h.hia b q) hz, (hf p (lt_of_heap h.hp) h.hSp).trans h.hp, h.hs.frame fun b hb q => hf b hb (h.hSa b q), h.hR.frame fun b hb q => hf b hb (h.hSr b q)⟩
theorem Sf.frame (h : Sf w S p L Al) (hz : w.heap.size ≤ w'.heap.size) (hf : ∀ b, b < w.heap.size → S b → w'.heap[b]? = w.heap[b]?) : Sf w' S p L Al := by
  obtain ⟨r, sv, Sr, Sa, h⟩ := h; exact ⟨r, sv, Sr, Sa, h.frame hz hf⟩
theorem Sf.mono (h : Sf w S p L Al) (hS : ∀ b, b < w.heap.size → S b → S' b) : Sf w S' p L Al := by
  obtain ⟨r, sv, Sr, Sa, h⟩ := h
  exact ⟨r, sv, Sr, Sa, hS p (lt_of_heap h.hp) h.hSp, fun b q => hS b (h.hir b q) (h.hSr b q), fun b q => hS b (h.hia b q) (h.hSa b q), h.hpr, h.hpa, h.hra, h.hir, h.hia, h.hp, h.hs, h.hR⟩
theorem Sf.fr {F : Nat → Prop} (h : Sf w S p L Al) (hf : Fr F w w') (hd : ∀ b, b < w.heap.size → S b → ¬ F b) : Sf w' S p L Al := h.frame hf.size fun b hb q => hf.block b hb (hd b hb q)
theorem SfO.cells (h : SfO w S p L Al r sv Sr Sa) : w.cell? ⟨p, 0, none⟩ = some (.pointer (some ⟨r, 0, none⟩)) ∧ w.cell? ⟨p, 1, none⟩ = some sv ∧ w.frozen? ⟨p, 1, none⟩ = false ∧ p < w.heap.size := by
  have c0 := cell_of_heap h.hp 0
  have c1 := cell_of_heap h.hp 1
  exact ⟨by simpa using c0, by simpa using c1, fro_of_heap h.hp 1, lt_of_heap h.hp⟩
/-- The rows turn. -/
theorem SfO.rows (h : SfO w S p L Al r sv Sr Sa) (hR : Rf w' (grow Sr w w') r 3 L') (hF : Fr Sr w w') : SfO w' (grow S w w') p L' Al r sv (grow Sr w w') Sa ∧ Fr S w w' := by
  have hpl := lt_of_heap h.hp
  exact ⟨⟨Or.inl h.hSp, fun b q => q.imp (h.hSr b) (fun q => q), fun b q => Or.inl (h.hSa b q), fun q => q.elim h.hpr (fun q => by omega), h.hpa, fun b q q2 => q.elim (fun q => h.hra b q q2) (fun q => by have := h.hia b q2; omega), fun b q => q.elim (fun q => Nat.lt_of_lt_of_le (h.hir b q) hF.size) (fun q => q.2), fun b q => Nat.lt_of_lt_of_le (h.hia b q) hF.size, (hF.block p hpl h.hpr).trans h.hp, h.hs.fr hF (fun b _ q q2 => h.hra b q2 q), hR⟩, hF.mono fun b _ q => h.hSr b q⟩
/-- Who is active turns. -/
theorem SfO.act (h : SfO w S p L Al r sv Sr Sa) (hF : Fr Sa w w') (hv : Sl w' (grow Sa w w') 3 1 v l.length (l.map (Value.int .i64))) :
    Sf (w'.setCell ⟨p, 1, none⟩ v) (grow S w (w'.setCell ⟨p, 1, none⟩ v)) p L l ∧ Fr S w (w'.setCell ⟨p, 1, none⟩ v) := by
  have hpl := lt_of_heap h.hp
  have hp' : w'.heap[p]? = _ := (hF.block p hpl h.hpa).trans h.hp
  have hz : (w'.setCell ⟨p, 1, none⟩ v).heap.size = w'.heap.size := by simp [World.setCell]
  have hzz := hF.size
  refine ⟨⟨r, v, Sr, grow Sa w w', Or.inl h.hSp, fun b q => Or.inl (h.hSr b q), fun b q => q.imp (h.hSa b) (fun q => ⟨q.1, by rw [hz]; exact q.2⟩), h.hpr, fun q => q.elim h.hpa (fun q => by omega), fun b q q2 => q2.elim (fun q2 => h.hra b q q2) (fun q2 => by have := h.hir b q; omega), fun b q => by rw [hz]; have := h.hir b q; omega, fun b q => by rw [hz]; exact q.elim (fun q => by have := h.hia b q; omega) (fun q => q.2), ?_, hv.setCell_other hp' (by decide) 1 v, ?_⟩, ?_⟩
  · exact (heap_setCell_same hp' 1 v).trans (by simp)
  · refine (h.hR.fr hF (fun b _ q q2 => h.hra b q q2)).frame fun b hb q => heap_setCell_other (p := ⟨p, 1, none⟩) (fun e => h.hpr (by have e' : b = p := e; rw [← e']; exact q)) v
  · exact (hF.mono (T := S) (fun b _ q => h.hSa b q)).setCell (p := ⟨p, 1, none⟩) (fun _ => h.hSp) v
end
set_option maxHeartbeats 1000000 in
theorem sf_active (S : Nat → Prop) (p : Nat) (L : Nat → List Int) (Al : List Int) (id : Int) (w : World) (h : Sf w S p L Al) (hA : Al.length ≤ 1000000) :
    Calls Tryz.prog 64 #[.pointer (some ⟨p, 0, none⟩), .int .i64 id] w fun e w' => e = .returned (.bool (decide (id ∈ Al))) ∧ w = w' := by
  obtain ⟨r, sv, Sr, Sa, h⟩ := h
  obtain ⟨_, c1, _, _⟩ := h.cells
  obtain ⟨a, cap, rfl, hat⟩ := sl_at h.hs
  obtain ⟨bb, hbb⟩ : ∃ bb, decide (id ∈ Al) = bb := ⟨_, rfl⟩
  rw [hbb]
  have HX := Lib.hid (And.intro hat hbb)
  clear h hat hbb
  go_enter Tryz.func64, Tryz.ntmps64
  go_wp2_with fail
  go_loopw [5] (fun s wr => ∃ k : Nat, k ≤ Al.length ∧ s = .int .i64 k ∧ id ∉ Al.take k ∧ wr = w) (fun s _ => Al.length - (intOf s).toNat)
  case atStart => exact ⟨0, by omega, rfl, by simp, rfl⟩
  case round =>
    obtain ⟨k, hk, rfl, hno, rfl⟩ := hrel
    have HN := Lib.hid hno
    clear hno
    by_cases hlt : k < Al.length
    · obtain ⟨x, hx⟩ : ∃ x, Al[k]? = some x := ⟨_, List.getElem?_eq_getElem hlt⟩
      obtain ⟨b, off, rfl, _, _, hc, _⟩ := HX.out.1 k x hx
      have HXK := Lib.hid hx
      clear hx
      by_cases he : x = id
      · subst he
        have hb : bb = true := HX.out.2.symm.trans (decide_eq_true (List.mem_of_getElem? HXK.out))
        subst hb
        go_wp2
        go_ret
        exact ⟨rfl, rfl⟩
      · have hb : (x == id) = false := by simpa using he
        have HE := Lib.hid he
        clear he
        go_wp2_with fail
        go_roundw
        case rel =>
          refine ⟨k + 1, by omega, by go_num, ?_, trivial⟩
          rw [List.take_succ_eq_append_getElem hlt, List.mem_append]
          intro q
          rcases q with q | q
          · exact HN.out q
          · simp at q
            exact HE.out (by rw [q]; exact ((List.getElem?_eq_some_iff.1 HXK.out).2).symm)
        case measure => simp [intOf]; omega
    · have hb : bb = false := HX.out.2.symm.trans (decide_eq_false (by have := HN.out; rwa [List.take_of_length_le (by omega)] at this))
      subst hb
      go_wp2
      go_ret
      exact ⟨rfl, rfl⟩
set_option maxHeartbeats 2000000 in
theorem sf_idle (S : Nat → Prop) (p : Nat) (L : Nat → List Int) (Al : List Int) (id : Int) (w : World) (h : Sf w S p L Al) (hA : Al.length ≤ 1000000) :
    Calls Tryz.prog 59 #[.pointer (some ⟨p, 0, none⟩), .int .i64 id] w fun e w' => e = .returned (.tuple #[]) ∧ Sf w' (grow S w w') p L (Al.filter (· != id)) ∧ Fr S w w' := by
  obtain ⟨i0, hi, hz0, hz1, hz2⟩ := info_parts info_i64
  obtain ⟨r, sv, Sr, Sa, h⟩ := h
  obtain ⟨_, c1, f1, hpl⟩ := h.cells
  obtain ⟨a, cap, rfl, hat⟩ := sl_at h.hs
  have HL := Lib.hid (And.intro h (And.intro hat (And.intro c1 f1)))
  clear h hat c1 f1
  go_enter Tryz.func59, Tryz.ntmps59
  go_wp2_with fail
  go_loopw [4, 5] (fun s i wr => ∃ k : Nat, k ≤ Al.length ∧ i = .int .i64 k ∧ Sl wr (fun b => w.heap.size ≤ b) 3 1 s ((Al.take k).filter (· != id)).length (((Al.take k).filter (· != id)).map (Value.int .i64)) ∧ Fr (fun b => w.heap.size ≤ b) w wr) (fun _ i _ => Al.length - (intOf i).toNat)
  case atStart => exact ⟨0, by omega, rfl, Sl.nil _ _ _ _, Fr.refl _ _⟩
  case round =>
    obtain ⟨k, hk, rfl, hsl, hfr⟩ := hrel
    have c1 : wr.cell? ⟨p, 1, none⟩ = some (.slice a Al.length cap) := (hfr.cell (p := ⟨p, 1, none⟩) hpl (by simp; omega)).trans HL.out.2.2.1
    have hfl : ((Al.take k).filter (· != id)).length ≤ k := Nat.le_trans (List.length_filter_le _ _) (List.length_take_le _ _)
    have HS := Lib.hid (And.intro hsl hfr)
    obtain ⟨sa, scap, rfl, _⟩ := hsl.shape
    clear hsl
    by_cases hlt : k < Al.length
    · obtain ⟨x, hxk⟩ : ∃ x, Al[k]? = some x := ⟨_, List.getElem?_eq_getElem hlt⟩
      obtain ⟨b, off, rfl, hbl, _, hcx, _⟩ := HL.out.2.1 k x hxk
      have hc' : wr.cell? ⟨b, off + k, none⟩ = some (.int .i64 x) := (hfr.cell (p := ⟨b, off + k, none⟩) hbl (by simp; omega)).trans hcx
      have HT := Lib.hid (filter_takeI (h := id) hxk)
      clear hcx hxk hfr
      by_cases he : x = id
      · subst he
        go_wp2
        go_roundw
        case rel =>
          refine ⟨k + 1, by omega, by go_num, ?_, HS.out.2⟩
          rw [HT.out, if_pos rfl, List.append_nil]; exact HS.out.1
        case measure => simp [intOf]; omega
      · have hb : (x != id) = true := by simpa using he
        go_wp2_with (at_builtin; refine wpList_append_sl (S := fun b => w.heap.size ≤ b) rfl _ _ 67 rfl 3 i0 (.int .i64 0) 1 8 Tryz.underlying67 hi hz0 hz1 hz2 rfl (by decide) _ _ _ rfl (HS.out.1.alloc _) ⟨_, 0, none⟩ 1 1 [.int .i64 x] rfl rfl (cell_one_at _ _ _ (by simp)) (ints_oneCell .i64 [x]) (by unfold maxLen; omega) (by omega) ?_; intro v1 q5 hs1 hf1; have HS1 := Lib.hid (And.intro hs1 hf1); clear hs1 hf1)
        go_roundw
        case rel =>
          obtain ⟨hs1, hf1⟩ := HS1.out
          have hsz := HS.out.2.size
          refine ⟨k + 1, by omega, by go_num, ?_, (HS.out.2.alloc _).trans hf1.arr (fun _ _ h => h)⟩
          rw [HT.out, if_neg he]
          have h2 := hs1.mono (S' := fun b => w.heap.size ≤ b) (fun b _ hb => hb.elim (fun q => q) (fun ⟨q, _⟩ => by simp at q; omega))
          simpa using h2
        case measure => simp [intOf]; omega
    · have hg : (Al.take k).filter (· != id) = Al.filter (· != id) := by rw [List.take_of_length_le (by omega)]
      have hf2 : wr.frozen? ⟨p, 1, none⟩ = false := (hfr.fro (p := ⟨p, 1, none⟩) hpl (by simp; omega)).trans HL.out.2.2.2
      have hput := HL.out.1.act (v := .slice sa ((Al.take k).filter (· != id)).length scap) (l := (Al.take k).filter (· != id)) (HS.out.2.mono fun b hb q => absurd q (by omega)) (HS.out.1.mono fun b hb q => Or.inr ⟨q, hb⟩)
      rw [hg] at hput
      have HP := Lib.hid hput
      clear hfr hput
      go_wp2
      go_end0
      exact ⟨rfl, HP.out⟩
end Go.Proofs.YtgdlndpjfejmcaaGreat.Seg
/- The reference of layer 12 (seglru): what each call does. -/
namespace Go.Proofs.YtgdlndpjfejmcaaGreat.Seg
open Go.RowKit
set_option linter.unusedVariables false
set_option maxRecDepth 100000
def actOf (Al : List Int) : Int → Bool := fun x => decide (x ∈ Al)
theorem sf_new (w : World) :
    Calls Tryz.prog 28 #[] w fun e w' => ∃ p, e = .returned (.pointer (some ⟨p, 0, none⟩)) ∧ Sf w' (fun b => w.heap.size ≤ b ∧ b < w'.heap.size) p (fun _ => []) [] ∧ Fr (fun _ => False) w w' := by
  go_enter Tryz.func28, Tryz.ntmps28
  go_wp2_with fail
  refine (rf_new 3 (by decide) (by decide) w).mono ?_
  rintro e w1 ⟨r, rfl, hR, hF⟩
  have H1 := Lib.hid (And.intro hR hF)
  clear hR hF
  go_wp2
  go_ret
  obtain ⟨hR, hF⟩ := H1.out
  have hz := hF.size
  refine ⟨_, rfl, ⟨r, .slice none 0 0, fun b => w.heap.size ≤ b ∧ b < w1.heap.size, fun _ => False, ⟨by simp; omega, fun b q => ⟨q.1, by have := q.2; simp; omega⟩, fun b q => q.elim, fun q => by have := q.2; omega, fun q => q, fun b _ q => q, fun b q => by have := q.2; simp; omega, fun b q => q.elim, heap_alloc_new _ _, Sl.nil _ _ _ _, hR.frame fun b hb _ => heap_alloc_old _ hb⟩⟩, hF.alloc _⟩
section
variable (S : Nat → Prop) (p : Nat) (L : Nat → List Int) (Al : List Int) (w : World) (h : Sf w S p L Al) (hN : ∀ k, (L k).length ≤ 1000000) (hd : Dsj 3 L) (hA : Al.length ≤ 1000000)
include h hN hd
set_option maxHeartbeats 1000000 in
theorem sf_insert (id : Int) :
    Calls Tryz.prog 32 #[.pointer (some ⟨p, 0, none⟩), .int .i64 id] w fun e w' =>
      e = .returned (.bool (decide (rowOf 3 L id < 0) && mayIn 3 0 id)) ∧ Sf w' (grow S w w') p (insL L id) Al ∧ Fr S w w' := by
  have HH := Lib.hid h
  obtain ⟨r, sv, Sr, Sa, h⟩ := h
  obtain ⟨c0, _, _, _⟩ := h.cells
  have HR := Lib.hid (rf_row Sr r 3 L id w h.hR hN)
  have HF := Lib.hid (rf_front Sr r 3 L 0 id w h.hR hN hd)
  have HO := Lib.hid h
  unfold insL
  clear h hN hd
  by_cases hr : rowOf 3 L id < 0
  · have hdd : decide (rowOf 3 L id < 0) = true := decide_eq_true hr
    rw [hdd, if_pos hr]
    obtain ⟨ro, hro⟩ : ∃ ro, rowOf 3 L id = ro := ⟨_, rfl⟩
    rw [hro] at hr HR
    have hr2 : decide (0 ≤ ro) = false := decide_eq_false (by omega)
    obtain ⟨bm, hbm⟩ : ∃ bm, mayIn 3 0 id = bm := ⟨_, rfl⟩
    rw [hbm] at HF ⊢
    clear hdd hro hbm
    go_enter Tryz.func32, Tryz.ntmps32
    go_wp2_with fail
    refine HR.out.mono ?_
    rintro e w1 ⟨rfl, rfl⟩
    go_wp2_with fail
    refine HF.out.mono ?_
    rintro e w1 ⟨rfl, hA, hF⟩
    have H1 := Lib.hid (And.intro hA hF)
    clear hA hF
    go_wp2
    go_ret
    have := HO.out.rows H1.out.1 H1.out.2
    exact ⟨rfl, ⟨_, _, _, _, this.1⟩, this.2⟩
  · have hdd : decide (rowOf 3 L id < 0) = false := decide_eq_false hr
    rw [hdd, if_neg hr]
    obtain ⟨ro, hro⟩ : ∃ ro, rowOf 3 L id = ro := ⟨_, rfl⟩
    rw [hro] at hr HR
    have hr2 : decide (0 ≤ ro) = true := decide_eq_true (by omega)
    clear hdd hro
    go_enter Tryz.func32, Tryz.ntmps32
    go_wp2_with fail
    refine HR.out.mono ?_
    rintro e w1 ⟨rfl, rfl⟩
    go_wp2
    go_ret
    exact ⟨rfl, HH.out.mono fun b _ q => Or.inl q, Fr.refl _ _⟩
include hA
set_option linter.unusedSectionVars false in
set_option maxHeartbeats 1000000 in
theorem sf_remove (id : Int) :
    Calls Tryz.prog 39 #[.pointer (some ⟨p, 0, none⟩), .int .i64 id] w fun e w' =>
      e = .returned (.bool (decide (0 ≤ rowOf 3 L id))) ∧ Sf w' (grow S w w') p (del L id) (Al.filter (· != id)) ∧ Fr S w w' := by
  have HI := Lib.hid (sf_idle S p L Al id w h hA)
  have HN := Lib.hid (And.intro hN hd)
  obtain ⟨bm, hbm⟩ : ∃ bm, decide (0 ≤ rowOf 3 L id) = bm := ⟨_, rfl⟩
  rw [hbm]
  have HB := Lib.hid hbm
  clear h hN hd hA hbm
  go_enter Tryz.func39, Tryz.ntmps39
  go_wp2_with fail
  refine HI.out.mono ?_
  rintro e w1 ⟨rfl, hA, hF⟩
  obtain ⟨r, sv, Sr, Sa, hO⟩ := hA
  obtain ⟨c0, _, _, _⟩ := hO.cells
  have H1 := Lib.hid (And.intro hO hF)
  clear hO hF
  go_wp2_with fail
  refine (rf_take Sr r 3 L id w1 H1.out.1.hR HN.out.1 HN.out.2).mono ?_
  rintro e w2 ⟨rfl, hR, hF2⟩
  rw [HB.out]
  have H2 := Lib.hid (And.intro hR hF2)
  clear hR hF2
  go_wp2
  go_ret
  have ht := H1.out.1.rows H2.out.1 H2.out.2
  exact ⟨rfl, Sf.mono ⟨_, _, _, _, ht.1⟩ fun b _ q => grow_grow H1.out.2.size H2.out.2.size q, H1.out.2.grown ht.2⟩
set_option linter.unusedSectionVars false in
set_option maxHeartbeats 1000000 in
theorem sf_touch (id : Int) :
    Calls Tryz.prog 35 #[.pointer (some ⟨p, 0, none⟩), .int .i64 id] w fun e w' =>
      e = .returned (.bool (decide (0 ≤ rowOf 3 L id))) ∧ Sf w' (grow S w w') p L (if 0 ≤ rowOf 3 L id then Al.filter (· != id) ++ [id] else Al) ∧ Fr S w w' := by
  obtain ⟨i0, hi, hz0, hz1, hz2⟩ := info_parts info_i64
  have HH := Lib.hid h
  have HI := Lib.hid (sf_idle S p L Al id w h hA)
  obtain ⟨r, sv, Sr, Sa, h⟩ := h
  obtain ⟨c0, _, _, _⟩ := h.cells
  have HR := Lib.hid (rf_row Sr r 3 L id w h.hR hN)
  clear h hN hd
  by_cases hr : 0 ≤ rowOf 3 L id
  · have hdd : decide (0 ≤ rowOf 3 L id) = true := decide_eq_true hr
    rw [hdd, if_pos hr]
    obtain ⟨ro, hro⟩ : ∃ ro, rowOf 3 L id = ro := ⟨_, rfl⟩
    rw [hro] at hr HR
    have hr2 : decide (ro < 0) = false := decide_eq_false (by omega)
    clear hdd hro
    obtain ⟨l, hl⟩ : ∃ l, Al.filter (· != id) = l := ⟨_, rfl⟩
    have hll : l.length ≤ 1000000 := by rw [← hl]; exact Nat.le_trans (List.length_filter_le _ _) hA
    rw [hl] at HI ⊢
    go_enter Tryz.func35, Tryz.ntmps35
    go_wp2_with fail
    refine HR.out.mono ?_
    rintro e w0 ⟨rfl, rfl⟩
    go_wp2_with fail
    refine HI.out.mono ?_
    rintro e w1 ⟨rfl, hA1, hF⟩
    obtain ⟨r1, sv1, Sr1, Sa1, hO⟩ := hA1
    obtain ⟨_, c1, f1, hpl⟩ := hO.cells
    obtain ⟨a, cap, rfl, _⟩ := hO.hs.shape
    have H1 := Lib.hid (And.intro hO (And.intro hF (And.intro c1 f1)))
    clear hO hF
    go_wp2_with (at_builtin; refine wpList_append_sl (S := Sa1) rfl _ _ 67 rfl 3 i0 (.int .i64 0) 1 8 Tryz.underlying67 hi hz0 hz1 hz2 rfl (by decide) _ _ _ rfl (H1.out.1.hs.alloc _) ⟨_, 0, none⟩ 1 1 [.int .i64 id] rfl rfl (cell_one_at _ _ _ (by simp)) (ints_oneCell .i64 [id]) (by unfold maxLen; omega) (by omega) ?_; intro v1 w2 hs2 hf2; have hq : Fr Sa1 w1 w2 := ((Fr.refl Sa1 w1).alloc (.cells #[.int .i64 id] 3)).trans hf2.arr (fun b _ q => q); have e1 := (hq.cell (p := ⟨p, 1, none⟩) hpl H1.out.1.hpa).trans H1.out.2.2.1; have e2 := (hq.fro (p := ⟨p, 1, none⟩) hpl H1.out.1.hpa).trans H1.out.2.2.2; obtain ⟨sb, scap, rfl, _⟩ := hs2.shape; have HS2 := Lib.hid (And.intro hs2 hq); clear hs2 hf2 hq)
    go_ret
    have h3 : Sl w2 (grow Sa1 w1 w2) 3 1 (.slice sb (l.length + 1) scap) (l ++ [id]).length ((l ++ [id]).map (Value.int .i64)) := by
      rw [show (l ++ [id]).length = l.length + 1 from by simp, List.map_append]
      exact HS2.out.1.mono fun b hb q => q.elim (fun q => Or.inl q) (fun q => Or.inr ⟨by have := q.1; simp at this; omega, q.2⟩)
    have hput := H1.out.1.act HS2.out.2 h3
    exact ⟨rfl, hput.1.mono fun b _ q => grow_grow H1.out.2.1.size hput.2.size q, H1.out.2.1.grown hput.2⟩
  · have hdd : decide (0 ≤ rowOf 3 L id) = false := decide_eq_false hr
    rw [hdd, if_neg hr]
    obtain ⟨ro, hro⟩ : ∃ ro, rowOf 3 L id = ro := ⟨_, rfl⟩
    rw [hro] at hr HR
    have hr2 : decide (ro < 0) = true := decide_eq_true (by omega)
    clear hdd hro
    go_enter Tryz.func35, Tryz.ntmps35
    go_wp2_with fail
    refine HR.out.mono ?_
    rintro e w0 ⟨rfl, rfl⟩
    go_wp2
    go_ret
    exact ⟨rfl, HH.out.mono fun b _ q => Or.inl q, Fr.refl _ _⟩
set_option maxRecDepth 100000 in
set_option maxHeartbeats 4000000 in
theorem sf_step :
    Calls Tryz.prog 47 #[.pointer (some ⟨p, 0, none⟩)] w fun e w' => e = .returned (.bool (decide (0 ≤ whoF L (actOf Al)))) ∧
      Sf w' (grow S w w') p (stepL L (actOf Al)) (if whoF L (actOf Al) < 0 then Al else Al.filter (· != whoF L (actOf Al))) ∧ Fr S w w' := by
  have HH := Lib.hid h
  have HA := Lib.hid (fun (k : Nat) (id : Int) => sf_active S p L Al id (w.drewN k) (h.frame (Nat.le_refl _) fun _ _ _ => rfl) hA)
  have HN := Lib.hid (And.intro hN (And.intro hd hA))
  obtain ⟨r, sv, Sr, Sa, h⟩ := h
  obtain ⟨c0, _, _, hpl⟩ := h.cells
  have hRd : ∀ k, Rf (w.drewN k) Sr r 3 L := fun k => h.hR.frame fun _ _ _ => rfl
  have L0 := fun k => rf_last Sr r 3 L 0 (w.drewN k) (hRd k) (hN 0)
  have L1 := fun k => rf_last Sr r 3 L 1 (w.drewN k) (hRd k) (hN 1)
  have L2 := fun k => rf_last Sr r 3 L 2 (w.drewN k) (hRd k) (hN 2)
  have NN := fun k row => (rf_len Sr r 3 L row (w.drewN k) (hRd k)).mono fun _ _ (q : _ ∧ _) => And.intro q.1 q.2.symm
  rw [rowL_0] at L0
  rw [rowL_1] at L1
  rw [rowL_2] at L2
  have q0 : (rowL L 0).length = (L 0).length := by rw [rowL_0]
  have q1 : (rowL L 1).length = (L 1).length := by rw [rowL_1]
  have q2 : (rowL L 2).length = (L 2).length := by rw [rowL_2]
  have b0 := hN 0
  have b1 := hN 1
  have b2 := hN 2
  have hst : stepL L (actOf Al) = if whoF L (actOf Al) < 0 then L else frontL 3 L (if actOf Al (whoF L (actOf Al)) = true then 1 else 2) (whoF L (actOf Al)) := rfl
  rw [hst]
  obtain ⟨id, hid⟩ : ∃ id, whoF L (actOf Al) = id := ⟨_, rfl⟩
  rw [hid]
  obtain ⟨bd, hbd⟩ : ∃ bd, decide (0 ≤ id) = bd := ⟨_, rfl⟩
  obtain ⟨Lf, hLf⟩ : ∃ Lf, (if id < 0 then L else frontL 3 L (if actOf Al id = true then 1 else 2) id) = Lf := ⟨_, rfl⟩
  obtain ⟨Af, hAf⟩ : ∃ Af, (if id < 0 then Al else Al.filter (· != id)) = Af := ⟨_, rfl⟩
  rw [hbd, hLf, hAf]
  have HRes := Lib.hid (And.intro hbd (And.intro hLf hAf))
  clear hbd hLf hAf
  have hw : id = if 20 * tot L / 100 < (L 0).length then lastOf (L 0) else if 40 * tot L / 100 < (L 1).length then lastOf (L 1) else if actOf Al (lastOf (L 2)) = true then lastOf (L 2) else -1 := hid.symm
  have HL := Lib.hid (And.intro L0 (And.intro L1 (And.intro L2 NN)))
  obtain ⟨v0, h0⟩ : ∃ v, lastOf (L 0) = v := ⟨_, rfl⟩
  obtain ⟨v1, h1⟩ : ∃ v, lastOf (L 1) = v := ⟨_, rfl⟩
  obtain ⟨v2, h2⟩ : ∃ v, lastOf (L 2) = v := ⟨_, rfl⟩
  obtain ⟨n0, e0⟩ : ∃ v, (L 0).length = v := ⟨_, rfl⟩
  obtain ⟨n1, e1⟩ : ∃ v, (L 1).length = v := ⟨_, rfl⟩
  obtain ⟨n2, e2⟩ : ∃ v, (L 2).length = v := ⟨_, rfl⟩
  obtain ⟨n, hn⟩ : ∃ n, tot L = n := ⟨_, rfl⟩
  have hnn : n0 + n1 + n2 = n := by rw [← hn, ← e0, ← e1, ← e2]; rfl
  obtain ⟨cb, hcb⟩ : ∃ c, actOf Al v2 = c := ⟨_, rfl⟩
  rw [h0, h1, h2] at HL
  rw [h0, h1, h2, e0, e1, hn, hcb] at hw
  rw [e0] at q0 b0
  rw [e1] at q1 b1
  rw [e2] at q2 b2
  have hcb' : decide (v2 ∈ Al) = cb := hcb
  have hnI : (n0 : Int) + n1 + n2 = n := by omega
  have hnb : n ≤ 3000000 := by omega
  have HO := Lib.hid (And.intro h (And.intro hcb' (And.intro hw (And.intro q0 (And.intro q1 q2)))))
  clear h hN hd hA L0 L1 L2 NN hRd h0 h1 h2 e0 e1 e2 hn hw hid hst hcb hcb' q0 q1 q2
  go_enter Tryz.func47, Tryz.ntmps47
  go_wp2_with fail
  go_quiet ((go_at_call 51; exact Calls.quiet_of_same (HL.out.2.2.2 _ _)))
  rw [HO.out.2.2.2.1, HO.out.2.2.2.2.1, HO.out.2.2.2.2.2]
  have c0' : (w.drewN nq).cell? ⟨p, 0, none⟩ = some (.pointer (some ⟨r, 0, none⟩)) := c0
  have hww : wrap64 (wrap64 ((n0 : Int) + n1) + n2) = n := by unfold wrap64; omega
  rw [hww]
  go_wp2_with fail
  refine (HL.out.2.2.1 nq).mono ?_
  rintro e w1 ⟨rfl, rfl⟩
  go_wp2_with fail
  refine (HA.out nq v2).mono ?_
  rintro e w1 ⟨rfl, rfl⟩
  rw [HO.out.2.1]
  go_upto_block 0 with fail
  go_cut [4] (fun s wx => s = .int .i64 id ∧ wx = w.drewN nq)
  case first =>
    by_cases k0 : 20 * n / 100 < n0
    · have hv : id = v0 := by have := HO.out.2.2.1; rw [if_pos k0] at this; exact this
      have g0 : 20 * (n : Int) / 100 < n0 := by omega
      go_wp2_with fail
      refine (HL.out.2.2.2 nq 0).mono ?_
      rintro e w1 ⟨rfl, rfl⟩
      rw [HO.out.2.2.2.1]
      go_wp2_with fail
      refine (HL.out.1 nq).mono ?_
      rintro e w1 ⟨rfl, rfl⟩
      go_wp2
      go_meet
      exact ⟨by rw [hv], rfl⟩
    · have g0 : ¬ 20 * (n : Int) / 100 < n0 := by omega
      by_cases k1 : 40 * n / 100 < n1
      · have hv : id = v1 := by have := HO.out.2.2.1; rw [if_neg k0, if_pos k1] at this; exact this
        have g1 : 40 * (n : Int) / 100 < n1 := by omega
        go_wp2_with fail
        refine (HL.out.2.2.2 nq 0).mono ?_
        rintro e w1 ⟨rfl, rfl⟩
        rw [HO.out.2.2.2.1]
        go_wp2_with fail
        refine (HL.out.2.2.2 nq 1).mono ?_
        rintro e w1 ⟨rfl, rfl⟩
        rw [HO.out.2.2.2.2.1]
        go_wp2_with fail
        refine (HL.out.2.1 nq).mono ?_
        rintro e w1 ⟨rfl, rfl⟩
        go_wp2
        go_meet
        exact ⟨by rw [hv], rfl⟩
      · have g1 : ¬ 40 * (n : Int) / 100 < n1 := by omega
        rcases cb with _ | _
        · have hv : id = -1 := by have := HO.out.2.2.1; rw [if_neg k0, if_neg k1] at this; exact this
          go_wp2_with fail
          refine (HL.out.2.2.2 nq 0).mono ?_
          rintro e w1 ⟨rfl, rfl⟩
          rw [HO.out.2.2.2.1]
          go_wp2_with fail
          refine (HL.out.2.2.2 nq 1).mono ?_
          rintro e w1 ⟨rfl, rfl⟩
          rw [HO.out.2.2.2.2.1]
          go_wp2
          go_meet
          exact ⟨by rw [hv], rfl⟩
        · have hv : id = v2 := by have := HO.out.2.2.1; rw [if_neg k0, if_neg k1] at this; exact this
          go_wp2_with fail
          refine (HL.out.2.2.2 nq 0).mono ?_
          rintro e w1 ⟨rfl, rfl⟩
          rw [HO.out.2.2.2.1]
          go_wp2_with fail
          refine (HL.out.2.2.2 nq 1).mono ?_
          rintro e w1 ⟨rfl, rfl⟩
          rw [HO.out.2.2.2.2.1]
          go_wp2_with fail
          refine (HL.out.2.2.1 nq).mono ?_
          rintro e w1 ⟨rfl, rfl⟩
          go_wp2
          go_meet
          exact ⟨by rw [hv], rfl⟩
  case rest =>
    obtain ⟨rfl, rfl⟩ := hcut
    by_cases hi0 : id < 0
    · have d0 : decide (0 ≤ id) = false := decide_eq_false (by omega)
      have r1 : bd = false := HRes.out.1.symm.trans d0
      have r2 : Lf = L := by rw [← HRes.out.2.1, if_pos hi0]
      have r3 : Af = Al := by rw [← HRes.out.2.2, if_pos hi0]
      subst r1 r2 r3
      clear d0
      go_wp2
      go_ret
      exact ⟨rfl, Sf.mono (HH.out.frame (w' := w.drewN nq) (Nat.le_refl _) fun _ _ _ => rfl) fun b _ q => Or.inl q, (Fr.refl S w).drewN _⟩
    · have d0 : decide (0 ≤ id) = true := decide_eq_true (by omega)
      have r1 : bd = true := HRes.out.1.symm.trans d0
      have r2 : frontL 3 L (if actOf Al id = true then 1 else 2) id = Lf := by rw [← HRes.out.2.1, if_neg hi0]
      have r3 : Al.filter (· != id) = Af := by rw [← HRes.out.2.2, if_neg hi0]
      subst r1
      obtain ⟨ca, hca⟩ : ∃ c, decide (id ∈ Al) = c := ⟨_, rfl⟩
      have hca' : actOf Al id = ca := hca
      rw [hca'] at r2
      obtain ⟨row, hrow⟩ : ∃ row : Int, (if ca = true then (1 : Int) else 2) = row := ⟨_, rfl⟩
      rw [hrow] at r2
      have HC := Lib.hid (And.intro hca (And.intro hrow (And.intro r2 r3)))
      have HF := Lib.hid (rf_front Sr r 3 L row id (w.drewN nq) (HO.out.1.hR.frame fun _ _ _ => rfl) HN.out.1 HN.out.2.1)
      have HOD := Lib.hid (show SfO (w.drewN nq) S p L Al r sv Sr Sa from HO.out.1.frame (Nat.le_refl _) fun _ _ _ => rfl)
      have HWZ := Lib.hid (show (w.drewN nq).heap.size = w.heap.size from rfl)
      obtain ⟨bm, hbm⟩ : ∃ bm, mayIn 3 row id = bm := ⟨_, rfl⟩
      rw [hbm] at HF
      clear d0 hca hca' hrow hbm r2 r3
      go_wp2_with fail
      refine (HA.out nq id).mono ?_
      rintro e w1 ⟨rfl, rfl⟩
      rw [HC.out.1]
      rcases ca with _ | _
      all_goals
        have hrw := HC.out.2.1
        simp at hrw
        subst hrw
        go_wp2_with fail
        refine HF.out.mono ?_
        rintro e w2 ⟨rfl, hR, hF⟩
        obtain ⟨hO2, hF2⟩ := HOD.out.rows hR hF
        have H2 := Lib.hid (And.intro hO2 hF2)
        clear hR hF hO2 hF2
        go_wp2_with fail
        refine (sf_idle _ p _ Al id w2 ⟨_, _, _, _, H2.out.1⟩ HN.out.2.2).mono ?_
        rintro e w3 ⟨rfl, hS, hF3⟩
        have H3 := Lib.hid (And.intro hS hF3)
        clear hS hF3
        go_wp2
        go_ret
        have hFd : Fr S w w2 := ((Fr.refl S w).drewN nq).trans H2.out.2 (fun _ _ q => q)
        have H3s := H3.out.1
        rw [HC.out.2.2.1, HC.out.2.2.2] at H3s
        exact ⟨rfl, H3s.mono fun b _ q => grow_grow (a := w) (b := w2) hFd.size H3.out.2.size q, hFd.grown H3.out.2⟩
omit hd hA in
set_option maxHeartbeats 1000000 in
theorem sf_victim :
    Calls Tryz.prog 48 #[.pointer (some ⟨p, 0, none⟩)] w fun e w' => e = .returned (.int .i64 (vict L)) ∧ w = w' := by
  obtain ⟨r, sv, Sr, Sa, h⟩ := h
  obtain ⟨c0, _, _, _⟩ := h.cells
  have L0 := rf_last Sr r 3 L 0 w h.hR (hN 0)
  have L1 := rf_last Sr r 3 L 1 w h.hR (hN 1)
  have L2 := rf_last Sr r 3 L 2 w h.hR (hN 2)
  rw [rowL_0] at L0
  rw [rowL_1] at L1
  rw [rowL_2] at L2
  unfold vict
  obtain ⟨v0, h0⟩ : ∃ v, lastOf (L 0) = v := ⟨_, rfl⟩
  obtain ⟨v1, h1⟩ : ∃ v, lastOf (L 1) = v := ⟨_, rfl⟩
  obtain ⟨v2, h2⟩ : ∃ v, lastOf (L 2) = v := ⟨_, rfl⟩
  rw [h0] at L0 ⊢
  rw [h1] at L1 ⊢
  rw [h2] at L2 ⊢
  have HL := Lib.hid (And.intro L0 (And.intro L1 L2))
  clear h hN L0 L1 L2 h0 h1 h2
  by_cases q2 : 0 ≤ v2
  · rw [if_pos q2]
    have d2 : decide (0 ≤ v2) = true := decide_eq_true q2
    go_enter Tryz.func48, Tryz.ntmps48
    go_wp2_with fail
    refine HL.out.2.2.mono ?_
    rintro e w1 ⟨rfl, rfl⟩
    go_wp2_with fail
    refine HL.out.2.2.mono ?_
    rintro e w1 ⟨rfl, rfl⟩
    go_wp2
    go_ret
    exact ⟨rfl, rfl⟩
  · rw [if_neg q2]
    have d2 : decide (0 ≤ v2) = false := decide_eq_false q2
    by_cases q1 : 0 ≤ v1
    · rw [if_pos q1]
      have d1 : decide (0 ≤ v1) = true := decide_eq_true q1
      go_enter Tryz.func48, Tryz.ntmps48
      go_wp2_with fail
      refine HL.out.2.2.mono ?_
      rintro e w1 ⟨rfl, rfl⟩
      go_wp2_with fail
      refine HL.out.2.1.mono ?_
      rintro e w1 ⟨rfl, rfl⟩
      go_wp2_with fail
      refine HL.out.2.1.mono ?_
      rintro e w1 ⟨rfl, rfl⟩
      go_wp2
      go_ret
      exact ⟨rfl, rfl⟩
    · rw [if_neg q1]
      have d1 : decide (0 ≤ v1) = false := decide_eq_false q1
      go_enter Tryz.func48, Tryz.ntmps48
      go_wp2_with fail
      refine HL.out.2.2.mono ?_
      rintro e w1 ⟨rfl, rfl⟩
      go_wp2_with fail
      refine HL.out.2.1.mono ?_
      rintro e w1 ⟨rfl, rfl⟩
      go_wp2_with fail
      refine HL.out.1.mono ?_
      rintro e w1 ⟨rfl, rfl⟩
      go_wp2
      go_ret
      exact ⟨rfl, rfl⟩
end
end Go.Proofs.YtgdlndpjfejmcaaGreat.Seg
