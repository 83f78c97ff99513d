/- The reference of layer 12 (seglru): rows and who is active. -/
import Derived.Test.YtldnacphfoagnacRfE
import Derived.Test.YtldnacphfoagnacSegMore
namespace Go.Proofs.Ytldnacphfoagnac
open Go.RowKit
set_option linter.unusedVariables false
structure SfO (w : World) (S : Nat → Prop) (p : Nat) (L : Nat → List Int) (Al : List Int) (r : Nat) (sv : Value) (Sr Sa : Nat → Prop) : Prop where
  hSp : S p
  hSr : ∀ b, Sr b → S b
  hSa : ∀ b, Sa b → S b
  hpr : ¬ Sr p
  hpa : ¬ Sa p
  hra : ∀ b, Sr b → Sa b → False
  hir : ∀ b, Sr b → b < w.heap.size
  hia : ∀ b, Sa b → b < w.heap.size
  hp : w.heap[p]? = some (.cells #[.pointer (some ⟨r, 0, none⟩), sv] 46 (0, 0))
  hs : Sl w Sa 3 1 sv Al.length (Al.map (Value.int .i64))
  hR : Rf w Sr r 3 L
def Sf (w : World) (S : Nat → Prop) (p : Nat) (L : Nat → List Int) (Al : List Int) : Prop := ∃ r sv Sr Sa, SfO w S p L Al r sv Sr Sa
section
variable {w w' : World} {S S' : Nat → Prop} {p r : Nat} {L L' : Nat → List Int} {Al l : List Int} {sv v : Value} {Sr Sa : Nat → Prop}
theorem SfO.frame (h : SfO w S p L Al r sv Sr Sa) (hz : w.heap.size ≤ w'.heap.size) (hf : ∀ b, b < w.heap.size → S b → w'.heap[b]? = w.heap[b]?) : SfO w' S p L Al r sv Sr Sa :=
  ⟨h.hSp, h.hSr, h.hSa, h.hpr, h.hpa, h.hra, fun b q => Nat.lt_of_lt_of_le (h.hir b q) hz, fun b q => Nat.lt_of_lt_of_le (h.hia b q) hz, (hf p (lt_of_heap h.hp) h.hSp).trans h.hp, h.hs.frame fun b hb q => hf b hb (h.hSa b q), h.hR.frame fun b hb q => hf b hb (h.hSr b q)⟩
theorem Sf.frame (h : Sf w S p L Al) (hz : w.heap.size ≤ w'.heap.size) (hf : ∀ b, b < w.heap.size → S b → w'.heap[b]? = w.heap[b]?) : Sf w' S p L Al := by
  obtain ⟨r, sv, Sr, Sa, h⟩ := h; exact ⟨r, sv, Sr, Sa, h.frame hz hf⟩
theorem Sf.mono (h : Sf w S p L Al) (hS : ∀ b, b < w.heap.size → S b → S' b) : Sf w S' p L Al := by
  obtain ⟨r, sv, Sr, Sa, h⟩ := h
  exact ⟨r, sv, Sr, Sa, hS p (lt_of_heap h.hp) h.hSp, fun b q => hS b (h.hir b q) (h.hSr b q), fun b q => hS b (h.hia b q) (h.hSa b q), h.hpr, h.hpa, h.hra, h.hir, h.hia, h.hp, h.hs, h.hR⟩
theorem Sf.fr {F : Nat → Prop} (h : Sf w S p L Al) (hf : Fr F w w') (hd : ∀ b, b < w.heap.size → S b → ¬ F b) : Sf w' S p L Al := h.frame hf.size fun b hb q => hf.block b hb (hd b hb q)
theorem SfO.cells (h : SfO w S p L Al r sv Sr Sa) : w.cell? ⟨p, 0, none⟩ = some (.pointer (some ⟨r, 0, none⟩)) ∧ w.cell? ⟨p, 1, none⟩ = some sv ∧ w.frozen? ⟨p, 1, none⟩ = false ∧ p < w.heap.size := by
  have c0 := cell_of_heap h.hp 0
  have c1 := cell_of_heap h.hp 1
  exact ⟨by simpa using c0, by simpa using c1, fro_of_heap h.hp 1, lt_of_heap h.hp⟩
/-- The rows turn. -/
theorem SfO.rows (h : SfO w S p L Al r sv Sr Sa) (hR : Rf w' (grow Sr w w') r 3 L') (hF : Fr Sr w w') : SfO w' (grow S w w') p L' Al r sv (grow Sr w w') Sa ∧ Fr S w w' := by
  have hpl := lt_of_heap h.hp
  exact ⟨⟨Or.inl h.hSp, fun b q => q.imp (h.hSr b) (fun q => q), fun b q => Or.inl (h.hSa b q), fun q => q.elim h.hpr (fun q => by omega), h.hpa, fun b q q2 => q.elim (fun q => h.hra b q q2) (fun q => by have := h.hia b q2; omega), fun b q => q.elim (fun q => Nat.lt_of_lt_of_le (h.hir b q) hF.size) (fun q => q.2), fun b q => Nat.lt_of_lt_of_le (h.hia b q) hF.size, (hF.block p hpl h.hpr).trans h.hp, h.hs.fr hF (fun b _ q q2 => h.hra b q2 q), hR⟩, hF.mono fun b _ q => h.hSr b q⟩
/-- Who is active turns. -/
theorem SfO.act (h : SfO w S p L Al r sv Sr Sa) (hF : Fr Sa w w') (hv : Sl w' (grow Sa w w') 3 1 v l.length (l.map (Value.int .i64))) :
    Sf (w'.setCell ⟨p, 1, none⟩ v) (grow S w (w'.setCell ⟨p, 1, none⟩ v)) p L l ∧ Fr S w (w'.setCell ⟨p, 1, none⟩ v) := by
  have hpl := lt_of_heap h.hp
  have hp' : w'.heap[p]? = _ := (hF.block p hpl h.hpa).trans h.hp
  have hz : (w'.setCell ⟨p, 1, none⟩ v).heap.size = w'.heap.size := by simp [World.setCell]
  have hzz := hF.size
  refine ⟨⟨r, v, Sr, grow Sa w w', Or.inl h.hSp, fun b q => Or.inl (h.hSr b q), fun b q => q.imp (h.hSa b) (fun q => ⟨q.1, by rw [hz]; exact q.2⟩), h.hpr, fun q => q.elim h.hpa (fun q => by omega), fun b q q2 => q2.elim (fun q2 => h.hra b q q2) (fun q2 => by have := h.hir b q; omega), fun b q => by rw [hz]; have := h.hir b q; omega, fun b q => by rw [hz]; exact q.elim (fun q => by have := h.hia b q; omega) (fun q => q.2), ?_, hv.setCell_other hp' (by decide) 1 v, ?_⟩, ?_⟩
  · exact (heap_setCell_same hp' 1 v).trans (by simp)
  · refine (h.hR.fr hF (fun b _ q q2 => h.hra b q q2)).frame fun b hb q => heap_setCell_other (p := ⟨p, 1, none⟩) (fun e => h.hpr (by have e' : b = p := e; rw [← e']; exact q)) v
  · exact (hF.mono (T := S) (fun b _ q => h.hSa b q)).setCell (p := ⟨p, 1, none⟩) (fun _ => h.hSp) v
end
set_option maxHeartbeats 1000000 in
theorem sf_active (S : Nat → Prop) (p : Nat) (L : Nat → List Int) (Al : List Int) (id : Int) (w : World) (h : Sf w S p L Al) (hA : Al.length ≤ 1000000) :
    Calls Try.prog 23 #[.pointer (some ⟨p, 0, none⟩), .int .i64 id] w fun e w' => e = .returned (.bool (decide (id ∈ Al))) ∧ w = w' := by
  obtain ⟨r, sv, Sr, Sa, h⟩ := h
  obtain ⟨_, c1, _, _⟩ := h.cells
  obtain ⟨a, cap, rfl, hat⟩ := sl_at h.hs
  obtain ⟨bb, hbb⟩ : ∃ bb, decide (id ∈ Al) = bb := ⟨_, rfl⟩
  rw [hbb]
  have HX := Lib.hid (And.intro hat hbb)
  clear h hat hbb
  go_enter Try.func23, Try.ntmps23
  go_wp2_with fail
  go_loopw [5] (fun s wr => ∃ k : Nat, k ≤ Al.length ∧ s = .int .i64 k ∧ id ∉ Al.take k ∧ wr = w) (fun s _ => Al.length - (intOf s).toNat)
  case atStart => exact ⟨0, by omega, rfl, by simp, rfl⟩
  case round =>
    obtain ⟨k, hk, rfl, hno, rfl⟩ := hrel
    have HN := Lib.hid hno
    clear hno
    by_cases hlt : k < Al.length
    · obtain ⟨x, hx⟩ : ∃ x, Al[k]? = some x := ⟨_, List.getElem?_eq_getElem hlt⟩
      obtain ⟨b, off, rfl, _, _, hc, _⟩ := HX.out.1 k x hx
      have HXK := Lib.hid hx
      clear hx
      by_cases he : x = id
      · subst he
        have hb : bb = true := HX.out.2.symm.trans (decide_eq_true (List.mem_of_getElem? HXK.out))
        subst hb
        go_wp2
        go_ret
        exact ⟨rfl, rfl⟩
      · have hb : (x == id) = false := by simpa using he
        have HE := Lib.hid he
        clear he
        go_wp2_with fail
        go_roundw
        case rel =>
          refine ⟨k + 1, by omega, by go_num, ?_, trivial⟩
          rw [List.take_succ_eq_append_getElem hlt, List.mem_append]
          intro q
          rcases q with q | q
          · exact HN.out q
          · simp at q
            exact HE.out (by rw [q]; exact ((List.getElem?_eq_some_iff.1 HXK.out).2).symm)
        case measure => simp [intOf]; omega
    · have hb : bb = false := HX.out.2.symm.trans (decide_eq_false (by have := HN.out; rwa [List.take_of_length_le (by omega)] at this))
      subst hb
      go_wp2
      go_ret
      exact ⟨rfl, rfl⟩
set_option maxHeartbeats 2000000 in
theorem sf_idle (S : Nat → Prop) (p : Nat) (L : Nat → List Int) (Al : List Int) (id : Int) (w : World) (h : Sf w S p L Al) (hA : Al.length ≤ 1000000) :
    Calls Try.prog 37 #[.pointer (some ⟨p, 0, none⟩), .int .i64 id] w fun e w' => e = .returned (.tuple #[]) ∧ Sf w' (grow S w w') p L (Al.filter (· != id)) ∧ Fr S w w' := by
  obtain ⟨i0, hi, hz0, hz1, hz2⟩ := info_parts info_i64
  obtain ⟨r, sv, Sr, Sa, h⟩ := h
  obtain ⟨_, c1, f1, hpl⟩ := h.cells
  obtain ⟨a, cap, rfl, hat⟩ := sl_at h.hs
  have HL := Lib.hid (And.intro h (And.intro hat (And.intro c1 f1)))
  clear h hat c1 f1
  go_enter Try.func37, Try.ntmps37
  go_wp2_with fail
  go_loopw [4, 5] (fun s i wr => ∃ k : Nat, k ≤ Al.length ∧ i = .int .i64 k ∧ Sl wr (fun b => w.heap.size ≤ b) 3 1 s ((Al.take k).filter (· != id)).length (((Al.take k).filter (· != id)).map (Value.int .i64)) ∧ Fr (fun b => w.heap.size ≤ b) w wr) (fun _ i _ => Al.length - (intOf i).toNat)
  case atStart => exact ⟨0, by omega, rfl, Sl.nil _ _ _ _, Fr.refl _ _⟩
  case round =>
    obtain ⟨k, hk, rfl, hsl, hfr⟩ := hrel
    have c1 : wr.cell? ⟨p, 1, none⟩ = some (.slice a Al.length cap) := (hfr.cell (p := ⟨p, 1, none⟩) hpl (by simp; omega)).trans HL.out.2.2.1
    have hfl : ((Al.take k).filter (· != id)).length ≤ k := Nat.le_trans (List.length_filter_le _ _) (List.length_take_le _ _)
    have HS := Lib.hid (And.intro hsl hfr)
    obtain ⟨sa, scap, rfl, _⟩ := hsl.shape
    clear hsl
    by_cases hlt : k < Al.length
    · obtain ⟨x, hxk⟩ : ∃ x, Al[k]? = some x := ⟨_, List.getElem?_eq_getElem hlt⟩
      obtain ⟨b, off, rfl, hbl, _, hcx, _⟩ := HL.out.2.1 k x hxk
      have hc' : wr.cell? ⟨b, off + k, none⟩ = some (.int .i64 x) := (hfr.cell (p := ⟨b, off + k, none⟩) hbl (by simp; omega)).trans hcx
      have HT := Lib.hid (filter_takeI (h := id) hxk)
      clear hcx hxk hfr
      by_cases he : x = id
      · subst he
        go_wp2
        go_roundw
        case rel =>
          refine ⟨k + 1, by omega, by go_num, ?_, HS.out.2⟩
          rw [HT.out, if_pos rfl, List.append_nil]; exact HS.out.1
        case measure => simp [intOf]; omega
      · have hb : (x != id) = true := by simpa using he
        go_wp2_with (at_builtin; refine wpList_append_sl (S := fun b => w.heap.size ≤ b) rfl _ _ 28 rfl 3 i0 (.int .i64 0) 1 8 Try.underlying28 hi hz0 hz1 hz2 rfl (by decide) _ _ _ rfl (HS.out.1.alloc _) ⟨_, 0, none⟩ 1 1 [.int .i64 x] rfl rfl (cell_one_at _ _ _ (by simp)) (ints_oneCell .i64 [x]) (by unfold maxLen; omega) (by omega) ?_; intro v1 q5 hs1 hf1; have HS1 := Lib.hid (And.intro hs1 hf1); clear hs1 hf1)
        go_roundw
        case rel =>
          obtain ⟨hs1, hf1⟩ := HS1.out
          have hsz := HS.out.2.size
          refine ⟨k + 1, by omega, by go_num, ?_, (HS.out.2.alloc _).trans hf1.arr (fun _ _ h => h)⟩
          rw [HT.out, if_neg he]
          have h2 := hs1.mono (S' := fun b => w.heap.size ≤ b) (fun b _ hb => hb.elim (fun q => q) (fun ⟨q, _⟩ => by simp at q; omega))
          simpa using h2
        case measure => simp [intOf]; omega
    · have hg : (Al.take k).filter (· != id) = Al.filter (· != id) := by rw [List.take_of_length_le (by omega)]
      have hf2 : wr.frozen? ⟨p, 1, none⟩ = false := (hfr.fro (p := ⟨p, 1, none⟩) hpl (by simp; omega)).trans HL.out.2.2.2
      have hput := HL.out.1.act (v := .slice sa ((Al.take k).filter (· != id)).length scap) (l := (Al.take k).filter (· != id)) (HS.out.2.mono fun b hb q => absurd q (by omega)) (HS.out.1.mono fun b hb q => Or.inr ⟨q, hb⟩)
      rw [hg] at hput
      have HP := Lib.hid hput
      clear hfr hput
      go_wp2
      go_end0
      exact ⟨rfl, HP.out⟩
end Go.Proofs.Ytldnacphfoagnac
