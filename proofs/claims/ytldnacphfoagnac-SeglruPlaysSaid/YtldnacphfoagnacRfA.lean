/- The reference of layer 10 (rows): a list of lists. -/
import Derived.Test.YtldnacphfoagnacRowsTwo
import Derived.Test.YtldnacphfoagnacAppend
import Derived.Laws.MakeOwn
import Derived.Deep.QuietTactic
import Derived.BigQuiet
namespace Go.Proofs.Ytldnacphfoagnac
open Go.RowKit
set_option linter.unusedVariables false
structure RfO (w : World) (S : Nat → Prop) (r n : Nat) (L : Nat → List Int) (lb : Nat) (cs : Array Value) : Prop where
  hSr : S r
  hSl : S lb
  hr : w.heap[r]? = some (.cells #[.slice (some ⟨lb, 0, none⟩) n n] 56 (0, 0))
  hl : w.heap[lb]? = some (.cells cs 28 (0, 0))
  hn : cs.size = n
  hs : ∀ i, i < n → ∃ v, cs[i]? = some v ∧ Sl w S 3 1 v (L i).length ((L i).map (Value.int .i64))
  hz : ∀ i, n ≤ i → L i = []
  h8 : n ≤ 8
def Rf (w : World) (S : Nat → Prop) (r n : Nat) (L : Nat → List Int) : Prop := ∃ lb cs, RfO w S r n L lb cs
section
variable {w w' : World} {S S' : Nat → Prop} {r n : Nat} {L L' : Nat → List Int} {lb : Nat} {cs : Array Value}
theorem RfO.frame (h : RfO w S r n L lb cs) (hf : ∀ b, b < w.heap.size → S b → w'.heap[b]? = w.heap[b]?) : RfO w' S r n L lb cs :=
  ⟨h.hSr, h.hSl, (hf r (lt_of_heap h.hr) h.hSr).trans h.hr, (hf lb (lt_of_heap h.hl) h.hSl).trans h.hl, h.hn, fun i hi => by obtain ⟨v, h1, h2⟩ := h.hs i hi; exact ⟨v, h1, h2.frame hf⟩, h.hz, h.h8⟩
theorem RfO.mono (h : RfO w S r n L lb cs) (hS : ∀ b, b < w.heap.size → S b → S' b) : RfO w S' r n L lb cs :=
  ⟨hS r (lt_of_heap h.hr) h.hSr, hS lb (lt_of_heap h.hl) h.hSl, h.hr, h.hl, h.hn, fun i hi => by obtain ⟨v, h1, h2⟩ := h.hs i hi; exact ⟨v, h1, h2.mono hS⟩, h.hz, h.h8⟩
theorem Rf.frame (h : Rf w S r n L) (hf : ∀ b, b < w.heap.size → S b → w'.heap[b]? = w.heap[b]?) : Rf w' S r n L := by obtain ⟨lb, cs, h⟩ := h; exact ⟨lb, cs, h.frame hf⟩
theorem Rf.mono (h : Rf w S r n L) (hS : ∀ b, b < w.heap.size → S b → S' b) : Rf w S' r n L := by obtain ⟨lb, cs, h⟩ := h; exact ⟨lb, cs, h.mono hS⟩
theorem Rf.fr {F : Nat → Prop} (h : Rf w S r n L) (hf : Fr F w w') (hd : ∀ b, b < w.heap.size → S b → ¬ F b) : Rf w' S r n L := h.frame fun b hb q => hf.block b hb (hd b hb q)
theorem RfO.cell (h : RfO w S r n L lb cs) : w.cell? ⟨r, 0, none⟩ = some (.slice (some ⟨lb, 0, none⟩) n n) ∧ w.frozen? ⟨r, 0, none⟩ = false ∧ r < w.heap.size ∧ lb < w.heap.size := by
  have c0 := cell_of_heap h.hr 0
  exact ⟨by simpa only [List.getElem?_toArray, List.getElem?_cons_zero] using c0, fro_of_heap h.hr 0, lt_of_heap h.hr, lt_of_heap h.hl⟩
/-- A row's slice. -/
theorem RfO.row (h : RfO w S r n L lb cs) {i : Nat} (hi : i < n) : ∃ a cap, w.cell? ⟨lb, i, none⟩ = some (.slice a (L i).length cap) ∧ (L i).length ≤ cap ∧ Sl w S 3 1 (.slice a (L i).length cap) (L i).length ((L i).map (Value.int .i64)) ∧ w.frozen? ⟨lb, i, none⟩ = false := by
  obtain ⟨v, h1, h2⟩ := h.hs i hi
  obtain ⟨a, cap, rfl, hc⟩ := h2.shape
  exact ⟨a, cap, (cell_of_heap h.hl i).trans h1, hc, h2, fro_of_heap h.hl i⟩
/-- A row's slice turns. -/
theorem RfO.put (h : RfO w S r n L lb cs) (hF : Fr (fun b => w.heap.size ≤ b) w w') {i : Nat} (hi : i < n) {v : Value} {l : List Int} (hv : Sl w' (fun b => w.heap.size ≤ b) 3 1 v l.length (l.map (Value.int .i64))) :
    Rf (w'.setCell ⟨lb, i, none⟩ v) (grow S w (w'.setCell ⟨lb, i, none⟩ v)) r n (fun k => if k = i then l else L k) ∧ Fr S w (w'.setCell ⟨lb, i, none⟩ v) := by
  have hlb := lt_of_heap h.hl
  have hrb := lt_of_heap h.hr
  have hl' : w'.heap[lb]? = some (.cells cs 28 (0, 0)) := (hF.block lb hlb (by omega)).trans h.hl
  have hr' : w'.heap[r]? = _ := (hF.block r hrb (by omega)).trans h.hr
  have hne : r ≠ lb := fun e => by
    have h1 := h.hr
    rw [e, h.hl] at h1
    simp at h1
  have hz : (w'.setCell ⟨lb, i, none⟩ v).heap.size = w'.heap.size := by simp [World.setCell]
  refine ⟨⟨lb, cs.setIfInBounds i v, Or.inl h.hSr, Or.inl h.hSl, ?_, heap_setCell_same hl' i v, by simp [h.hn], fun k hk => ?_, fun k hk => ?_, h.h8⟩, ?_⟩
  · rw [heap_setCell_other hne]; exact hr'
  · by_cases e : k = i
    · rw [e]
      refine ⟨v, by simp [h.hn, hi], ?_⟩
      rw [if_pos rfl]
      exact (hv.setCell_other hl' (by decide) i v).mono fun b hb q => Or.inr ⟨q, hb⟩
    · obtain ⟨u, h1, h2⟩ := h.hs k hk
      refine ⟨u, ?_, ?_⟩
      · rw [← h1, Array.getElem?_setIfInBounds_ne (fun q => e q.symm)]
      · rw [if_neg e]
        exact ((h2.fr hF (fun b hb _ => by omega)).setCell_other hl' (by decide) i v).mono fun b hb q => Or.inl q
  · rw [if_neg (by omega)]; exact h.hz k hk
  · exact (hF.mono (T := S) (fun b hb q => absurd q (by omega))).setCell (p := ⟨lb, i, none⟩) (fun _ => h.hSl) v
end
end Go.Proofs.Ytldnacphfoagnac
