/- The rows in memory. -/
import Derived.Test.YtemdhnolccnnfaaRowsPut
namespace Go.Proofs.Ytemdhnolccnnfaa
open Go.RowKit
set_option linter.unusedVariables false
/-- At g lies a Rows with these links, free places, map, and counts. -/
def RowsM (w : World) (S : Nat → Prop) (g n : Nat) (lk : List Lnk) (free : List Nat) (l : List (Int × Value)) (cnt : List Int) : Prop :=
  ∃ m nb lv fv o, S g ∧ S m ∧ S nb ∧ cnt.length = n ∧ w.heap[g]? = some (.cells #[lv, fv, .map (some m), .slice (some ⟨nb, 0, none⟩) n n] 50 (0, 0)) ∧ w.heap[m]? = some o ∧ MapBlk .i64 l o ∧
    Sl w S 52 4 lv lk.length (lcells lk) ∧ Sl w (fun b => S b ∧ b ≠ nb) 3 1 fv free.length (free.map fun (k : Nat) => iv (k : Int)) ∧ w.heap[nb]? = some (.cells (cnt.map iv).toArray 3 (0, 0))
theorem RowsM.frame {w w' : World} {S : Nat → Prop} {g n : Nat} {lk : List Lnk} {free : List Nat} {l : List (Int × Value)} {cnt : List Int} (h : RowsM w S g n lk free l cnt)
    (hf : ∀ b, b < w.heap.size → S b → w'.heap[b]? = w.heap[b]?) : RowsM w' S g n lk free l cnt := by
  obtain ⟨m, nb, lv, fv, o, h1, h2, h3, h4, h5, h6, h7, h8, h9, h10⟩ := h
  exact ⟨m, nb, lv, fv, o, h1, h2, h3, h4, (hf g (lt_of_heap h5) h1).trans h5, (hf m (lt_of_heap h6) h2).trans h6, h7, h8.frame hf, h9.frame (fun b hb hS => hf b hb hS.1), (hf nb (lt_of_heap h10) h3).trans h10⟩
theorem lcells_len (lk : List Lnk) : (lcells lk).length = lk.length * 4 := by
  induction lk with
  | nil => rfl
  | cons x lk ih => simp [lcells] at ih ⊢; omega
theorem lcells_at : ∀ (lk : List Lnk) (k : Nat), k < lk.length → (lcells lk)[k * 4]? = some (iv (lI lk k)) ∧ (lcells lk)[k * 4 + 1]? = some (iv (lR lk k)) ∧ (lcells lk)[k * 4 + 2]? = some (iv (lB lk k)) ∧ (lcells lk)[k * 4 + 3]? = some (iv (lA lk k))
  | x :: lk, 0, _ => by simp [lcells, lI, lR, lB, lA]
  | x :: lk, k + 1, h => by
    have ih := lcells_at lk k (by simpa using h)
    have e : lcells (x :: lk) = [iv x.id, iv x.row, iv x.before, iv x.after] ++ lcells lk := by simp [lcells]
    have e1 : lI (x :: lk) (k + 1) = lI lk k := by simp [lI]
    have e2 : lR (x :: lk) (k + 1) = lR lk k := by simp [lR]
    have e3 : lB (x :: lk) (k + 1) = lB lk k := by simp [lB]
    have e4 : lA (x :: lk) (k + 1) = lA lk k := by simp [lA]
    rw [e, e1, e2, e3, e4]
    have hs : ∀ j, ([iv x.id, iv x.row, iv x.before, iv x.after] ++ lcells lk)[(k + 1) * 4 + j]? = (lcells lk)[k * 4 + j]? := fun j => by
      rw [List.getElem?_append_right (by simp; omega)]
      congr 1
      simp; omega
    have h0 := hs 0
    rw [Nat.add_zero, Nat.add_zero] at h0
    rw [h0, hs, hs, hs]
    exact ih
/-- The links, written out. -/
theorem links_at {w : World} {S : Nat → Prop} {T : TypeId} {v : Value} {lk : List Lnk} (h : Sl w S T 4 v lk.length (lcells lk)) (hn : 0 < lk.length) :
    ∃ b off cap, v = .slice (some ⟨b, off, none⟩) lk.length cap ∧ S b ∧ b < w.heap.size ∧ lk.length ≤ cap ∧ (∀ k, k < lk.length → w.cell? ⟨b, off + k * 4, none⟩ = some (iv (lI lk k)) ∧ w.cell? ⟨b, off + k * 4 + 1, none⟩ = some (iv (lR lk k)) ∧
      w.cell? ⟨b, off + k * 4 + 2, none⟩ = some (iv (lB lk k)) ∧ w.cell? ⟨b, off + k * 4 + 3, none⟩ = some (iv (lA lk k))) ∧ (∀ i, w.frozen? ⟨b, i, none⟩ = false) := by
  obtain ⟨b, off, cap, hv, hS, hb, hc, hx, hf⟩ := h.pos hn
  refine ⟨b, off, cap, hv, hS, hb, hc, fun k hk => ?_, hf⟩
  obtain ⟨h0, h1, h2, h3⟩ := lcells_at lk k hk
  have hl := lcells_len lk
  refine ⟨(hx (k * 4) (by omega)).trans h0, ?_, ?_, ?_⟩
  · rw [Nat.add_assoc]; exact (hx (k * 4 + 1) (by omega)).trans h1
  · rw [Nat.add_assoc]; exact (hx (k * 4 + 2) (by omega)).trans h2
  · rw [Nat.add_assoc]; exact (hx (k * 4 + 3) (by omega)).trans h3
end Go.Proofs.Ytemdhnolccnnfaa
