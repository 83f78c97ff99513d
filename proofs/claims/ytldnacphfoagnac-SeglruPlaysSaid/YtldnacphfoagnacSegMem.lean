/- Layer 12 (seglru) in memory: rows, and who is active. -/
import Derived.Test.YtldnacphfoagnacRowsMore
namespace Go.Proofs.Ytldnacphfoagnac
open Go.RowKit
set_option linter.unusedVariables false
structure SegO (w : World) (S : Nat → Prop) (p : Nat) (L : Nat → List Int) (A : Int → Bool) (N g m : Nat) (l : List (Int × Value)) (o : Obj) (Sr : Nat → Prop) : Prop where
  hSp : S p
  hSm : S m
  hSr : ∀ b, Sr b → S b
  hpr : ¬ Sr p
  hmr : ¬ Sr m
  hp : w.heap[p]? = some (.cells #[.pointer (some ⟨g, 0, none⟩), .map (some m)] 34 (0, 0))
  hmo : w.heap[m]? = some o
  hmb : MapBlk .i64 l o
  hl : ∀ k v, aget l k = some v → v = .bool true
  hA : ∀ k, A k = (aget l k).isSome
  hR : RowsAt w Sr g 3 L N
def SegAt (w : World) (S : Nat → Prop) (p : Nat) (L : Nat → List Int) (A : Int → Bool) (N : Nat) : Prop := ∃ g m l o Sr, SegO w S p L A N g m l o Sr
/-- Who is active behind a change. -/
def setB' (A : Int → Bool) (id : Int) (b : Bool) : Int → Bool := fun k => if k = id then b else A k
section
variable {w w' : World} {S : Nat → Prop} {p : Nat} {L L' : Nat → List Int} {A : Int → Bool} {N N' g m : Nat} {l : List (Int × Value)} {o : Obj} {Sr : Nat → Prop}
theorem SegO.pm (h : SegO w S p L A N g m l o Sr) : p ≠ m := fun e => by
  subst e; obtain ⟨es, clk, e, _⟩ := h.hmb; have h1 := h.hp; rw [h.hmo, e] at h1; cases h1
theorem SegO.frame (h : SegO w S p L A N g m l o Sr) (hf : ∀ b, b < w.heap.size → S b → w'.heap[b]? = w.heap[b]?) : SegO w' S p L A N g m l o Sr :=
  ⟨h.hSp, h.hSm, h.hSr, h.hpr, h.hmr, (hf p (lt_of_heap h.hp) h.hSp).trans h.hp, (hf m (lt_of_heap h.hmo) h.hSm).trans h.hmo, h.hmb, h.hl, h.hA, h.hR.frame fun b hb hS => hf b hb (h.hSr b hS)⟩
theorem SegAt.frame (h : SegAt w S p L A N) (hf : ∀ b, b < w.heap.size → S b → w'.heap[b]? = w.heap[b]?) : SegAt w' S p L A N := by
  obtain ⟨g, m, l, o, Sr, h⟩ := h; exact ⟨g, m, l, o, Sr, h.frame hf⟩
theorem SegAt.mono {S' : Nat → Prop} (h : SegAt w S p L A N) (hS : ∀ b, b < w.heap.size → S b → S' b) : SegAt w S' p L A N := by
  obtain ⟨g, m, l, o, Sr, h⟩ := h
  exact ⟨g, m, l, o, fun b => Sr b ∧ b < w.heap.size, hS _ (lt_of_heap h.hp) h.hSp, hS _ (lt_of_heap h.hmo) h.hSm, fun b q => hS b q.2 (h.hSr b q.1), fun q => h.hpr q.1, fun q => h.hmr q.1, h.hp, h.hmo, h.hmb, h.hl, h.hA, h.hR.mono fun b hb q => ⟨q, hb⟩⟩
theorem SegAt.more (h : SegAt w S p L A N) (hN : N ≤ N') : SegAt w S p L A N' := by
  obtain ⟨g, m, l, o, Sr, h⟩ := h
  exact ⟨g, m, l, o, Sr, h.hSp, h.hSm, h.hSr, h.hpr, h.hmr, h.hp, h.hmo, h.hmb, h.hl, h.hA, h.hR.more hN⟩
/-- The rows turn. -/
theorem SegO.rows (h : SegO w S p L A N g m l o Sr) (hR : RowsAt w' (grow Sr w w') g 3 L' N') (hF : Fr Sr w w') : SegO w' (grow S w w') p L' A N' g m l o (grow Sr w w') :=
  ⟨Or.inl h.hSp, Or.inl h.hSm, fun b q => q.imp (h.hSr b) (fun q => q), fun q => q.elim h.hpr (fun q => by have := lt_of_heap h.hp; omega), fun q => q.elim h.hmr (fun q => by have := lt_of_heap h.hmo; omega),
   (hF.block p (lt_of_heap h.hp) h.hpr).trans h.hp, (hF.block m (lt_of_heap h.hmo) h.hmr).trans h.hmo, h.hmb, h.hl, h.hA, hR⟩
theorem SegO.fr (h : SegO w S p L A N g m l o Sr) (hF : Fr Sr w w') : Fr S w w' := hF.mono fun b _ q => h.hSr b q
/-- The map turns. -/
theorem SegO.map {l' : List (Int × Value)} {o' : Obj} {A' : Int → Bool} (h : SegO w S p L A N g m l o Sr) (ho : MapBlk .i64 l' o') (hl : ∀ k v, aget l' k = some v → v = .bool true) (hA : ∀ k, A' k = (aget l' k).isSome) : SegO (w.putObj m o') S p L A' N g m l' o' Sr :=
  ⟨h.hSp, h.hSm, h.hSr, h.hpr, h.hmr, (World.putObj_heap_other h.pm).trans h.hp, World.putObj_heap_same (lt_of_heap h.hmo), ho, hl, hA,
   h.hR.frame fun b hb q => World.putObj_heap_other fun e => h.hmr (e ▸ q)⟩
theorem SegO.on {o' : Obj} (h : SegO w S p L A N g m l o Sr) (id : Int) (ho : MapBlk .i64 (aset l id (.bool true)) o') : SegO (w.putObj m o') S p L (setB' A id true) N g m (aset l id (.bool true)) o' Sr :=
  h.map ho (fun k v q => by rw [aget_aset h.hmb.keys] at q; split at q; exact (Option.some.inj q).symm; exact h.hl k v q)
    (fun k => by rw [aget_aset h.hmb.keys]; unfold setB'; split; rfl; exact h.hA k)
theorem SegO.off {o' : Obj} (h : SegO w S p L A N g m l o Sr) (id : Int) (ho : MapBlk .i64 (adel l id) o') : SegO (w.putObj m o') S p L (setB' A id false) N g m (adel l id) o' Sr :=
  h.map ho (fun k v q => by rw [aget_adel h.hmb.keys] at q; split at q; cases q; exact h.hl k v q)
    (fun k => by rw [aget_adel h.hmb.keys]; unfold setB'; split; rfl; exact h.hA k)
theorem SegO.val (h : SegO w S p L A N g m l o Sr) (k : Int) : (aget l k).getD (.bool false) = .bool (A k) := by
  rw [h.hA k]
  rcases e : aget l k with _ | v
  · rfl
  · rw [h.hl k v e]; rfl
theorem SegO.shut (h : SegO w S p L A N g m l o Sr) : SegAt w S p L A N := ⟨g, m, l, o, Sr, h⟩
theorem SegAt.rowsAt (h : SegAt w S p L A N) : ∃ g Sr, RowsAt w Sr g 3 L N ∧ w.cell? ⟨p, 0, none⟩ = some (.pointer (some ⟨g, 0, none⟩)) ∧ (∀ b, Sr b → S b) := by
  obtain ⟨g, m, l, o, Sr, h⟩ := h
  have c0 := cell_of_heap h.hp 0
  simp at c0
  exact ⟨g, Sr, h.hR, c0, h.hSr⟩
end
end Go.Proofs.Ytldnacphfoagnac
