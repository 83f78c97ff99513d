/- Layer 13 (arc) in memory: rows, two ghosts, the numbers of the ids. -/
import Derived.Test.YtemdhnolccnnfaaRowsMore
import Derived.Test.YtemdhnolccnnfaaGhost3
import Derived.Test.YtemdhnolccnnfaaGhostLen
namespace Go.Proofs.Ytemdhnolccnnfaa
open Go.RowKit
set_option linter.unusedVariables false
/-- What is said of the policy, off memory. -/
structure ArcS where
  L : Nat → List Int
  B1 : List Int
  B2 : List Int
  m1 : Int
  m2 : Int
  most : Int
  P : Int
  H : Int → Int
structure ArcO (w : World) (S : Nat → Prop) (p : Nat) (s : ArcS) (N M g b1 b2 m : Nat) (l : List (Int × Value)) (o : Obj) (Sr S1 S2 : Nat → Prop) : Prop where
  hSp : S p
  hSm : S m
  hSr : ∀ b, Sr b → S b
  hS1 : ∀ b, S1 b → S b
  hS2 : ∀ b, S2 b → S b
  hlt : ∀ b, Sr b ∨ S1 b ∨ S2 b → b < w.heap.size
  dp : ¬ Sr p ∧ ¬ S1 p ∧ ¬ S2 p
  dm : ¬ Sr m ∧ ¬ S1 m ∧ ¬ S2 m
  d12 : ∀ b, S1 b → ¬ S2 b
  dr1 : ∀ b, Sr b → ¬ S1 b
  dr2 : ∀ b, Sr b → ¬ S2 b
  hp : w.heap[p]? = some (.cells #[.pointer (some ⟨g, 0, none⟩), .pointer (some ⟨b1, 0, none⟩), .pointer (some ⟨b2, 0, none⟩), .int .i64 s.most, .int .i64 s.P, .map (some m)] 36 (0, 0))
  hmo : w.heap[m]? = some o
  hmb : MapBlk .i64 l o
  hH : ∀ k, (aget l k).getD (.int .u64 0) = .int .u64 (s.H k)
  hR : RowsAt w Sr g 2 s.L N
  hG1 : GhostAt w S1 b1 s.m1 s.B1 M
  hG2 : GhostAt w S2 b2 s.m2 s.B2 M
def ArcAt (w : World) (S : Nat → Prop) (p : Nat) (s : ArcS) (N M : Nat) : Prop := ∃ g b1 b2 m l o Sr S1 S2, ArcO w S p s N M g b1 b2 m l o Sr S1 S2
def setH (H : Int → Int) (id h : Int) : Int → Int := fun k => if k = id then h else H k
section
variable {w w' : World} {S : Nat → Prop} {p : Nat} {s : ArcS} {N N' M M' g b1 b2 m : Nat} {l : List (Int × Value)} {o : Obj} {Sr S1 S2 : Nat → Prop}
theorem ArcO.pm (h : ArcO w S p s N M g b1 b2 m l o Sr S1 S2) : p ≠ m := fun e => by
  subst e; obtain ⟨es, clk, e, _⟩ := h.hmb; have h1 := h.hp; rw [h.hmo, e] at h1; cases h1
theorem ArcO.shut (h : ArcO w S p s N M g b1 b2 m l o Sr S1 S2) : ArcAt w S p s N M := ⟨g, b1, b2, m, l, o, Sr, S1, S2, h⟩
theorem ArcO.frame (h : ArcO w S p s N M g b1 b2 m l o Sr S1 S2) (hs : w.heap.size ≤ w'.heap.size) (hf : ∀ b, b < w.heap.size → S b → w'.heap[b]? = w.heap[b]?) : ArcO w' S p s N M g b1 b2 m l o Sr S1 S2 :=
  ⟨h.hSp, h.hSm, h.hSr, h.hS1, h.hS2, fun b q => Nat.lt_of_lt_of_le (h.hlt b q) hs, h.dp, h.dm, h.d12, h.dr1, h.dr2, (hf p (lt_of_heap h.hp) h.hSp).trans h.hp, (hf m (lt_of_heap h.hmo) h.hSm).trans h.hmo, h.hmb, h.hH,
   h.hR.frame fun b hb q => hf b hb (h.hSr b q), h.hG1.frame fun b hb q => hf b hb (h.hS1 b q), h.hG2.frame fun b hb q => hf b hb (h.hS2 b q)⟩
theorem ArcAt.frame (h : ArcAt w S p s N M) (hs : w.heap.size ≤ w'.heap.size) (hf : ∀ b, b < w.heap.size → S b → w'.heap[b]? = w.heap[b]?) : ArcAt w' S p s N M := by
  obtain ⟨g, b1, b2, m, l, o, Sr, S1, S2, h⟩ := h; exact (h.frame hs hf).shut
theorem ArcO.mono {S' : Nat → Prop} (h : ArcO w S p s N M g b1 b2 m l o Sr S1 S2) (hS : ∀ b, b < w.heap.size → S b → S' b) : ArcO w S' p s N M g b1 b2 m l o Sr S1 S2 :=
  ⟨hS _ (lt_of_heap h.hp) h.hSp, hS _ (lt_of_heap h.hmo) h.hSm, fun b q => hS b (h.hlt b (.inl q)) (h.hSr b q), fun b q => hS b (h.hlt b (.inr (.inl q))) (h.hS1 b q), fun b q => hS b (h.hlt b (.inr (.inr q))) (h.hS2 b q),
   h.hlt, h.dp, h.dm, h.d12, h.dr1, h.dr2, h.hp, h.hmo, h.hmb, h.hH, h.hR, h.hG1, h.hG2⟩
theorem ArcAt.mono {S' : Nat → Prop} (h : ArcAt w S p s N M) (hS : ∀ b, b < w.heap.size → S b → S' b) : ArcAt w S' p s N M := by
  obtain ⟨g, b1, b2, m, l, o, Sr, S1, S2, h⟩ := h; exact (h.mono hS).shut
theorem ArcAt.more (h : ArcAt w S p s N M) (hN : N ≤ N') (hM : M ≤ M') : ArcAt w S p s N' M' := by
  obtain ⟨g, b1, b2, m, l, o, Sr, S1, S2, h⟩ := h
  exact ⟨g, b1, b2, m, l, o, Sr, S1, S2, h.hSp, h.hSm, h.hSr, h.hS1, h.hS2, h.hlt, h.dp, h.dm, h.d12, h.dr1, h.dr2, h.hp, h.hmo, h.hmb, h.hH, h.hR.more hN, h.hG1.more hM, h.hG2.more hM⟩
/-- The rows turn. -/
theorem ArcO.rows {L' : Nat → List Int} (h : ArcO w S p s N M g b1 b2 m l o Sr S1 S2) (hR : RowsAt w' (grow Sr w w') g 2 L' N') (hF : Fr Sr w w') : ArcO w' (grow S w w') p { s with L := L' } N' M g b1 b2 m l o (grow Sr w w') S1 S2 :=
  ⟨.inl h.hSp, .inl h.hSm, fun b q => q.imp (h.hSr b) (fun q => q), fun b q => .inl (h.hS1 b q), fun b q => .inl (h.hS2 b q),
   fun b q => q.elim (fun q => q.elim (fun q => Nat.lt_of_lt_of_le (h.hlt b (.inl q)) hF.size) (fun q => q.2)) (fun q => Nat.lt_of_lt_of_le (h.hlt b (.inr q)) hF.size),
   ⟨fun q => q.elim h.dp.1 (fun q => by have := lt_of_heap h.hp; omega), h.dp.2⟩, ⟨fun q => q.elim h.dm.1 (fun q => by have := lt_of_heap h.hmo; omega), h.dm.2⟩, h.d12,
   fun b q r => q.elim (fun q => h.dr1 b q r) (fun q => by have := h.hlt b (.inr (.inl r)); omega), fun b q r => q.elim (fun q => h.dr2 b q r) (fun q => by have := h.hlt b (.inr (.inr r)); omega),
   (hF.block p (lt_of_heap h.hp) h.dp.1).trans h.hp, (hF.block m (lt_of_heap h.hmo) h.dm.1).trans h.hmo, h.hmb, h.hH, hR, h.hG1.fr hF (fun b _ q r => h.dr1 b r q), h.hG2.fr hF (fun b _ q r => h.dr2 b r q)⟩
/-- The first ghost turns. -/
theorem ArcO.one {m1' : Int} {B' : List Int} (h : ArcO w S p s N M g b1 b2 m l o Sr S1 S2) (hG : GhostAt w' (grow S1 w w') b1 m1' B' M') (hF : Fr S1 w w') (hM : M ≤ M') : ArcO w' (grow S w w') p { s with B1 := B', m1 := m1' } N M' g b1 b2 m l o Sr (grow S1 w w') S2 :=
  ⟨.inl h.hSp, .inl h.hSm, fun b q => .inl (h.hSr b q), fun b q => q.imp (h.hS1 b) (fun q => q), fun b q => .inl (h.hS2 b q),
   fun b q => q.elim (fun q => Nat.lt_of_lt_of_le (h.hlt b (.inl q)) hF.size) (fun q => q.elim (fun q => q.elim (fun q => Nat.lt_of_lt_of_le (h.hlt b (.inr (.inl q))) hF.size) (fun q => q.2)) (fun q => Nat.lt_of_lt_of_le (h.hlt b (.inr (.inr q))) hF.size)),
   ⟨h.dp.1, fun q => q.elim h.dp.2.1 (fun q => by have := lt_of_heap h.hp; omega), h.dp.2.2⟩, ⟨h.dm.1, fun q => q.elim h.dm.2.1 (fun q => by have := lt_of_heap h.hmo; omega), h.dm.2.2⟩,
   fun b q r => q.elim (fun q => h.d12 b q r) (fun q => by have := h.hlt b (.inr (.inr r)); omega), fun b q r => r.elim (fun r => h.dr1 b q r) (fun r => by have := h.hlt b (.inl q); omega), h.dr2,
   (hF.block p (lt_of_heap h.hp) h.dp.2.1).trans h.hp, (hF.block m (lt_of_heap h.hmo) h.dm.2.1).trans h.hmo, h.hmb, h.hH, h.hR.fr hF (fun b _ q r => h.dr1 b q r), hG, (h.hG2.fr hF (fun b _ q r => h.d12 b r q)).more hM⟩
/-- The second ghost turns. -/
theorem ArcO.two {m2' : Int} {B' : List Int} (h : ArcO w S p s N M g b1 b2 m l o Sr S1 S2) (hG : GhostAt w' (grow S2 w w') b2 m2' B' M') (hF : Fr S2 w w') (hM : M ≤ M') : ArcO w' (grow S w w') p { s with B2 := B', m2 := m2' } N M' g b1 b2 m l o Sr S1 (grow S2 w w') :=
  ⟨.inl h.hSp, .inl h.hSm, fun b q => .inl (h.hSr b q), fun b q => .inl (h.hS1 b q), fun b q => q.imp (h.hS2 b) (fun q => q),
   fun b q => q.elim (fun q => Nat.lt_of_lt_of_le (h.hlt b (.inl q)) hF.size) (fun q => q.elim (fun q => Nat.lt_of_lt_of_le (h.hlt b (.inr (.inl q))) hF.size) (fun q => q.elim (fun q => Nat.lt_of_lt_of_le (h.hlt b (.inr (.inr q))) hF.size) (fun q => q.2))),
   ⟨h.dp.1, h.dp.2.1, fun q => q.elim h.dp.2.2 (fun q => by have := lt_of_heap h.hp; omega)⟩, ⟨h.dm.1, h.dm.2.1, fun q => q.elim h.dm.2.2 (fun q => by have := lt_of_heap h.hmo; omega)⟩,
   fun b q r => r.elim (fun r => h.d12 b q r) (fun r => by have := h.hlt b (.inr (.inl q)); omega), h.dr1, fun b q r => r.elim (fun r => h.dr2 b q r) (fun r => by have := h.hlt b (.inl q); omega),
   (hF.block p (lt_of_heap h.hp) h.dp.2.2).trans h.hp, (hF.block m (lt_of_heap h.hmo) h.dm.2.2).trans h.hmo, h.hmb, h.hH, h.hR.fr hF (fun b _ q r => h.dr2 b q r), (h.hG1.fr hF (fun b _ q r => h.d12 b q r)).more hM, hG⟩
/-- The map turns. -/
theorem ArcO.map {l' : List (Int × Value)} {o' : Obj} {H' : Int → Int} (h : ArcO w S p s N M g b1 b2 m l o Sr S1 S2) (ho : MapBlk .i64 l' o') (hH : ∀ k, (aget l' k).getD (.int .u64 0) = .int .u64 (H' k)) : ArcO (w.putObj m o') S p { s with H := H' } N M g b1 b2 m l' o' Sr S1 S2 :=
  ⟨h.hSp, h.hSm, h.hSr, h.hS1, h.hS2, fun b q => by rw [World.putObj_size]; exact h.hlt b q, h.dp, h.dm, h.d12, h.dr1, h.dr2, (World.putObj_heap_other h.pm).trans h.hp, World.putObj_heap_same (lt_of_heap h.hmo), ho, hH,
   h.hR.frame fun b hb q => World.putObj_heap_other fun e => h.dm.1 (e ▸ q), h.hG1.frame fun b hb q => World.putObj_heap_other fun e => h.dm.2.1 (e ▸ q), h.hG2.frame fun b hb q => World.putObj_heap_other fun e => h.dm.2.2 (e ▸ q)⟩
theorem ArcO.on {o' : Obj} (h : ArcO w S p s N M g b1 b2 m l o Sr S1 S2) (id v : Int) (ho : MapBlk .i64 (aset l id (.int .u64 v)) o') : ArcO (w.putObj m o') S p { s with H := setH s.H id v } N M g b1 b2 m (aset l id (.int .u64 v)) o' Sr S1 S2 :=
  h.map ho (fun k => by rw [aget_aset h.hmb.keys]; unfold setH; split; rfl; exact h.hH k)
theorem ArcO.off {o' : Obj} (h : ArcO w S p s N M g b1 b2 m l o Sr S1 S2) (id : Int) (ho : MapBlk .i64 (adel l id) o') : ArcO (w.putObj m o') S p { s with H := setH s.H id 0 } N M g b1 b2 m (adel l id) o' Sr S1 S2 :=
  h.map ho (fun k => by rw [aget_adel h.hmb.keys]; unfold setH; split; rfl; exact h.hH k)
/-- A field turns. -/
theorem ArcO.cell {i : Nat} {v : Value} (h : ArcO w S p s N M g b1 b2 m l o Sr S1 S2) {s' : ArcS} (hs : s'.L = s.L ∧ s'.B1 = s.B1 ∧ s'.B2 = s.B2 ∧ s'.m1 = s.m1 ∧ s'.m2 = s.m2 ∧ s'.H = s.H)
    (hc : (#[.pointer (some ⟨g, 0, none⟩), .pointer (some ⟨b1, 0, none⟩), .pointer (some ⟨b2, 0, none⟩), .int .i64 s.most, .int .i64 s.P, .map (some m)] : Array Value).setIfInBounds i v = #[.pointer (some ⟨g, 0, none⟩), .pointer (some ⟨b1, 0, none⟩), .pointer (some ⟨b2, 0, none⟩), .int .i64 s'.most, .int .i64 s'.P, .map (some m)]) :
    ArcO (w.setCell ⟨p, i, none⟩ v) S p s' N M g b1 b2 m l o Sr S1 S2 := by
  obtain ⟨e1, e2, e3, e4, e5, e6⟩ := hs
  have hne : ∀ b, b ≠ p → (w.setCell ⟨p, i, none⟩ v).heap[b]? = w.heap[b]? := fun b q => heap_setCell_other (p := ⟨p, i, none⟩) q v
  refine ⟨h.hSp, h.hSm, h.hSr, h.hS1, h.hS2, fun b q => ?_, h.dp, h.dm, h.d12, h.dr1, h.dr2, ?_, (hne m (fun e => h.pm e.symm)).trans h.hmo, h.hmb, ?_, ?_, ?_, ?_⟩
  · have := h.hlt b q; simpa [World.setCell] using this
  · rw [heap_setCell_same h.hp, hc]
  · rw [e6]; exact h.hH
  · rw [e1]; exact h.hR.frame fun b hb q => hne b fun e => h.dp.1 (e ▸ q)
  · rw [e2, e4]; exact h.hG1.frame fun b hb q => hne b fun e => h.dp.2.1 (e ▸ q)
  · rw [e3, e5]; exact h.hG2.frame fun b hb q => hne b fun e => h.dp.2.2 (e ▸ q)
theorem ArcO.setMost (h : ArcO w S p s N M g b1 b2 m l o Sr S1 S2) (n : Int) : ArcO (w.setCell ⟨p, 3, none⟩ (.int .i64 n)) S p { s with most := n } N M g b1 b2 m l o Sr S1 S2 :=
  h.cell ⟨rfl, rfl, rfl, rfl, rfl, rfl⟩ (by simp)
theorem ArcO.setP (h : ArcO w S p s N M g b1 b2 m l o Sr S1 S2) (n : Int) : ArcO (w.setCell ⟨p, 4, none⟩ (.int .i64 n)) S p { s with P := n } N M g b1 b2 m l o Sr S1 S2 :=
  h.cell ⟨rfl, rfl, rfl, rfl, rfl, rfl⟩ (by simp)
end
end Go.Proofs.Ytemdhnolccnnfaa
