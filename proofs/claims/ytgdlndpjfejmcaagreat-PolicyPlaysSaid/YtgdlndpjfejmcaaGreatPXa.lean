/- Layer 13 (arc) in memory: rows, two ghosts, the numbers of the ids. -/
import Derived.Test.YtgdlndpjfejmcaaGreatPRd
import Derived.Test.YtgdlndpjfejmcaaGreatPGh
import Derived.WalkSpells
import Derived.WalkLawsBesides
import Derived.StillTailTactics
import Derived.Deep.CutBlock
import Derived.Deep.QuietTactic
import Derived.BigQuiet
import Derived.Test.YtgdlndpjfejmcaaGreatPB
namespace Go.Proofs.YtgdlndpjfejmcaaGreat.Arc
open Go.RowKit
set_option linter.unusedVariables false
set_option maxRecDepth 100000
/-- What is said of the policy, off memory. -/
structure ArcS where
  L : Nat → List Int
  B1 : List Int
  B2 : List Int
  m1 : Int
  m2 : Int
  most : Int
  P : Int
  H : Int → Int
structure ArcO (w : World) (S : Nat → Prop) (p : Nat) (s : ArcS) (N M g b1 b2 m : Nat) (l : List (Int × Value)) (o : Obj) (Sr S1 S2 : Nat → Prop) : Prop where
  hSp : S p
  hSm : S m
  hSr : ∀ b, Sr b → S b
  hS1 : ∀ b, S1 b → S b
  hS2 : ∀ b, S2 b → S b
  hlt : ∀ b, Sr b ∨ S1 b ∨ S2 b → b < w.heap.size
  dp : ¬ Sr p ∧ ¬ S1 p ∧ ¬ S2 p
  dm : ¬ Sr m ∧ ¬ S1 m ∧ ¬ S2 m
  d12 : ∀ b, S1 b → ¬ S2 b
  dr1 : ∀ b, Sr b → ¬ S1 b
  dr2 : ∀ b, Sr b → ¬ S2 b
  hp : w.heap[p]? = some (.cells #[.pointer (some ⟨g, 0, none⟩), .pointer (some ⟨b1, 0, none⟩), .pointer (some ⟨b2, 0, none⟩), .int .i64 s.most, .int .i64 s.P, .map (some m)] 91 (0, 0))
  hmo : w.heap[m]? = some o
  hmb : MapBlk .i64 l o
  hH : ∀ k, (aget l k).getD (.int .u64 0) = .int .u64 (s.H k)
  hR : RowsAt w Sr g 2 s.L N
  hG1 : GhostAt w S1 b1 s.m1 s.B1 M
  hG2 : GhostAt w S2 b2 s.m2 s.B2 M
def ArcAt (w : World) (S : Nat → Prop) (p : Nat) (s : ArcS) (N M : Nat) : Prop := ∃ g b1 b2 m l o Sr S1 S2, ArcO w S p s N M g b1 b2 m l o Sr S1 S2
def setH (H : Int → Int) (id h : Int) : Int → Int := fun k => if k = id then h else H k
section
variable {w w' : World} {S : Nat → Prop} {p : Nat} {s : ArcS} {N N' M M' g b1 b2 m : Nat} {l : List (Int × Value)} {o : Obj} {Sr S1 S2 : Nat → Prop}
theorem ArcO.pm (h : ArcO w S p s N M g b1 b2 m l o Sr S1 S2) : p ≠ m := fun e => by
  subst e; obtain ⟨es, clk, e, _⟩ := h.hmb; have h1 := h.hp; rw [h.hmo, e] at h1; cases h1
theorem ArcO.shut (h : ArcO w S p s N M g b1 b2 m l o Sr S1 S2) : ArcAt w S p s N M := ⟨g, b1, b2, m, l, o, Sr, S1, S2, h⟩
theorem ArcO.frame (h : ArcO w S p s N M g b1 b2 m l o Sr S1 S2) (hs : w.heap.size ≤ w'.heap.size) (hf : ∀ b, b < w.heap.size → S b → w'.heap[b]? = w.heap[b]?) : ArcO w' S p s N M g b1 b2 m l o Sr S1 S2 :=
  ⟨h.hSp, h.hSm, h.hSr, h.hS1, h.hS2, fun b q => Nat.lt_of_lt_of_le (h.hlt b q) hs, h.dp, h.dm, h.d12, h.dr1, h.dr2, (hf p (lt_of_heap h.hp) h.hSp).trans h.hp, (hf m (lt_of_heap h.hmo) h.hSm).trans h.hmo, h.hmb, h.hH,
   h.hR.frame fun b hb q => hf b hb (h.hSr b q), h.hG1.frame fun b hb q => hf b hb (h.hS1 b q), h.hG2.frame fun b hb q => hf b hb (h.hS2 b q)⟩
theorem ArcAt.frame (h : ArcAt w S p s N M) (hs : w.heap.size ≤ w'.heap.size) (hf : ∀ b, b < w.heap.size → S b → w'.heap[b]? = w.heap[b]?) : ArcAt w' S p s N M := by
  obtain ⟨g, b1, b2, m, l, o, Sr, S1, S2, h⟩ := h; exact (h.frame hs hf).shut
theorem ArcO.mono {S' : Nat → Prop} (h : ArcO w S p s N M g b1 b2 m l o Sr S1 S2) (hS : ∀ b, b < w.heap.size → S b → S' b) : ArcO w S' p s N M g b1 b2 m l o Sr S1 S2 :=
  ⟨hS _ (lt_of_heap h.hp) h.hSp, hS _ (lt_of_heap h.hmo) h.hSm, fun b q => hS b (h.hlt b (.inl q)) (h.hSr b q), fun b q => hS b (h.hlt b (.inr (.inl q))) (h.hS1 b q), fun b q => hS b (h.hlt b (.inr (.inr q))) (h.hS2 b q),
   h.hlt, h.dp, h.dm, h.d12, h.dr1, h.dr2, h.hp, h.hmo, h.hmb, h.hH, h.hR, h.hG1, h.hG2⟩
theorem ArcAt.mono {S' : Nat → Prop} (h : ArcAt w S p s N M) (hS : ∀ b, b < w.heap.size → S b → S' b) : ArcAt w S' p s N M := by
  obtain ⟨g, b1, b2, m, l, o, Sr, S1, S2, h⟩ := h; exact (h.mono hS).shut
theorem ArcAt.more (h : ArcAt w S p s N M) (hN : N ≤ N') (hM : M ≤ M') : ArcAt w S p s N' M' := by
  obtain ⟨g, b1, b2, m, l, o, Sr, S1, S2, h⟩ := h
  exact ⟨g, b1, b2, m, l, o, Sr, S1, S2, h.hSp, h.hSm, h.hSr, h.hS1, h.hS2, h.hlt, h.dp, h.dm, h.d12, h.dr1, h.dr2, h.hp, h.hmo, h.hmb, h.hH, h.hR.more hN, h.hG1.more hM, h.hG2.more hM⟩
/-- The rows turn. -/
theorem ArcO.rows {L' : Nat → List Int} (h : ArcO w S p s N M g b1 b2 m l o Sr S1 S2) (hR : RowsAt w' (grow Sr w w') g 2 L' N') (hF : Fr Sr w w') : ArcO w' (grow S w w') p { s with L := L' } N' M g b1 b2 m l o (grow Sr w w') S1 S2 :=
  ⟨.inl h.hSp, .inl h.hSm, fun b q => q.imp (h.hSr b) (fun q => q), fun b q => .inl (h.hS1 b q), fun b q => .inl (h.hS2 b q),
   fun b q => q.elim (fun q => q.elim (fun q => Nat.lt_of_lt_of_le (h.hlt b (.inl q)) hF.size) (fun q => q.2)) (fun q => Nat.lt_of_lt_of_le (h.hlt b (.inr q)) hF.size),
   ⟨fun q => q.elim h.dp.1 (fun q => by have := lt_of_heap h.hp; omega), h.dp.2⟩, ⟨fun q => q.elim h.dm.1 (fun q => by have := lt_of_heap h.hmo; omega), h.dm.2⟩, h.d12,
   fun b q r => q.elim (fun q => h.dr1 b q r) (fun q => by have := h.hlt b (.inr (.inl r)); omega), fun b q r => q.elim (fun q => h.dr2 b q r) (fun q => by have := h.hlt b (.inr (.inr r)); omega),
   (hF.block p (lt_of_heap h.hp) h.dp.1).trans h.hp, (hF.block m (lt_of_heap h.hmo) h.dm.1).trans h.hmo, h.hmb, h.hH, hR, h.hG1.fr hF (fun b _ q r => h.dr1 b r q), h.hG2.fr hF (fun b _ q r => h.dr2 b r q)⟩
/-- The first ghost turns. -/
theorem ArcO.one {m1' : Int} {B' : List Int} (h : ArcO w S p s N M g b1 b2 m l o Sr S1 S2) (hG : GhostAt w' (grow S1 w w') b1 m1' B' M') (hF : Fr S1 w w') (hM : M ≤ M') : ArcO w' (grow S w w') p { s with B1 := B', m1 := m1' } N M' g b1 b2 m l o Sr (grow S1 w w') S2 :=
  ⟨.inl h.hSp, .inl h.hSm, fun b q => .inl (h.hSr b q), fun b q => q.imp (h.hS1 b) (fun q => q), fun b q => .inl (h.hS2 b q),
   fun b q => q.elim (fun q => Nat.lt_of_lt_of_le (h.hlt b (.inl q)) hF.size) (fun q => q.elim (fun q => q.elim (fun q => Nat.lt_of_lt_of_le (h.hlt b (.inr (.inl q))) hF.size) (fun q => q.2)) (fun q => Nat.lt_of_lt_of_le (h.hlt b (.inr (.inr q))) hF.size)),
   ⟨h.dp.1, fun q => q.elim h.dp.2.1 (fun q => by have := lt_of_heap h.hp; omega), h.dp.2.2⟩, ⟨h.dm.1, fun q => q.elim h.dm.2.1 (fun q => by have := lt_of_heap h.hmo; omega), h.dm.2.2⟩,
   fun b q r => q.elim (fun q => h.d12 b q r) (fun q => by have := h.hlt b (.inr (.inr r)); omega), fun b q r => r.elim (fun r => h.dr1 b q r) (fun r => by have := h.hlt b (.inl q); omega), h.dr2,
   (hF.block p (lt_of_heap h.hp) h.dp.2.1).trans h.hp, (hF.block m (lt_of_heap h.hmo) h.dm.2.1).trans h.hmo, h.hmb, h.hH, h.hR.fr hF (fun b _ q r => h.dr1 b q r), hG, (h.hG2.fr hF (fun b _ q r => h.d12 b r q)).more hM⟩
/-- The second ghost turns. -/
theorem ArcO.two {m2' : Int} {B' : List Int} (h : ArcO w S p s N M g b1 b2 m l o Sr S1 S2) (hG : GhostAt w' (grow S2 w w') b2 m2' B' M') (hF : Fr S2 w w') (hM : M ≤ M') : ArcO w' (grow S w w') p { s with B2 := B', m2 := m2' } N M' g b1 b2 m l o Sr S1 (grow S2 w w') :=
  ⟨.inl h.hSp, .inl h.hSm, fun b q => .inl (h.hSr b q), fun b q => .inl (h.hS1 b q), fun b q => q.imp (h.hS2 b) (fun q => q),
   fun b q => q.elim (fun q => Nat.lt_of_lt_of_le (h.hlt b (.inl q)) hF.size) (fun q => q.elim (fun q => Nat.lt_of_lt_of_le (h.hlt b (.inr (.inl q))) hF.size) (fun q => q.elim (fun q => Nat.lt_of_lt_of_le (h.hlt b (.inr (.inr q))) hF.size) (fun q => q.2))),
   ⟨h.dp.1, h.dp.2.1, fun q => q.elim h.dp.2.2 (fun q => by have := lt_of_heap h.hp; omega)⟩, ⟨h.dm.1, h.dm.2.1, fun q => q.elim h.dm.2.2 (fun q => by have := lt_of_heap h.hmo; omega)⟩,
   fun b q r => r.elim (fun r => h.d12 b q r) (fun r => by have := h.hlt b (.inr (.inl q)); omega), h.dr1, fun b q r => r.elim (fun r => h.dr2 b q r) (fun r => by have := h.hlt b (.inl q); omega),
   (hF.block p (lt_of_heap h.hp) h.dp.2.2).trans h.hp, (hF.block m (lt_of_heap h.hmo) h.dm.2.2).trans h.hmo, h.hmb, h.hH, h.hR.fr hF (fun b _ q r => h.dr2 b q r), (h.hG1.fr hF (fun b _ q r => h.d12 b q r)).more hM, hG⟩
/-- The map turns. -/
theorem ArcO.map {l' : List (Int × Value)} {o' : Obj} {H' : Int → Int} (h : ArcO w S p s N M g b1 b2 m l o Sr S1 S2) (ho : MapBlk .i64 l' o') (hH : ∀ k, (aget l' k).getD (.int .u64 0) = .int .u64 (H' k)) : ArcO (w.putObj m o') S p { s with H := H' } N M g b1 b2 m l' o' Sr S1 S2 :=
  ⟨h.hSp, h.hSm, h.hSr, h.hS1, h.hS2, fun b q => by rw [World.putObj_size]; exact h.hlt b q, h.dp, h.dm, h.d12, h.dr1, h.dr2, (World.putObj_heap_other h.pm).trans h.hp, World.putObj_heap_same (lt_of_heap h.hmo), ho, hH,
   h.hR.frame fun b hb q => World.putObj_heap_other fun e => h.dm.1 (e ▸ q), h.hG1.frame fun b hb q => World.putObj_heap_other fun e => h.dm.2.1 (e ▸ q), h.hG2.frame fun b hb q => World.putObj_heap_other fun e => h.dm.2.2 (e ▸ q)⟩
theorem ArcO.on {o' : Obj} (h : ArcO w S p s N M g b1 b2 m l o Sr S1 S2) (id v : Int) (ho : MapBlk .i64 (aset l id (.int .u64 v)) o') : ArcO (w.putObj m o') S p { s with H := setH s.H id v } N M g b1 b2 m (aset l id (.int .u64 v)) o' Sr S1 S2 :=
  h.map ho (fun k => by rw [aget_aset h.hmb.keys]; unfold setH; split; rfl; exact h.hH k)
theorem ArcO.off {o' : Obj} (h : ArcO w S p s N M g b1 b2 m l o Sr S1 S2) (id : Int) (ho : MapBlk .i64 (adel l id) o') : ArcO (w.putObj m o') S p { s with H := setH s.H id 0 } N M g b1 b2 m (adel l id) o' Sr S1 S2 :=
  h.map ho (fun k => by rw [aget_adel h.hmb.keys]; unfold setH; split; rfl; exact h.hH k)
/-- A field turns. -/
theorem ArcO.cell {i : Nat} {v : Value} (h : ArcO w S p s N M g b1 b2 m l o Sr S1 S2) {s' : ArcS} (hs : s'.L = s.L ∧ s'.B1 = s.B1 ∧ s'.B2 = s.B2 ∧ s'.m1 = s.m1 ∧ s'.m2 = s.m2 ∧ s'.H = s.H)
    (hc : (#[.pointer (some ⟨g, 0, none⟩), .pointer (some ⟨b1, 0, none⟩), .pointer (some ⟨b2, 0, none⟩), .int .i64 s.most, .int .i64 s.P, .map (some m)] : Array Value).setIfInBounds i v = #[.pointer (some ⟨g, 0, none⟩), .pointer (some ⟨b1, 0, none⟩), .pointer (some ⟨b2, 0, none⟩), .int .i64 s'.most, .int .i64 s'.P, .map (some m)]) :
    ArcO (w.setCell ⟨p, i, none⟩ v) S p s' N M g b1 b2 m l o Sr S1 S2 := by
  obtain ⟨e1, e2, e3, e4, e5, e6⟩ := hs
  have hne : ∀ b, b ≠ p → (w.setCell ⟨p, i, none⟩ v).heap[b]? = w.heap[b]? := fun b q => heap_setCell_other (p := ⟨p, i, none⟩) q v
  refine ⟨h.hSp, h.hSm, h.hSr, h.hS1, h.hS2, fun b q => ?_, h.dp, h.dm, h.d12, h.dr1, h.dr2, ?_, (hne m (fun e => h.pm e.symm)).trans h.hmo, h.hmb, ?_, ?_, ?_, ?_⟩
  · have := h.hlt b q; simpa [World.setCell] using this
  · rw [heap_setCell_same h.hp, hc]
  · rw [e6]; exact h.hH
  · rw [e1]; exact h.hR.frame fun b hb q => hne b fun e => h.dp.1 (e ▸ q)
  · rw [e2, e4]; exact h.hG1.frame fun b hb q => hne b fun e => h.dp.2.1 (e ▸ q)
  · rw [e3, e5]; exact h.hG2.frame fun b hb q => hne b fun e => h.dp.2.2 (e ▸ q)
theorem ArcO.setMost (h : ArcO w S p s N M g b1 b2 m l o Sr S1 S2) (n : Int) : ArcO (w.setCell ⟨p, 3, none⟩ (.int .i64 n)) S p { s with most := n } N M g b1 b2 m l o Sr S1 S2 :=
  h.cell ⟨rfl, rfl, rfl, rfl, rfl, rfl⟩ (by simp)
theorem ArcO.setP (h : ArcO w S p s N M g b1 b2 m l o Sr S1 S2) (n : Int) : ArcO (w.setCell ⟨p, 4, none⟩ (.int .i64 n)) S p { s with P := n } N M g b1 b2 m l o Sr S1 S2 :=
  h.cell ⟨rfl, rfl, rfl, rfl, rfl, rfl⟩ (by simp)
end
end Go.Proofs.YtgdlndpjfejmcaaGreat.Arc
/- Layer 13 (arc): what each call does, one. -/
namespace Go.Proofs.YtgdlndpjfejmcaaGreat.Arc
open Go.RowKit
set_option linter.unusedVariables false
set_option maxRecDepth 100000
theorem zero_u64 (w : World) : (zeroValue 28).run Tryz.prog w = .ok (.int .u64 0) w := by kernel_rfl
def arc0 : ArcS := ⟨fun _ => [], [], [], 0, 0, 0, 0, fun _ => 0⟩
set_option maxHeartbeats 1000000 in
theorem arc_new (w : World) :
    Calls Tryz.prog 25 #[] w fun e w' => ∃ p, e = .returned (.pointer (some ⟨p, 0, none⟩)) ∧ ArcAt w' (fun b => w.heap.size ≤ b ∧ b < w'.heap.size) p arc0 0 0 ∧ Fr (fun _ => False) w w' := by
  have hmm := @run_makeMap Tryz.prog
  go_enter Tryz.func25, Tryz.ntmps25
  go_wp2_with fail
  refine (rows_new 2 (by decide) (by decide) w).mono ?_
  rintro e w1 ⟨g, rfl, hA, hF⟩
  have H1 := Lib.hid (And.intro hA hF)
  clear hA hF
  go_wp2_with fail
  refine (new_at 0 w1).mono ?_
  rintro e w2 ⟨b1, rfl, hA, hF⟩
  have H2 := Lib.hid (And.intro hA hF)
  clear hA hF
  go_wp2_with fail
  refine (new_at 0 w2).mono ?_
  rintro e w3 ⟨b2, rfl, hA, hF⟩
  have H3 := Lib.hid (And.intro hA hF)
  clear hA hF
  go_wp2
  go_ret
  obtain ⟨hA1, hF1⟩ := H1.out
  obtain ⟨hA2, hF2⟩ := H2.out
  obtain ⟨hA3, hF3⟩ := H3.out
  have z1 := hF1.size
  have z2 := hF2.size
  have z3 := hF3.size
  have hFm : Fr (fun _ => False) w3 ((w3.alloc (.map #[] 0)).alloc (.cells #[.pointer (some ⟨g, 0, none⟩), .pointer (some ⟨b1, 0, none⟩), .pointer (some ⟨b2, 0, none⟩), .int .i64 0, .int .i64 0, .map (some w3.heap.size)] 91)) := ((Fr.refl _ w3).alloc _).alloc _
  have hz : ((w3.alloc (.map #[] 0)).alloc (.cells #[.pointer (some ⟨g, 0, none⟩), .pointer (some ⟨b1, 0, none⟩), .pointer (some ⟨b2, 0, none⟩), .int .i64 0, .int .i64 0, .map (some w3.heap.size)] 91)).heap.size = w3.heap.size + 2 := by simp
  have hfin : ∀ b, b < w3.heap.size → ((w3.alloc (.map #[] 0)).alloc (.cells #[.pointer (some ⟨g, 0, none⟩), .pointer (some ⟨b1, 0, none⟩), .pointer (some ⟨b2, 0, none⟩), .int .i64 0, .int .i64 0, .map (some w3.heap.size)] 91)).heap[b]? = w3.heap[b]? := fun b hb => hFm.block b hb (fun h => h)
  refine ⟨_, rfl, ⟨g, b1, b2, w3.heap.size, [], .map #[] 0, fun b => w.heap.size ≤ b ∧ b < w1.heap.size, fun b => w1.heap.size ≤ b ∧ b < w2.heap.size, fun b => w2.heap.size ≤ b ∧ b < w3.heap.size, ?_⟩, ((hF1.trans hF2 (fun _ _ h => h)).trans hF3 (fun _ _ h => h)).trans hFm (fun _ _ h => h)⟩
  refine ⟨?_, ?_, ?_, ?_, ?_, ?_, ⟨?_, ?_, ?_⟩, ⟨?_, ?_, ?_⟩, ?_, ?_, ?_, ?_, ?_, mapBlk_nil _, fun k => rfl, ?_, ?_, ?_⟩
  · exact ⟨by omega, by rw [hz]; omega⟩
  · exact ⟨by omega, by rw [hz]; omega⟩
  · exact fun b q => ⟨by have := q.1; omega, by have := q.2; rw [hz]; omega⟩
  · exact fun b q => ⟨by have := q.1; omega, by have := q.2; rw [hz]; omega⟩
  · exact fun b q => ⟨by have := q.1; omega, by have := q.2; rw [hz]; omega⟩
  · exact fun b q => by rw [hz]; rcases q with q | q | q <;> (have := q.2; omega)
  · exact fun q => by have := q.2; omega
  · exact fun q => by have := q.2; omega
  · exact fun q => by have := q.2; omega
  · exact fun q => by have := q.2; omega
  · exact fun q => by have := q.2; omega
  · exact fun q => by have := q.2; omega
  · exact fun b q r => by have := q.1; have := r.1; have := q.2; have := r.2; omega
  · exact fun b q r => by have := q.1; have := r.1; have := q.2; have := r.2; omega
  · exact fun b q r => by have := q.1; have := r.1; have := q.2; have := r.2; omega
  · have := heap_alloc_new (w3.alloc (.map #[] 0)) (.cells #[.pointer (some ⟨g, 0, none⟩), .pointer (some ⟨b1, 0, none⟩), .pointer (some ⟨b2, 0, none⟩), .int .i64 0, .int .i64 0, .map (some w3.heap.size)] 91)
    simpa [arc0] using this
  · rw [heap_alloc_old _ (by simp), heap_alloc_new]
  · exact ((hA1.fr hF2 (fun _ _ _ h => h)).fr hF3 (fun _ _ _ h => h)).frame fun b hb q => hfin b hb
  · exact (hA2.fr hF3 (fun _ _ _ h => h)).frame fun b hb q => hfin b hb
  · exact hA3.frame fun b hb q => hfin b hb
theorem arc_touch (S : Nat → Prop) (p : Nat) (s : ArcS) (N M : Nat) (id : Int) (w : World) (h : ArcAt w S p s N M) (hN : N < 1000000) :
    Calls Tryz.prog 110 #[.pointer (some ⟨p, 0, none⟩), .int .i64 id] w fun e w' =>
      e = .returned (.bool (decide (0 ≤ rowOf 2 s.L id))) ∧ ArcAt w' (grow S w w') p (if 0 ≤ rowOf 2 s.L id then { s with L := frontL 2 s.L 1 id } else s) (N + 1) M ∧ Fr S w w' := by
  obtain ⟨g, b1, b2, m, l, o, Sr, S1, S2, h⟩ := h
  have c0 := cell_of_heap h.hp 0
  simp at c0
  have HC := Lib.hid (rows_row Sr g 2 s.L N id w h.hR)
  have HF := Lib.hid (rows_front Sr g 2 s.L N 1 id w h.hR hN)
  by_cases hr : 0 ≤ rowOf 2 s.L id
  · have hm : mayIn 2 1 id = true := by
      by_cases h0 : id ∈ s.L 0
      · exact decide_eq_true ⟨by decide, by decide, h.hR.range (by decide) h0⟩
      · by_cases h1 : id ∈ s.L 1
        · exact decide_eq_true ⟨by decide, by decide, h.hR.range (by decide) h1⟩
        · rw [rowOf_none (fun r hr q => by
            match r, hr, q with
            | 0, _, q => exact h0 q
            | 1, _, q => exact h1 q)] at hr
          exact absurd hr (by decide)
    have HH := Lib.hid (And.intro h hm)
    clear h hm
    have hd : decide (0 ≤ rowOf 2 s.L id) = true := decide_eq_true hr
    rw [hd, if_pos hr]
    obtain ⟨ro, hro⟩ : ∃ ro, rowOf 2 s.L id = ro := ⟨_, rfl⟩
    rw [hro] at hr HC
    clear hd hro
    go_enter Tryz.func110, Tryz.ntmps110
    go_wp2_with fail
    refine HC.out.mono ?_
    rintro e w1 ⟨rfl, rfl⟩
    go_wp2_with fail
    refine HF.out.mono ?_
    rintro e w1 ⟨rfl, hA, hF⟩
    have H1 := Lib.hid (And.intro hA hF)
    clear hA hF
    rw [HH.out.2]
    go_wp2
    go_ret
    exact ⟨rfl, (HH.out.1.rows H1.out.1 H1.out.2).shut, H1.out.2.mono fun b _ q => HH.out.1.hSr b q⟩
  · have HH := Lib.hid h
    clear h
    have hd : decide (0 ≤ rowOf 2 s.L id) = false := decide_eq_false hr
    rw [hd, if_neg hr]
    obtain ⟨ro, hro⟩ : ∃ ro, rowOf 2 s.L id = ro := ⟨_, rfl⟩
    rw [hro] at hr HC
    have hr2 : decide (0 ≤ ro) = false := decide_eq_false hr
    clear hd hro hr
    go_enter Tryz.func110, Tryz.ntmps110
    go_wp2_with fail
    refine HC.out.mono ?_
    rintro e w1 ⟨rfl, rfl⟩
    go_wp2
    go_ret
    exact ⟨rfl, (HH.out.mono fun b _ q => Or.inl q).shut.more (Nat.le_succ _) (Nat.le_refl _), Fr.refl _ _⟩
theorem arc_remove (S : Nat → Prop) (p : Nat) (s : ArcS) (N M : Nat) (id : Int) (w : World) (h : ArcAt w S p s N M) (hN : N ≤ 1000000) :
    Calls Tryz.prog 109 #[.pointer (some ⟨p, 0, none⟩), .int .i64 id] w fun e w' =>
      e = .returned (.bool (decide (0 ≤ rowOf 2 s.L id))) ∧ ArcAt w' (grow S w w') p { s with L := del s.L id, H := setH s.H id 0 } N M ∧ Fr S w w' := by
  obtain ⟨g, b1, b2, m, l, o, Sr, S1, S2, h⟩ := h
  have c0 := cell_of_heap h.hp 0
  have c1 := cell_of_heap h.hp 5
  simp at c0 c1
  have hmo := h.hmo
  have hmb := h.hmb
  have d0 := fun o' : Obj => cell_putObj (w := w) (b := m) o' (p := ⟨p, 0, none⟩) h.pm
  have HH := Lib.hid h
  clear h
  go_enter Tryz.func109, Tryz.ntmps109
  go_wp2_with (first
    | (at_delete; refine wpList_delete_imap rfl _ _ 89 3 rfl 28 .i64 Tryz.underlying89 Tryz.underlying3 m rfl o l hmo hmb id rfl ?_; intro o3 ho3; have HO := Lib.hid (HH.out.off id ho3); clear ho3)
    | (go_at_call 92; refine (rows_take Sr g 2 s.L N id _ HO.out.hR hN).mono ?_; rintro e w1 ⟨rfl, hA, hF⟩; have H1 := Lib.hid (And.intro hA hF); clear hA hF))
  go_ret
  have hsz : (w.putObj m o3).heap.size = w.heap.size := by simp
  refine ⟨rfl, (HO.out.rows H1.out.1 H1.out.2).shut.mono (fun b _ q => q.imp (fun q => q) (fun q => by rw [hsz] at q; exact q)), ?_⟩
  exact ((Fr.refl S w).putObj (fun _ => HH.out.hSm) o3).trans (H1.out.2.mono fun b _ q => HH.out.hSr b q) (fun _ _ q => q)
/-- A ghost's numbers, whatever its number. -/
def ghosts (s : ArcS) (row : Int) : List Int := if row = 0 then s.B1 else if row = 1 then s.B2 else []
end Go.Proofs.YtgdlndpjfejmcaaGreat.Arc
/- Layer 13 (arc): what each call does, two: Cap, Victim, Evict. -/
namespace Go.Proofs.YtgdlndpjfejmcaaGreat.Arc
open Go.RowKit
set_option linter.unusedVariables false
set_option maxRecDepth 100000
/-- Evict, off memory. -/
def evA (s : ArcS) (id : Int) : ArcS :=
  { s with L := del s.L id, H := setH s.H id 0, B1 := if rowOf 2 s.L id = 0 then gadd s.m1 s.B1 (s.H id) else s.B1, B2 := if rowOf 2 s.L id = 1 then gadd s.m2 s.B2 (s.H id) else s.B2 }
def evictA (s : ArcS) (id : Int) : ArcS := if 0 ≤ rowOf 2 s.L id then evA s id else s
set_option maxHeartbeats 1000000 in
theorem arc_evict (S : Nat → Prop) (p : Nat) (s : ArcS) (N M : Nat) (id : Int) (w : World) (h : ArcAt w S p s N M) (hN : N ≤ 1000000) (hM : M < 1000000) :
    Calls Tryz.prog 107 #[.pointer (some ⟨p, 0, none⟩), .int .i64 id] w fun e w' =>
      e = .returned (.bool (decide (0 ≤ rowOf 2 s.L id))) ∧ ArcAt w' (grow S w w') p (evictA s id) N (M + 1) ∧ Fr S w w' := by
  obtain ⟨g, b1, b2, m, l, o, Sr, S1, S2, h⟩ := h
  have c0 := cell_of_heap h.hp 0
  have c1 := cell_of_heap h.hp 1
  have c2 := cell_of_heap h.hp 2
  have c5 := cell_of_heap h.hp 5
  simp at c0 c1 c2 c5
  have hmo := h.hmo
  have hmb := h.hmb
  have HC := Lib.hid (rows_row Sr g 2 s.L N id w h.hR)
  unfold evictA evA
  rcases rowOf_two h.hR id with ⟨hr, hi⟩ | ⟨hr, hi⟩ | ⟨hr, hi⟩
  · rw [hr] at HC ⊢
    have HH := Lib.hid (And.intro h (And.intro hN hM))
    have HR := Lib.hid hr
    clear h hi hr hN hM
    rw [if_pos (by decide), if_pos rfl, if_neg (by decide)]
    go_enter Tryz.func107, Tryz.ntmps107
    go_wp2_with (go_at_call 84; refine HC.out.mono ?_; rintro e w1 ⟨rfl, rfl⟩)
    have HA := Lib.hid (add_at S1 b1 s.m1 s.B1 M (s.H id) w.drew (HH.out.1.hG1.frame fun _ _ _ => rfl) HH.out.2.2)
    go_still_tail 12, (by kernel_rfl)
    refine wpStill_lookup_imap rfl _ _ 89 rfl 3 28 .i64 Tryz.underlying89 Tryz.underlying3 _ (zero_u64 _) m rfl o l hmo hmb id rfl ?_
    refine wpStill_nil ?_
    rw [HH.out.1.hH id]
    go_wp2_with fail
    refine HA.out.mono ?_
    rintro e w1 ⟨rfl, hG, hF⟩
    have H1 := Lib.hid (And.intro (ArcO.one (w := w.drew) (HH.out.1.frame (Nat.le_refl _) fun _ _ _ => rfl) hG hF (Nat.le_succ _)) (Fr.mono (T := S) hF (fun b _ q => HH.out.1.hS1 b q)))
    clear hG hF
    go_wp2_with fail
    refine (arc_remove _ p _ N (M + 1) id w1 H1.out.1.shut HH.out.2.1).mono ?_
    rintro e w2 ⟨rfl, hA, hF⟩
    have H2 := Lib.hid (And.intro hA hF)
    clear hA hF
    go_wp2
    go_ret
    have hz1 : w.heap.size ≤ w1.heap.size := H1.out.2.size
    exact ⟨by show Ending.returned (Value.bool (decide (0 ≤ rowOf 2 s.L id))) = _; rw [HR.out], H2.out.1.mono (fun b _ q => grow_grow (a := w) (b := w1) hz1 H2.out.2.size q), Fr.grown (a := w) (b := w1) ((Fr.refl S w).drew.trans H1.out.2 (fun _ _ q => q)) H2.out.2⟩
  · rw [hr] at HC ⊢
    have HH := Lib.hid (And.intro h (And.intro hN hM))
    have HR := Lib.hid hr
    clear h hi hr hN hM
    rw [if_pos (by decide), if_neg (by decide), if_pos rfl]
    go_enter Tryz.func107, Tryz.ntmps107
    go_wp2_with (go_at_call 84; refine HC.out.mono ?_; rintro e w1 ⟨rfl, rfl⟩)
    have HA := Lib.hid (add_at S2 b2 s.m2 s.B2 M (s.H id) w.drew (HH.out.1.hG2.frame fun _ _ _ => rfl) HH.out.2.2)
    go_still_tail 12, (by kernel_rfl)
    refine wpStill_lookup_imap rfl _ _ 89 rfl 3 28 .i64 Tryz.underlying89 Tryz.underlying3 _ (zero_u64 _) m rfl o l hmo hmb id rfl ?_
    refine wpStill_nil ?_
    rw [HH.out.1.hH id]
    go_wp2_with fail
    refine HA.out.mono ?_
    rintro e w1 ⟨rfl, hG, hF⟩
    have H1 := Lib.hid (And.intro (ArcO.two (w := w.drew) (HH.out.1.frame (Nat.le_refl _) fun _ _ _ => rfl) hG hF (Nat.le_succ _)) (Fr.mono (T := S) hF (fun b _ q => HH.out.1.hS2 b q)))
    clear hG hF
    go_wp2_with fail
    refine (arc_remove _ p _ N (M + 1) id w1 H1.out.1.shut HH.out.2.1).mono ?_
    rintro e w2 ⟨rfl, hA, hF⟩
    have H2 := Lib.hid (And.intro hA hF)
    clear hA hF
    go_wp2
    go_ret
    have hz1 : w.heap.size ≤ w1.heap.size := H1.out.2.size
    exact ⟨by show Ending.returned (Value.bool (decide (0 ≤ rowOf 2 s.L id))) = _; rw [HR.out], H2.out.1.mono (fun b _ q => grow_grow (a := w) (b := w1) hz1 H2.out.2.size q), Fr.grown (a := w) (b := w1) ((Fr.refl S w).drew.trans H1.out.2 (fun _ _ q => q)) H2.out.2⟩
  · rw [hr] at HC ⊢
    have HH := Lib.hid (And.intro h (And.intro hN hM))
    clear h hi hr hN hM
    rw [if_neg (by decide)]
    go_enter Tryz.func107, Tryz.ntmps107
    go_wp2_with (go_at_call 84; refine HC.out.mono ?_; rintro e w1 ⟨rfl, rfl⟩)
    go_ret
    exact ⟨rfl, (HH.out.1.mono fun b _ q => Or.inl q).shut.more (Nat.le_refl _) (Nat.le_succ _), Fr.refl _ _⟩
end Go.Proofs.YtgdlndpjfejmcaaGreat.Arc
/- Layer 13 (arc): what each call does, three: Victim. -/
namespace Go.Proofs.YtgdlndpjfejmcaaGreat.Arc
open Go.RowKit
set_option linter.unusedVariables false
set_option maxRecDepth 100000
/-- Who goes for a number. -/
def victA (s : ArcS) (h : Int) : Int :=
  if s.P < (s.L 0).length ∨ (0 < (s.L 0).length ∧ ((s.L 1).length = 0 ∨ ((s.L 0).length = s.P ∧ h ∈ s.B2))) then lastOf (s.L 0) else lastOf (s.L 1)
set_option maxHeartbeats 3000000 in
theorem arc_victim (S : Nat → Prop) (p : Nat) (s : ArcS) (N M : Nat) (hh : Int) (w : World) (h : ArcAt w S p s N M) :
    Calls Tryz.prog 111 #[.pointer (some ⟨p, 0, none⟩), .int .u64 hh] w fun e w' => e = .returned (.int .i64 (victA s hh)) ∧ ∃ k, w' = w.drewN k := by
  obtain ⟨g, b1, b2, m, l, o, Sr, S1, S2, h⟩ := h
  have c0 := cell_of_heap h.hp 0
  have c2 := cell_of_heap h.hp 2
  have c4 := cell_of_heap h.hp 4
  simp at c0 c2 c4
  have l0 := rows_len Sr g 2 s.L N 0 w h.hR
  have l1 := rows_len Sr g 2 s.L N 1 w h.hR
  have t0 := rows_last Sr g 2 s.L N 0 w h.hR
  have t1 := rows_last Sr g 2 s.L N 1 w h.hR
  have hs := has_at S2 b2 s.m2 s.B2 M hh w h.hG2
  have hle := h.hR.len_le 0
  rw [rowL_0] at l0 t0
  rw [rowL_1] at l1 t1
  unfold victA
  obtain ⟨n0, hn0⟩ : ∃ n, (s.L 0).length = n := ⟨_, rfl⟩
  obtain ⟨n1, hn1⟩ : ∃ n, (s.L 1).length = n := ⟨_, rfl⟩
  obtain ⟨v0, hv0⟩ : ∃ v, lastOf (s.L 0) = v := ⟨_, rfl⟩
  obtain ⟨v1, hv1⟩ : ∃ v, lastOf (s.L 1) = v := ⟨_, rfl⟩
  obtain ⟨P, hP⟩ : ∃ P, s.P = P := ⟨_, rfl⟩
  rw [hn0] at l0
  rw [hn1] at l1
  rw [hv0] at t0
  rw [hv1] at t1
  rw [hn0, hn1, hv0, hv1, hP]
  rw [hP] at c4
  have HL := Lib.hid (And.intro l0 (And.intro l1 (And.intro t0 (And.intro t1 hs))))
  clear h l0 l1 t0 t1 hs hn0 hn1 hv0 hv1 hP
  by_cases h1 : P < (n0 : Int)
  · rw [if_pos (Or.inl h1)]
    clear hle
    go_enter Tryz.func111, Tryz.ntmps111
    go_wp2_with (first
      | (go_at_call 83; refine HL.out.1.mono ?_; rintro e w1 ⟨rfl, rfl⟩)
      | (go_at_call 94; refine HL.out.2.2.1.mono ?_; rintro e w1 ⟨rfl, k, rfl⟩))
    go_ret
    exact ⟨rfl, _, rfl⟩
  · by_cases h2 : 0 < n0
    · by_cases h3 : n1 = 0
      · rw [if_pos (Or.inr ⟨h2, Or.inl h3⟩)]
        subst h3
        have h2' : (0 : Int) < n0 := by omega
        have h1' : decide (P < (n0 : Int)) = false := decide_eq_false h1
        clear h1 hle
        go_enter Tryz.func111, Tryz.ntmps111
        go_wp2_with fail
        refine HL.out.1.mono ?_
        rintro e w1 ⟨rfl, rfl⟩
        go_wp2_with fail
        refine HL.out.2.1.mono ?_
        rintro e w1 ⟨rfl, rfl⟩
        go_wp2_with fail
        refine HL.out.2.2.1.mono ?_
        rintro e w1 ⟨rfl, k, rfl⟩
        go_wp2
        go_ret
        exact ⟨rfl, _, rfl⟩
      · by_cases h4 : (n0 : Int) = P
        · by_cases h5 : hh ∈ s.B2
          · rw [if_pos (Or.inr ⟨h2, Or.inr ⟨h4, h5⟩⟩)]
            have h2' : (0 : Int) < n0 := by omega
            have h3' : ((n1 : Int) == 0) = false := by simpa using h3
            have h1' : decide (P < (n0 : Int)) = false := decide_eq_false h1
            clear h1
            have hd : decide (hh ∈ s.B2) = true := decide_eq_true h5
            rw [hd] at HL
            subst h4
            clear hle h3 h5 hd
            go_enter Tryz.func111, Tryz.ntmps111
            go_wp2_with fail
            refine HL.out.1.mono ?_
            rintro e w1 ⟨rfl, rfl⟩
            go_wp2_with fail
            refine HL.out.2.1.mono ?_
            rintro e w1 ⟨rfl, rfl⟩
            go_wp2_with fail
            refine HL.out.2.2.2.2.mono ?_
            rintro e w1 ⟨rfl, rfl⟩
            go_wp2_with fail
            refine HL.out.2.2.1.mono ?_
            rintro e w1 ⟨rfl, k, rfl⟩
            go_wp2
            go_ret
            exact ⟨rfl, _, rfl⟩
          · rw [if_neg (fun q => q.elim (fun q => h1 q) (fun q => q.2.elim (fun q => h3 q) (fun q => h5 q.2)))]
            have h2' : (0 : Int) < n0 := by omega
            have h3' : ((n1 : Int) == 0) = false := by simpa using h3
            have h1' : decide (P < (n0 : Int)) = false := decide_eq_false h1
            clear h1
            have hd : decide (hh ∈ s.B2) = false := decide_eq_false h5
            rw [hd] at HL
            subst h4
            clear hle h3 h5 hd
            go_enter Tryz.func111, Tryz.ntmps111
            go_wp2_with fail
            refine HL.out.1.mono ?_
            rintro e w1 ⟨rfl, rfl⟩
            go_wp2_with fail
            refine HL.out.2.1.mono ?_
            rintro e w1 ⟨rfl, rfl⟩
            go_wp2_with fail
            refine HL.out.2.2.2.2.mono ?_
            rintro e w1 ⟨rfl, rfl⟩
            go_wp2_with fail
            refine HL.out.2.2.2.1.mono ?_
            rintro e w1 ⟨rfl, k, rfl⟩
            go_wp2
            go_ret
            exact ⟨rfl, _, rfl⟩
        · rw [if_neg (fun q => q.elim (fun q => h1 q) (fun q => q.2.elim (fun q => h3 q) (fun q => h4 q.1)))]
          have h2' : (0 : Int) < n0 := by omega
          have h3' : ((n1 : Int) == 0) = false := by simpa using h3
          have h4' : ((n0 : Int) == P) = false := by simpa using h4
          have h1' : decide (P < (n0 : Int)) = false := decide_eq_false h1
          clear h1 h4
          clear hle h3
          go_enter Tryz.func111, Tryz.ntmps111
          go_wp2_with fail
          refine HL.out.1.mono ?_
          rintro e w1 ⟨rfl, rfl⟩
          go_wp2_with fail
          refine HL.out.2.1.mono ?_
          rintro e w1 ⟨rfl, rfl⟩
          go_wp2_with fail
          refine HL.out.2.2.2.1.mono ?_
          rintro e w1 ⟨rfl, k, rfl⟩
          go_wp2
          go_ret
          exact ⟨rfl, _, rfl⟩
    · rw [if_neg (fun q => q.elim (fun q => h1 q) (fun q => h2 q.1))]
      obtain rfl : n0 = 0 := by omega
      have h1' : decide (P < (0 : Int)) = false := decide_eq_false (by simpa using h1)
      clear hle h2 h1
      go_enter Tryz.func111, Tryz.ntmps111
      go_wp2_with fail
      refine HL.out.1.mono ?_
      rintro e w1 ⟨rfl, rfl⟩
      go_wp2_with fail
      refine HL.out.2.2.2.1.mono ?_
      rintro e w1 ⟨rfl, k, rfl⟩
      go_wp2
      go_ret
      exact ⟨rfl, _, rfl⟩
end Go.Proofs.YtgdlndpjfejmcaaGreat.Arc
