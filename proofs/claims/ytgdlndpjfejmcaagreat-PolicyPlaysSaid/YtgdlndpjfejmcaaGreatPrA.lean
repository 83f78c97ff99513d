/- The reference of layer 15 (policy): its memory, off memory, and what each call does. -/
import Derived.Test.YtgdlndpjfejmcaaGreatSfX
import Derived.Test.YtgdlndpjfejmcaaGreatAfY
import Derived.Test.YtgdlndpjfejmcaaGreatTfZ
import Derived.Test.YtgdlndpjfejmcaaGreatPolK
namespace Go.Proofs.YtgdlndpjfejmcaaGreat
open Go.RowKit
set_option linter.unusedVariables false
inductive RK where
  | pl (L : Nat → List Int)
  | sg (L : Nat → List Int) (Al : List Int)
  | ar (t : Arc.AfS)
  | th (s : Thr.TfS)
namespace RK
def kind : RK → Int
  | pl _ => 0
  | sg _ _ => 1
  | ar _ => 2
  | th _ => 3
def n : RK → Nat
  | pl _ => 1
  | sg _ _ => 3
  | ar _ => 2
  | th _ => 2
def L : RK → Nat → List Int
  | pl L => L
  | sg L _ => L
  | ar t => t.L
  | th s => s.L
def insB : RK → Int → Bool
  | pl L, id => decide (rowOf 1 L id < 0) && mayIn 1 0 id
  | sg L _, id => decide (rowOf 3 L id < 0) && mayIn 3 0 id
  | ar t, id => Arc.insOkF t id
  | th s, id => s.inOk id
def ins : RK → Int → Int → RK
  | pl L, id, _ => pl (insP L id)
  | sg L Al, id, _ => sg (Seg.insL L id) Al
  | ar t, id, h => ar (t.ins id h)
  | th s, id, h => th (if s.inOk id then s.put id h else s)
def touB : RK → Int → Bool
  | pl L, id => decide (0 ≤ rowOf 1 L id) && mayIn 1 0 id
  | sg L _, id => decide (0 ≤ rowOf 3 L id)
  | ar t, id => if 0 ≤ rowOf 2 t.L id then mayIn 2 1 id else false
  | th s, id => (Thr.lk s.H id).isSome
def tou : RK → Int → RK
  | pl L, id => pl (touP L id)
  | sg L Al, id => sg L (if 0 ≤ rowOf 3 L id then Al.filter (· != id) ++ [id] else Al)
  | ar t, id => ar (if 0 ≤ rowOf 2 t.L id then t.front 1 id else t)
  | th s, id => th (s.touch id)
def hasB (k : RK) (id : Int) : Bool := decide (0 ≤ rowOf k.n k.L id)
def rem : RK → Int → RK
  | pl L, id => pl (del L id)
  | sg L Al, id => sg (del L id) (Al.filter (· != id))
  | ar t, id => ar (t.drop id)
  | th s, id => th (s.rem id)
def evi : RK → Int → RK
  | pl L, id => pl (del L id)
  | sg L Al, id => sg (del L id) (Al.filter (· != id))
  | ar t, id => ar (t.evict id)
  | th s, id => th (s.ev id)
def cap : RK → Int → RK
  | pl L, _ => pl L
  | sg L Al, _ => sg L Al
  | ar t, n => ar (t.cap n)
  | th s, n => th (s.cap n)
/-- How many stand. -/
def len : RK → Nat
  | pl L => (L 0).length
  | sg L _ => (L 0).length + (L 1).length + (L 2).length
  | ar t => (t.L 0).length + (t.L 1).length
  | th s => (s.L 0).length + (s.L 1).length
end RK
/-- What the reference's calls ask for. -/
structure ThLim (s : Thr.TfS) : Prop where
  N : ∀ k, (s.L k).length ≤ 1000000
  d : Dsj 2 s.L
  H : s.H.length < 1000000
  nd : (Thr.ids s.H).Nodup
  in_ : ∀ x, x ∈ Thr.ids s.H ↔ 0 ≤ rowOf 2 s.L x
  c : ∀ x ∈ s.H, 0 ≤ x.2.2 ∧ x.2.2 ≤ 3
  B : s.B.length < 1000000
  m : 0 ≤ s.most
def RLim : RK → Prop
  | .pl L => (∀ k, (L k).length ≤ 1000000) ∧ Dsj 1 L
  | .sg L Al => (∀ k, (L k).length ≤ 1000000) ∧ Dsj 3 L ∧ Al.length ≤ 1000000
  | .ar t => Arc.Lim t
  | .th s => ThLim s
theorem RLim.len_le {r : RK} (h : RLim r) (k : Nat) : (r.L k).length ≤ 1000000 := by
  cases r with
  | pl L => exact h.1 k
  | sg L Al => exact h.1 k
  | ar t => exact h.N k
  | th s => exact h.N k
def RIn (r : RK) (a b c d : Nat) (w : World) (S : Nat → Prop) : Prop := match r with
  | .pl L => Rf w S a 1 L
  | .sg L Al => Seg.Sf w S b L Al
  | .ar t => Arc.Af w S c t
  | .th s => Thr.Tf w S d s
structure ROk (w : World) (S : Nat → Prop) (q : Nat) (r : RK) (a b c d : Nat) (Si : Nat → Prop) : Prop where
  hq : S q
  hqi : ¬ Si q
  hi : ∀ x, Si x → S x
  hp : w.heap[q]? = some (.cells #[.int .i64 r.kind, .pointer (some ⟨a, 0, none⟩), .pointer (some ⟨b, 0, none⟩), .pointer (some ⟨c, 0, none⟩), .pointer (some ⟨d, 0, none⟩)] 64 (0, 0))
  hI : RIn r a b c d w Si
def RAt (w : World) (S : Nat → Prop) (q : Nat) (r : RK) : Prop := ∃ a b c d Si, ROk w S q r a b c d Si
section
variable {w w' : World} {S : Nat → Prop} {q : Nat} {r r' : RK} {a b c d : Nat} {Si : Nat → Prop}
theorem RIn.frame (h : RIn r a b c d w S) (hz : w.heap.size ≤ w'.heap.size) (hf : ∀ b, b < w.heap.size → S b → w'.heap[b]? = w.heap[b]?) : RIn r a b c d w' S := by
  cases r with
  | pl L => exact Rf.frame h hf
  | sg L Al => exact Seg.Sf.frame h hz hf
  | ar t => exact Arc.Af.frame h hz hf
  | th s => exact Thr.Tf.frame h hz hf
theorem RIn.mono {S' : Nat → Prop} (h : RIn r a b c d w S) (hS : ∀ b, b < w.heap.size → S b → S' b) : RIn r a b c d w S' := by
  cases r with
  | pl L => exact Rf.mono h hS
  | sg L Al => exact Seg.Sf.mono h hS
  | ar t => exact Arc.Af.mono h hS
  | th s => exact Thr.Tf.mono h hS
theorem ROk.frame (h : ROk w S q r a b c d Si) (hz : w.heap.size ≤ w'.heap.size) (hf : ∀ b, b < w.heap.size → S b → w'.heap[b]? = w.heap[b]?) : ROk w' S q r a b c d Si :=
  ⟨h.hq, h.hqi, h.hi, (hf q (lt_of_heap h.hp) h.hq).trans h.hp, h.hI.frame hz fun b hb q => hf b hb (h.hi b q)⟩
theorem RAt.frame (h : RAt w S q r) (hz : w.heap.size ≤ w'.heap.size) (hf : ∀ b, b < w.heap.size → S b → w'.heap[b]? = w.heap[b]?) : RAt w' S q r := by
  obtain ⟨a, b, c, d, Si, h⟩ := h; exact ⟨a, b, c, d, Si, h.frame hz hf⟩
theorem ROk.drewN (h : ROk w S q r a b c d Si) (k : Nat) : ROk (w.drewN k) S q r a b c d Si := h.frame (Nat.le_refl _) fun _ _ _ => rfl
theorem ROk.cells (h : ROk w S q r a b c d Si) : w.cell? ⟨q, 0, none⟩ = some (.int .i64 r.kind) ∧ w.cell? ⟨q, 1, none⟩ = some (.pointer (some ⟨a, 0, none⟩)) ∧ w.cell? ⟨q, 2, none⟩ = some (.pointer (some ⟨b, 0, none⟩)) ∧ w.cell? ⟨q, 3, none⟩ = some (.pointer (some ⟨c, 0, none⟩)) ∧ w.cell? ⟨q, 4, none⟩ = some (.pointer (some ⟨d, 0, none⟩)) ∧ q < w.heap.size := by
  have e := cell_of_heap h.hp
  have e0 := e 0
  have e1 := e 1
  have e2 := e 2
  have e3 := e 3
  have e4 := e 4
  simp at e0 e1 e2 e3 e4
  exact ⟨e0, e1, e2, e3, e4, lt_of_heap h.hp⟩
/-- The kind turns. -/
theorem ROk.turn (h : ROk w S q r a b c d Si) (hk : r'.kind = r.kind) (hI : RIn r' a b c d w' (grow Si w w')) (hF : Fr Si w w') : RAt w' (grow S w w') q r' ∧ Fr S w w' :=
  ⟨⟨a, b, c, d, grow Si w w', Or.inl h.hq, fun x => x.elim h.hqi (fun x => by have := lt_of_heap h.hp; omega), fun x y => y.imp (h.hi x) (fun y => y), by rw [hk]; exact (hF.block q (lt_of_heap h.hp) h.hqi).trans h.hp, hI⟩, hF.mono fun x _ y => h.hi x y⟩
theorem ROk.same (h : ROk w S q r a b c d Si) : RAt w (grow S w w) q r ∧ Fr S w w := ⟨⟨a, b, c, d, Si, Or.inl h.hq, h.hqi, fun x y => Or.inl (h.hi x y), h.hp, h.hI⟩, Fr.refl _ _⟩
/-- Where the rows of a kind lie. -/
def RowAt (r : RK) (a b c d g : Nat) (w : World) : Prop := match r with
  | .pl _ => g = a
  | .sg _ _ => w.cell? ⟨b, 0, none⟩ = some (.pointer (some ⟨g, 0, none⟩))
  | .ar _ => w.cell? ⟨c, 0, none⟩ = some (.pointer (some ⟨g, 0, none⟩))
  | .th _ => w.cell? ⟨d, 0, none⟩ = some (.pointer (some ⟨g, 0, none⟩))
theorem RIn.rows (h : RIn r a b c d w S) : ∃ g Sr, Rf w Sr g r.n r.L ∧ RowAt r a b c d g w := by
  cases r with
  | pl L => exact ⟨a, S, h, rfl⟩
  | sg L Al => obtain ⟨g, sv, Sr, Sa, h⟩ := h; exact ⟨g, Sr, h.hR, h.cells.1⟩
  | ar t => obtain ⟨g, b1, b2, sv, Z, h⟩ := h; exact ⟨g, Z 0, h.hR, h.cells.1⟩
  | th s => obtain ⟨g, b1, sv, Z, h⟩ := h; exact ⟨g, Z 0, h.hR, h.cells.1⟩
theorem rk_has (h : RAt w S q r) (id : Int) (hL : RLim r) :
    Calls Tryz.prog 22 #[.pointer (some ⟨q, 0, none⟩), .int .i64 id] w fun e w' => e = .returned (.bool (r.hasB id)) ∧ w = w' := by
  obtain ⟨a, b, c, d, Si, h⟩ := h
  obtain ⟨c0, c1, c2, c3, c4, hs⟩ := h.cells
  obtain ⟨g, Sr, hR, hg⟩ := h.hI.rows
  have HR := Lib.hid (rf_row Sr g r.n r.L id w hR hL.len_le)
  clear h hs
  obtain ⟨z, hz⟩ : ∃ z, rowOf r.n r.L id = z := ⟨_, rfl⟩
  unfold RK.hasB
  rw [hz] at HR ⊢
  clear hL hR hz
  cases r with
  | pl L =>
    simp only [RK.kind] at c0
    simp only [RowAt] at hg
    subst hg
    go_enter Tryz.func22, Tryz.ntmps22
    go_wp2_with fail
    refine HR.out.mono ?_
    rintro e y ⟨rfl, rfl⟩
    go_wp2
    go_ret
    exact ⟨rfl, rfl⟩
  | sg L Al =>
    simp only [RK.kind] at c0
    simp only [RowAt] at hg
    go_enter Tryz.func22, Tryz.ntmps22
    go_wp2_with fail
    refine HR.out.mono ?_
    rintro e y ⟨rfl, rfl⟩
    go_wp2
    go_ret
    exact ⟨rfl, rfl⟩
  | ar t =>
    simp only [RK.kind] at c0
    simp only [RowAt] at hg
    go_enter Tryz.func22, Tryz.ntmps22
    go_wp2_with fail
    refine HR.out.mono ?_
    rintro e y ⟨rfl, rfl⟩
    go_wp2
    go_ret
    exact ⟨rfl, rfl⟩
  | th s =>
    simp only [RK.kind] at c0
    simp only [RowAt] at hg
    go_enter Tryz.func22, Tryz.ntmps22
    go_wp2_with fail
    refine HR.out.mono ?_
    rintro e y ⟨rfl, rfl⟩
    go_wp2
    go_ret
    exact ⟨rfl, rfl⟩
end
end Go.Proofs.YtgdlndpjfejmcaaGreat
