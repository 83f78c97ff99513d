/- Layer 15 (policy): one of four kinds, off memory and in memory: what each call does. -/
import Derived.Test.YtgdlndpjfejmcaaGreatPolG
import Derived.Test.YtgdlndpjfejmcaaGreatPTb
import Derived.Test.YtgdlndpjfejmcaaGreatPXc
import Derived.Test.YtgdlndpjfejmcaaGreatPSb
namespace Go.Proofs.YtgdlndpjfejmcaaGreat
open Go.RowKit
set_option linter.unusedVariables false
set_option maxRecDepth 100000
inductive PK where
  | pl (L : Nat → List Int)
  | sg (L : Nat → List Int) (A : Int → Bool)
  | ar (s : Arc.ArcS)
  | th (s : Thr.ThS)
namespace PK
def n : PK → Nat
  | pl _ => 1
  | sg _ _ => 3
  | ar _ => 2
  | th _ => 2
def L : PK → Nat → List Int
  | pl L => L
  | sg L _ => L
  | ar s => s.L
  | th s => s.L
def insB : PK → Int → Bool
  | pl L, id => decide (rowOf 1 L id < 0) && mayIn 1 0 id
  | sg L _, id => decide (rowOf 3 L id < 0) && mayIn 3 0 id
  | ar s, id => Arc.insOk s id
  | th s, id => Thr.inOk s id
def ins : PK → Int → Int → PK
  | pl L, id, _ => pl (insP L id)
  | sg L A, id, _ => sg (Seg.insL L id) A
  | ar s, id, h => ar (Arc.insA s id h)
  | th s, id, h => th (Thr.inT s id h)
def touB : PK → Int → Bool
  | pl L, id => decide (0 ≤ rowOf 1 L id) && mayIn 1 0 id
  | sg L _, id => decide (0 ≤ rowOf 3 L id)
  | ar s, id => decide (0 ≤ rowOf 2 s.L id)
  | th s, id => (s.K id).isSome
def tou : PK → Int → PK
  | pl L, id => pl (touP L id)
  | sg L A, id => sg L (Seg.touA L A id)
  | ar s, id => ar (Arc.touchA s id)
  | th s, id => th (Thr.touchT s id)
def hasB (k : PK) (id : Int) : Bool := decide (0 ≤ rowOf k.n k.L id)
def rem : PK → Int → PK
  | pl L, id => pl (del L id)
  | sg L A, id => sg (del L id) (Seg.setB' A id false)
  | ar s, id => ar (Arc.remA s id)
  | th s, id => th (Thr.remT s id)
def evi : PK → Int → PK
  | pl L, id => pl (del L id)
  | sg L A, id => sg (del L id) (Seg.setB' A id false)
  | ar s, id => ar (Arc.evictA s id)
  | th s, id => th (Thr.evT s id)
def cap : PK → Int → PK
  | pl L, _ => pl L
  | sg L A, _ => sg L A
  | ar s, n => ar (Arc.capA s n)
  | th s, n => th (Thr.capT s n)
def vicI : PK → Int → Int
  | pl L, _ => lastOf (L 0)
  | sg L A, _ => Seg.vict (stpN 5 (L, A)).1
  | ar s, h => Arc.victA s h
  | th s, _ => (Thr.vicT s).2
def vicS : PK → PK
  | pl L => pl L
  | sg L A => sg (stpN 5 (L, A)).1 (stpN 5 (L, A)).2
  | ar s => ar s
  | th s => th (Thr.vicT s).1
/-- What looking for who is to go may cost. -/
def cost : PK → Nat
  | pl _ => 0
  | sg _ _ => 5
  | ar _ => 0
  | th s => Thr.measT s
/-- Where insertion is told. -/
def fit : PK → Prop
  | ar s => 0 ≤ s.P ∧ s.P ≤ 1000000000000
  | _ => True
def len (k : PK) : Nat := (k.L 0).length + (k.L 1).length + (k.L 2).length
end PK
def Inn (k : PK) (N M : Nat) (T : TypeId) (x : Value) (w : World) (S : Nat → Prop) : Prop := match k with
  | .pl L => T = 40 ∧ ∃ q, x = one q ∧ RowsAt w S q 1 L N
  | .sg L A => T = 48 ∧ ∃ q, x = one q ∧ Seg.SegAt w S q L A N
  | .ar s => T = 49 ∧ ∃ q, x = ptr q ∧ Arc.ArcAt w S q s N M
  | .th s => T = 54 ∧ ∃ q, x = one q ∧ Thr.ThAt w S q s N M
def PolAt (w : World) (S : Nat → Prop) (p : Nat) (k : PK) (N M : Nat) : Prop := ∃ T x Si, S p ∧ ¬ Si p ∧ (∀ b, Si b → S b) ∧ w.heap[p]? = some (.cells #[.iface T x] 44 (0, 0)) ∧ Inn k N M T x w Si
section
variable {w w' : World} {S : Nat → Prop} {p : Nat} {k : PK} {N N' M M' : Nat} {T : TypeId} {x : Value}
theorem Inn.frame (h : Inn k N M T x w S) (hz : w.heap.size ≤ w'.heap.size) (hf : ∀ b, b < w.heap.size → S b → w'.heap[b]? = w.heap[b]?) : Inn k N M T x w' S := by
  cases k with
  | pl L => obtain ⟨hT, q, hx, h⟩ := h; exact ⟨hT, q, hx, h.frame hf⟩
  | sg L A => obtain ⟨hT, q, hx, h⟩ := h; exact ⟨hT, q, hx, h.frame hf⟩
  | ar s => obtain ⟨hT, q, hx, h⟩ := h; exact ⟨hT, q, hx, h.frame hz hf⟩
  | th s => obtain ⟨hT, q, hx, h⟩ := h; exact ⟨hT, q, hx, h.frame hz hf⟩
theorem Inn.mono {S' : Nat → Prop} (h : Inn k N M T x w S) (hS : ∀ b, b < w.heap.size → S b → S' b) : Inn k N M T x w S' := by
  cases k with
  | pl L => obtain ⟨hT, q, hx, h⟩ := h; exact ⟨hT, q, hx, h.mono hS⟩
  | sg L A => obtain ⟨hT, q, hx, h⟩ := h; exact ⟨hT, q, hx, h.mono hS⟩
  | ar s => obtain ⟨hT, q, hx, h⟩ := h; exact ⟨hT, q, hx, h.mono hS⟩
  | th s => obtain ⟨hT, q, hx, h⟩ := h; exact ⟨hT, q, hx, h.mono hS⟩
theorem Inn.more (h : Inn k N M T x w S) (hN : N ≤ N') (hM : M ≤ M') : Inn k N' M' T x w S := by
  cases k with
  | pl L => obtain ⟨hT, q, hx, h⟩ := h; exact ⟨hT, q, hx, h.more hN⟩
  | sg L A => obtain ⟨hT, q, hx, h⟩ := h; exact ⟨hT, q, hx, h.more hN⟩
  | ar s => obtain ⟨hT, q, hx, h⟩ := h; exact ⟨hT, q, hx, h.more hN hM⟩
  | th s => obtain ⟨hT, q, hx, h⟩ := h; exact ⟨hT, q, hx, h.more hN hM⟩
theorem Inn.alloc (h : Inn k N M T x w S) (o : Obj) : Inn k N M T x (w.alloc o) S := h.frame (by simp) fun b hb _ => heap_alloc_old _ hb
theorem Inn.drewN (h : Inn k N M T x w S) (j : Nat) : Inn k N M T x (w.drewN j) S := h.frame (Nat.le_refl _) fun _ _ _ => rfl
/-- The rows, and where Row and Len go. -/
theorem Inn.rows (h : Inn k N M T x w S) : ∃ g Sr, RowsAt w Sr g k.n k.L N ∧ (∀ D j, (method (D + 1) T x "Len").run Tryz.prog (w.drewN j) = .ok (83, .pointer (some ⟨g, 0, none⟩)) (w.drewN j)) ∧ (∀ D j, (method (D + 1) T x "Row").run Tryz.prog (w.drewN j) = .ok (84, .pointer (some ⟨g, 0, none⟩)) (w.drewN j)) := by
  cases k with
  | pl L => obtain ⟨rfl, q, rfl, h⟩ := h; exact ⟨q, S, h, fun D j => goes0_len _ _ D, fun D j => goes0_row _ _ D⟩
  | sg L A =>
    obtain ⟨rfl, q, rfl, h⟩ := h
    obtain ⟨g, Sr, hR, hc, _⟩ := Seg.SegAt.rowsAt h
    exact ⟨g, Sr, hR, fun D j => goes1_len (w.drewN j) _ _ hc D, fun D j => goes1_row (w.drewN j) _ _ hc D⟩
  | ar s =>
    obtain ⟨rfl, q, rfl, h⟩ := h
    obtain ⟨g, b1, b2, m, l, o, Sr, S1, S2, hO⟩ := h
    have c0 := cell_of_heap hO.hp 0
    simp at c0
    exact ⟨g, Sr, hO.hR, fun D j => goes2_len (w.drewN j) _ _ c0 D, fun D j => goes2_row (w.drewN j) _ _ c0 D⟩
  | th s =>
    obtain ⟨rfl, q, rfl, h⟩ := h
    obtain ⟨⟨g, b1, m, l, o, Sr, Sg, Sk, hO⟩, _⟩ := h
    have c0 := cell_of_heap hO.hp 0
    simp at c0
    exact ⟨g, Sr, hO.hR, fun D j => goes3_len (w.drewN j) _ _ c0 D, fun D j => goes3_row (w.drewN j) _ _ c0 D⟩
theorem PolAt.frame (h : PolAt w S p k N M) (hz : w.heap.size ≤ w'.heap.size) (hf : ∀ b, b < w.heap.size → S b → w'.heap[b]? = w.heap[b]?) : PolAt w' S p k N M := by
  obtain ⟨T, x, Si, h1, h2, h3, h4, h5⟩ := h
  exact ⟨T, x, Si, h1, h2, h3, (hf p (lt_of_heap h4) h1).trans h4, h5.frame hz fun b hb q => hf b hb (h3 b q)⟩
theorem PolAt.more (h : PolAt w S p k N M) (hN : N ≤ N') (hM : M ≤ M') : PolAt w S p k N' M' := by
  obtain ⟨T, x, Si, h1, h2, h3, h4, h5⟩ := h
  exact ⟨T, x, Si, h1, h2, h3, h4, h5.more hN hM⟩
/-- The kind turns. -/
theorem pol_turn {Si : Nat → Prop} {k' : PK} (h1 : S p) (h2 : ¬ Si p) (h3 : ∀ b, Si b → S b) (h4 : w.heap[p]? = some (.cells #[.iface T x] 44 (0, 0))) (hI : Inn k' N' M' T x w' (grow Si w w')) (hF : Fr Si w w') : PolAt w' (grow S w w') p k' N' M' ∧ Fr S w w' :=
  ⟨⟨T, x, grow Si w w', Or.inl h1, fun q => q.elim h2 (fun q => by have := lt_of_heap h4; omega), fun b q => q.imp (h3 b) (fun q => q), (hF.block p (lt_of_heap h4) h2).trans h4, hI⟩, hF.mono fun b _ q => h3 b q⟩
theorem pol_cell (h4 : w.heap[p]? = some (.cells #[.iface T x] 44 (0, 0))) : w.cell? ⟨p, 0, none⟩ = some (.iface T x) := by
  have c0 := cell_of_heap h4 0
  simpa only [List.getElem?_toArray, List.getElem?_cons_zero] using c0
theorem pk_insert (h : PolAt w S p k N M) (id hh : Int) (hN : N < 1000000) (hM : M ≤ 1000000) (hk : k.fit) :
    Calls Tryz.prog 7 #[.pointer (some ⟨p, 0, none⟩), .int .i64 id, .int .u64 hh] w fun e w' => e = .returned (.bool (k.insB id)) ∧ PolAt w' (grow S w w') p (k.ins id hh) (N + 1) (M) ∧ Fr S w w' := by
  obtain ⟨T, x, Si, h1, h2, h3, h4, h5⟩ := h
  have hc := pol_cell h4
  cases k with
  | pl L =>
    obtain ⟨rfl, q, rfl, h⟩ := h5
    refine pol_insert p _ _ _ _ w _ hc id hh (goes0_insert w q) ((plain_insert Si q L N w id hh h hN).mono ?_)
    rintro e w1 ⟨rfl, hA, hF⟩
    exact ⟨_, rfl, rfl, pol_turn h1 h2 h3 h4 (show Inn (PK.pl (insP L id)) (N + 1) (M) _ _ w1 (grow Si w w1) from ⟨rfl, q, rfl, hA⟩) hF⟩
  | sg L A =>
    obtain ⟨rfl, q, rfl, h⟩ := h5
    refine pol_insert p _ _ _ _ w _ hc id hh (goes1_insert w q) ((segm_insert Si q L A N w id hh h hN).mono ?_)
    rintro e w1 ⟨rfl, hA, hF⟩
    exact ⟨_, rfl, rfl, pol_turn h1 h2 h3 h4 (show Inn (PK.sg (Seg.insL L id) A) (N + 1) (M) _ _ w1 (grow Si w w1) from ⟨rfl, q, rfl, hA⟩) hF⟩
  | ar s =>
    obtain ⟨rfl, q, rfl, h⟩ := h5
    refine pol_insert p _ _ _ _ w _ hc id hh (goes2_insert w q) ((Arc.arc_insert Si q s N M id hh w h hN hM hk).mono ?_)
    rintro e w1 ⟨rfl, hA, hF⟩
    exact ⟨_, rfl, rfl, pol_turn h1 h2 h3 h4 (show Inn (PK.ar (Arc.insA s id hh)) (N + 1) (M) _ _ w1 (grow Si w w1) from ⟨rfl, q, rfl, hA⟩) hF⟩
  | th s =>
    obtain ⟨rfl, q, rfl, h⟩ := h5
    refine pol_insert p _ _ _ _ w _ hc id hh (goes3_insert w q) ((Thr.th_insert Si q s N M id hh w h hN hM).mono ?_)
    rintro e w1 ⟨rfl, hA, hF⟩
    exact ⟨_, rfl, rfl, pol_turn h1 h2 h3 h4 (show Inn (PK.th (Thr.inT s id hh)) (N + 1) (M) _ _ w1 (grow Si w w1) from ⟨rfl, q, rfl, hA⟩) hF⟩
theorem pk_touch (h : PolAt w S p k N M) (id : Int) (hN : N < 1000000) :
    Calls Tryz.prog 9 #[.pointer (some ⟨p, 0, none⟩), .int .i64 id] w fun e w' => e = .returned (.bool (k.touB id)) ∧ PolAt w' (grow S w w') p (k.tou id) (N + 1) (M) ∧ Fr S w w' := by
  obtain ⟨T, x, Si, h1, h2, h3, h4, h5⟩ := h
  have hc := pol_cell h4
  cases k with
  | pl L =>
    obtain ⟨rfl, q, rfl, h⟩ := h5
    refine pol_touch p _ _ _ _ w _ hc id (goes0_touch w q) ((plain_touch Si q L N w id h hN).mono ?_)
    rintro e w1 ⟨rfl, hA, hF⟩
    exact ⟨_, rfl, rfl, pol_turn h1 h2 h3 h4 (show Inn (PK.pl (touP L id)) (N + 1) (M) _ _ w1 (grow Si w w1) from ⟨rfl, q, rfl, hA⟩) hF⟩
  | sg L A =>
    obtain ⟨rfl, q, rfl, h⟩ := h5
    refine pol_touch p _ _ _ _ w _ hc id (goes1_touch w q) ((Seg.seg_touch Si q L A N id w h).mono ?_)
    rintro e w1 ⟨rfl, hA, hF⟩
    exact ⟨_, rfl, rfl, pol_turn h1 h2 h3 h4 (show Inn (PK.sg L (Seg.touA L A id)) (N + 1) (M) _ _ w1 (grow Si w w1) from ⟨rfl, q, rfl, (hA.mono fun b _ q => Or.inl q).more (Nat.le_succ _)⟩) hF⟩
  | ar s =>
    obtain ⟨rfl, q, rfl, h⟩ := h5
    refine pol_touch p _ _ _ _ w _ hc id (goes2_touch w q) ((Arc.arc_touch Si q s N M id w h hN).mono ?_)
    rintro e w1 ⟨rfl, hA, hF⟩
    exact ⟨_, rfl, rfl, pol_turn h1 h2 h3 h4 (show Inn (PK.ar (Arc.touchA s id)) (N + 1) (M) _ _ w1 (grow Si w w1) from ⟨rfl, q, rfl, hA⟩) hF⟩
  | th s =>
    obtain ⟨rfl, q, rfl, h⟩ := h5
    refine pol_touch p _ _ _ _ w _ hc id (goes3_touch w q) ((Thr.th_touch Si q s N M id w h).mono ?_)
    rintro e w1 ⟨rfl, hA, hF, _⟩
    exact ⟨_, rfl, rfl, pol_turn h1 h2 h3 h4 (show Inn (PK.th (Thr.touchT s id)) (N + 1) (M) _ _ w1 (grow Si w w1) from ⟨rfl, q, rfl, (hA.mono fun b _ q => Or.inl q).more (Nat.le_succ _) (Nat.le_refl _)⟩) hF⟩
theorem pk_remove (h : PolAt w S p k N M) (id : Int) (hN : N ≤ 1000000) :
    Calls Tryz.prog 11 #[.pointer (some ⟨p, 0, none⟩), .int .i64 id] w fun e w' => e = .returned (.bool (k.hasB id)) ∧ PolAt w' (grow S w w') p (k.rem id) (N) (M) ∧ Fr S w w' := by
  obtain ⟨T, x, Si, h1, h2, h3, h4, h5⟩ := h
  have hc := pol_cell h4
  cases k with
  | pl L =>
    obtain ⟨rfl, q, rfl, h⟩ := h5
    refine pol_remove p _ _ _ _ w _ hc id (goes0_remove w q) ((plain_remove Si q L N w id h hN).mono ?_)
    rintro e w1 ⟨rfl, hA, hF⟩
    exact ⟨_, rfl, rfl, pol_turn h1 h2 h3 h4 (show Inn (PK.pl (del L id)) (N) (M) _ _ w1 (grow Si w w1) from ⟨rfl, q, rfl, hA⟩) hF⟩
  | sg L A =>
    obtain ⟨rfl, q, rfl, h⟩ := h5
    refine pol_remove p _ _ _ _ w _ hc id (goes1_remove w q) ((Seg.seg_remove Si q L A N id w h hN).mono ?_)
    rintro e w1 ⟨rfl, hA, hF⟩
    exact ⟨_, rfl, rfl, pol_turn h1 h2 h3 h4 (show Inn (PK.sg (del L id) (Seg.setB' A id false)) (N) (M) _ _ w1 (grow Si w w1) from ⟨rfl, q, rfl, hA⟩) hF⟩
  | ar s =>
    obtain ⟨rfl, q, rfl, h⟩ := h5
    refine pol_remove p _ _ _ _ w _ hc id (goes2_remove w q) ((Arc.arc_remove Si q s N M id w h hN).mono ?_)
    rintro e w1 ⟨rfl, hA, hF⟩
    exact ⟨_, rfl, rfl, pol_turn h1 h2 h3 h4 (show Inn (PK.ar (Arc.remA s id)) (N) (M) _ _ w1 (grow Si w w1) from ⟨rfl, q, rfl, hA⟩) hF⟩
  | th s =>
    obtain ⟨rfl, q, rfl, h⟩ := h5
    refine pol_remove p _ _ _ _ w _ hc id (goes3_remove w q) ((Thr.th_remove Si q s N M id w h hN).mono ?_)
    rintro e w1 ⟨rfl, hA, hF⟩
    exact ⟨_, rfl, rfl, pol_turn h1 h2 h3 h4 (show Inn (PK.th (Thr.remT s id)) (N) (M) _ _ w1 (grow Si w w1) from ⟨rfl, q, rfl, hA⟩) hF⟩
theorem pk_evict (h : PolAt w S p k N M) (id : Int) (hN : N ≤ 1000000) (hM : M < 1000000) :
    Calls Tryz.prog 13 #[.pointer (some ⟨p, 0, none⟩), .int .i64 id] w fun e w' => e = .returned (.bool (k.hasB id)) ∧ PolAt w' (grow S w w') p (k.evi id) (N) (M + 1) ∧ Fr S w w' := by
  obtain ⟨T, x, Si, h1, h2, h3, h4, h5⟩ := h
  have hc := pol_cell h4
  cases k with
  | pl L =>
    obtain ⟨rfl, q, rfl, h⟩ := h5
    refine pol_evict p _ _ _ _ w _ hc id (goes0_evict w q) ((plain_evict Si q L N w id h hN).mono ?_)
    rintro e w1 ⟨rfl, hA, hF⟩
    exact ⟨_, rfl, rfl, pol_turn h1 h2 h3 h4 (show Inn (PK.pl (del L id)) (N) (M + 1) _ _ w1 (grow Si w w1) from ⟨rfl, q, rfl, hA⟩) hF⟩
  | sg L A =>
    obtain ⟨rfl, q, rfl, h⟩ := h5
    refine pol_evict p _ _ _ _ w _ hc id (goes1_evict w q) ((segm_evict Si q L A N w id h hN).mono ?_)
    rintro e w1 ⟨rfl, hA, hF⟩
    exact ⟨_, rfl, rfl, pol_turn h1 h2 h3 h4 (show Inn (PK.sg (del L id) (Seg.setB' A id false)) (N) (M + 1) _ _ w1 (grow Si w w1) from ⟨rfl, q, rfl, hA⟩) hF⟩
  | ar s =>
    obtain ⟨rfl, q, rfl, h⟩ := h5
    refine pol_evict p _ _ _ _ w _ hc id (goes2_evict w q) ((Arc.arc_evict Si q s N M id w h hN hM).mono ?_)
    rintro e w1 ⟨rfl, hA, hF⟩
    exact ⟨_, rfl, rfl, pol_turn h1 h2 h3 h4 (show Inn (PK.ar (Arc.evictA s id)) (N) (M + 1) _ _ w1 (grow Si w w1) from ⟨rfl, q, rfl, hA⟩) hF⟩
  | th s =>
    obtain ⟨rfl, q, rfl, h⟩ := h5
    refine pol_evict p _ _ _ _ w _ hc id (goes3_evict w q) ((Thr.th_evict Si q s N M id w h hN hM).mono ?_)
    rintro e w1 ⟨rfl, hA, hF⟩
    exact ⟨_, rfl, rfl, pol_turn h1 h2 h3 h4 (show Inn (PK.th (Thr.evT s id)) (N) (M + 1) _ _ w1 (grow Si w w1) from ⟨rfl, q, rfl, hA⟩) hF⟩
theorem pk_victim (h : PolAt w S p k N M) (hh : Int) (hN : N + k.cost < 1000000) :
    Calls Tryz.prog 18 #[.pointer (some ⟨p, 0, none⟩), .int .u64 hh] w fun e w' => e = .returned (.int .i64 (k.vicI hh)) ∧ PolAt w' (grow S w w') p (k.vicS) (N + k.cost) (M) ∧ Fr S w w' := by
  obtain ⟨T, x, Si, h1, h2, h3, h4, h5⟩ := h
  have hc := pol_cell h4
  cases k with
  | pl L =>
    obtain ⟨rfl, q, rfl, h⟩ := h5
    refine pol_victim p _ _ _ _ w _ hc hh (goes0_victim w q) ((plain_victim Si q L N w hh h).mono ?_)
    rintro e w1 ⟨rfl, hA, hF⟩
    exact ⟨_, rfl, rfl, pol_turn h1 h2 h3 h4 (show Inn (PK.pl L) (N) (M) _ _ w1 (grow Si w w1) from ⟨rfl, q, rfl, hA⟩) hF⟩
  | sg L A =>
    obtain ⟨rfl, q, rfl, h⟩ := h5
    refine pol_victim p _ _ _ _ w _ hc hh (goes1_victim w q) ((segm_victim Si q L A N w hh h hN).mono ?_)
    rintro e w1 ⟨rfl, hA, hF⟩
    exact ⟨_, rfl, rfl, pol_turn h1 h2 h3 h4 (show Inn (PK.sg (stpN 5 (L, A)).1 (stpN 5 (L, A)).2) (N + 5) (M) _ _ w1 (grow Si w w1) from ⟨rfl, q, rfl, hA⟩) hF⟩
  | ar s =>
    obtain ⟨rfl, q, rfl, h⟩ := h5
    refine pol_victim p _ _ _ _ w _ hc hh (goes2_victim w q) ((Arc.arc_victim Si q s N M hh w h).mono ?_)
    rintro e w1 ⟨rfl, j, rfl⟩
    exact ⟨_, rfl, rfl, pol_turn h1 h2 h3 h4 (show Inn (PK.ar s) N M _ _ (w.drewN j) (grow Si w (w.drewN j)) from ⟨rfl, q, rfl, Arc.ArcAt.mono (S' := grow Si w (w.drewN j)) (h.frame (Nat.le_refl _) fun _ _ _ => rfl) fun b _ q => Or.inl q⟩) ((Fr.refl Si w).drewN j)⟩
  | th s =>
    obtain ⟨rfl, q, rfl, h⟩ := h5
    refine pol_victim p _ _ _ _ w _ hc hh (goes3_victim w q) ((three_victim Si q N w s M hh h hN).mono ?_)
    rintro e w1 ⟨rfl, hA, hF⟩
    exact ⟨_, rfl, rfl, pol_turn h1 h2 h3 h4 (show Inn (PK.th (Thr.vicT s).1) (N + Thr.measT s) (M) _ _ w1 (grow Si w w1) from ⟨rfl, q, rfl, hA⟩) hF⟩
theorem pk_cap (h : PolAt w S p k N M) (n : Int) (hM : M ≤ 1000000) :
    Calls Tryz.prog 15 #[.pointer (some ⟨p, 0, none⟩), .int .i64 n] w fun e w' => e = .returned (.tuple #[]) ∧ PolAt w' (grow S w w') p (k.cap n) (N) (M) ∧ Fr S w w' := by
  obtain ⟨T, x, Si, h1, h2, h3, h4, h5⟩ := h
  have hc := pol_cell h4
  cases k with
  | pl L =>
    obtain ⟨rfl, q, rfl, h⟩ := h5
    refine pol_cap p _ _ _ _ w _ hc n (goes0_cap w q) ((plain_cap q w n).mono ?_)
    rintro e w1 ⟨rfl, o, rfl⟩
    exact ⟨rfl, rfl, pol_turn h1 h2 h3 h4 (show Inn (PK.pl L) N M _ _ (w.alloc o) (grow Si w (w.alloc o)) from ⟨rfl, q, rfl, (rows_alloc h o).mono fun b _ q => Or.inl q⟩) ((Fr.refl Si w).alloc o)⟩
  | sg L A =>
    obtain ⟨rfl, q, rfl, h⟩ := h5
    refine pol_cap p _ _ _ _ w _ hc n (goes1_cap w q) ((segm_cap q w n).mono ?_)
    rintro e w1 ⟨rfl, o, rfl⟩
    exact ⟨rfl, rfl, pol_turn h1 h2 h3 h4 (show Inn (PK.sg L A) N M _ _ (w.alloc o) (grow Si w (w.alloc o)) from ⟨rfl, q, rfl, (seg_alloc h o).mono fun b _ q => Or.inl q⟩) ((Fr.refl Si w).alloc o)⟩
  | ar s =>
    obtain ⟨rfl, q, rfl, h⟩ := h5
    refine pol_cap p _ _ _ _ w _ hc n (goes2_cap w q) ((Arc.arc_cap Si q s N M n w h hM).mono ?_)
    rintro e w1 ⟨rfl, hA, hF⟩
    exact ⟨rfl, rfl, pol_turn h1 h2 h3 h4 (show Inn (PK.ar (Arc.capA s n)) N M _ _ w1 (grow Si w w1) from ⟨rfl, q, rfl, hA⟩) hF⟩
  | th s =>
    obtain ⟨rfl, q, rfl, h⟩ := h5
    refine pol_cap p _ _ _ _ w _ hc n (goes3_cap w q) ((Thr.th_cap Si q s N M n w h hM).mono ?_)
    rintro e w1 ⟨rfl, hA, hF⟩
    exact ⟨rfl, rfl, pol_turn h1 h2 h3 h4 (show Inn (PK.th (Thr.capT s n)) N M _ _ w1 (grow Si w w1) from ⟨rfl, q, rfl, hA⟩) hF⟩
theorem pk_has (h : PolAt w S p k N M) (id : Int) :
    Calls Tryz.prog 21 #[.pointer (some ⟨p, 0, none⟩), .int .i64 id] w fun e w' => e = .returned (.bool (k.hasB id)) ∧ ∃ j, w' = w.drewN j := by
  obtain ⟨T, x, Si, h1, h2, h3, h4, h5⟩ := h
  obtain ⟨g, Sr, hR, _, hr⟩ := h5.rows
  exact pol_has p T x w _ (pol_cell h4) g id _ hr (fun j => rows_row Sr g k.n k.L N id (w.drewN j) (row_drewN hR j)) (fun j => ⟨rfl, j, rfl⟩)
theorem pk_len (h : PolAt w S p k N M) (hN : N ≤ 1000000) :
    Calls Tryz.prog 19 #[.pointer (some ⟨p, 0, none⟩)] w fun e w' => e = .returned (.int .i64 k.len) ∧ ∃ j, w' = w.drewN j := by
  obtain ⟨T, x, Si, h1, h2, h3, h4, h5⟩ := h
  obtain ⟨g, Sr, hR, hl, _⟩ := h5.rows
  refine pol_len p T x w _ (pol_cell h4) g hl (fun row => (rowL k.L row).length) (fun j row => (rows_len Sr g k.n k.L N row (w.drewN j) (row_drewN hR j)).mono fun e w' ⟨a, b⟩ => ⟨a, b.symm⟩) ?_ (fun j => ⟨rfl, j, rfl⟩)
  have l0 := hR.len_le 0
  have l1 := hR.len_le 1
  have l2 := hR.len_le 2
  show (k.L 0).length + (k.L 1).length + (k.L 2).length ≤ _
  omega
end
end Go.Proofs.YtgdlndpjfejmcaaGreat
