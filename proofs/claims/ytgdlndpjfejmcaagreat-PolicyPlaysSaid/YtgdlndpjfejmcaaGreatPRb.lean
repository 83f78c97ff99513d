/- The rows in memory. -/
import Derived.Test.YtgdlndpjfejmcaaGreatPRa
import Derived.Test.YtgdlndpjfejmcaaGreatPA
import Derived.Test.YtgdlndpjfejmcaaGreatRows
import Derived.WalkKit
import Derived.WalkSpells
import Derived.WalkLawsBesides
import Derived.StillTailTactics
import Derived.Deep.QuietTactic
import Derived.BigQuiet
import Derived.Deep.DeepCutAuto
import Derived.Deep.RegionHeld3
namespace Go.Proofs.YtgdlndpjfejmcaaGreat
open Go.RowKit
set_option linter.unusedVariables false
set_option maxRecDepth 100000
/-- At g lies a Rows with these links, free places, map, and counts. -/
def RowsM (w : World) (S : Nat → Prop) (g n : Nat) (lk : List Lnk) (free : List Nat) (l : List (Int × Value)) (cnt : List Int) : Prop :=
  ∃ m nb lv fv o, S g ∧ S m ∧ S nb ∧ cnt.length = n ∧ w.heap[g]? = some (.cells #[lv, fv, .map (some m), .slice (some ⟨nb, 0, none⟩) n n] 80 (0, 0)) ∧ w.heap[m]? = some o ∧ MapBlk .i64 l o ∧
    Sl w S 82 4 lv lk.length (lcells lk) ∧ Sl w (fun b => S b ∧ b ≠ nb) 3 1 fv free.length (free.map fun (k : Nat) => iv (k : Int)) ∧ w.heap[nb]? = some (.cells (cnt.map iv).toArray 3 (0, 0))
theorem RowsM.frame {w w' : World} {S : Nat → Prop} {g n : Nat} {lk : List Lnk} {free : List Nat} {l : List (Int × Value)} {cnt : List Int} (h : RowsM w S g n lk free l cnt)
    (hf : ∀ b, b < w.heap.size → S b → w'.heap[b]? = w.heap[b]?) : RowsM w' S g n lk free l cnt := by
  obtain ⟨m, nb, lv, fv, o, h1, h2, h3, h4, h5, h6, h7, h8, h9, h10⟩ := h
  exact ⟨m, nb, lv, fv, o, h1, h2, h3, h4, (hf g (lt_of_heap h5) h1).trans h5, (hf m (lt_of_heap h6) h2).trans h6, h7, h8.frame hf, h9.frame (fun b hb hS => hf b hb hS.1), (hf nb (lt_of_heap h10) h3).trans h10⟩
theorem lcells_len (lk : List Lnk) : (lcells lk).length = lk.length * 4 := by
  induction lk with
  | nil => rfl
  | cons x lk ih => simp [lcells] at ih ⊢; omega
theorem lcells_at : ∀ (lk : List Lnk) (k : Nat), k < lk.length → (lcells lk)[k * 4]? = some (iv (lI lk k)) ∧ (lcells lk)[k * 4 + 1]? = some (iv (lR lk k)) ∧ (lcells lk)[k * 4 + 2]? = some (iv (lB lk k)) ∧ (lcells lk)[k * 4 + 3]? = some (iv (lA lk k))
  | x :: lk, 0, _ => by simp [lcells, lI, lR, lB, lA]
  | x :: lk, k + 1, h => by
    have ih := lcells_at lk k (by simpa using h)
    have e : lcells (x :: lk) = [iv x.id, iv x.row, iv x.before, iv x.after] ++ lcells lk := by simp [lcells]
    have e1 : lI (x :: lk) (k + 1) = lI lk k := by simp [lI]
    have e2 : lR (x :: lk) (k + 1) = lR lk k := by simp [lR]
    have e3 : lB (x :: lk) (k + 1) = lB lk k := by simp [lB]
    have e4 : lA (x :: lk) (k + 1) = lA lk k := by simp [lA]
    rw [e, e1, e2, e3, e4]
    have hs : ∀ j, ([iv x.id, iv x.row, iv x.before, iv x.after] ++ lcells lk)[(k + 1) * 4 + j]? = (lcells lk)[k * 4 + j]? := fun j => by
      rw [List.getElem?_append_right (by simp; omega)]
      congr 1
      simp; omega
    have h0 := hs 0
    rw [Nat.add_zero, Nat.add_zero] at h0
    rw [h0, hs, hs, hs]
    exact ih
/-- The links, written out. -/
theorem links_at {w : World} {S : Nat → Prop} {T : TypeId} {v : Value} {lk : List Lnk} (h : Sl w S T 4 v lk.length (lcells lk)) (hn : 0 < lk.length) :
    ∃ b off cap, v = .slice (some ⟨b, off, none⟩) lk.length cap ∧ S b ∧ b < w.heap.size ∧ lk.length ≤ cap ∧ (∀ k, k < lk.length → w.cell? ⟨b, off + k * 4, none⟩ = some (iv (lI lk k)) ∧ w.cell? ⟨b, off + k * 4 + 1, none⟩ = some (iv (lR lk k)) ∧
      w.cell? ⟨b, off + k * 4 + 2, none⟩ = some (iv (lB lk k)) ∧ w.cell? ⟨b, off + k * 4 + 3, none⟩ = some (iv (lA lk k))) ∧ (∀ i, w.frozen? ⟨b, i, none⟩ = false) := by
  obtain ⟨b, off, cap, hv, hS, hb, hc, hx, hf⟩ := h.pos hn
  refine ⟨b, off, cap, hv, hS, hb, hc, fun k hk => ?_, hf⟩
  obtain ⟨h0, h1, h2, h3⟩ := lcells_at lk k hk
  have hl := lcells_len lk
  refine ⟨(hx (k * 4) (by omega)).trans h0, ?_, ?_, ?_⟩
  · rw [Nat.add_assoc]; exact (hx (k * 4 + 1) (by omega)).trans h1
  · rw [Nat.add_assoc]; exact (hx (k * 4 + 2) (by omega)).trans h2
  · rw [Nat.add_assoc]; exact (hx (k * 4 + 3) (by omega)).trans h3
end Go.Proofs.YtgdlndpjfejmcaaGreat
/- The rows in memory: what a store does to them. -/
namespace Go.Proofs.YtgdlndpjfejmcaaGreat
open Go.RowKit
set_option linter.unusedVariables false
set_option maxRecDepth 100000
/-- The rows with all their parts named. -/
structure RowsO (w : World) (S : Nat → Prop) (g n : Nat) (lk : List Lnk) (free : List Nat) (l : List (Int × Value)) (cnt : List Int) (m nb : Nat) (lv fv : Value) (o : Obj) : Prop where
  hSg : S g
  hSm : S m
  hSn : S nb
  hcn : cnt.length = n
  hg : w.heap[g]? = some (.cells #[lv, fv, .map (some m), .slice (some ⟨nb, 0, none⟩) n n] 80 (0, 0))
  hmo : w.heap[m]? = some o
  hmb : MapBlk .i64 l o
  hlk : Sl w S 82 4 lv lk.length (lcells lk)
  hfr : Sl w (fun b => S b ∧ b ≠ nb) 3 1 fv free.length (free.map fun (k : Nat) => iv (k : Int))
  hnb : w.heap[nb]? = some (.cells (cnt.map iv).toArray 3 (0, 0))
theorem RowsO.shut {w : World} {S : Nat → Prop} {g n : Nat} {lk : List Lnk} {free : List Nat} {l : List (Int × Value)} {cnt : List Int} {m nb : Nat} {lv fv : Value} {o : Obj} (h : RowsO w S g n lk free l cnt m nb lv fv o) : RowsM w S g n lk free l cnt :=
  ⟨m, nb, lv, fv, o, h.hSg, h.hSm, h.hSn, h.hcn, h.hg, h.hmo, h.hmb, h.hlk, h.hfr, h.hnb⟩
theorem RowsM.opened {w : World} {S : Nat → Prop} {g n : Nat} {lk : List Lnk} {free : List Nat} {l : List (Int × Value)} {cnt : List Int} (h : RowsM w S g n lk free l cnt) : ∃ m nb lv fv o, RowsO w S g n lk free l cnt m nb lv fv o := by
  obtain ⟨m, nb, lv, fv, o, h1, h2, h3, h4, h5, h6, h7, h8, h9, h10⟩ := h
  exact ⟨m, nb, lv, fv, o, ⟨h1, h2, h3, h4, h5, h6, h7, h8, h9, h10⟩⟩
section
variable {w : World} {S : Nat → Prop} {g n : Nat} {lk : List Lnk} {free : List Nat} {l : List (Int × Value)} {cnt : List Int} {m nb : Nat} {lv fv : Value} {o : Obj}
theorem RowsO.gm (h : RowsO w S g n lk free l cnt m nb lv fv o) : g ≠ m := fun e => by
  subst e; obtain ⟨es, clk, e, _⟩ := h.hmb; have h1 := h.hg; rw [h.hmo, e] at h1; cases h1
theorem RowsO.nm (h : RowsO w S g n lk free l cnt m nb lv fv o) : nb ≠ m := fun e => by
  subst e; obtain ⟨es, clk, e, _⟩ := h.hmb; have h1 := h.hnb; rw [h.hmo, e] at h1; cases h1
theorem RowsO.gn (h : RowsO w S g n lk free l cnt m nb lv fv o) : g ≠ nb := fun e => by
  subst e; have h1 := h.hnb; rw [h.hg] at h1; simp at h1
theorem RowsO.frame {w' : World} (h : RowsO w S g n lk free l cnt m nb lv fv o) (hf : ∀ b, b < w.heap.size → S b → w'.heap[b]? = w.heap[b]?) : RowsO w' S g n lk free l cnt m nb lv fv o :=
  ⟨h.hSg, h.hSm, h.hSn, h.hcn, (hf g (lt_of_heap h.hg) h.hSg).trans h.hg, (hf m (lt_of_heap h.hmo) h.hSm).trans h.hmo, h.hmb, h.hlk.frame hf, h.hfr.frame (fun b hb hS => hf b hb hS.1), (hf nb (lt_of_heap h.hnb) h.hSn).trans h.hnb⟩
theorem RowsO.mono {S' : Nat → Prop} (h : RowsO w S g n lk free l cnt m nb lv fv o) (hS : ∀ b, b < w.heap.size → S b → S' b) : RowsO w S' g n lk free l cnt m nb lv fv o :=
  ⟨hS _ (lt_of_heap h.hg) h.hSg, hS _ (lt_of_heap h.hmo) h.hSm, hS _ (lt_of_heap h.hnb) h.hSn, h.hcn, h.hg, h.hmo, h.hmb, h.hlk.mono hS, h.hfr.mono (fun b hb q => ⟨hS b hb q.1, q.2⟩), h.hnb⟩
/-- A store into a cell of the links. -/
theorem RowsO.setLink {b off cap : Nat} (h : RowsO w S g n lk free l cnt m nb (.slice (some ⟨b, off, none⟩) lk.length cap) fv o) {lk' : List Lnk} {i : Nat} {u : Value} (hi : i < (lcells lk).length) (hlen : lk'.length = lk.length) (hlk' : lcells lk' = (lcells lk).set i u)
    (hb : ∃ c, w.heap[b]? = some (.cells c 82 (0, 0))) : RowsO (w.setCell ⟨b, off + i, none⟩ u) S g n lk' free l cnt m nb (.slice (some ⟨b, off, none⟩) lk.length cap) fv o := by
  obtain ⟨c, hb⟩ := hb
  have h1 : g ≠ b := fun e => by subst e; have := h.hg; rw [hb] at this; simp at this
  have h2 : m ≠ b := fun e => by subst e; obtain ⟨es, clk, e, _⟩ := h.hmb; have := h.hmo; rw [hb, e] at this; cases this
  have h3 : nb ≠ b := fun e => by subst e; have := h.hnb; rw [hb] at this; simp at this
  have hs := h.hlk.set hi u
  refine ⟨h.hSg, h.hSm, h.hSn, h.hcn, (heap_setCell_other h1 u).trans h.hg, (heap_setCell_other h2 u).trans h.hmo, h.hmb, ?_, h.hfr.setCell_other hb (by decide) _ _, (heap_setCell_other h3 u).trans h.hnb⟩
  rw [hlen, hlk']; exact hs
/-- The links' array is a block of links. -/
theorem RowsO.blk {b off cap : Nat} (h : RowsO w S g n lk free l cnt m nb (.slice (some ⟨b, off, none⟩) lk.length cap) fv o) : ∃ c, w.heap[b]? = some (.cells c 82 (0, 0)) := by
  rcases h.hlk.2 with ⟨h2, _⟩ | ⟨b', off', cap', c, hv, hS, hb, _⟩
  · cases h2
  · simp at hv
    obtain ⟨⟨rfl, rfl⟩, rfl⟩ := hv
    exact ⟨c, hb⟩
theorem lcells_modify (f : Lnk → Lnk) (j : Nat) (u : Lnk → Value) (hj : j < 4) (hf : ∀ x : Lnk, [iv (f x).id, iv (f x).row, iv (f x).before, iv (f x).after] = [iv x.id, iv x.row, iv x.before, iv x.after].set j (u x)) :
    ∀ (lk : List Lnk) (k : Nat) (hk : k < lk.length), lcells (lk.modify k f) = (lcells lk).set (k * 4 + j) (u lk[k])
  | x :: lk, 0, _ => by
    show [iv (f x).id, iv (f x).row, iv (f x).before, iv (f x).after] ++ lcells lk = ([iv x.id, iv x.row, iv x.before, iv x.after] ++ lcells lk).set (0 * 4 + j) (u x)
    rw [hf x, Nat.zero_mul, Nat.zero_add, List.set_append_left _ _ (by simpa using hj)]
  | x :: lk, k + 1, hk => by
    have ih := lcells_modify f j u hj hf lk k (by simpa using hk)
    show [iv x.id, iv x.row, iv x.before, iv x.after] ++ lcells (lk.modify k f) = ([iv x.id, iv x.row, iv x.before, iv x.after] ++ lcells lk).set ((k + 1) * 4 + j) _
    rw [ih, List.set_append_right _ _ (by simp; omega)]
    congr 2
    simp; omega
theorem lcells_setA {lk : List Lnk} {k : Nat} (hk : k < lk.length) (a : Nat) : lcells (setA lk k a) = (lcells lk).set (k * 4 + 3) (iv a) :=
  lcells_modify (fun x => { x with after := a }) 3 (fun _ => iv a) (by decide) (fun _ => rfl) lk k hk
theorem lcells_setB {lk : List Lnk} {k : Nat} (hk : k < lk.length) (a : Nat) : lcells (setB lk k a) = (lcells lk).set (k * 4 + 2) (iv a) :=
  lcells_modify (fun x => { x with before := a }) 2 (fun _ => iv a) (by decide) (fun _ => rfl) lk k hk
theorem RowsO.setA {b off cap k : Nat} (h : RowsO w S g n lk free l cnt m nb (.slice (some ⟨b, off, none⟩) lk.length cap) fv o) (hk : k < lk.length) (a : Nat) :
    RowsO (w.setCell ⟨b, off + k * 4 + 3, none⟩ (iv a)) S g n (setA lk k a) free l cnt m nb (.slice (some ⟨b, off, none⟩) lk.length cap) fv o := by
  rw [Nat.add_assoc]
  exact h.setLink (by rw [lcells_len]; omega) (setA_len _ _ _) (lcells_setA hk a) h.blk
theorem RowsO.setB {b off cap k : Nat} (h : RowsO w S g n lk free l cnt m nb (.slice (some ⟨b, off, none⟩) lk.length cap) fv o) (hk : k < lk.length) (a : Nat) :
    RowsO (w.setCell ⟨b, off + k * 4 + 2, none⟩ (iv a)) S g n (setB lk k a) free l cnt m nb (.slice (some ⟨b, off, none⟩) lk.length cap) fv o := by
  rw [Nat.add_assoc]
  exact h.setLink (by rw [lcells_len]; omega) (setB_len _ _ _) (lcells_setB hk a) h.blk
/-- Two stores, as Take and put make them. -/
theorem RowsO.two {b off cap i j : Nat} (h : RowsO w S g n lk free l cnt m nb (.slice (some ⟨b, off, none⟩) lk.length cap) fv o) (hi : i < lk.length) (hj : j < lk.length) (a c : Nat) :
    RowsO ((w.setCell ⟨b, off + i * 4 + 3, none⟩ (iv a)).setCell ⟨b, off + j * 4 + 2, none⟩ (iv c)) S g n (Proofs.YtgdlndpjfejmcaaGreat.setB (Proofs.YtgdlndpjfejmcaaGreat.setA lk i a) j c) free l cnt m nb (.slice (some ⟨b, off, none⟩) lk.length cap) fv o := by
  have h1 := h.setA hi a
  have h2 := RowsO.setB (k := j) (by rw [setA_len]; exact h1) (by rw [setA_len]; exact hj) c
  rw [setA_len] at h2
  exact h2
def setI (lk : List Lnk) (k : Nat) (a : Int) : List Lnk := lk.modify k fun x => { x with id := a }
def setR (lk : List Lnk) (k a : Nat) : List Lnk := lk.modify k fun x => { x with row := a }
theorem lcells_setI {lk : List Lnk} {k : Nat} (hk : k < lk.length) (a : Int) : lcells (setI lk k a) = (lcells lk).set (k * 4 + 0) (iv a) :=
  lcells_modify (fun x => { x with id := a }) 0 (fun _ => iv a) (by decide) (fun _ => rfl) lk k hk
theorem lcells_setR {lk : List Lnk} {k : Nat} (hk : k < lk.length) (a : Nat) : lcells (setR lk k a) = (lcells lk).set (k * 4 + 1) (iv a) :=
  lcells_modify (fun x => { x with row := a }) 1 (fun _ => iv a) (by decide) (fun _ => rfl) lk k hk
theorem set_four (lk : List Lnk) (k : Nat) (x : Lnk) : Proofs.YtgdlndpjfejmcaaGreat.setA (Proofs.YtgdlndpjfejmcaaGreat.setB (setR (setI lk k x.id) k x.row) k x.before) k x.after = lk.set k x := by
  apply List.ext_getElem?
  intro j
  unfold Proofs.YtgdlndpjfejmcaaGreat.setA Proofs.YtgdlndpjfejmcaaGreat.setB setR setI
  simp only [List.getElem?_modify, List.getElem?_set]
  by_cases e : k = j
  · subst e
    rcases h : lk[k]? with _ | z
    · have := List.getElem?_eq_none_iff.1 h
      simp [this]
    · have := (List.getElem?_eq_some_iff.1 h).1
      simp [this]
  · simp [e]
/-- A link, set anew. -/
theorem RowsO.setStruct {b off cap k : Nat} (h : RowsO w S g n lk free l cnt m nb (.slice (some ⟨b, off, none⟩) lk.length cap) fv o) (hk : k < lk.length) (x : Lnk) :
    RowsO ((((w.setCell ⟨b, off + k * 4, none⟩ (iv x.id)).setCell ⟨b, off + k * 4 + 1, none⟩ (iv x.row)).setCell ⟨b, off + k * 4 + 2, none⟩ (iv x.before)).setCell ⟨b, off + k * 4 + 3, none⟩ (iv x.after)) S g n (lk.set k x) free l cnt m nb (.slice (some ⟨b, off, none⟩) lk.length cap) fv o := by
  have l1 : (setI lk k x.id).length = lk.length := by simp [setI]
  have l2 : (setR (setI lk k x.id) k x.row).length = lk.length := by simp [setR, l1]
  have l3 : (Proofs.YtgdlndpjfejmcaaGreat.setB (setR (setI lk k x.id) k x.row) k x.before).length = lk.length := by rw [setB_len, l2]
  have h1 := h.setLink (lk' := setI lk k x.id) (i := k * 4 + 0) (u := iv x.id) (by rw [lcells_len]; omega) l1 (lcells_setI hk _) h.blk
  have h2 := RowsO.setLink (lk := setI lk k x.id) (lk' := setR (setI lk k x.id) k x.row) (i := k * 4 + 1) (u := iv x.row) (by rw [l1]; exact h1) (by rw [lcells_len]; omega) (by rw [l2, l1]) (lcells_setR (by omega) _) (RowsO.blk (lk := setI lk k x.id) (by rw [l1]; exact h1))
  rw [l1] at h2
  have h3 := RowsO.setB (lk := setR (setI lk k x.id) k x.row) (k := k) (by rw [l2]; exact h2) (by omega) x.before
  rw [l2] at h3
  have h4 := RowsO.setA (lk := Proofs.YtgdlndpjfejmcaaGreat.setB (setR (setI lk k x.id) k x.row) k x.before) (k := k) (by rw [l3]; exact h3) (by omega) x.after
  rw [l3, set_four] at h4
  rw [Nat.add_zero] at h4
  exact h4
/-- The free places, set anew. -/
theorem RowsO.setFree (h : RowsO w S g n lk free l cnt m nb lv fv o) {free' : List Nat} {fv' : Value} (hf : Sl w (fun b => S b ∧ b ≠ nb) 3 1 fv' free'.length (free'.map fun (k : Nat) => iv (k : Int))) :
    RowsO (w.setCell ⟨g, 1, none⟩ fv') S g n lk free' l cnt m nb lv fv' o := by
  have hm := h.gm
  have hn := h.gn
  exact ⟨h.hSg, h.hSm, h.hSn, h.hcn, (heap_setCell_same h.hg 1 fv').trans (by simp), (heap_setCell_other (fun e => hm e.symm) _).trans h.hmo, h.hmb, h.hlk.setCell_other h.hg (by decide) _ _, hf.setCell_other h.hg (by decide) _ _, (heap_setCell_other (fun e => hn e.symm) _).trans h.hnb⟩
/-- The links, set anew. -/
theorem RowsO.setLinks (h : RowsO w S g n lk free l cnt m nb lv fv o) {lk' : List Lnk} {lv' : Value} (hf : Sl w S 82 4 lv' lk'.length (lcells lk')) :
    RowsO (w.setCell ⟨g, 0, none⟩ lv') S g n lk' free l cnt m nb lv' fv o := by
  have hm := h.gm
  have hn := h.gn
  exact ⟨h.hSg, h.hSm, h.hSn, h.hcn, (heap_setCell_same h.hg 0 lv').trans (by simp), (heap_setCell_other (fun e => hm e.symm) _).trans h.hmo, h.hmb, hf.setCell_other h.hg (by decide) _ _, h.hfr.setCell_other h.hg (by decide) _ _, (heap_setCell_other (fun e => hn e.symm) _).trans h.hnb⟩
/-- A count. -/
theorem RowsO.setCount (h : RowsO w S g n lk free l cnt m nb lv fv o) (r : Nat) (c : Int) : RowsO (w.setCell ⟨nb, r, none⟩ (iv c)) S g n lk free l (cnt.set r c) m nb lv fv o := by
  have hm := h.nm
  have hn := h.gn
  refine ⟨h.hSg, h.hSm, h.hSn, by simpa using h.hcn, (heap_setCell_other hn _).trans h.hg, (heap_setCell_other (fun e => hm e.symm) _).trans h.hmo, h.hmb, h.hlk.setCell_other h.hnb (by decide) _ _, ?_, (heap_setCell_same h.hnb r _).trans ?_⟩
  · exact h.hfr.set_other (p := ⟨nb, r, none⟩) (fun q => q.2 rfl) _
  · simp [List.map_set]
/-- The map. -/
theorem RowsO.setMap (h : RowsO w S g n lk free l cnt m nb lv fv o) {l' : List (Int × Value)} {o' : Obj} (ho : MapBlk .i64 l' o') : RowsO (w.putObj m o') S g n lk free l' cnt m nb lv fv o' :=
  ⟨h.hSg, h.hSm, h.hSn, h.hcn, (World.putObj_heap_other h.gm).trans h.hg, World.putObj_heap_same (lt_of_heap h.hmo), ho, h.hlk.putObj_map h.hmo h.hmb o', h.hfr.putObj_map h.hmo h.hmb o', (World.putObj_heap_other h.nm).trans h.hnb⟩
theorem RowsO.alloc (h : RowsO w S g n lk free l cnt m nb lv fv o) (ob : Obj) : RowsO (w.alloc ob) S g n lk free l cnt m nb lv fv o := h.frame fun b hb _ => heap_alloc_old ob hb
/-- Behind an append to the links or the free places: what it wrote lies in the array of that type alone, or is new. -/
theorem RowsO.appLinks {w1 : World} (h : RowsO w S g n lk free l cnt m nb lv fv o) (hF : Fr (Arr S w 82) w w1) {lk' : List Lnk} {lv' : Value} (hs : Sl w1 (grow S w w1) 82 4 lv' lk'.length (lcells lk')) :
    RowsO (w1.setCell ⟨g, 0, none⟩ lv') (grow S w w1) g n lk' free l cnt m nb lv' fv o := by
  have ha : ∀ b, ¬ (∃ c, w.heap[b]? = some (.cells c 82 (0, 0))) → b < w.heap.size → w1.heap[b]? = w.heap[b]? := fun b hb hl => hF.block b hl fun q => hb q.2
  have h1 : w1.heap[g]? = w.heap[g]? := ha g (fun ⟨c, hc⟩ => by rw [h.hg] at hc; simp at hc) (lt_of_heap h.hg)
  have h2 : w1.heap[m]? = w.heap[m]? := ha m (fun ⟨c, hc⟩ => by obtain ⟨es, clk, e, _⟩ := h.hmb; rw [h.hmo, e] at hc; cases hc) (lt_of_heap h.hmo)
  have h3 : w1.heap[nb]? = w.heap[nb]? := ha nb (fun ⟨c, hc⟩ => by rw [h.hnb] at hc; simp at hc) (lt_of_heap h.hnb)
  have hfr : Sl w1 (fun b => grow S w w1 b ∧ b ≠ nb) 3 1 fv free.length (free.map fun (k : Nat) => iv (k : Int)) :=
    (h.hfr.keep (w' := w1) fun b c hS hb => ha b (fun ⟨c', hc⟩ => by rw [hb] at hc; simp at hc) (lt_of_heap hb)).mono fun b hb q => ⟨Or.inl q.1, q.2⟩
  have hgm : m ≠ g := fun e => h.gm e.symm
  have hgn : nb ≠ g := fun e => h.gn e.symm
  have hg1 := h1.trans h.hg
  exact ⟨Or.inl h.hSg, Or.inl h.hSm, Or.inl h.hSn, h.hcn, (heap_setCell_same hg1 0 lv').trans (by simp), (heap_setCell_other hgm _).trans (h2.trans h.hmo), h.hmb, hs.setCell_other hg1 (by decide) _ _, hfr.setCell_other hg1 (by decide) _ _, (heap_setCell_other hgn _).trans (h3.trans h.hnb)⟩
theorem RowsO.appFree_g {w1 : World} (h : RowsO w S g n lk free l cnt m nb lv fv o) (hF : Fr (Arr (fun b => S b ∧ b ≠ nb) w 3) w w1) : w1.heap[g]? = w.heap[g]? :=
  hF.block g (lt_of_heap h.hg) fun ⟨_, c, hc⟩ => by rw [h.hg] at hc; simp at hc
theorem RowsO.appLinks_g {w1 : World} (h : RowsO w S g n lk free l cnt m nb lv fv o) (hF : Fr (Arr S w 82) w w1) : w1.heap[g]? = w.heap[g]? :=
  hF.block g (lt_of_heap h.hg) fun ⟨_, c, hc⟩ => by rw [h.hg] at hc; simp at hc
theorem RowsO.appFree {w1 : World} (h : RowsO w S g n lk free l cnt m nb lv fv o) (hF : Fr (Arr (fun b => S b ∧ b ≠ nb) w 3) w w1) {free' : List Nat} {fv' : Value} (hs : Sl w1 (grow (fun b => S b ∧ b ≠ nb) w w1) 3 1 fv' free'.length (free'.map fun (k : Nat) => iv (k : Int))) :
    RowsO (w1.setCell ⟨g, 1, none⟩ fv') (grow S w w1) g n lk free' l cnt m nb lv fv' o := by
  have ha : ∀ b, b = nb ∨ ¬ (∃ c, w.heap[b]? = some (.cells c 3 (0, 0))) → b < w.heap.size → w1.heap[b]? = w.heap[b]? := fun b hb hl => hF.block b hl fun q => hb.elim q.1.2 (fun h => h q.2)
  have h1 : w1.heap[g]? = w.heap[g]? := ha g (Or.inr fun ⟨c, hc⟩ => by rw [h.hg] at hc; simp at hc) (lt_of_heap h.hg)
  have h2 : w1.heap[m]? = w.heap[m]? := ha m (Or.inr fun ⟨c, hc⟩ => by obtain ⟨es, clk, e, _⟩ := h.hmb; rw [h.hmo, e] at hc; cases hc) (lt_of_heap h.hmo)
  have h3 : w1.heap[nb]? = w.heap[nb]? := ha nb (Or.inl rfl) (lt_of_heap h.hnb)
  have hl : Sl w1 (grow S w w1) 82 4 lv lk.length (lcells lk) :=
    (h.hlk.keep (w' := w1) fun b c hS hb => ha b (Or.inr fun ⟨c', hc⟩ => by rw [hb] at hc; simp at hc) (lt_of_heap hb)).mono fun b hb q => Or.inl q
  have hgm : m ≠ g := fun e => h.gm e.symm
  have hgn : nb ≠ g := fun e => h.gn e.symm
  have hg1 := h1.trans h.hg
  have hs' : Sl w1 (fun b => grow S w w1 b ∧ b ≠ nb) 3 1 fv' free'.length (free'.map fun (k : Nat) => iv (k : Int)) :=
    hs.mono fun b hb q => q.elim (fun q => ⟨Or.inl q.1, q.2⟩) (fun q => ⟨Or.inr q, fun e => by have := lt_of_heap h.hnb; omega⟩)
  exact ⟨Or.inl h.hSg, Or.inl h.hSm, Or.inl h.hSn, h.hcn, (heap_setCell_same hg1 1 fv').trans (by simp), (heap_setCell_other hgm _).trans (h2.trans h.hmo), h.hmb, hl.setCell_other hg1 (by decide) _ _, hs'.setCell_other hg1 (by decide) _ _, (heap_setCell_other hgn _).trans (h3.trans h.hnb)⟩
end
end Go.Proofs.YtgdlndpjfejmcaaGreat
/- The functions of layer 10 (rows) that read: what each call does. -/
namespace Go.Proofs.YtgdlndpjfejmcaaGreat
open Go.RowKit
set_option linter.unusedVariables false
set_option maxRecDepth 100000
/-- A Rows of n rows, that hold Ls; no more than N links were ever made. -/
def RowsAt (w : World) (S : Nat → Prop) (g n : Nat) (L : Nat → List Int) (N : Nat) : Prop :=
  ∃ lk free l Ps cnt, RowsM w S g n lk free l cnt ∧ Good n lk free l Ps ∧ (∀ r, L r = Ls lk Ps r) ∧ (∀ r, r < n → cnt[r]? = some ((L r).length : Int)) ∧ lk.length ≤ n + N ∧ 0 < n ∧ n ≤ 8 ∧ (∀ r, (L r).length ≤ N)
theorem RowsAt.frame {w w' : World} {S : Nat → Prop} {g n : Nat} {L : Nat → List Int} {N : Nat} (h : RowsAt w S g n L N) (hf : ∀ b, b < w.heap.size → S b → w'.heap[b]? = w.heap[b]?) : RowsAt w' S g n L N := by
  obtain ⟨lk, free, l, Ps, cnt, h1, r⟩ := h
  exact ⟨lk, free, l, Ps, cnt, h1.frame hf, r⟩
/-- The row in which an id stands, or -1. -/
def rowOf (n : Nat) (L : Nat → List Int) (id : Int) : Int := match (List.range n).find? (fun r => decide (id ∈ L r)) with
  | some r => r
  | none => -1
theorem rowOf_none {n : Nat} {L : Nat → List Int} {id : Int} (h : ∀ r, r < n → id ∉ L r) : rowOf n L id = -1 := by
  unfold rowOf
  rw [List.find?_eq_none.2 (fun r hr => by simpa using h r (List.mem_range.1 hr))]
theorem rowOf_some {n : Nat} {L : Nat → List Int} {id : Int} {r : Nat} (hr : r < n) (h : id ∈ L r) (hd : ∀ s, s < n → id ∈ L s → s = r) : rowOf n L id = r := by
  unfold rowOf
  cases e : (List.range n).find? (fun r => decide (id ∈ L r)) with
  | none => exact absurd h (by simpa using List.find?_eq_none.1 e r (List.mem_range.2 hr))
  | some s =>
    have h1 := List.find?_some e
    have h2 := List.mem_of_find?_eq_some e
    rw [hd s (List.mem_range.1 h2) (by simpa using h1)]
theorem Ls_disj {n : Nat} {lk : List Lnk} {free : List Nat} {l : List (Int × Value)} {Ps : Nat → List Nat} (h : Good n lk free l Ps) {r s : Nat} (hr : r < n) (hs : s < n) {id : Int} (h1 : id ∈ Ls lk Ps r) (h2 : id ∈ Ls lk Ps s) : s = r := by
  obtain ⟨p, hp, e1⟩ := List.mem_map.1 h1
  obtain ⟨q, hq, e2⟩ := List.mem_map.1 h2
  exact (h.same hs hr hq hp (e2.trans e1.symm)).2
theorem Ls_nodup {n : Nat} {lk : List Lnk} {free : List Nat} {l : List (Int × Value)} {Ps : Nat → List Nat} (h : Good n lk free l Ps) {r : Nat} (hr : r < n) : (Ls lk Ps r).Nodup := by
  unfold Ls
  rw [List.Nodup, List.pairwise_map]
  exact List.Pairwise.imp_of_mem (fun ha hb hne e => hne (h.same hr hr ha hb e).1) (h.nodup r hr)
theorem Ls_range {n : Nat} {lk : List Lnk} {free : List Nat} {l : List (Int × Value)} {Ps : Nat → List Nat} (h : Good n lk free l Ps) {r : Nat} (hr : r < n) {id : Int} (h1 : id ∈ Ls lk Ps r) : 0 ≤ id ∧ id ≤ 4194303 := by
  obtain ⟨p, hp, e1⟩ := List.mem_map.1 h1
  have := h.place r hr p hp
  rw [← e1]; exact ⟨this.2.2.2.1, this.2.2.2.2.1⟩
theorem RowsAt.disj {w : World} {S : Nat → Prop} {g n : Nat} {L : Nat → List Int} {N : Nat} (h : RowsAt w S g n L N) {r s : Nat} (hr : r < n) (hs : s < n) {id : Int} (h1 : id ∈ L r) (h2 : id ∈ L s) : s = r := by
  obtain ⟨lk, free, l, Ps, cnt, _, hG, hL, _⟩ := h
  rw [hL] at h1 h2
  exact Ls_disj hG hr hs h1 h2
theorem RowsAt.nodup {w : World} {S : Nat → Prop} {g n : Nat} {L : Nat → List Int} {N : Nat} (h : RowsAt w S g n L N) {r : Nat} (hr : r < n) : (L r).Nodup := by
  obtain ⟨lk, free, l, Ps, cnt, _, hG, hL, _⟩ := h
  rw [hL]; exact Ls_nodup hG hr
theorem RowsAt.range {w : World} {S : Nat → Prop} {g n : Nat} {L : Nat → List Int} {N : Nat} (h : RowsAt w S g n L N) {r : Nat} (hr : r < n) {id : Int} (h1 : id ∈ L r) : 0 ≤ id ∧ id ≤ 4194303 := by
  obtain ⟨lk, free, l, Ps, cnt, _, hG, hL, _⟩ := h
  rw [hL] at h1; exact Ls_range hG hr h1
theorem RowsAt.nil {w : World} {S : Nat → Prop} {g n : Nat} {L : Nat → List Int} {N : Nat} (h : RowsAt w S g n L N) {r : Nat} (hr : n ≤ r) : L r = [] := by
  obtain ⟨lk, free, l, Ps, cnt, _, hG, hL, _⟩ := h
  rw [hL]; simp [Ls, hG.none_ r hr]
theorem rows_has (S : Nat → Prop) (g n : Nat) (L : Nat → List Int) (N : Nat) (row : Int) (w : World) (hG : RowsAt w S g n L N) :
    Calls Tryz.prog 85 #[.pointer (some ⟨g, 0, none⟩), .int .i64 row] w fun e w' => e = .returned (.bool (decide (0 ≤ row ∧ row < n))) ∧ w = w' := by
  obtain ⟨lk, free, l, Ps, cnt, ⟨m, nb, lv, fv, o, hSg, hSm, hSn, hcn, hg, hmo, hmb, hlk, hfr, hnb⟩, hG, hL, hcnt, hN, hn0, hn8, hLN⟩ := hG
  have c3 := cell_of_heap hg 3
  simp at c3
  clear hG hL hcnt hLN hlk hfr hnb hmo hmb
  go_enter Tryz.func85, Tryz.ntmps85
  rcases hd : decide (0 ≤ row ∧ row < (n : Int)) with _ | _
  all_goals have HD := Lib.hid hd
  all_goals simp only [decide_eq_true_eq, decide_eq_false_iff_not] at hd
  · by_cases h0 : 0 ≤ row
    · have h1 : decide (row < (n : Int)) = false := decide_eq_false (by omega)
      clear hd
      go_wp2
      go_ret
      exact ⟨rfl, rfl⟩
    · clear hd
      go_wp2
      go_ret
      exact ⟨rfl, rfl⟩
  · obtain ⟨h0, h1⟩ := hd
    go_wp2
    go_ret
    exact ⟨rfl, rfl⟩
theorem rows_row (S : Nat → Prop) (g n : Nat) (L : Nat → List Int) (N : Nat) (id : Int) (w : World) (hG : RowsAt w S g n L N) :
    Calls Tryz.prog 84 #[.pointer (some ⟨g, 0, none⟩), .int .i64 id] w fun e w' => e = .returned (.int .i64 (rowOf n L id)) ∧ w = w' := by
  obtain ⟨lk, free, l, Ps, cnt, ⟨m, nb, lv, fv, o, hSg, hSm, hSn, hcn, hg, hmo, hmb, hlk, hfr, hnb⟩, hG, hL, hcnt, hN, hn0, hn8, hLN⟩ := hG
  have c0 := cell_of_heap hg 0
  have c2 := cell_of_heap hg 2
  simp at c0 c2
  obtain ⟨b, off, cap, rfl, hSb, hb, hcap, hx, hf⟩ := links_at hlk (by have := hG.len; omega)
  cases ha : aget l id with
  | none =>
    have hno : ∀ r, r < n → id ∉ L r := fun r hr q => by
      rw [hL] at q
      obtain ⟨p, hp, e⟩ := List.mem_map.1 q
      have := (hG.place r hr p hp).2.2.2.2.2.2
      rw [e, ha] at this; cases this
    have HR := Lib.hid (rowOf_none hno)
    clear hno hG hL hcnt hLN hlk hfr hnb hx hf
    go_enter Tryz.func84, Tryz.ntmps84
    go_wp2_with (first
      | (at_lookup; refine wpList_lookupOk_imap rfl _ _ 77 rfl 3 3 .i64 Tryz.underlying77 Tryz.underlying3 _ (zero_i64 _) m rfl o l hmo hmb id rfl ?_; rw [ha]))
    go_ret
    exact ⟨by rw [HR.out]; rfl, rfl⟩
  | some v =>
    obtain ⟨r, hr, p, hp, rfl, he⟩ := hG.at_ id v ha
    have hpl := (hG.place r hr p hp)
    obtain ⟨_, hx1, _, _⟩ := hx p hpl.2.1
    rw [hpl.2.2.1] at hx1
    have hmem : id ∈ Ls lk Ps r := List.mem_map.2 ⟨p, hp, he⟩
    have HR := Lib.hid (rowOf_some (L := L) hr (by rw [hL]; exact hmem) (fun s hs q => Ls_disj hG hr hs hmem (by rw [← hL]; exact q)))
    have hp2 := hpl.2.1
    unfold iv at hx1
    clear hpl hmem hG hL hcnt hLN hlk hfr hnb hx hf hp he
    go_enter Tryz.func84, Tryz.ntmps84
    go_wp2_with (first
      | (at_lookup; refine wpList_lookupOk_imap rfl _ _ 77 rfl 3 3 .i64 Tryz.underlying77 Tryz.underlying3 _ (zero_i64 _) m rfl o l hmo hmb id rfl ?_; rw [ha]; unfold iv))
    go_ret
    exact ⟨by rw [HR.out]; rfl, rfl⟩
end Go.Proofs.YtgdlndpjfejmcaaGreat
/- The functions of layer 10 (rows) that read, two: the ends and the lengths of rows. -/
namespace Go.Proofs.YtgdlndpjfejmcaaGreat
open Go.RowKit
set_option linter.unusedVariables false
set_option maxRecDepth 100000
/-- Who stands at the front, who at the end; -1: nobody. -/
def firstOf (l : List Int) : Int := l.headD (-1)
def lastOf (l : List Int) : Int := l.getLastD (-1)
/-- A row's ids, whatever its number. -/
def rowL (L : Nat → List Int) (row : Int) : List Int := if row < 0 then [] else L row.toNat
theorem rowL_nat (L : Nat → List Int) (r : Nat) : rowL L (r : Int) = L r := by unfold rowL; rw [if_neg (by omega)]; rfl
theorem RowsAt.rowL_none {w : World} {S : Nat → Prop} {g n : Nat} {L : Nat → List Int} {N : Nat} (h : RowsAt w S g n L N) {row : Int} (hr : ¬ (0 ≤ row ∧ row < n)) : rowL L row = [] := by
  unfold rowL
  split
  · rfl
  · exact h.nil (by omega)
theorem lI_first {n : Nat} {lk : List Lnk} {free : List Nat} {l : List (Int × Value)} {Ps : Nat → List Nat} (h : Good n lk free l Ps) {r : Nat} (hr : r < n) : lI lk (lA lk r) = firstOf (Ls lk Ps r) := by
  unfold firstOf
  rw [path_first (h.ring r hr)]
  unfold Ls
  cases e : Ps r with
  | nil => simp [h.head r hr]
  | cons p q => simp
theorem lI_lastOr (lk : List Lnk) : ∀ (ps : List Nat) (r : Nat), lI lk (lastOr r ps) = (ps.map (lI lk)).getLastD (lI lk r)
  | [], r => rfl
  | p :: u, r => by
    show lI lk (lastOr p u) = _
    rw [lI_lastOr lk u p]
    cases u <;> simp [List.getLastD]
theorem lI_last {n : Nat} {lk : List Lnk} {free : List Nat} {l : List (Int × Value)} {Ps : Nat → List Nat} (h : Good n lk free l Ps) {r : Nat} (hr : r < n) : lI lk (lB lk r) = lastOf (Ls lk Ps r) := by
  unfold lastOf
  rw [(path_last (h.ring r hr)).1, lI_lastOr, h.head r hr]
  rfl
theorem has_dec {row : Int} {n : Nat} {b : Bool} (h : decide (0 ≤ row ∧ row < (n : Int)) = b) : (b = true → 0 ≤ row ∧ row < n) ∧ (b = false → ¬ (0 ≤ row ∧ row < n)) := by
  subst h
  exact ⟨fun h => of_decide_eq_true h, fun h => of_decide_eq_false h⟩
theorem rows_len (S : Nat → Prop) (g n : Nat) (L : Nat → List Int) (N : Nat) (row : Int) (w : World) (hG : RowsAt w S g n L N) :
    Calls Tryz.prog 83 #[.pointer (some ⟨g, 0, none⟩), .int .i64 row] w fun e w' => e = .returned (.int .i64 (rowL L row).length) ∧ w = w' := by
  have HC := Lib.hid (rows_has S g n L N row w hG)
  have HN := Lib.hid (fun h => hG.rowL_none (row := row) h)
  obtain ⟨lk, free, l, Ps, cnt, ⟨m, nb, lv, fv, o, hSg, hSm, hSn, hcn, hg, hmo, hmb, hlk, hfr, hnb⟩, hG, hL, hcnt, hN, hn0, hn8, hLN⟩ := hG
  have c3 := cell_of_heap hg 3
  simp at c3
  rcases hd : decide (0 ≤ row ∧ row < (n : Int)) with _ | _
  · have hz := HN.out ((has_dec hd).2 rfl)
    have HD := Lib.hid (And.intro hd hz)
    clear hd hz hG hL hcnt hlk hfr hnb hmo hmb hLN
    go_enter Tryz.func83, Tryz.ntmps83
    go_wp2_with (go_at_call 85; refine HC.out.mono ?_; rintro e w' ⟨rfl, rfl⟩; rw [HD.out.1])
    go_ret
    exact ⟨by rw [HD.out.2]; rfl, rfl⟩
  · obtain ⟨h0, h1⟩ := (has_dec hd).1 rfl
    obtain ⟨r, rfl⟩ : ∃ r : Nat, row = r := ⟨row.toNat, by omega⟩
    have hr1 : r < n := by omega
    have hcr : w.cell? ⟨nb, r, none⟩ = some (.int .i64 (L r).length) := by
      rw [cell_of_heap hnb]
      simp [iv, hcnt r hr1]
    have HD := Lib.hid hd
    clear hd hG hL hcnt hlk hfr hnb hmo hmb hLN
    go_enter Tryz.func83, Tryz.ntmps83
    go_wp2_with (go_at_call 85; refine HC.out.mono ?_; rintro e w' ⟨rfl, rfl⟩; rw [HD.out])
    go_ret
    exact ⟨by rw [rowL_nat]; rfl, rfl⟩
theorem rows_last (S : Nat → Prop) (g n : Nat) (L : Nat → List Int) (N : Nat) (row : Int) (w : World) (hG : RowsAt w S g n L N) :
    Calls Tryz.prog 94 #[.pointer (some ⟨g, 0, none⟩), .int .i64 row] w fun e w' => e = .returned (.int .i64 (lastOf (rowL L row))) ∧ ∃ k, w' = w.drewN k := by
  have HC := Lib.hid (rows_has S g n L N row w hG)
  have HN := Lib.hid (fun h => hG.rowL_none (row := row) h)
  obtain ⟨lk, free, l, Ps, cnt, ⟨m, nb, lv, fv, o, hSg, hSm, hSn, hcn, hg, hmo, hmb, hlk, hfr, hnb⟩, hG, hL, hcnt, hN, hn0, hn8, hLN⟩ := hG
  rcases hd : decide (0 ≤ row ∧ row < (n : Int)) with _ | _
  · have hz := HN.out ((has_dec hd).2 rfl)
    have HD := Lib.hid (And.intro hd hz)
    clear hd hz hG hL hcnt hlk hfr hnb hmo hmb hLN
    go_enter Tryz.func94, Tryz.ntmps94
    go_wp2_with (go_at_call 85; refine HC.out.mono ?_; rintro e w' ⟨rfl, rfl⟩; rw [HD.out.1])
    go_ret
    exact ⟨by rw [HD.out.2]; rfl, 0, rfl⟩
  · obtain ⟨h0, h1⟩ := (has_dec hd).1 rfl
    obtain ⟨r, rfl⟩ : ∃ r : Nat, row = r := ⟨row.toNat, by omega⟩
    have hr1 : r < n := by omega
    have c0 := cell_of_heap hg 0
    simp at c0
    obtain ⟨b, off, cap, rfl, hSb, hb, hcap, hx, hf⟩ := links_at hlk (by have := hG.len; omega)
    have hrl : r < lk.length := by have := hG.len; omega
    have hal := (hG.near hr1 (p := r) (by simp)).2.1
    obtain ⟨_, _, hx2, _⟩ := hx r hrl
    obtain ⟨hx0, _, _, _⟩ := hx _ hal
    have he := lI_last hG hr1
    rw [← hL r] at he
    rw [he] at hx0
    unfold iv at hx0 hx2
    obtain ⟨q, hq⟩ : ∃ q, lB lk r = q := ⟨_, rfl⟩
    rw [hq] at hx2 hx0 hal
    have HD := Lib.hid hd
    clear hd hG hL hcnt hlk hfr hnb hmo hmb hLN hx hf he hq
    go_enter Tryz.func94, Tryz.ntmps94
    go_wp2_with (go_at_call 85; refine HC.out.mono ?_; rintro e w' ⟨rfl, rfl⟩; rw [HD.out])
    go_quiet (fail)
    go_wp2
    go_ret
    exact ⟨by rw [rowL_nat]; rfl, _, rfl⟩
end Go.Proofs.YtgdlndpjfejmcaaGreat
