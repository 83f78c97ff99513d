/- The rows in memory: what a store does to them. -/
import Derived.Test.YtemdhnolccnnfaaRowsMem
import Derived.Test.YtemdhnolccnnfaaStore
namespace Go.Proofs.Ytemdhnolccnnfaa
open Go.RowKit
set_option linter.unusedVariables false
/-- The rows with all their parts named. -/
structure RowsO (w : World) (S : Nat → Prop) (g n : Nat) (lk : List Lnk) (free : List Nat) (l : List (Int × Value)) (cnt : List Int) (m nb : Nat) (lv fv : Value) (o : Obj) : Prop where
  hSg : S g
  hSm : S m
  hSn : S nb
  hcn : cnt.length = n
  hg : w.heap[g]? = some (.cells #[lv, fv, .map (some m), .slice (some ⟨nb, 0, none⟩) n n] 50 (0, 0))
  hmo : w.heap[m]? = some o
  hmb : MapBlk .i64 l o
  hlk : Sl w S 52 4 lv lk.length (lcells lk)
  hfr : Sl w (fun b => S b ∧ b ≠ nb) 3 1 fv free.length (free.map fun (k : Nat) => iv (k : Int))
  hnb : w.heap[nb]? = some (.cells (cnt.map iv).toArray 3 (0, 0))
theorem RowsO.shut {w : World} {S : Nat → Prop} {g n : Nat} {lk : List Lnk} {free : List Nat} {l : List (Int × Value)} {cnt : List Int} {m nb : Nat} {lv fv : Value} {o : Obj} (h : RowsO w S g n lk free l cnt m nb lv fv o) : RowsM w S g n lk free l cnt :=
  ⟨m, nb, lv, fv, o, h.hSg, h.hSm, h.hSn, h.hcn, h.hg, h.hmo, h.hmb, h.hlk, h.hfr, h.hnb⟩
theorem RowsM.opened {w : World} {S : Nat → Prop} {g n : Nat} {lk : List Lnk} {free : List Nat} {l : List (Int × Value)} {cnt : List Int} (h : RowsM w S g n lk free l cnt) : ∃ m nb lv fv o, RowsO w S g n lk free l cnt m nb lv fv o := by
  obtain ⟨m, nb, lv, fv, o, h1, h2, h3, h4, h5, h6, h7, h8, h9, h10⟩ := h
  exact ⟨m, nb, lv, fv, o, ⟨h1, h2, h3, h4, h5, h6, h7, h8, h9, h10⟩⟩
section
variable {w : World} {S : Nat → Prop} {g n : Nat} {lk : List Lnk} {free : List Nat} {l : List (Int × Value)} {cnt : List Int} {m nb : Nat} {lv fv : Value} {o : Obj}
theorem RowsO.gm (h : RowsO w S g n lk free l cnt m nb lv fv o) : g ≠ m := fun e => by
  subst e; obtain ⟨es, clk, e, _⟩ := h.hmb; have h1 := h.hg; rw [h.hmo, e] at h1; cases h1
theorem RowsO.nm (h : RowsO w S g n lk free l cnt m nb lv fv o) : nb ≠ m := fun e => by
  subst e; obtain ⟨es, clk, e, _⟩ := h.hmb; have h1 := h.hnb; rw [h.hmo, e] at h1; cases h1
theorem RowsO.gn (h : RowsO w S g n lk free l cnt m nb lv fv o) : g ≠ nb := fun e => by
  subst e; have h1 := h.hnb; rw [h.hg] at h1; simp at h1
theorem RowsO.frame {w' : World} (h : RowsO w S g n lk free l cnt m nb lv fv o) (hf : ∀ b, b < w.heap.size → S b → w'.heap[b]? = w.heap[b]?) : RowsO w' S g n lk free l cnt m nb lv fv o :=
  ⟨h.hSg, h.hSm, h.hSn, h.hcn, (hf g (lt_of_heap h.hg) h.hSg).trans h.hg, (hf m (lt_of_heap h.hmo) h.hSm).trans h.hmo, h.hmb, h.hlk.frame hf, h.hfr.frame (fun b hb hS => hf b hb hS.1), (hf nb (lt_of_heap h.hnb) h.hSn).trans h.hnb⟩
theorem RowsO.mono {S' : Nat → Prop} (h : RowsO w S g n lk free l cnt m nb lv fv o) (hS : ∀ b, b < w.heap.size → S b → S' b) : RowsO w S' g n lk free l cnt m nb lv fv o :=
  ⟨hS _ (lt_of_heap h.hg) h.hSg, hS _ (lt_of_heap h.hmo) h.hSm, hS _ (lt_of_heap h.hnb) h.hSn, h.hcn, h.hg, h.hmo, h.hmb, h.hlk.mono hS, h.hfr.mono (fun b hb q => ⟨hS b hb q.1, q.2⟩), h.hnb⟩
/-- A store into a cell of the links. -/
theorem RowsO.setLink {b off cap : Nat} (h : RowsO w S g n lk free l cnt m nb (.slice (some ⟨b, off, none⟩) lk.length cap) fv o) {lk' : List Lnk} {i : Nat} {u : Value} (hi : i < (lcells lk).length) (hlen : lk'.length = lk.length) (hlk' : lcells lk' = (lcells lk).set i u)
    (hb : ∃ c, w.heap[b]? = some (.cells c 52 (0, 0))) : RowsO (w.setCell ⟨b, off + i, none⟩ u) S g n lk' free l cnt m nb (.slice (some ⟨b, off, none⟩) lk.length cap) fv o := by
  obtain ⟨c, hb⟩ := hb
  have h1 : g ≠ b := fun e => by subst e; have := h.hg; rw [hb] at this; simp at this
  have h2 : m ≠ b := fun e => by subst e; obtain ⟨es, clk, e, _⟩ := h.hmb; have := h.hmo; rw [hb, e] at this; cases this
  have h3 : nb ≠ b := fun e => by subst e; have := h.hnb; rw [hb] at this; simp at this
  have hs := h.hlk.set hi u
  refine ⟨h.hSg, h.hSm, h.hSn, h.hcn, (heap_setCell_other h1 u).trans h.hg, (heap_setCell_other h2 u).trans h.hmo, h.hmb, ?_, h.hfr.setCell_other hb (by decide) _ _, (heap_setCell_other h3 u).trans h.hnb⟩
  rw [hlen, hlk']; exact hs
/-- The links' array is a block of links. -/
theorem RowsO.blk {b off cap : Nat} (h : RowsO w S g n lk free l cnt m nb (.slice (some ⟨b, off, none⟩) lk.length cap) fv o) : ∃ c, w.heap[b]? = some (.cells c 52 (0, 0)) := by
  rcases h.hlk.2 with ⟨h2, _⟩ | ⟨b', off', cap', c, hv, hS, hb, _⟩
  · cases h2
  · simp at hv
    obtain ⟨⟨rfl, rfl⟩, rfl⟩ := hv
    exact ⟨c, hb⟩
theorem lcells_modify (f : Lnk → Lnk) (j : Nat) (u : Lnk → Value) (hj : j < 4) (hf : ∀ x : Lnk, [iv (f x).id, iv (f x).row, iv (f x).before, iv (f x).after] = [iv x.id, iv x.row, iv x.before, iv x.after].set j (u x)) :
    ∀ (lk : List Lnk) (k : Nat) (hk : k < lk.length), lcells (lk.modify k f) = (lcells lk).set (k * 4 + j) (u lk[k])
  | x :: lk, 0, _ => by
    show [iv (f x).id, iv (f x).row, iv (f x).before, iv (f x).after] ++ lcells lk = ([iv x.id, iv x.row, iv x.before, iv x.after] ++ lcells lk).set (0 * 4 + j) (u x)
    rw [hf x, Nat.zero_mul, Nat.zero_add, List.set_append_left _ _ (by simpa using hj)]
  | x :: lk, k + 1, hk => by
    have ih := lcells_modify f j u hj hf lk k (by simpa using hk)
    show [iv x.id, iv x.row, iv x.before, iv x.after] ++ lcells (lk.modify k f) = ([iv x.id, iv x.row, iv x.before, iv x.after] ++ lcells lk).set ((k + 1) * 4 + j) _
    rw [ih, List.set_append_right _ _ (by simp; omega)]
    congr 2
    simp; omega
theorem lcells_setA {lk : List Lnk} {k : Nat} (hk : k < lk.length) (a : Nat) : lcells (setA lk k a) = (lcells lk).set (k * 4 + 3) (iv a) :=
  lcells_modify (fun x => { x with after := a }) 3 (fun _ => iv a) (by decide) (fun _ => rfl) lk k hk
theorem lcells_setB {lk : List Lnk} {k : Nat} (hk : k < lk.length) (a : Nat) : lcells (setB lk k a) = (lcells lk).set (k * 4 + 2) (iv a) :=
  lcells_modify (fun x => { x with before := a }) 2 (fun _ => iv a) (by decide) (fun _ => rfl) lk k hk
theorem RowsO.setA {b off cap k : Nat} (h : RowsO w S g n lk free l cnt m nb (.slice (some ⟨b, off, none⟩) lk.length cap) fv o) (hk : k < lk.length) (a : Nat) :
    RowsO (w.setCell ⟨b, off + k * 4 + 3, none⟩ (iv a)) S g n (setA lk k a) free l cnt m nb (.slice (some ⟨b, off, none⟩) lk.length cap) fv o := by
  rw [Nat.add_assoc]
  exact h.setLink (by rw [lcells_len]; omega) (setA_len _ _ _) (lcells_setA hk a) h.blk
theorem RowsO.setB {b off cap k : Nat} (h : RowsO w S g n lk free l cnt m nb (.slice (some ⟨b, off, none⟩) lk.length cap) fv o) (hk : k < lk.length) (a : Nat) :
    RowsO (w.setCell ⟨b, off + k * 4 + 2, none⟩ (iv a)) S g n (setB lk k a) free l cnt m nb (.slice (some ⟨b, off, none⟩) lk.length cap) fv o := by
  rw [Nat.add_assoc]
  exact h.setLink (by rw [lcells_len]; omega) (setB_len _ _ _) (lcells_setB hk a) h.blk
/-- Two stores, as Take and put make them. -/
theorem RowsO.two {b off cap i j : Nat} (h : RowsO w S g n lk free l cnt m nb (.slice (some ⟨b, off, none⟩) lk.length cap) fv o) (hi : i < lk.length) (hj : j < lk.length) (a c : Nat) :
    RowsO ((w.setCell ⟨b, off + i * 4 + 3, none⟩ (iv a)).setCell ⟨b, off + j * 4 + 2, none⟩ (iv c)) S g n (Proofs.Ytemdhnolccnnfaa.setB (Proofs.Ytemdhnolccnnfaa.setA lk i a) j c) free l cnt m nb (.slice (some ⟨b, off, none⟩) lk.length cap) fv o := by
  have h1 := h.setA hi a
  have h2 := RowsO.setB (k := j) (by rw [setA_len]; exact h1) (by rw [setA_len]; exact hj) c
  rw [setA_len] at h2
  exact h2
def setI (lk : List Lnk) (k : Nat) (a : Int) : List Lnk := lk.modify k fun x => { x with id := a }
def setR (lk : List Lnk) (k a : Nat) : List Lnk := lk.modify k fun x => { x with row := a }
theorem lcells_setI {lk : List Lnk} {k : Nat} (hk : k < lk.length) (a : Int) : lcells (setI lk k a) = (lcells lk).set (k * 4 + 0) (iv a) :=
  lcells_modify (fun x => { x with id := a }) 0 (fun _ => iv a) (by decide) (fun _ => rfl) lk k hk
theorem lcells_setR {lk : List Lnk} {k : Nat} (hk : k < lk.length) (a : Nat) : lcells (setR lk k a) = (lcells lk).set (k * 4 + 1) (iv a) :=
  lcells_modify (fun x => { x with row := a }) 1 (fun _ => iv a) (by decide) (fun _ => rfl) lk k hk
theorem set_four (lk : List Lnk) (k : Nat) (x : Lnk) : Proofs.Ytemdhnolccnnfaa.setA (Proofs.Ytemdhnolccnnfaa.setB (setR (setI lk k x.id) k x.row) k x.before) k x.after = lk.set k x := by
  apply List.ext_getElem?
  intro j
  unfold Proofs.Ytemdhnolccnnfaa.setA Proofs.Ytemdhnolccnnfaa.setB setR setI
  simp only [List.getElem?_modify, List.getElem?_set]
  by_cases e : k = j
  · subst e
    rcases h : lk[k]? with _ | z
    · have := List.getElem?_eq_none_iff.1 h
      simp [this]
    · have := (List.getElem?_eq_some_iff.1 h).1
      simp [this]
  · simp [e]
/-- A link, set anew. -/
theorem RowsO.setStruct {b off cap k : Nat} (h : RowsO w S g n lk free l cnt m nb (.slice (some ⟨b, off, none⟩) lk.length cap) fv o) (hk : k < lk.length) (x : Lnk) :
    RowsO ((((w.setCell ⟨b, off + k * 4, none⟩ (iv x.id)).setCell ⟨b, off + k * 4 + 1, none⟩ (iv x.row)).setCell ⟨b, off + k * 4 + 2, none⟩ (iv x.before)).setCell ⟨b, off + k * 4 + 3, none⟩ (iv x.after)) S g n (lk.set k x) free l cnt m nb (.slice (some ⟨b, off, none⟩) lk.length cap) fv o := by
  have l1 : (setI lk k x.id).length = lk.length := by simp [setI]
  have l2 : (setR (setI lk k x.id) k x.row).length = lk.length := by simp [setR, l1]
  have l3 : (Proofs.Ytemdhnolccnnfaa.setB (setR (setI lk k x.id) k x.row) k x.before).length = lk.length := by rw [setB_len, l2]
  have h1 := h.setLink (lk' := setI lk k x.id) (i := k * 4 + 0) (u := iv x.id) (by rw [lcells_len]; omega) l1 (lcells_setI hk _) h.blk
  have h2 := RowsO.setLink (lk := setI lk k x.id) (lk' := setR (setI lk k x.id) k x.row) (i := k * 4 + 1) (u := iv x.row) (by rw [l1]; exact h1) (by rw [lcells_len]; omega) (by rw [l2, l1]) (lcells_setR (by omega) _) (RowsO.blk (lk := setI lk k x.id) (by rw [l1]; exact h1))
  rw [l1] at h2
  have h3 := RowsO.setB (lk := setR (setI lk k x.id) k x.row) (k := k) (by rw [l2]; exact h2) (by omega) x.before
  rw [l2] at h3
  have h4 := RowsO.setA (lk := Proofs.Ytemdhnolccnnfaa.setB (setR (setI lk k x.id) k x.row) k x.before) (k := k) (by rw [l3]; exact h3) (by omega) x.after
  rw [l3, set_four] at h4
  rw [Nat.add_zero] at h4
  exact h4
/-- The free places, set anew. -/
theorem RowsO.setFree (h : RowsO w S g n lk free l cnt m nb lv fv o) {free' : List Nat} {fv' : Value} (hf : Sl w (fun b => S b ∧ b ≠ nb) 3 1 fv' free'.length (free'.map fun (k : Nat) => iv (k : Int))) :
    RowsO (w.setCell ⟨g, 1, none⟩ fv') S g n lk free' l cnt m nb lv fv' o := by
  have hm := h.gm
  have hn := h.gn
  exact ⟨h.hSg, h.hSm, h.hSn, h.hcn, (heap_setCell_same h.hg 1 fv').trans (by simp), (heap_setCell_other (fun e => hm e.symm) _).trans h.hmo, h.hmb, h.hlk.setCell_other h.hg (by decide) _ _, hf.setCell_other h.hg (by decide) _ _, (heap_setCell_other (fun e => hn e.symm) _).trans h.hnb⟩
/-- The links, set anew. -/
theorem RowsO.setLinks (h : RowsO w S g n lk free l cnt m nb lv fv o) {lk' : List Lnk} {lv' : Value} (hf : Sl w S 52 4 lv' lk'.length (lcells lk')) :
    RowsO (w.setCell ⟨g, 0, none⟩ lv') S g n lk' free l cnt m nb lv' fv o := by
  have hm := h.gm
  have hn := h.gn
  exact ⟨h.hSg, h.hSm, h.hSn, h.hcn, (heap_setCell_same h.hg 0 lv').trans (by simp), (heap_setCell_other (fun e => hm e.symm) _).trans h.hmo, h.hmb, hf.setCell_other h.hg (by decide) _ _, h.hfr.setCell_other h.hg (by decide) _ _, (heap_setCell_other (fun e => hn e.symm) _).trans h.hnb⟩
/-- A count. -/
theorem RowsO.setCount (h : RowsO w S g n lk free l cnt m nb lv fv o) (r : Nat) (c : Int) : RowsO (w.setCell ⟨nb, r, none⟩ (iv c)) S g n lk free l (cnt.set r c) m nb lv fv o := by
  have hm := h.nm
  have hn := h.gn
  refine ⟨h.hSg, h.hSm, h.hSn, by simpa using h.hcn, (heap_setCell_other hn _).trans h.hg, (heap_setCell_other (fun e => hm e.symm) _).trans h.hmo, h.hmb, h.hlk.setCell_other h.hnb (by decide) _ _, ?_, (heap_setCell_same h.hnb r _).trans ?_⟩
  · exact h.hfr.set_other (p := ⟨nb, r, none⟩) (fun q => q.2 rfl) _
  · simp [List.map_set]
/-- The map. -/
theorem RowsO.setMap (h : RowsO w S g n lk free l cnt m nb lv fv o) {l' : List (Int × Value)} {o' : Obj} (ho : MapBlk .i64 l' o') : RowsO (w.putObj m o') S g n lk free l' cnt m nb lv fv o' :=
  ⟨h.hSg, h.hSm, h.hSn, h.hcn, (World.putObj_heap_other h.gm).trans h.hg, World.putObj_heap_same (lt_of_heap h.hmo), ho, h.hlk.putObj_map h.hmo h.hmb o', h.hfr.putObj_map h.hmo h.hmb o', (World.putObj_heap_other h.nm).trans h.hnb⟩
theorem RowsO.alloc (h : RowsO w S g n lk free l cnt m nb lv fv o) (ob : Obj) : RowsO (w.alloc ob) S g n lk free l cnt m nb lv fv o := h.frame fun b hb _ => heap_alloc_old ob hb
/-- Behind an append to the links or the free places: what it wrote lies in the array of that type alone, or is new. -/
theorem RowsO.appLinks {w1 : World} (h : RowsO w S g n lk free l cnt m nb lv fv o) (hF : Fr (Arr S w 52) w w1) {lk' : List Lnk} {lv' : Value} (hs : Sl w1 (grow S w w1) 52 4 lv' lk'.length (lcells lk')) :
    RowsO (w1.setCell ⟨g, 0, none⟩ lv') (grow S w w1) g n lk' free l cnt m nb lv' fv o := by
  have ha : ∀ b, ¬ (∃ c, w.heap[b]? = some (.cells c 52 (0, 0))) → b < w.heap.size → w1.heap[b]? = w.heap[b]? := fun b hb hl => hF.block b hl fun q => hb q.2
  have h1 : w1.heap[g]? = w.heap[g]? := ha g (fun ⟨c, hc⟩ => by rw [h.hg] at hc; simp at hc) (lt_of_heap h.hg)
  have h2 : w1.heap[m]? = w.heap[m]? := ha m (fun ⟨c, hc⟩ => by obtain ⟨es, clk, e, _⟩ := h.hmb; rw [h.hmo, e] at hc; cases hc) (lt_of_heap h.hmo)
  have h3 : w1.heap[nb]? = w.heap[nb]? := ha nb (fun ⟨c, hc⟩ => by rw [h.hnb] at hc; simp at hc) (lt_of_heap h.hnb)
  have hfr : Sl w1 (fun b => grow S w w1 b ∧ b ≠ nb) 3 1 fv free.length (free.map fun (k : Nat) => iv (k : Int)) :=
    (h.hfr.keep (w' := w1) fun b c hS hb => ha b (fun ⟨c', hc⟩ => by rw [hb] at hc; simp at hc) (lt_of_heap hb)).mono fun b hb q => ⟨Or.inl q.1, q.2⟩
  have hgm : m ≠ g := fun e => h.gm e.symm
  have hgn : nb ≠ g := fun e => h.gn e.symm
  have hg1 := h1.trans h.hg
  exact ⟨Or.inl h.hSg, Or.inl h.hSm, Or.inl h.hSn, h.hcn, (heap_setCell_same hg1 0 lv').trans (by simp), (heap_setCell_other hgm _).trans (h2.trans h.hmo), h.hmb, hs.setCell_other hg1 (by decide) _ _, hfr.setCell_other hg1 (by decide) _ _, (heap_setCell_other hgn _).trans (h3.trans h.hnb)⟩
theorem RowsO.appFree_g {w1 : World} (h : RowsO w S g n lk free l cnt m nb lv fv o) (hF : Fr (Arr (fun b => S b ∧ b ≠ nb) w 3) w w1) : w1.heap[g]? = w.heap[g]? :=
  hF.block g (lt_of_heap h.hg) fun ⟨_, c, hc⟩ => by rw [h.hg] at hc; simp at hc
theorem RowsO.appLinks_g {w1 : World} (h : RowsO w S g n lk free l cnt m nb lv fv o) (hF : Fr (Arr S w 52) w w1) : w1.heap[g]? = w.heap[g]? :=
  hF.block g (lt_of_heap h.hg) fun ⟨_, c, hc⟩ => by rw [h.hg] at hc; simp at hc
theorem RowsO.appFree {w1 : World} (h : RowsO w S g n lk free l cnt m nb lv fv o) (hF : Fr (Arr (fun b => S b ∧ b ≠ nb) w 3) w w1) {free' : List Nat} {fv' : Value} (hs : Sl w1 (grow (fun b => S b ∧ b ≠ nb) w w1) 3 1 fv' free'.length (free'.map fun (k : Nat) => iv (k : Int))) :
    RowsO (w1.setCell ⟨g, 1, none⟩ fv') (grow S w w1) g n lk free' l cnt m nb lv fv' o := by
  have ha : ∀ b, b = nb ∨ ¬ (∃ c, w.heap[b]? = some (.cells c 3 (0, 0))) → b < w.heap.size → w1.heap[b]? = w.heap[b]? := fun b hb hl => hF.block b hl fun q => hb.elim q.1.2 (fun h => h q.2)
  have h1 : w1.heap[g]? = w.heap[g]? := ha g (Or.inr fun ⟨c, hc⟩ => by rw [h.hg] at hc; simp at hc) (lt_of_heap h.hg)
  have h2 : w1.heap[m]? = w.heap[m]? := ha m (Or.inr fun ⟨c, hc⟩ => by obtain ⟨es, clk, e, _⟩ := h.hmb; rw [h.hmo, e] at hc; cases hc) (lt_of_heap h.hmo)
  have h3 : w1.heap[nb]? = w.heap[nb]? := ha nb (Or.inl rfl) (lt_of_heap h.hnb)
  have hl : Sl w1 (grow S w w1) 52 4 lv lk.length (lcells lk) :=
    (h.hlk.keep (w' := w1) fun b c hS hb => ha b (Or.inr fun ⟨c', hc⟩ => by rw [hb] at hc; simp at hc) (lt_of_heap hb)).mono fun b hb q => Or.inl q
  have hgm : m ≠ g := fun e => h.gm e.symm
  have hgn : nb ≠ g := fun e => h.gn e.symm
  have hg1 := h1.trans h.hg
  have hs' : Sl w1 (fun b => grow S w w1 b ∧ b ≠ nb) 3 1 fv' free'.length (free'.map fun (k : Nat) => iv (k : Int)) :=
    hs.mono fun b hb q => q.elim (fun q => ⟨Or.inl q.1, q.2⟩) (fun q => ⟨Or.inr q, fun e => by have := lt_of_heap h.hnb; omega⟩)
  exact ⟨Or.inl h.hSg, Or.inl h.hSm, Or.inl h.hSn, h.hcn, (heap_setCell_same hg1 1 fv').trans (by simp), (heap_setCell_other hgm _).trans (h2.trans h.hmo), h.hmb, hl.setCell_other hg1 (by decide) _ _, hs'.setCell_other hg1 (by decide) _ _, (heap_setCell_other hgn _).trans (h3.trans h.hnb)⟩
end
end Go.Proofs.Ytemdhnolccnnfaa
