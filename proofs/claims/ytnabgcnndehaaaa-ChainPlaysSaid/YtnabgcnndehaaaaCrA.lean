/- The reference of layer 9 (chain): buckets as slices. -/
import Derived.Test.YtnabgcnndehaaaaChFront
import Derived.Test.YtnabgcnndehaaaaAppend2
namespace Go.Proofs.Ytnabgcnndehaaaa
open Go.RowKit
set_option linter.unusedVariables false
/-- Entries, as cells. -/
def ents (l : List KN) : List Value := l.flatMap fun e => [.string e.1, .int .i64 e.2]
theorem ents_nil : ents [] = [] := rfl
theorem ents_cons (e : KN) (l : List KN) : ents (e :: l) = .string e.1 :: .int .i64 e.2 :: ents l := by simp [ents]
theorem ents_app (a b : List KN) : ents (a ++ b) = ents a ++ ents b := by simp [ents]
theorem ents_len (l : List KN) : (ents l).length = l.length * 2 := by
  induction l with
  | nil => rfl
  | cons p l ih => rw [ents_cons]; simp only [List.length_cons]; omega
theorem ents_get {l : List KN} : ∀ {k : Nat} {p : KN}, l[k]? = some p → (ents l)[k * 2]? = some (.string p.1) ∧ (ents l)[k * 2 + 1]? = some (.int .i64 p.2) := by
  induction l with
  | nil => intro k p h; simp at h
  | cons q l ih =>
    intro k p h
    rw [ents_cons]
    match k, h with
    | 0, h => simp at h; subst h; exact ⟨rfl, rfl⟩
    | k + 1, h =>
      have := ih (k := k) (p := p) (by simpa using h)
      rw [show (k + 1) * 2 = k * 2 + 1 + 1 from by omega]
      exact ⟨by simpa using this.1, by simpa using this.2⟩
theorem ents_one : ∀ {l : List KN}, ∀ y ∈ ents l, y.oneCell' = true
  | [], y, h => by cases h
  | e :: l, y, h => by
    rw [ents_cons] at h
    rcases List.mem_cons.1 h with rfl | h
    · rfl
    · rcases List.mem_cons.1 h with rfl | h
      · rfl
      · exact ents_one y h
/-- The cells of an entry. -/
theorem ent_at {w : World} {S : Nat → Prop} {v : Value} {l : List KN} (h : Sl w S 73 2 v l.length (ents l)) :
    ∃ a cap, v = .slice a l.length cap ∧ l.length ≤ cap ∧ ∀ k x, l[k]? = some x → ∃ b off, a = some ⟨b, off, none⟩ ∧ b < w.heap.size ∧ S b ∧ w.cell? ⟨b, off + k * 2, none⟩ = some (.string x.1) ∧ w.cell? ⟨b, off + k * 2 + 1, none⟩ = some (.int .i64 x.2) ∧ (∀ i, w.frozen? ⟨b, i, none⟩ = false) := by
  obtain ⟨a, cap, rfl, hcap⟩ := h.shape
  refine ⟨a, cap, rfl, hcap, fun k x hx => ?_⟩
  have hk := (List.getElem?_eq_some_iff.1 hx).1
  obtain ⟨b, off, cap', hv, hS, hb, _, hc, hf⟩ := h.pos (by omega)
  simp at hv
  obtain ⟨g1, g2⟩ := ents_get hx
  have hl := ents_len l
  exact ⟨b, off, hv.1, hb, hS, by rw [hc (k * 2) (by omega), g1], by rw [Nat.add_assoc, hc (k * 2 + 1) (by omega), g2], hf⟩
structure CrO (w : World) (S : Nat → Prop) (u : Nat) (s : ChS) (nb ob : Nat) (xs ys : List Value) (dv : Int) (o : Nat → Nat) : Prop where
  hSu : S u
  hSn : S nb
  hp : w.heap[u]? = some (.cells #[.int .i64 s.pw, .bool s.g, .int .i64 dv, if s.g then .slice (some ⟨ob, 0, none⟩) (2 ^ (s.pw - 1)) (2 ^ (s.pw - 1)) else .slice none 0 0, .slice (some ⟨nb, 0, none⟩) (2 ^ s.pw) (2 ^ s.pw), .int .i64 s.n] 53 (0, 0))
  hn : w.heap[nb]? = some (.cells xs.toArray 68 (0, 0))
  hxl : xs.length = 2 ^ s.pw
  hxs : ∀ i v, xs[i]? = some v → Sl w (fun b => S b ∧ o b = 2 * i + 1) 73 2 v (s.R i).length (ents (s.R i))
  hg : s.g = true → dv = s.m ∧ S ob ∧ ob ≠ nb ∧ w.heap[ob]? = some (.cells ys.toArray 68 (0, 0)) ∧ ys.length = 2 ^ (s.pw - 1) ∧ ∀ i v, ys[i]? = some v → Sl w (fun b => S b ∧ o b = 2 * i) 73 2 v (s.O i).length (ents (s.O i))
def CrAt (w : World) (S : Nat → Prop) (u : Nat) (s : ChS) : Prop := ChW s ∧ ∃ nb ob xs ys dv o, CrO w S u s nb ob xs ys dv o
section
variable {w w' : World} {S S' : Nat → Prop} {u nb ob : Nat} {s : ChS} {xs ys : List Value} {dv : Int} {o : Nat → Nat}
theorem CrO.frame (h : CrO w S u s nb ob xs ys dv o) (hf : ∀ b, b < w.heap.size → S b → w'.heap[b]? = w.heap[b]?) : CrO w' S u s nb ob xs ys dv o :=
  ⟨h.hSu, h.hSn, (hf u (lt_of_heap h.hp) h.hSu).trans h.hp, (hf nb (lt_of_heap h.hn) h.hSn).trans h.hn, h.hxl, fun i v q => (h.hxs i v q).frame fun b hb q => hf b hb q.1,
   fun g => by obtain ⟨g1, g2, g3, g4, g5, g6⟩ := h.hg g; exact ⟨g1, g2, g3, (hf ob (lt_of_heap g4) g2).trans g4, g5, fun i v q => (g6 i v q).frame fun b hb q => hf b hb q.1⟩⟩
theorem CrO.mono (h : CrO w S u s nb ob xs ys dv o) (hS : ∀ b, b < w.heap.size → S b → S' b) : CrO w S' u s nb ob xs ys dv o :=
  ⟨hS u (lt_of_heap h.hp) h.hSu, hS nb (lt_of_heap h.hn) h.hSn, h.hp, h.hn, h.hxl, fun i v q => (h.hxs i v q).mono fun b hb q => ⟨hS b hb q.1, q.2⟩,
   fun g => by obtain ⟨g1, g2, g3, g4, g5, g6⟩ := h.hg g; exact ⟨g1, hS ob (lt_of_heap g4) g2, g3, g4, g5, fun i v q => (g6 i v q).mono fun b hb q => ⟨hS b hb q.1, q.2⟩⟩⟩
theorem CrAt.frame (h : CrAt w S u s) (hf : ∀ b, b < w.heap.size → S b → w'.heap[b]? = w.heap[b]?) : CrAt w' S u s := by
  obtain ⟨hW, nb, ob, xs, ys, dv, o, h⟩ := h; exact ⟨hW, nb, ob, xs, ys, dv, o, h.frame hf⟩
theorem CrAt.mono (h : CrAt w S u s) (hS : ∀ b, b < w.heap.size → S b → S' b) : CrAt w S' u s := by
  obtain ⟨hW, nb, ob, xs, ys, dv, o, h⟩ := h; exact ⟨hW, nb, ob, xs, ys, dv, o, h.mono hS⟩
theorem CrO.cells (h : CrO w S u s nb ob xs ys dv o) : w.cell? ⟨u, 0, none⟩ = some (.int .i64 s.pw) ∧ w.cell? ⟨u, 1, none⟩ = some (.bool s.g) ∧ w.cell? ⟨u, 2, none⟩ = some (.int .i64 dv) ∧
    w.cell? ⟨u, 3, none⟩ = some (if s.g then .slice (some ⟨ob, 0, none⟩) (2 ^ (s.pw - 1)) (2 ^ (s.pw - 1)) else .slice none 0 0) ∧ w.cell? ⟨u, 4, none⟩ = some (.slice (some ⟨nb, 0, none⟩) (2 ^ s.pw) (2 ^ s.pw)) ∧ w.cell? ⟨u, 5, none⟩ = some (.int .i64 s.n) ∧ (∀ i, w.frozen? ⟨u, i, none⟩ = false) ∧ u < w.heap.size := by
  have c0 := cell_of_heap h.hp 0
  have c1 := cell_of_heap h.hp 1
  have c2 := cell_of_heap h.hp 2
  have c3 := cell_of_heap h.hp 3
  have c4 := cell_of_heap h.hp 4
  have c5 := cell_of_heap h.hp 5
  exact ⟨by simpa using c0, by simpa using c1, by simpa using c2, by simpa using c3, by simpa using c4, by simpa using c5, fun i => fro_of_heap h.hp i, lt_of_heap h.hp⟩
/-- The mark of a key's bucket. -/
def tagK (s : ChS) (k : ByteArray) : Nat := if inOld s k then 2 * slotI s k else 2 * slotI s k + 1
theorem CrO.home_at (hW : ChW s) (h : CrO w S u s nb ob xs ys dv o) (k : ByteArray) :
    ∃ vs v, w.heap[slotB s k nb ob]? = some (.cells (List.toArray vs) 68 (0, 0)) ∧ vs[slotI s k]? = some v ∧ S (slotB s k nb ob) ∧ Sl w (fun b => S b ∧ o b = tagK s k) 73 2 v (home s k).length (ents (home s k)) := by
  unfold tagK slotB slotI home
  split
  · rename_i ho
    obtain ⟨g1, g2, g3, g4, g5, g6⟩ := h.hg ho.1
    have hi : hx k (s.pw - 1) < ys.length := by rw [g5]; exact hx_lt _ _
    exact ⟨ys, ys[hx k (s.pw - 1)], g4, List.getElem?_eq_getElem hi, g2, g6 _ _ (List.getElem?_eq_getElem hi)⟩
  · have hi : hx k s.pw < xs.length := by rw [h.hxl]; exact hx_lt _ _
    exact ⟨xs, xs[hx k s.pw], h.hn, List.getElem?_eq_getElem hi, h.hSn, h.hxs _ _ (List.getElem?_eq_getElem hi)⟩
/-- Another list in a key's bucket, in an array that is new. -/
theorem CrO.put_new (hW : ChW s) (h : CrO w S u s nb ob xs ys dv o) (k : ByteArray) (hF : Fr (fun b => w.heap.size ≤ b) w w') {v : Value} {l : List KN} (hv : Sl w' (fun b => w.heap.size ≤ b) 73 2 v l.length (ents l)) :
    ∃ xs' ys' o', CrO (w'.setCell ⟨slotB s k nb ob, slotI s k, none⟩ v) (grow S w (w'.setCell ⟨slotB s k nb ob, slotI s k, none⟩ v)) u (put s k l) nb ob xs' ys' dv o' := by
  have hz : (w'.setCell ⟨slotB s k nb ob, slotI s k, none⟩ v).heap.size = w'.heap.size := by simp [World.setCell]
  have hlt : ∀ {b : Nat} {ob : Obj}, w.heap[b]? = some ob → w'.heap[b]? = some ob := fun hb => (hF.block _ (lt_of_heap hb) (by have := lt_of_heap hb; omega)).trans hb
  have hun : ∀ b vs, w.heap[b]? = some (.cells (List.toArray vs) 68 (0, 0)) → u ≠ b := fun b vs q e => by rw [← e, h.hp] at q; simp at q
  have keep : ∀ {v' : Value} {n : Nat} {q : List Value} {P : Nat → Prop}, Sl w P 73 2 v' n q → (∀ b vs, w.heap[b]? = some (.cells (List.toArray vs) 68 (0, 0)) → ∀ i z, Sl (w'.setCell ⟨b, i, none⟩ z) (fun c => P c ∧ c < w.heap.size) 73 2 v' n q) := fun {v' n q P} hs b vs hb i z =>
    ((hs.mono (S' := fun c => P c ∧ c < w.heap.size) fun c hc q => ⟨q, hc⟩).fr hF (fun c hc q => by omega)).setCell_other (hlt hb) (by decide) i z
  by_cases ho : inOld s k
  · obtain ⟨g1, g2, g3, g4, g5, g6⟩ := h.hg ho.1
    have eb : slotB s k nb ob = ob := if_pos ho
    have ei : slotI s k = hx k (s.pw - 1) := if_pos ho
    rw [eb, ei] at hz ⊢
    refine ⟨xs, ys.set (hx k (s.pw - 1)) v, fun b => if w.heap.size ≤ b then 2 * hx k (s.pw - 1) else o b, ?_⟩
    unfold put
    rw [if_pos ho]
    refine ⟨Or.inl h.hSu, Or.inl h.hSn, (heap_setCell_other (p := ⟨ob, hx k (s.pw - 1), none⟩) (hun _ _ g4) _).trans (hlt h.hp), (heap_setCell_other (p := ⟨ob, hx k (s.pw - 1), none⟩) (fun e => g3 e.symm) _).trans (hlt h.hn), h.hxl, fun i v' q => ?_, fun _ => ⟨g1, Or.inl g2, g3, (heap_setCell_same (hlt g4) _ _).trans (by simp), by rw [List.length_set]; exact g5, fun i v' q => ?_⟩⟩
    · exact (keep (h.hxs i v' q) ob ys g4 _ _).mono fun b hb q => ⟨Or.inl q.1.1, by rw [if_neg (by omega)]; exact q.1.2⟩
    · rcases set_get q with ⟨e1, e2⟩ | ⟨e1, e2⟩
      · rw [e1, e2]
        show Sl _ _ _ 2 v (upd s.O _ l _).length (ents (upd s.O _ l _))
        unfold upd; rw [if_pos rfl]
        exact (hv.setCell_other (hlt g4) (by decide) _ _).mono fun b hb q => ⟨Or.inr ⟨q, hb⟩, by rw [if_pos q]⟩
      · show Sl _ _ _ 2 v' (upd s.O _ l i).length (ents (upd s.O _ l i))
        unfold upd; rw [if_neg e1]
        exact (keep (g6 i v' e2) ob ys g4 _ _).mono fun b hb q => ⟨Or.inl q.1.1, by rw [if_neg (by omega)]; exact q.1.2⟩
  · have eb : slotB s k nb ob = nb := if_neg ho
    have ei : slotI s k = hx k s.pw := if_neg ho
    rw [eb, ei] at hz ⊢
    refine ⟨xs.set (hx k s.pw) v, ys, fun b => if w.heap.size ≤ b then 2 * hx k s.pw + 1 else o b, ?_⟩
    unfold put
    rw [if_neg ho]
    refine ⟨Or.inl h.hSu, Or.inl h.hSn, (heap_setCell_other (p := ⟨nb, hx k s.pw, none⟩) (hun _ _ h.hn) _).trans (hlt h.hp), (heap_setCell_same (hlt h.hn) _ _).trans (by simp), by rw [List.length_set]; exact h.hxl, fun i v' q => ?_, fun hg => ?_⟩
    · rcases set_get q with ⟨e1, e2⟩ | ⟨e1, e2⟩
      · rw [e1, e2]
        show Sl _ _ _ 2 v (upd s.R _ l _).length (ents (upd s.R _ l _))
        unfold upd; rw [if_pos rfl]
        exact (hv.setCell_other (hlt h.hn) (by decide) _ _).mono fun b hb q => ⟨Or.inr ⟨q, hb⟩, by rw [if_pos q]⟩
      · show Sl _ _ _ 2 v' (upd s.R _ l i).length (ents (upd s.R _ l i))
        unfold upd; rw [if_neg e1]
        exact (keep (h.hxs i v' e2) nb xs h.hn _ _).mono fun b hb q => ⟨Or.inl q.1.1, by rw [if_neg (by omega)]; exact q.1.2⟩
    · obtain ⟨g1, g2, g3, g4, g5, g6⟩ := h.hg hg
      refine ⟨g1, Or.inl g2, g3, (heap_setCell_other (p := ⟨nb, hx k s.pw, none⟩) g3 _).trans (hlt g4), g5, fun i v' q => ?_⟩
      exact (keep (g6 i v' q) nb xs h.hn _ _).mono fun b hb q => ⟨Or.inl q.1.1, by rw [if_neg (by omega)]; exact q.1.2⟩
end
end Go.Proofs.Ytnabgcnndehaaaa
