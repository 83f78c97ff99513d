/- Layer 9 (chain) in memory: a key's bucket, and another list in its place. -/
import Derived.Test.YtnabgcnndehaaaaChMem
namespace Go.Proofs.Ytnabgcnndehaaaa
open Go.RowKit
set_option linter.unusedVariables false
theorem not_entB {T : TypeId} {c : Array Value} {f : Nat × Nat} {k : ByteArray} {n : Int} {nx : Value} (hT : T ≠ 63) : Obj.cells c T f ≠ entB k n nx := by
  unfold entB; intro h; simp at h; exact hT h.2.1
section
variable {w w' : World} {S S' : Nat → Prop} {t rb ob : Nat} {s : ChS} {xs ys : List Value} {mvv : Int}
theorem ChO.frame (h : ChO w S t s rb ob xs ys mvv) (hf : ∀ b, b < w.heap.size → S b → w'.heap[b]? = w.heap[b]?) : ChO w' S t s rb ob xs ys mvv :=
  ⟨h.hSt, h.hSr, (hf t (lt_of_heap h.hp) h.hSt).trans h.hp, (hf rb (lt_of_heap h.hr) h.hSr).trans h.hr, h.hxl, fun i v q => chn_keep (h.hx i v q) (fun b k n nx e q _ => hf b (lt_of_heap e) q) (fun b _ q => q),
   fun g => by obtain ⟨g1, g2, g3, g4, g5, g6⟩ := h.hg g; exact ⟨g1, g2, g3, (hf ob (lt_of_heap g4) g2).trans g4, g5, fun i v q => chn_keep (g6 i v q) (fun b k n nx e q _ => hf b (lt_of_heap e) q) (fun b _ q => q)⟩⟩
theorem ChO.mono (h : ChO w S t s rb ob xs ys mvv) (hS : ∀ b, b < w.heap.size → S b → S' b) : ChO w S' t s rb ob xs ys mvv :=
  ⟨hS t (lt_of_heap h.hp) h.hSt, hS rb (lt_of_heap h.hr) h.hSr, h.hp, h.hr, h.hxl, fun i v q => chn_keep (h.hx i v q) (fun b k n nx e q _ => rfl) hS,
   fun g => by obtain ⟨g1, g2, g3, g4, g5, g6⟩ := h.hg g; exact ⟨g1, hS ob (lt_of_heap g4) g2, g3, g4, g5, fun i v q => chn_keep (g6 i v q) (fun b k n nx e q _ => rfl) hS⟩⟩
theorem ChAt.frame (h : ChAt w S t s) (hf : ∀ b, b < w.heap.size → S b → w'.heap[b]? = w.heap[b]?) : ChAt w' S t s := by
  obtain ⟨hW, rb, ob, xs, ys, mvv, h⟩ := h; exact ⟨hW, rb, ob, xs, ys, mvv, h.frame hf⟩
theorem ChAt.mono (h : ChAt w S t s) (hS : ∀ b, b < w.heap.size → S b → S' b) : ChAt w S' t s := by
  obtain ⟨hW, rb, ob, xs, ys, mvv, h⟩ := h; exact ⟨hW, rb, ob, xs, ys, mvv, h.mono hS⟩
/-- Where a key's bucket hangs. -/
def slotB (s : ChS) (k : ByteArray) (rb ob : Nat) : Nat := if inOld s k then ob else rb
def slotI (s : ChS) (k : ByteArray) : Nat := if inOld s k then hx k (s.pw - 1) else hx k s.pw
theorem home_at (hW : ChW s) (h : ChO w S t s rb ob xs ys mvv) (k : ByteArray) :
    ∃ vs v, w.heap[slotB s k rb ob]? = some (.cells (List.toArray vs) 59 (0, 0)) ∧ vs[slotI s k]? = some v ∧ S (slotB s k rb ob) ∧ Chn w S v (home s k) := by
  unfold slotB slotI home
  split
  · rename_i ho
    obtain ⟨g1, g2, g3, g4, g5, g6⟩ := h.hg ho.1
    have hi : hx k (s.pw - 1) < ys.length := by rw [g5]; exact hx_lt _ _
    exact ⟨ys, ys[hx k (s.pw - 1)], g4, List.getElem?_eq_getElem hi, g2, g6 _ _ (List.getElem?_eq_getElem hi)⟩
  · have hi : hx k s.pw < xs.length := by rw [h.hxl]; exact hx_lt _ _
    exact ⟨xs, xs[hx k s.pw], h.hr, List.getElem?_eq_getElem hi, h.hSr, h.hx _ _ (List.getElem?_eq_getElem hi)⟩
theorem set_get {vs : List Value} {i j : Nat} {v u : Value} (h : (vs.set i v)[j]? = some u) : (j = i ∧ u = v) ∨ (j ≠ i ∧ vs[j]? = some u) := by
  rw [List.getElem?_set] at h
  split at h
  · rename_i e
    split at h
    · exact Or.inl ⟨e.symm, (Option.some.inj h).symm⟩
    · cases h
  · rename_i e; exact Or.inr ⟨fun q => e q.symm, h⟩
/-- Another list in a key's bucket. -/
theorem put_at (hW : ChW s) (h : ChO w S t s rb ob xs ys mvv) (k : ByteArray) (hS : ∀ b, b < w.heap.size → S b → S' b)
    (hf : ∀ b, S b → b < w.heap.size → b ≠ slotB s k rb ob → w'.heap[b]? = w.heap[b]? ∨ ∃ k0 n nx, w.heap[b]? = some (entB k0 n nx) ∧ k0 ∈ ks (home s k))
    {vs : List Value} (hv : w.heap[slotB s k rb ob]? = some (.cells (List.toArray vs) 59 (0, 0))) {v' : Value} {l : List KN}
    (hab : w'.heap[slotB s k rb ob]? = some (.cells (List.toArray (vs.set (slotI s k) v')) 59 (0, 0))) (hc : Chn w' S' v' l) :
    ∃ xs' ys', ChO w' S' t (put s k l) rb ob xs' ys' mvv := by
  have hoth : ∀ b, S b → b ≠ slotB s k rb ob → (∀ k0 n nx, w.heap[b]? ≠ some (entB k0 n nx)) → b < w.heap.size → w'.heap[b]? = w.heap[b]? := fun b q1 q2 q3 q4 => (hf b q1 q4 q2).elim (fun q => q) (fun ⟨k0, n, nx, e, _⟩ => absurd e (q3 k0 n nx))
  have ht : w'.heap[t]? = w.heap[t]? := by
    refine hoth t h.hSt (fun e => ?_) (fun k0 n nx e => ?_) (lt_of_heap h.hp)
    · have := h.hp; rw [e, hv] at this; simp at this
    · rw [h.hp] at e; exact not_entB (by decide) (Option.some.inj e)
  have harr : ∀ b vs2, S b → b ≠ slotB s k rb ob → w.heap[b]? = some (.cells (List.toArray vs2) 59 (0, 0)) → w'.heap[b]? = w.heap[b]? := fun b vs2 q1 q2 q3 =>
    hoth b q1 q2 (fun k0 n nx e => by rw [q3] at e; exact not_entB (by decide) (Option.some.inj e)) (lt_of_heap q3)
  have hch : ∀ {es : List KN} {v : Value}, Chn w S v es → (∀ k0, k0 ∈ ks es → k0 ∉ ks (home s k)) → Chn w' S' v es := fun hc hd =>
    chn_keep hc (fun b k0 n nx e q1 q2 => (hf b q1 (lt_of_heap e) (fun q => by rw [q, hv] at e; exact not_entB (by decide) (Option.some.inj e))).elim (fun q => q) (fun ⟨k1, n1, nx1, e1, q3⟩ => by
      rw [e] at e1
      have := entB_key (Option.some.inj e1)
      subst this
      exact absurd q3 (hd _ q2))) hS
  by_cases ho : inOld s k
  · obtain ⟨g1, g2, g3, g4, g5, g6⟩ := h.hg ho.1
    have eb : slotB s k rb ob = ob := if_pos ho
    have ei : slotI s k = hx k (s.pw - 1) := if_pos ho
    rw [eb] at hv hab harr
    rw [ei] at hab
    have evs : vs = ys := by rw [g4] at hv; simp at hv; exact hv.symm
    subst evs
    refine ⟨xs, vs.set (hx k (s.pw - 1)) v', ?_⟩
    unfold put
    rw [if_pos ho]
    refine ⟨hS t (lt_of_heap h.hp) h.hSt, hS rb (lt_of_heap h.hr) h.hSr, ht.trans h.hp, (harr rb _ h.hSr (fun e => g3 e.symm) h.hr).trans h.hr, h.hxl, fun i v q => hch (h.hx i v q) (fun k0 q1 q2 => (other_R hW q2 q1).1 ho), fun _ => ⟨g1, hS ob (lt_of_heap g4) g2, g3, hab, by rw [List.length_set]; exact g5, fun i v q => ?_⟩⟩
    rcases set_get q with ⟨e1, e2⟩ | ⟨e1, e2⟩
    · rw [e1, e2]; show Chn w' S' v' (upd s.O _ l _); unfold upd; rw [if_pos rfl]; exact hc
    · show Chn w' S' v (upd s.O _ l i)
      unfold upd; rw [if_neg e1]
      exact hch (g6 i v e2) (fun k0 q1 q2 => e1 (other_O hW ho.1 q2 q1).2)
  · have eb : slotB s k rb ob = rb := if_neg ho
    have ei : slotI s k = hx k s.pw := if_neg ho
    rw [eb] at hv hab harr
    rw [ei] at hab
    have evs : vs = xs := by have := h.hr; rw [hv] at this; simp at this; exact this
    subst evs
    refine ⟨vs.set (hx k s.pw) v', ys, ?_⟩
    unfold put
    rw [if_neg ho]
    refine ⟨hS t (lt_of_heap h.hp) h.hSt, hS rb (lt_of_heap h.hr) h.hSr, ht.trans h.hp, hab, by rw [List.length_set]; exact h.hxl, fun i v q => ?_, fun hg => ?_⟩
    · rcases set_get q with ⟨e1, e2⟩ | ⟨e1, e2⟩
      · rw [e1, e2]; show Chn w' S' v' (upd s.R _ l _); unfold upd; rw [if_pos rfl]; exact hc
      · show Chn w' S' v (upd s.R _ l i)
        unfold upd; rw [if_neg e1]
        exact hch (h.hx i v e2) (fun k0 q1 q2 => e1 (other_R hW q2 q1).2)
    · obtain ⟨g1, g2, g3, g4, g5, g6⟩ := h.hg hg
      exact ⟨g1, hS ob (lt_of_heap g4) g2, g3, (harr ob _ g2 g3 g4).trans g4, g5, fun i v q => hch (g6 i v q) (fun k0 q1 q2 => ho (other_O hW hg q2 q1).1)⟩
theorem ChO.cells (h : ChO w S t s rb ob xs ys mvv) : w.cell? ⟨t, 0, none⟩ = some (.int .i64 s.pw) ∧ w.cell? ⟨t, 1, none⟩ = some (if s.g then .slice (some ⟨ob, 0, none⟩) (2 ^ (s.pw - 1)) (2 ^ (s.pw - 1)) else .slice none 0 0) ∧ w.cell? ⟨t, 2, none⟩ = some (.slice (some ⟨rb, 0, none⟩) (2 ^ s.pw) (2 ^ s.pw)) ∧ w.cell? ⟨t, 3, none⟩ = some (.int .i64 mvv) ∧ w.cell? ⟨t, 4, none⟩ = some (.int .i64 s.n) ∧ (∀ i, w.frozen? ⟨t, i, none⟩ = false) ∧ t < w.heap.size := by
  have c0 := cell_of_heap h.hp 0
  have c1 := cell_of_heap h.hp 1
  have c2 := cell_of_heap h.hp 2
  have c3 := cell_of_heap h.hp 3
  have c4 := cell_of_heap h.hp 4
  exact ⟨by simpa using c0, by simpa using c1, by simpa using c2, by simpa using c3, by simpa using c4, fun i => fro_of_heap h.hp i, lt_of_heap h.hp⟩
theorem ent_cells {b : Nat} {k : ByteArray} {n : Int} {nx : Value} (h : w.heap[b]? = some (entB k n nx)) : w.cell? ⟨b, 0, none⟩ = some (.string k) ∧ w.cell? ⟨b, 1, none⟩ = some (.int .u64 (fk k)) ∧ w.cell? ⟨b, 2, none⟩ = some (.int .i64 n) ∧ w.cell? ⟨b, 3, none⟩ = some nx ∧ (∀ i, w.frozen? ⟨b, i, none⟩ = false) := by
  have c0 := cell_of_heap h 0
  have c1 := cell_of_heap h 1
  have c2 := cell_of_heap h 2
  have c3 := cell_of_heap h 3
  exact ⟨by simpa using c0, by simpa using c1, by simpa using c2, by simpa using c3, fun i => fro_of_heap h i⟩
theorem arr_cells {b : Nat} {vs : List Value} {T : TypeId} (h : w.heap[b]? = some (.cells (List.toArray vs) T (0, 0))) {i : Nat} {v : Value} (hv : vs[i]? = some v) : w.cell? ⟨b, i, none⟩ = some v ∧ w.frozen? ⟨b, i, none⟩ = false := by
  have c0 := cell_of_heap h i
  exact ⟨by simpa [hv] using c0, fro_of_heap h i⟩
end
end Go.Proofs.Ytnabgcnndehaaaa
