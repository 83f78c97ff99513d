/- Layer 13 (arc): a cache of so many places. -/
import Derived.Test.YtldnacphfoagnadArcFacts
namespace Go.Proofs.Ytldnacphfoagnad
open Go.RowKit
set_option linter.unusedVariables false
/-- Who stands. -/
def In2 (s : ArcS) (x : Int) : Prop := x ∈ s.L 0 ∨ x ∈ s.L 1
def tot2 (s : ArcS) : Nat := (s.L 0).length + (s.L 1).length
/-- The rows are sound. -/
structure Rw2 (s : ArcS) : Prop where
  n0 : (s.L 0).Nodup
  n1 : (s.L 1).Nodup
  dj : ∀ x, x ∈ s.L 0 → x ∉ s.L 1
theorem ar_rw2 {w0 w : World} {S : Nat → Prop} {p : Nat} {s : ArcS} {N M : Nat} (h : Sep (AR p s N M) w0 w S) : Rw2 s := by
  obtain ⟨h1, h2, _⟩ := ar_rows h
  exact ⟨h1 0 (by decide), h1 1 (by decide), fun x q0 q1 => by have := h2 0 1 (by decide) (by decide) x q0 q1; omega⟩
structure SV (pl : Nat) (s : ArcS) : Prop where
  m1 : s.m1 = pl
  m2 : s.m2 = pl
  most : s.most = pl
  P0 : 0 ≤ s.P
  P1 : s.P ≤ pl
  tot : tot2 s ≤ pl
  rng : ∀ x, In2 s x → 0 ≤ x ∧ x ≤ 15
  H : ∀ x, In2 s x → s.H x = 7 * x
  G : ∀ y, y ∈ s.B1 ∨ y ∈ s.B2 → ∃ i : Int, y = 7 * i ∧ (0 ≤ i ∧ i ≤ 15) ∧ ¬ In2 s i
  dj : ∀ y, y ∈ s.B1 → y ∉ s.B2
  c1 : s.B1.length ≤ pl
  c2 : s.B2.length ≤ pl
theorem SV_start (pl : Nat) : SV pl (capA arc0 pl) := by
  have h : max (0 : Int) pl = pl := by omega
  have e1 : (capA arc0 pl).B1 = [] := by simp [capA, cut, arc0]
  have e2 : (capA arc0 pl).B2 = [] := by simp [capA, cut, arc0]
  have nin : ∀ x, ¬ In2 (capA arc0 pl) x := fun x q => q.elim (fun q => by cases q) (fun q => by cases q)
  refine ⟨h, h, h, ?_, ?_, Nat.zero_le _, fun x q => absurd q (nin x), fun x q => absurd q (nin x), fun y q => ?_, fun y q => ?_, ?_, ?_⟩
  · show 0 ≤ min (0 : Int) (max 0 (pl : Int)); omega
  · show min (0 : Int) (max 0 (pl : Int)) ≤ pl; omega
  · rw [e1, e2] at q; simp at q
  · rw [e1] at q; cases q
  · rw [e1]; exact Nat.zero_le _
  · rw [e2]; exact Nat.zero_le _
theorem memf {l : List Int} {id x : Int} : x ∈ l.filter (· != id) ↔ x ∈ l ∧ x ≠ id := by rw [List.mem_filter]; simp
theorem lenf_in {l : List Int} (hn : l.Nodup) {id : Int} (h : id ∈ l) : (l.filter (· != id)).length + 1 = l.length := by
  have := len_take hn h
  have := List.length_pos_of_mem h
  omega
/-- An id goes to the front of a row. -/
theorem put_in {s : ArcS} {r : Nat} (hr : r = 0 ∨ r = 1) {id : Int} (L' : Nat → List Int) (hL : L' = putF (del s.L id) r id) (x : Int) : (x ∈ L' 0 ∨ x ∈ L' 1) ↔ (x = id ∨ In2 s x) := by
  subst hL
  unfold In2
  rcases hr with rfl | rfl
  · show (x ∈ id :: (s.L 0).filter (· != id) ∨ x ∈ (s.L 1).filter (· != id)) ↔ _
    rw [List.mem_cons, memf, memf]
    by_cases q : x = id <;> simp [q]
  · show (x ∈ (s.L 0).filter (· != id) ∨ x ∈ id :: (s.L 1).filter (· != id)) ↔ _
    rw [List.mem_cons, memf, memf]
    by_cases q : x = id <;> simp [q]
theorem put_len {s : ArcS} (hw : Rw2 s) {r : Nat} (hr : r = 0 ∨ r = 1) {id : Int} (L' : Nat → List Int) (hL : L' = putF (del s.L id) r id) :
    (In2 s id → (L' 0).length + (L' 1).length = tot2 s) ∧ (¬ In2 s id → (L' 0).length + (L' 1).length = tot2 s + 1) := by
  subst hL
  have e : ((putF (del s.L id) r id) 0).length + ((putF (del s.L id) r id) 1).length = ((s.L 0).filter (· != id)).length + ((s.L 1).filter (· != id)).length + 1 := by
    rcases hr with rfl | rfl
    · show (id :: (s.L 0).filter (· != id)).length + ((s.L 1).filter (· != id)).length = _
      rw [List.length_cons]; omega
    · show ((s.L 0).filter (· != id)).length + (id :: (s.L 1).filter (· != id)).length = _
      rw [List.length_cons]; omega
  rw [e]
  unfold tot2
  refine ⟨fun q => ?_, fun q => ?_⟩
  · by_cases m0 : id ∈ s.L 0
    · have := lenf_in hw.n0 m0
      rw [filter_no (hw.dj id m0)]; omega
    · have m1 := q.resolve_left m0
      have := lenf_in hw.n1 m1
      rw [filter_no m0]; omega
  · rw [filter_no (fun h => q (.inl h)), filter_no (fun h => q (.inr h))]
theorem SV.touch {pl : Nat} {s : ArcS} (h : SV pl s) (hw : Rw2 s) {id : Int} (hin : In2 s id) : SV pl (touchA s id) ∧ tot2 (touchA s id) = tot2 s ∧ ∀ x, In2 (touchA s id) x ↔ In2 s x := by
  have wid : Wid s.L := fun r x hr hx => by
    match r, hr, hx with
    | 0, _, hx => have := h.rng x (.inl hx); omega
    | 1, _, hx => have := h.rng x (.inr hx); omega
  have e := touchA_yes wid hin
  have hi : ∀ x, In2 (touchA s id) x ↔ In2 s x := fun x => by
    rw [e]
    show (x ∈ (putF (del s.L id) 1 id) 0 ∨ x ∈ (putF (del s.L id) 1 id) 1) ↔ _
    rw [put_in (.inr rfl) _ rfl]
    exact ⟨fun q => q.elim (fun q => by rw [q]; exact hin) (fun q => q), .inr⟩
  have ht : tot2 (touchA s id) = tot2 s := by
    rw [e]; exact (put_len hw (.inr rfl) _ rfl).1 hin
  have er : touchA s id = { s with L := (touchA s id).L } := by rw [e]
  refine ⟨⟨by rw [er]; exact h.m1, by rw [er]; exact h.m2, by rw [er]; exact h.most, by rw [er]; exact h.P0, by rw [er]; exact h.P1, by rw [ht]; exact h.tot, fun x q => h.rng x ((hi x).1 q), fun x q => ?_, fun y q => ?_, fun y q => ?_, by rw [er]; exact h.c1, by rw [er]; exact h.c2⟩, ht, hi⟩
  · rw [er]; exact h.H x ((hi x).1 q)
  · obtain ⟨i, h1, h2, h3⟩ := h.G y (by rw [er] at q; exact q)
    exact ⟨i, h1, h2, fun q => h3 ((hi i).1 q)⟩
  · rw [er] at q ⊢; exact h.dj y q
theorem SV.vic {pl : Nat} {s : ArcS} (h : SV pl s) (hh : Int) (ht : 1 ≤ tot2 s) : In2 s (victA s hh) := by
  have hl : ∀ {l : List Int}, 0 < l.length → lastOf l ∈ l := fun {l} q => lastOf_mem (fun e => by rw [e] at q; simp at q)
  unfold tot2 at ht
  have hP := h.P0
  unfold victA
  by_cases c : s.P < (s.L 0).length ∨ (0 < (s.L 0).length ∧ ((s.L 1).length = 0 ∨ ((s.L 0).length = s.P ∧ hh ∈ s.B2)))
  · rw [if_pos c]
    exact .inl (hl (by rcases c with c | c <;> omega))
  · rw [if_neg c]
    refine .inr (hl ?_)
    by_cases q : (s.L 1).length = 0
    · exact absurd (Or.inr ⟨by omega, Or.inl q⟩) c
    · omega
theorem gadd_mem {most : Int} {l : List Int} {x y : Int} (h : y ∈ gadd most l x) : y = x ∨ y ∈ l := by
  unfold gadd cut at h
  rcases List.mem_append.1 (List.mem_of_mem_drop h) with q | q
  · exact .inr (memf.1 q).1
  · simp at q; exact .inl q
theorem SV.evict {pl : Nat} {s : ArcS} (h : SV pl s) (hw : Rw2 s) {v : Int} (hin : In2 s v) : SV pl (evictA s v) ∧ tot2 (evictA s v) + 1 = tot2 s ∧ ∀ x, In2 (evictA s v) x ↔ In2 s x ∧ x ≠ v := by
  have hi' : ∀ x, (x ∈ (del s.L v) 0 ∨ x ∈ (del s.L v) 1) ↔ In2 s x ∧ x ≠ v := fun x => by
    rw [mem_del2]; unfold In2; exact And.comm
  have hlen : ((del s.L v) 0).length + ((del s.L v) 1).length + 1 = tot2 s := by
    show ((s.L 0).filter (· != v)).length + ((s.L 1).filter (· != v)).length + 1 = _
    unfold tot2
    by_cases m0 : v ∈ s.L 0
    · have := lenf_in hw.n0 m0
      rw [filter_no (hw.dj v m0)]; omega
    · have m1 := hin.resolve_left m0
      have := lenf_in hw.n1 m1
      rw [filter_no m0]; omega
  have hHv := h.H v hin
  have hrv := h.rng v hin
  have hno : ∀ y, y ∈ s.B1 ∨ y ∈ s.B2 → y ≠ 7 * v := fun y q e => by
    obtain ⟨i, h1, h2, h3⟩ := h.G y q
    exact h3 (by have : i = v := by omega
                 rw [this]; exact hin)
  have hsetH : ∀ x, In2 s x ∧ x ≠ v → setH s.H v 0 x = 7 * x := fun x q => by unfold setH; rw [if_neg q.2]; exact h.H x q.1
  have hpl : (0 : Int) ≤ pl := by omega
  by_cases m0 : v ∈ s.L 0
  · have e := evictA_0 m0
    rw [hHv, h.m1] at e
    rw [e]
    refine ⟨⟨rfl, h.m2, h.most, h.P0, h.P1, ?_, fun x q => h.rng x ((hi' x).1 q).1, fun x q => hsetH x ((hi' x).1 q), fun y q => ?_, fun y q q2 => ?_, ?_, h.c2⟩, hlen, hi'⟩
    · have := h.tot; unfold tot2 at *; show ((del s.L v) 0).length + ((del s.L v) 1).length ≤ pl; omega
    · have q' : y ∈ gadd pl s.B1 (7 * v) ∨ y ∈ s.B2 := q
      have : y = 7 * v ∨ (y ∈ s.B1 ∨ y ∈ s.B2) := q'.elim (fun q => (gadd_mem q).imp (fun q => q) .inl) (fun q => .inr (.inr q))
      rcases this with q | q
      · exact ⟨v, q, hrv, fun r => ((hi' v).1 r).2 rfl⟩
      · obtain ⟨i, h1, h2, h3⟩ := h.G y q
        exact ⟨i, h1, h2, fun r => h3 ((hi' i).1 r).1⟩
    · have q' : y ∈ gadd pl s.B1 (7 * v) := q
      rcases gadd_mem q' with r | r
      · exact hno y (.inr q2) r
      · exact h.dj y r q2
    · have := (cut_length (pl : Int) (s.B1.filter (· != 7 * v) ++ [7 * v]) hpl).1
      show (gadd pl s.B1 (7 * v)).length ≤ pl
      unfold gadd; omega
  · have m1 := hin.resolve_left m0
    have e := evictA_1 m0 m1
    rw [hHv, h.m2] at e
    rw [e]
    refine ⟨⟨h.m1, rfl, h.most, h.P0, h.P1, ?_, fun x q => h.rng x ((hi' x).1 q).1, fun x q => hsetH x ((hi' x).1 q), fun y q => ?_, fun y q q2 => ?_, h.c1, ?_⟩, hlen, hi'⟩
    · have := h.tot; unfold tot2 at *; show ((del s.L v) 0).length + ((del s.L v) 1).length ≤ pl; omega
    · have q' : y ∈ s.B1 ∨ y ∈ gadd pl s.B2 (7 * v) := q
      have : y = 7 * v ∨ (y ∈ s.B1 ∨ y ∈ s.B2) := q'.elim (fun q => .inr (.inl q)) (fun q => (gadd_mem q).imp (fun q => q) .inr)
      rcases this with q | q
      · exact ⟨v, q, hrv, fun r => ((hi' v).1 r).2 rfl⟩
      · obtain ⟨i, h1, h2, h3⟩ := h.G y q
        exact ⟨i, h1, h2, fun r => h3 ((hi' i).1 r).1⟩
    · have q' : y ∈ gadd pl s.B2 (7 * v) := q2
      rcases gadd_mem q' with r | r
      · exact hno y (.inl q) r
      · exact h.dj y q r
    · have := (cut_length (pl : Int) (s.B2.filter (· != 7 * v) ++ [7 * v]) hpl).1
      show (gadd pl s.B2 (7 * v)).length ≤ pl
      unfold gadd; omega
theorem SV.put {pl : Nat} {s s' : ArcS} (h : SV pl s) (hw : Rw2 s) {id : Int} (hid : 0 ≤ id ∧ id ≤ 15) (hno : ¬ In2 s id) (ht : tot2 s < pl) {r : Nat} (hr : r = 0 ∨ r = 1) (hL : s'.L = putF (del s.L id) r id) (hH : s'.H = setH s.H id (7 * id))
    (e1 : s'.m1 = s.m1) (e2 : s'.m2 = s.m2) (e3 : s'.most = s.most) (p0 : 0 ≤ s'.P) (p1 : s'.P ≤ pl) (b1 : ∀ y ∈ s'.B1, y ∈ s.B1 ∧ y ≠ 7 * id) (b2 : ∀ y ∈ s'.B2, y ∈ s.B2 ∧ y ≠ 7 * id) (l1 : s'.B1.length ≤ s.B1.length) (l2 : s'.B2.length ≤ s.B2.length) :
    SV pl s' ∧ In2 s' id := by
  have hi : ∀ x, In2 s' x ↔ (x = id ∨ In2 s x) := fun x => put_in hr s'.L hL x
  have hl := (put_len hw hr s'.L hL).2 hno
  refine ⟨⟨e1.trans h.m1, e2.trans h.m2, e3.trans h.most, p0, p1, ?_, fun x q => ?_, fun x q => ?_, fun y q => ?_, fun y q q2 => h.dj y (b1 y q).1 (b2 y q2).1, Nat.le_trans l1 h.c1, Nat.le_trans l2 h.c2⟩, (hi id).2 (.inl rfl)⟩
  · show (s'.L 0).length + (s'.L 1).length ≤ pl
    omega
  · rcases (hi x).1 q with q | q
    · rw [q]; exact hid
    · exact h.rng x q
  · rw [hH]
    unfold setH
    by_cases e : x = id
    · rw [if_pos e, e]
    · rw [if_neg e]; exact h.H x (((hi x).1 q).resolve_left e)
  · have q' : (y ∈ s.B1 ∨ y ∈ s.B2) ∧ y ≠ 7 * id := q.elim (fun q => ⟨.inl (b1 y q).1, (b1 y q).2⟩) (fun q => ⟨.inr (b2 y q).1, (b2 y q).2⟩)
    obtain ⟨i, h1, h2, h3⟩ := h.G y q'.1
    refine ⟨i, h1, h2, fun r => ?_⟩
    rcases (hi i).1 r with r | r
    · exact q'.2 (by rw [h1, r])
    · exact h3 r
theorem SV.insert {pl : Nat} {s : ArcS} (h : SV pl s) (hw : Rw2 s) {id : Int} (hid : 0 ≤ id ∧ id ≤ 15) (hno : ¬ In2 s id) (ht : tot2 s < pl) : insOk s id = true ∧ SV pl (insA s id (7 * id)) ∧ In2 (insA s id (7 * id)) id := by
  have hok : insOk s id = true := insOk_new (fun q => hno (.inl q)) (fun q => hno (.inr q)) (by omega)
  have hg : ∀ l : List Int, ∀ y ∈ grem l (7 * id), y ∈ l ∧ y ≠ 7 * id := fun l y q => memf.1 q
  have hgl : ∀ l : List Int, (grem l (7 * id)).length ≤ l.length := fun l => List.length_filter_le _ _
  have h0 := h.P0
  have h1 := h.P1
  have h3 := h.most
  refine ⟨hok, ?_⟩
  by_cases g1 : 7 * id ∈ s.B1
  · rw [insA_b1 hok g1]
    exact h.put hw hid hno ht (.inr rfl) rfl rfl rfl rfl rfl (by show 0 ≤ min (max _ 0) s.most; omega) (by show min (max _ 0) s.most ≤ pl; omega) (fun y q => hg _ y q) (fun y q => ⟨q, fun e => h.dj _ g1 (e ▸ q)⟩) (hgl _) (Nat.le_refl _)
  · by_cases g2 : 7 * id ∈ s.B2
    · rw [insA_b2 hok g1 g2]
      exact h.put hw hid hno ht (.inr rfl) rfl rfl rfl rfl rfl (by show 0 ≤ min (max _ 0) s.most; omega) (by show min (max _ 0) s.most ≤ pl; omega) (fun y q => ⟨q, fun e => g1 (e ▸ q)⟩) (fun y q => hg _ y q) (Nat.le_refl _) (hgl _)
    · rw [insA_new hok g1 g2]
      exact h.put hw hid hno ht (.inl rfl) rfl rfl rfl rfl rfl h.P0 h.P1 (fun y q => ⟨q, fun e => g1 (e ▸ q)⟩) (fun y q => ⟨q, fun e => g2 (e ▸ q)⟩) (Nat.le_refl _) (Nat.le_refl _)
end Go.Proofs.Ytldnacphfoagnad
