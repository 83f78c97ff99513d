/- The reference of layer 9 (chain) in memory: what stores turn. -/
import Derived.Test.YtnabgcnndehaaaaCrB
namespace Go.Proofs.Ytnabgcnndehaaaa
open Go.RowKit
set_option linter.unusedVariables false
section
variable {w w' : World} {S S' : Nat → Prop} {u nb ob : Nat} {s : ChS} {xs ys : List Value} {dv : Int} {o : Nat → Nat} {k : ByteArray}
theorem ents_set (pre suf : List KN) (k : ByteArray) (n n' : Int) : (ents (pre ++ (k, n) :: suf)).set (pre.length * 2 + 1) (.int .i64 n') = ents (pre ++ (k, n') :: suf) := by
  rw [ents_app, ents_app, ents_cons, ents_cons, List.set_append_right _ _ (by rw [ents_len]; omega), ents_len]
  congr 1
  rw [show pre.length * 2 + 1 - pre.length * 2 = 0 + 1 from by omega]
  rfl
/-- The found entry's number is written. -/
theorem CrO.set_num (hW : ChW s) (h : CrO w S u s nb ob xs ys dv o) {b off cap : Nat} {pre suf : List KN} {n n' : Int} (hh : home s k = pre ++ (k, n) :: suf)
    (hv : RowOf w S nb ob s o k (.slice (some ⟨b, off, none⟩) (home s k).length cap)) :
    CrO (w.setCell ⟨b, off + (pre.length * 2 + 1), none⟩ (.int .i64 n')) S u (put s k (pre ++ (k, n') :: suf)) nb ob xs ys dv o := by
  obtain ⟨b', off', cap', hve, hSb, hbl, _, _, _⟩ := Sl.pos hv.2.2.2.2 (by rw [hh]; simp <;> omega)
  simp at hve
  obtain ⟨⟨rfl, rfl⟩, rfl⟩ := hve
  have hty : ∃ c, w.heap[b]? = some (.cells c 73 (0, 0)) := by
    obtain ⟨_, h2⟩ := hv.2.2.2.2
    rcases h2 with ⟨h2, _⟩ | ⟨b2, o2, c2, c, hv2, _, hb2, _⟩
    · cases h2
    · simp at hv2; exact ⟨c, by rw [hv2.1.1]; exact hb2⟩
  obtain ⟨c0, hty⟩ := hty
  have hset := Sl.set hv.2.2.2.2 (i := pre.length * 2 + 1) (by rw [ents_len, hh]; simp; omega) (.int .i64 n')
  rw [hh, ents_set] at hset
  have hlen : (pre ++ (k, n) :: suf).length = (pre ++ (k, n') :: suf).length := by simp
  rw [hlen] at hset
  have hoth : ∀ b2, (∀ c, w.heap[b2]? ≠ some (.cells c 73 (0, 0))) → b2 < w.heap.size → (w.setCell ⟨b, off + (pre.length * 2 + 1), none⟩ (.int .i64 n')).heap[b2]? = w.heap[b2]? := fun b2 q _ => heap_setCell_other (p := ⟨b, off + (pre.length * 2 + 1), none⟩) (fun e => by have e' : b2 = b := e; rw [e'] at q; exact q _ hty) _
  have hu := hoth u (fun c q => by rw [h.hp] at q; simp at q) (lt_of_heap h.hp)
  have hnb := hoth nb (fun c q => by rw [h.hn] at q; simp at q) (lt_of_heap h.hn)
  have hrow : ∀ {v' : Value} {l : List KN} {t : Nat}, t ≠ tagK s k → Sl w (fun b => S b ∧ o b = t) 73 2 v' l.length (ents l) → Sl (w.setCell ⟨b, off + (pre.length * 2 + 1), none⟩ (.int .i64 n')) (fun b => S b ∧ o b = t) 73 2 v' l.length (ents l) := fun hne hs => Sl.set_other hs (fun q => hne (q.2.symm.trans hSb.2)) _
  have hcell := hv.1
  by_cases ho : inOld s k
  · have et : tagK s k = 2 * hx k (s.pw - 1) := by unfold tagK slotI; rw [if_pos ho, if_pos ho]
    have eb : slotB s k nb ob = ob := if_pos ho
    have ei : slotI s k = hx k (s.pw - 1) := if_pos ho
    obtain ⟨g1, g2, g3, g4, g5, g6⟩ := h.hg ho.1
    rw [eb, ei, cell_of_heap g4] at hcell
    rw [et] at hrow hset
    unfold put
    rw [if_pos ho]
    refine ⟨h.hSu, h.hSn, hu.trans h.hp, hnb.trans h.hn, h.hxl, fun i v' q => hrow (by omega) (h.hxs i v' q), fun _ => ⟨g1, g2, g3, (hoth ob (fun c q => by rw [g4] at q; simp at q) (lt_of_heap g4)).trans g4, g5, fun i v' q => ?_⟩⟩
    show Sl _ _ _ 2 v' (upd s.O _ _ i).length (ents (upd s.O _ _ i))
    unfold upd
    by_cases e : i = hx k (s.pw - 1)
    · subst e
      rw [if_pos rfl]
      have : v' = .slice (some ⟨b, off, none⟩) (pre ++ (k, n) :: suf).length cap := by
        have : (ys.toArray)[hx k (s.pw - 1)]? = some v' := by simpa using q
        rw [this] at hcell; rw [← hh]; exact Option.some.inj hcell
      rw [this, hlen]
      exact hset
    · rw [if_neg e]
      exact hrow (by omega) (g6 i v' q)
  · have et : tagK s k = 2 * hx k s.pw + 1 := by unfold tagK slotI; rw [if_neg ho, if_neg ho]
    have eb : slotB s k nb ob = nb := if_neg ho
    have ei : slotI s k = hx k s.pw := if_neg ho
    rw [eb, ei, cell_of_heap h.hn] at hcell
    rw [et] at hrow hset
    unfold put
    rw [if_neg ho]
    refine ⟨h.hSu, h.hSn, hu.trans h.hp, hnb.trans h.hn, h.hxl, fun i v' q => ?_, fun hg => ?_⟩
    · show Sl _ _ _ 2 v' (upd s.R _ _ i).length (ents (upd s.R _ _ i))
      unfold upd
      by_cases e : i = hx k s.pw
      · subst e
        rw [if_pos rfl]
        have : v' = .slice (some ⟨b, off, none⟩) (pre ++ (k, n) :: suf).length cap := by
          have : (xs.toArray)[hx k s.pw]? = some v' := by simpa using q
          rw [this] at hcell; rw [← hh]; exact Option.some.inj hcell
        rw [this, hlen]
        exact hset
      · rw [if_neg e]
        exact hrow (by omega) (h.hxs i v' q)
    · obtain ⟨g1, g2, g3, g4, g5, g6⟩ := h.hg hg
      exact ⟨g1, g2, g3, (hoth ob (fun c q => by rw [g4] at q; simp at q) (lt_of_heap g4)).trans g4, g5, fun i v' q => hrow (by omega) (g6 i v' q)⟩
/-- A field of the table is written: the rest stays. -/
theorem CrO.off_u (h : CrO w S u s nb ob xs ys dv o) (i : Nat) (z : Value) : (∀ (b : Nat) (c : Array Value) (T : TypeId), T ≠ 53 → w.heap[b]? = some (Obj.cells c T (0, 0)) → (w.setCell ⟨u, i, none⟩ z).heap[b]? = w.heap[b]?) ∧ (∀ {P : Nat → Prop} {v : Value} {l : List KN}, Sl w P 73 2 v l.length (ents l) → Sl (w.setCell ⟨u, i, none⟩ z) P 73 2 v l.length (ents l)) :=
  ⟨fun b c T hT e => heap_setCell_other (p := ⟨u, i, none⟩) (fun eb => by
    have eb' : b = u := eb
    rw [eb', h.hp] at e
    simp at e
    exact hT e.2.symm) z, fun hs => hs.setCell_other h.hp (by decide) i z⟩
theorem CrO.setN (h : CrO w S u s nb ob xs ys dv o) (n : Int) : CrO (w.setCell ⟨u, 5, none⟩ (.int .i64 n)) S u { s with n := n } nb ob xs ys dv o := by
  obtain ⟨o1, o2⟩ := h.off_u 5 (.int .i64 n)
  exact ⟨h.hSu, h.hSn, (heap_setCell_same h.hp 5 _).trans (by simp), (o1 _ _ _ (by decide) h.hn).trans h.hn, h.hxl, fun i v q => o2 (h.hxs i v q), fun g => by
    obtain ⟨g1, g2, g3, g4, g5, g6⟩ := h.hg g
    exact ⟨g1, g2, g3, (o1 _ _ _ (by decide) g4).trans g4, g5, fun i v q => o2 (g6 i v q)⟩⟩
/-- The table begins to grow. -/
theorem cr_growth (hW : ChW s) (h : CrO w S u s nb ob xs ys dv o) (hg : s.g = false) (hp : s.pw < 20) {nn : Nat} (hnb : w.heap.size ≤ nn) (hS : ∀ b, S b → S' b) (hSn : S' nn)
    (ht : w'.heap[u]? = some (Obj.cells #[.int .i64 ((s.pw : Int) + 1), .bool true, .int .i64 0, .slice (some ⟨nb, 0, none⟩) (2 ^ s.pw) (2 ^ s.pw), .slice (some ⟨nn, 0, none⟩) (2 * 2 ^ s.pw) (2 * 2 ^ s.pw), .int .i64 s.n] 53 (0, 0)))
    (hn : w'.heap[nn]? = some (Obj.cells (List.replicate (2 * 2 ^ s.pw) (Value.slice none 0 0)).toArray 68 (0, 0)))
    (hf : ∀ b, b < w.heap.size → b ≠ u → w'.heap[b]? = w.heap[b]?) : CrAt w' S' u ⟨s.pw + 1, true, 0, s.R, fun _ => [], s.n⟩ := by
  have hnu : nb ≠ u := fun e => by have := h.hn; rw [e, h.hp] at this; simp at this
  have e2 : 2 ^ (s.pw + 1) = 2 * 2 ^ s.pw := by rw [Nat.pow_succ, Nat.mul_comm]
  refine ⟨⟨by have := hW.p2; show 2 ≤ s.pw + 1; omega, by show s.pw + 1 ≤ 20; omega, fun _ => Nat.pow_pos (by decide), fun _ => List.nodup_nil, fun i k q => (by simp [ks] at q), fun _ i k q => (by simp [ks] at q), fun _ => hW.R1, fun _ i k q => hW.R2 i k q, fun _ i q => absurd q (Nat.not_lt_zero _)⟩, nn, nb, List.replicate (2 * 2 ^ s.pw) (.slice none 0 0), xs, 0, fun b => o b - 1, ⟨hS u h.hSu, hSn, ?_, hn, ?_, ?_, fun _ => ⟨rfl, hS nb h.hSn, ?_, (hf nb (lt_of_heap h.hn) hnu).trans h.hn, h.hxl, ?_⟩⟩⟩
  · rw [ht]
    show _ = some (Obj.cells #[.int .i64 ((s.pw + 1 : Nat) : Int), .bool true, .int .i64 0, .slice (some ⟨nb, 0, none⟩) (2 ^ (s.pw + 1 - 1)) (2 ^ (s.pw + 1 - 1)), .slice (some ⟨nn, 0, none⟩) (2 ^ (s.pw + 1)) (2 ^ (s.pw + 1)), .int .i64 s.n] _ _)
    rw [e2]; rfl
  · rw [List.length_replicate]; exact e2.symm
  · intro i v hv
    rw [(List.mem_replicate.1 (List.mem_of_getElem? hv)).2]
    exact Sl.nil _ _ _ _
  · intro e; have := lt_of_heap h.hn; omega
  · intro i v hv
    refine ((h.hxs i v hv).keep fun b c hb e => hf b (lt_of_heap e) (fun eb => by rw [eb, h.hp] at e; simp at e)).mono fun b hb q => ⟨hS b q.1, ?_⟩
    show o b - 1 = 2 * i
    have := q.2
    omega
end
end Go.Proofs.Ytnabgcnndehaaaa
