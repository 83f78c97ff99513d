/- Layer 14 (sthree): what each call does, one. -/
import Derived.Test.YtlhiglhhnjljpaaThMem
import Derived.Test.YtlhiglhhnjljpaaStill
import Derived.Test.YtlhiglhhnjljpaaRowsTwo
import Derived.WalkSpells
import Derived.WalkLawsBesides
import Derived.StillTailTactics
import Derived.Deep.CutBlock
import Derived.Deep.QuietTactic
import Derived.BigQuiet
namespace Go.Proofs.Ytlhiglhhnjljpaa
open Go.RowKit
set_option linter.unusedVariables false
theorem zero_known (w : World) : (zeroValue 60).run Try.prog w = .ok (.pointer none) w := by kernel_rfl
def th0 : ThS := ⟨fun _ => [], [], 0, 0, fun _ => none⟩
set_option maxHeartbeats 1000000 in
theorem th_new (w : World) :
    Calls Try.prog 5 #[] w fun e w' => ∃ p, e = .returned (.pointer (some ⟨p, 0, none⟩)) ∧ ThAt w' (fun b => w.heap.size ≤ b ∧ b < w'.heap.size) p th0 0 0 ∧ Fr (fun _ => False) w w' := by
  have hmm := @run_makeMap Try.prog
  go_enter Try.func5, Try.ntmps5
  go_wp2_with fail
  refine (rows_new 2 (by decide) (by decide) w).mono ?_
  rintro e w1 ⟨g, rfl, hA, hF⟩
  have H1 := Lib.hid (And.intro hA hF)
  clear hA hF
  go_wp2_with fail
  refine (new_at 0 w1).mono ?_
  rintro e w2 ⟨b1, rfl, hA, hF⟩
  have H2 := Lib.hid (And.intro hA hF)
  clear hA hF
  go_wp2
  go_ret
  obtain ⟨hA1, hF1⟩ := H1.out
  obtain ⟨hA2, hF2⟩ := H2.out
  have z1 := hF1.size
  have z2 := hF2.size
  obtain ⟨W, hW⟩ : ∃ W, ((w2.alloc (.map #[] 0)).alloc (.cells #[.pointer (some ⟨g, 0, none⟩), .pointer (some ⟨b1, 0, none⟩), .int .i64 0, .map (some w2.heap.size)] 49)) = W := ⟨_, rfl⟩
  have hFm : Fr (fun _ => False) w2 W := by rw [← hW]; exact ((Fr.refl _ w2).alloc _).alloc _
  have hz : W.heap.size = w2.heap.size + 2 := by rw [← hW]; simp
  have hfin : ∀ b, b < w2.heap.size → W.heap[b]? = w2.heap[b]? := fun b hb => hFm.block b hb (fun h => h)
  have hp : W.heap[w2.heap.size + 1]? = some (.cells #[.pointer (some ⟨g, 0, none⟩), .pointer (some ⟨b1, 0, none⟩), .int .i64 0, .map (some w2.heap.size)] 49 (0, 0)) := by
    rw [← hW]
    have := heap_alloc_new (w2.alloc (.map #[] 0)) (.cells #[.pointer (some ⟨g, 0, none⟩), .pointer (some ⟨b1, 0, none⟩), .int .i64 0, .map (some w2.heap.size)] 49)
    simpa using this
  have hm : W.heap[w2.heap.size]? = some (.map #[] 0) := by
    rw [← hW, heap_alloc_old _ (by simp), heap_alloc_new]
  have hR : Ending.returned (Value.pointer (some ⟨w2.heap.size + 1, 0, none⟩)) = Ending.returned (Value.pointer (some ⟨w2.heap.size + 1, 0, none⟩)) := rfl
  refine ⟨w2.heap.size + 1, by first | rfl | simp, ?_, ?_⟩
  · show ThAt ((w2.alloc (.map #[] 0)).alloc (.cells #[.pointer (some ⟨g, 0, none⟩), .pointer (some ⟨b1, 0, none⟩), .int .i64 0, .map (some w2.heap.size)] 49)) _ _ _ _ _
    rw [hW]
    refine ⟨⟨g, b1, w2.heap.size, [], .map #[] 0, fun b => w.heap.size ≤ b ∧ b < w1.heap.size, fun b => w1.heap.size ≤ b ∧ b < w2.heap.size, fun _ => False, ?_⟩, ⟨fun id => by simp [th0], fun id h c q => by cases q⟩⟩
    refine ⟨⟨by omega, by omega⟩, ⟨by omega, by omega⟩, fun b q => ⟨by have := q.1; omega, by have := q.2; omega⟩, fun b q => ⟨by have := q.1; omega, by have := q.2; omega⟩, fun b q => q.elim, ?_, ⟨fun q => by have := q.2; omega, fun q => by have := q.2; omega, fun q => q⟩,
      ⟨fun q => by have := q.2; omega, fun q => by have := q.2; omega, fun q => q⟩, fun b q r => by have := q.2; have := r.1; omega, fun b q r => r, fun b q r => r, hp, hm, mapBlk_nil _, ⟨fun k v q => (by cases q), fun k _ => rfl, fun k k' v q => (by cases q)⟩, ?_, ?_⟩
    · intro b q
      rcases q with q | q | q
      · have := q.2; omega
      · have := q.2; omega
      · exact q.elim
    · exact (hA1.fr hF2 (fun _ _ _ h => h)).frame fun b hb q => hfin b hb
    · exact hA2.frame fun b hb q => hfin b hb
  · show Fr _ w ((w2.alloc (.map #[] 0)).alloc (.cells #[.pointer (some ⟨g, 0, none⟩), .pointer (some ⟨b1, 0, none⟩), .int .i64 0, .map (some w2.heap.size)] 49))
    rw [hW]
    exact (hF1.trans hF2 (fun _ _ h => h)).trans hFm (fun _ _ h => h)
/-- Count, off memory. -/
def countT (s : ThS) (id : Int) : Int := match s.K id with
  | some (_, c) => c
  | none => -1
theorem th_count (S : Nat → Prop) (p : Nat) (s : ThS) (N M : Nat) (id : Int) (w : World) (h : ThAt w S p s N M) :
    Calls Try.prog 10 #[.pointer (some ⟨p, 0, none⟩), .int .i64 id] w fun e w' => e = .returned (.int .i64 (countT s id)) ∧ w = w' := by
  obtain ⟨⟨g, b1, m, l, o, Sr, Sg, Sk, h⟩, hi⟩ := h
  have c3 := cell_of_heap h.hp 3
  simp at c3
  have hmo := h.hmo
  have hmb := h.hmb
  unfold countT
  rcases h.find id with ⟨hk, hv⟩ | ⟨b, hh, c, hk, hv, hb, _⟩
  · rw [hk]
    clear h hi hk
    go_enter Try.func10, Try.ntmps10
    go_wp2_with (at_lookup; refine wpList_lookup_imap rfl _ _ 47 rfl 3 60 .i64 Try.underlying47 Try.underlying3 _ (zero_known _) m rfl o l hmo hmb id rfl ?_; rw [hv, Option.getD_none])
    go_ret
    exact ⟨rfl, rfl⟩
  · rw [hk]
    have d1 := cell_of_heap hb 1
    simp at d1
    clear h hi hk hb
    go_enter Try.func10, Try.ntmps10
    go_wp2_with (at_lookup; refine wpList_lookup_imap rfl _ _ 47 rfl 3 60 .i64 Try.underlying47 Try.underlying3 _ (zero_known _) m rfl o l hmo hmb id rfl ?_; rw [hv, Option.getD_some])
    go_ret
    exact ⟨rfl, rfl⟩
theorem th_ghosts (S : Nat → Prop) (p : Nat) (s : ThS) (N M : Nat) (w : World) (h : ThAt w S p s N M) (hM : M ≤ 1000000) :
    Calls Try.prog 8 #[.pointer (some ⟨p, 0, none⟩)] w fun e w' => ∃ v, e = .returned v ∧ Sl w' (fun b => w.heap.size ≤ b) 29 1 v s.B.length (u64s s.B) ∧ Fr (fun b => w.heap.size ≤ b) w w' := by
  obtain ⟨⟨g, b1, m, l, o, Sr, Sg, Sk, h⟩, hi⟩ := h
  have c1 := cell_of_heap h.hp 1
  simp at c1
  have HA := Lib.hid (all_at Sg b1 s.mB s.B M w h.hG hM)
  clear h hi
  go_enter Try.func8, Try.ntmps8
  go_wp2_with fail
  refine HA.out.mono ?_
  rintro e w1 ⟨v, rfl, hs, hF⟩
  have H1 := Lib.hid (And.intro hs hF)
  clear hs hF
  go_wp2
  go_ret
  exact ⟨_, rfl, H1.out.1, H1.out.2⟩
/-- Touch, off memory. -/
def touchT (s : ThS) (id : Int) : ThS := match s.K id with
  | some (h, c) => { s with K := setK s.K id (some (h, min (c + 1) 3)) }
  | none => s
theorem th_touch (S : Nat → Prop) (p : Nat) (s : ThS) (N M : Nat) (id : Int) (w : World) (h : ThAt w S p s N M) :
    Calls Try.prog 17 #[.pointer (some ⟨p, 0, none⟩), .int .i64 id] w fun e w' => e = .returned (.bool (s.K id).isSome) ∧ ThAt w' S p (touchT s id) N M ∧ Fr S w w' ∧ w.heap.size = w'.heap.size := by
  obtain ⟨⟨g, b1, m, l, o, Sr, Sg, Sk, h⟩, hi⟩ := h
  have c3 := cell_of_heap h.hp 3
  simp at c3
  have hmo := h.hmo
  have hmb := h.hmb
  unfold touchT
  rcases h.find id with ⟨hk, hv⟩ | ⟨b, hh, c, hk, hv, hb, hSk⟩
  · rw [hk]
    have HH := Lib.hid (And.intro h hi)
    clear h hi hk
    go_enter Try.func17, Try.ntmps17
    go_wp2_with (at_lookup; refine wpList_lookup_imap rfl _ _ 47 rfl 3 60 .i64 Try.underlying47 Try.underlying3 _ (zero_known _) m rfl o l hmo hmb id rfl ?_; rw [hv, Option.getD_none])
    go_ret
    exact ⟨rfl, ⟨⟨g, b1, m, l, o, Sr, Sg, Sk, HH.out.1⟩, HH.out.2⟩, Fr.refl _ _, rfl⟩
  · have hc := hi.cnt id hh c hk
    have hfin : ∀ c', c' = min (c + 1) 3 → ThAt (w.setCell ⟨b, 1, none⟩ (.int .i64 c')) S p { s with K := setK s.K id (some (hh, min (c + 1) 3)) } N M ∧ Fr S w (w.setCell ⟨b, 1, none⟩ (.int .i64 c')) ∧ w.heap.size = (w.setCell ⟨b, 1, none⟩ (.int .i64 c')).heap.size := by
      intro c' hc'
      subst hc'
      refine ⟨⟨⟨g, b1, m, l, o, Sr, Sg, Sk, h.count hv hk _⟩, ⟨fun k => ?_, fun k h' c2 q => ?_⟩⟩, ((Fr.refl S w).setCell (fun _ => h.hSk b hSk) _), by simp [World.setCell]⟩
      · show (setK s.K id _ k).isSome = true ↔ _
        unfold setK
        split
        · rename_i e; subst e
          rw [← hi.in_ k, hk]; simp
        · exact hi.in_ k
      · have q' : setK s.K id (some (hh, min (c + 1) 3)) k = some (h', c2) := q
        unfold setK at q'
        split at q'
        · cases q'; omega
        · exact hi.cnt k h' c2 q'
    have d1 := cell_of_heap hb 1
    have f1 := fro_of_heap hb 1
    simp at d1
    rw [hk]
    have HF := Lib.hid hfin
    clear h hi hk hfin
    have hc4 : c = 0 ∨ c = 1 ∨ c = 2 ∨ c = 3 := by omega
    rcases hc4 with rfl | rfl | rfl | rfl
    all_goals
      go_enter Try.func17, Try.ntmps17
      go_wp2_with (at_lookup; refine wpList_lookup_imap rfl _ _ 47 rfl 3 60 .i64 Try.underlying47 Try.underlying3 _ (zero_known _) m rfl o l hmo hmb id rfl ?_; rw [hv, Option.getD_some])
      go_ret
      exact ⟨rfl, HF.out _ (by decide)⟩
end Go.Proofs.Ytlhiglhhnjljpaa
