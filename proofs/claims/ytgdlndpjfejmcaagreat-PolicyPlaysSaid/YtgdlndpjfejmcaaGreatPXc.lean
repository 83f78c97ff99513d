/- Layer 13 (arc) in blocks of its own: what each call does, to be taken one by one. -/
import Derived.Test.YtgdlndpjfejmcaaGreatPXa
import Derived.Test.YtgdlndpjfejmcaaGreatPXb
import Derived.Test.YtgdlndpjfejmcaaGreatPRd
namespace Go.Proofs.YtgdlndpjfejmcaaGreat.Arc
open Go.RowKit
set_option linter.unusedVariables false
set_option maxRecDepth 100000
def AR (p : Nat) (s : ArcS) (N M : Nat) (w : World) (S : Nat → Prop) : Prop := ArcAt w S p s N M
/-- Touch, off memory. -/
def touchA (s : ArcS) (id : Int) : ArcS := if 0 ≤ rowOf 2 s.L id then { s with L := frontL 2 s.L 1 id } else s
/-- Remove, off memory. -/
def remA (s : ArcS) (id : Int) : ArcS := { s with L := del s.L id, H := setH s.H id 0 }
section
variable {w0 w w' : World} {S : Nat → Prop} {p : Nat} {s : ArcS} {N N' M M' : Nat}
theorem ar_drewN (h : Sep (AR p s N M) w0 w S) (k : Nat) : Sep (AR p s N M) w0 (w.drewN k) S := ⟨ArcAt.frame h.at_ (Nat.le_refl _) fun _ _ _ => rfl, h.fr.drewN k, h.lo, h.hi⟩
theorem ar_keep (h : Sep (AR p s N M) w0 w S) {F : Nat → Prop} (hF : Fr F w w') (hd : ∀ b, b < w.heap.size → S b → ¬ F b) (h0 : ∀ b, b < w0.heap.size → ¬ F b) : Sep (AR p s N M) w0 w' S :=
  h.keep hF hd h0 (fun hA hf => ArcAt.frame hA hF.size hf)
theorem ar_below (h : Sep (AR p s N M) w0 w S) (hB : Below w.heap.size w w') : Sep (AR p s N M) w0 w' S :=
  ar_keep h (Fr.of_below hB) (fun b hb _ => by omega) (fun b hb => by have := h.fr.size; omega)
theorem ar_alloc (h : Sep (AR p s N M) w0 w S) (o : Obj) : Sep (AR p s N M) w0 (w.alloc o) S := ar_below h (((Fr.refl (fun _ => False) w).alloc o).belowAll)
theorem ar_more (h : Sep (AR p s N M) w0 w S) (hN : N ≤ N') (hM : M ≤ M') : Sep (AR p s N' M') w0 w S := h.as (fun hA => ArcAt.more hA hN hM)
theorem new_ar (hF : Fr (From w0.heap.size) w0 w) :
    Calls Tryz.prog 25 #[] w fun e w' => ∃ p S, e = .returned (.pointer (some ⟨p, 0, none⟩)) ∧ Sep (AR p arc0 0 0) w0 w' S ∧ (∀ b, S b → w.heap.size ≤ b) ∧ Fr (fun _ => False) w w' :=
  (arc_new w).mono fun e w' ⟨p, he, hA, hG⟩ => ⟨p, _, he, Sep.new hF hA (fun b q => q) hG, fun b q => q.1, hG⟩
theorem cap_ar (h : Sep (AR p s N M) w0 w S) (n : Int) (hM : M ≤ 1000000) :
    Calls Tryz.prog 106 #[.pointer (some ⟨p, 0, none⟩), .int .i64 n] w fun e w' => e = .returned (.tuple #[]) ∧ Sep (AR p (capA s n) N M) w0 w' (grow S w w') ∧ Fr S w w' :=
  (arc_cap S p s N M n w h.at_ hM).mono fun e w' ⟨he, hA, hF⟩ => ⟨he, h.next hA hF, hF⟩
theorem insert_ar (h : Sep (AR p s N M) w0 w S) (id hh : Int) (hN : N < 1000000) (hM : M ≤ 1000000) (hP : 0 ≤ s.P ∧ s.P ≤ 1000000000000) :
    Calls Tryz.prog 108 #[.pointer (some ⟨p, 0, none⟩), .int .i64 id, .int .u64 hh] w fun e w' => e = .returned (.bool (insOk s id)) ∧ Sep (AR p (insA s id hh) (N + 1) M) w0 w' (grow S w w') ∧ Fr S w w' :=
  (arc_insert S p s N M id hh w h.at_ hN hM hP).mono fun e w' ⟨he, hA, hF⟩ => ⟨he, h.next hA hF, hF⟩
theorem touch_ar (h : Sep (AR p s N M) w0 w S) (id : Int) (hN : N < 1000000) :
    Calls Tryz.prog 110 #[.pointer (some ⟨p, 0, none⟩), .int .i64 id] w fun e w' => e = .returned (.bool (decide (0 ≤ rowOf 2 s.L id))) ∧ Sep (AR p (touchA s id) (N + 1) M) w0 w' (grow S w w') ∧ Fr S w w' :=
  (arc_touch S p s N M id w h.at_ hN).mono fun e w' ⟨he, hA, hF⟩ => ⟨he, h.next hA hF, hF⟩
theorem remove_ar (h : Sep (AR p s N M) w0 w S) (id : Int) (hN : N ≤ 1000000) :
    Calls Tryz.prog 109 #[.pointer (some ⟨p, 0, none⟩), .int .i64 id] w fun e w' => e = .returned (.bool (decide (0 ≤ rowOf 2 s.L id))) ∧ Sep (AR p (remA s id) N M) w0 w' (grow S w w') ∧ Fr S w w' :=
  (arc_remove S p s N M id w h.at_ hN).mono fun e w' ⟨he, hA, hF⟩ => ⟨he, h.next hA hF, hF⟩
theorem evict_ar (h : Sep (AR p s N M) w0 w S) (id : Int) (hN : N ≤ 1000000) (hM : M < 1000000) :
    Calls Tryz.prog 107 #[.pointer (some ⟨p, 0, none⟩), .int .i64 id] w fun e w' => e = .returned (.bool (decide (0 ≤ rowOf 2 s.L id))) ∧ Sep (AR p (evictA s id) N (M + 1)) w0 w' (grow S w w') ∧ Fr S w w' :=
  (arc_evict S p s N M id w h.at_ hN hM).mono fun e w' ⟨he, hA, hF⟩ => ⟨he, h.next hA hF, hF⟩
theorem victim_ar (h : Sep (AR p s N M) w0 w S) (hh : Int) :
    Calls Tryz.prog 111 #[.pointer (some ⟨p, 0, none⟩), .int .u64 hh] w fun e w' => ∃ k, e = .returned (.int .i64 (victA s hh)) ∧ w' = w.drewN k ∧ Sep (AR p s N M) w0 w' S :=
  (arc_victim S p s N M hh w h.at_).mono fun e w' ⟨he, k, hk⟩ => ⟨k, he, hk, hk ▸ ar_drewN h k⟩
theorem ar_drew (h : Sep (AR p s N M) w0 w S) : Sep (AR p s N M) w0 w.drew S := ⟨ArcAt.frame h.at_ (Nat.le_refl _) fun _ _ _ => rfl, h.fr.drew, h.lo, h.hi⟩
theorem ar_rows (h : Sep (AR p s N M) w0 w S) : (∀ r, r < 2 → (s.L r).Nodup) ∧ (∀ r q, r < 2 → q < 2 → ∀ x, x ∈ s.L r → x ∈ s.L q → q = r) ∧ (∀ r, (s.L r).length ≤ N) ∧ (∀ r, 2 ≤ r → s.L r = []) ∧ (∀ r x, r < 2 → x ∈ s.L r → 0 ≤ x ∧ x ≤ 4194303) := by
  obtain ⟨g, b1, b2, m, l, o, Sr, S1, S2, hO⟩ := h.at_
  have hR := hO.hR
  exact ⟨fun r hr => hR.nodup hr, fun r s hr hs x h1 h2 => hR.disj hr hs h1 h2, hR.len_le, fun r hr => hR.nil hr, fun r x hr hx => hR.range hr hx⟩
end
end Go.Proofs.YtgdlndpjfejmcaaGreat.Arc
/- Layer 13 (arc): what each call turns, case by case. -/
namespace Go.Proofs.YtgdlndpjfejmcaaGreat.Arc
open Go.RowKit
set_option linter.unusedVariables false
set_option maxRecDepth 100000
theorem insOk_iff (s : ArcS) (id : Int) : insOk s id = decide ((id ∉ s.L 0 ∧ id ∉ s.L 1) ∧ 0 ≤ id ∧ id ≤ 4194303) := by
  unfold insOk
  have h := rowOf2_nn s.L id
  rw [Bool.eq_iff_iff, decide_eq_true_iff, decide_eq_true_iff]
  constructor
  · rintro ⟨h1, h2⟩
    have : ¬ (id ∈ s.L 0 ∨ id ∈ s.L 1) := fun q => by have := h.2 q; omega
    exact ⟨⟨fun q => this (.inl q), fun q => this (.inr q)⟩, h2⟩
  · rintro ⟨h1, h2⟩
    have : ¬ 0 ≤ rowOf 2 s.L id := fun q => (h.1 q).elim h1.1 h1.2
    exact ⟨by omega, h2⟩
theorem insOk_new {s : ArcS} {id : Int} (h0 : id ∉ s.L 0) (h1 : id ∉ s.L 1) (hid : 0 ≤ id ∧ id ≤ 4194303) : insOk s id = true := by
  rw [insOk_iff]; exact decide_eq_true ⟨⟨h0, h1⟩, hid⟩
theorem insA_no {s : ArcS} {id h : Int} (hn : insOk s id = false) : insA s id h = s := by unfold insA; rw [if_neg (by rw [hn]; decide)]
theorem insA_new {s : ArcS} {id h : Int} (hok : insOk s id = true) (g1 : h ∉ s.B1) (g2 : h ∉ s.B2) : insA s id h = { s with H := setH s.H id h, L := putF (del s.L id) 0 id } := by
  have hid := of_decide_eq_true hok
  unfold insA
  rw [if_pos hok, show insG s h = s from by unfold insG; rw [if_neg g1, if_neg g2], show insR s h = 0 from by unfold insR; rw [if_neg g1, if_neg g2], front2 _ _ _ (.inl rfl) hid.2.1 hid.2.2]
  rfl
theorem insA_b1 {s : ArcS} {id h : Int} (hok : insOk s id = true) (g1 : h ∈ s.B1) : insA s id h = { s with P := min (max (s.P + max 1 ((s.B2.length : Int) / (s.B1.length : Int))) 0) s.most, B1 := grem s.B1 h, H := setH s.H id h, L := putF (del s.L id) 1 id } := by
  have hid := of_decide_eq_true hok
  unfold insA
  rw [if_pos hok, show insG s h = _ from by unfold insG; rw [if_pos g1], show insR s h = 1 from by unfold insR; rw [if_pos g1], front2 _ _ _ (.inr rfl) hid.2.1 hid.2.2]
  rfl
theorem insA_b2 {s : ArcS} {id h : Int} (hok : insOk s id = true) (g1 : h ∉ s.B1) (g2 : h ∈ s.B2) : insA s id h = { s with P := min (max (s.P + - max 1 ((s.B1.length : Int) / (s.B2.length : Int))) 0) s.most, B2 := grem s.B2 h, H := setH s.H id h, L := putF (del s.L id) 1 id } := by
  have hid := of_decide_eq_true hok
  unfold insA
  rw [if_pos hok, show insG s h = _ from by unfold insG; rw [if_neg g1, if_pos g2], show insR s h = 1 from by unfold insR; rw [if_neg g1, if_pos g2], front2 _ _ _ (.inr rfl) hid.2.1 hid.2.2]
  rfl
theorem touchA_no {s : ArcS} {id : Int} (h0 : id ∉ s.L 0) (h1 : id ∉ s.L 1) : touchA s id = s := by
  unfold touchA; rw [if_neg (fun q => ((rowOf2_nn s.L id).1 q).elim h0 h1)]
theorem touchA_yes {s : ArcS} {id : Int} (hw : Wid s.L) (h : id ∈ s.L 0 ∨ id ∈ s.L 1) : touchA s id = { s with L := putF (del s.L id) 1 id } := by
  have hid : 0 ≤ id ∧ id ≤ 4194303 := h.elim (hw 0 id (by decide)) (hw 1 id (by decide))
  unfold touchA; rw [if_pos ((rowOf2_nn s.L id).2 h), front2 _ _ _ (.inr rfl) hid.1 hid.2]
  rfl
theorem evictA_0 {s : ArcS} {id : Int} (h0 : id ∈ s.L 0) : evictA s id = { s with L := del s.L id, H := setH s.H id 0, B1 := gadd s.m1 s.B1 (s.H id) } := by
  have hr : rowOf 2 s.L id = 0 := by rw [rowOf2, if_pos h0]
  unfold evictA evA; rw [hr]; rfl
theorem evictA_1 {s : ArcS} {id : Int} (h0 : id ∉ s.L 0) (h1 : id ∈ s.L 1) : evictA s id = { s with L := del s.L id, H := setH s.H id 0, B2 := gadd s.m2 s.B2 (s.H id) } := by
  have hr : rowOf 2 s.L id = 1 := by rw [rowOf2, if_neg h0, if_pos h1]
  unfold evictA evA; rw [hr]; rfl
/-- So many have come, each once. -/
structure BI (n k : Nat) (s : ArcS) : Prop where
  L0 : s.L 0 = upA 0 k
  L1 : s.L 1 = []
  B1 : s.B1 = []
  B2 : s.B2 = []
  m1 : s.m1 = n
  m2 : s.m2 = n
  most : s.most = n
  P : s.P = 0
  H : ∀ i : Int, 0 ≤ i → i < k → s.H i = i
theorem BI_start (n : Nat) : BI n 0 (capA arc0 n) := by
  have h : max (0 : Int) n = n := by omega
  refine ⟨rfl, rfl, by simp [capA, cut, arc0], by simp [capA, cut, arc0], h, h, h, ?_, fun i h0 h1 => by omega⟩
  show min (0 : Int) (max 0 (n : Int)) = 0
  omega
theorem BI_step {n k : Nat} {s : ArcS} (h : BI n k s) (hk : k < 100) : insOk s k = true ∧ BI n (k + 1) (insA s k k) := by
  have hn : (k : Int) ∉ s.L 0 := by rw [h.L0, mem_upA]; omega
  have hn1 : (k : Int) ∉ s.L 1 := by rw [h.L1]; simp
  have hok := insOk_new hn hn1 (by omega)
  refine ⟨hok, ?_⟩
  rw [insA_new hok (by rw [h.B1]; simp) (by rw [h.B2]; simp)]
  refine ⟨?_, ?_, h.B1, h.B2, h.m1, h.m2, h.most, h.P, fun i h0 h1 => ?_⟩
  · show (k : Int) :: (s.L 0).filter (· != (k : Int)) = _
    rw [filter_no hn, h.L0, show upA 0 (k + 1) = (0 + (k : Int)) :: upA 0 k from rfl, Int.zero_add]
  · show (s.L 1).filter _ = []
    rw [h.L1]; rfl
  · show setH s.H k k i = i
    unfold setH
    split
    · omega
    · exact h.H i h0 (by omega)
/-- A store into what is held. -/
theorem ar_held_set {w0 W : World} {p : Nat} {s : ArcS} {N M : Nat} {S : Nat → Prop} {T : TypeId} {b off m cap : Nat} {xs : List Value} (hS : Sep (AR p s N M) w0 W S) (h : Held w0 W S T 1 (.slice (some ⟨b, off, none⟩) m cap) m xs) {i : Nat} (hi : i < m) (u : Value) :
    Held w0 (W.setCell ⟨b, off + i, none⟩ u) S T 1 (.slice (some ⟨b, off, none⟩) m cap) m (xs.set i u) ∧ Sep (AR p s N M) w0 (W.setCell ⟨b, off + i, none⟩ u) S := by
  have hx : i < xs.length := by have := h.1; omega
  obtain ⟨b', off', cap', hv, hSb, _⟩ := Sl.pos h (by omega)
  simp at hv
  obtain ⟨⟨rfl, rfl⟩, rfl⟩ := hv
  exact ⟨Sl.set h hx u, ar_keep hS (F := fun k => k = b) (Fr.setCell (Fr.refl (fun k => k = b) W) (p := ⟨b, off + i, none⟩) (fun _ => rfl) u) (fun k _ s q => hSb.1 (q ▸ s)) (fun k hk q => by have := hSb.2; omega)⟩
end Go.Proofs.YtgdlndpjfejmcaaGreat.Arc
/- Layer 13 (arc): a cache of so many places. -/
namespace Go.Proofs.YtgdlndpjfejmcaaGreat.Arc
open Go.RowKit
set_option linter.unusedVariables false
set_option maxRecDepth 100000
/-- Who stands. -/
def In2 (s : ArcS) (x : Int) : Prop := x ∈ s.L 0 ∨ x ∈ s.L 1
def tot2 (s : ArcS) : Nat := (s.L 0).length + (s.L 1).length
/-- The rows are sound. -/
structure Rw2 (s : ArcS) : Prop where
  n0 : (s.L 0).Nodup
  n1 : (s.L 1).Nodup
  dj : ∀ x, x ∈ s.L 0 → x ∉ s.L 1
theorem ar_rw2 {w0 w : World} {S : Nat → Prop} {p : Nat} {s : ArcS} {N M : Nat} (h : Sep (AR p s N M) w0 w S) : Rw2 s := by
  obtain ⟨h1, h2, _⟩ := ar_rows h
  exact ⟨h1 0 (by decide), h1 1 (by decide), fun x q0 q1 => by have := h2 0 1 (by decide) (by decide) x q0 q1; omega⟩
structure SV (pl : Nat) (s : ArcS) : Prop where
  m1 : s.m1 = pl
  m2 : s.m2 = pl
  most : s.most = pl
  P0 : 0 ≤ s.P
  P1 : s.P ≤ pl
  tot : tot2 s ≤ pl
  rng : ∀ x, In2 s x → 0 ≤ x ∧ x ≤ 15
  H : ∀ x, In2 s x → s.H x = 7 * x
  G : ∀ y, y ∈ s.B1 ∨ y ∈ s.B2 → ∃ i : Int, y = 7 * i ∧ (0 ≤ i ∧ i ≤ 15) ∧ ¬ In2 s i
  dj : ∀ y, y ∈ s.B1 → y ∉ s.B2
  c1 : s.B1.length ≤ pl
  c2 : s.B2.length ≤ pl
theorem SV_start (pl : Nat) : SV pl (capA arc0 pl) := by
  have h : max (0 : Int) pl = pl := by omega
  have e1 : (capA arc0 pl).B1 = [] := by simp [capA, cut, arc0]
  have e2 : (capA arc0 pl).B2 = [] := by simp [capA, cut, arc0]
  have nin : ∀ x, ¬ In2 (capA arc0 pl) x := fun x q => q.elim (fun q => by cases q) (fun q => by cases q)
  refine ⟨h, h, h, ?_, ?_, Nat.zero_le _, fun x q => absurd q (nin x), fun x q => absurd q (nin x), fun y q => ?_, fun y q => ?_, ?_, ?_⟩
  · show 0 ≤ min (0 : Int) (max 0 (pl : Int)); omega
  · show min (0 : Int) (max 0 (pl : Int)) ≤ pl; omega
  · rw [e1, e2] at q; simp at q
  · rw [e1] at q; cases q
  · rw [e1]; exact Nat.zero_le _
  · rw [e2]; exact Nat.zero_le _
theorem memf {l : List Int} {id x : Int} : x ∈ l.filter (· != id) ↔ x ∈ l ∧ x ≠ id := by rw [List.mem_filter]; simp
theorem lenf_in {l : List Int} (hn : l.Nodup) {id : Int} (h : id ∈ l) : (l.filter (· != id)).length + 1 = l.length := by
  have := len_take hn h
  have := List.length_pos_of_mem h
  omega
/-- An id goes to the front of a row. -/
theorem put_in {s : ArcS} {r : Nat} (hr : r = 0 ∨ r = 1) {id : Int} (L' : Nat → List Int) (hL : L' = putF (del s.L id) r id) (x : Int) : (x ∈ L' 0 ∨ x ∈ L' 1) ↔ (x = id ∨ In2 s x) := by
  subst hL
  unfold In2
  rcases hr with rfl | rfl
  · show (x ∈ id :: (s.L 0).filter (· != id) ∨ x ∈ (s.L 1).filter (· != id)) ↔ _
    rw [List.mem_cons, memf, memf]
    by_cases q : x = id <;> simp [q]
  · show (x ∈ (s.L 0).filter (· != id) ∨ x ∈ id :: (s.L 1).filter (· != id)) ↔ _
    rw [List.mem_cons, memf, memf]
    by_cases q : x = id <;> simp [q]
theorem put_len {s : ArcS} (hw : Rw2 s) {r : Nat} (hr : r = 0 ∨ r = 1) {id : Int} (L' : Nat → List Int) (hL : L' = putF (del s.L id) r id) :
    (In2 s id → (L' 0).length + (L' 1).length = tot2 s) ∧ (¬ In2 s id → (L' 0).length + (L' 1).length = tot2 s + 1) := by
  subst hL
  have e : ((putF (del s.L id) r id) 0).length + ((putF (del s.L id) r id) 1).length = ((s.L 0).filter (· != id)).length + ((s.L 1).filter (· != id)).length + 1 := by
    rcases hr with rfl | rfl
    · show (id :: (s.L 0).filter (· != id)).length + ((s.L 1).filter (· != id)).length = _
      rw [List.length_cons]; omega
    · show ((s.L 0).filter (· != id)).length + (id :: (s.L 1).filter (· != id)).length = _
      rw [List.length_cons]; omega
  rw [e]
  unfold tot2
  refine ⟨fun q => ?_, fun q => ?_⟩
  · by_cases m0 : id ∈ s.L 0
    · have := lenf_in hw.n0 m0
      rw [filter_no (hw.dj id m0)]; omega
    · have m1 := q.resolve_left m0
      have := lenf_in hw.n1 m1
      rw [filter_no m0]; omega
  · rw [filter_no (fun h => q (.inl h)), filter_no (fun h => q (.inr h))]
theorem SV.touch {pl : Nat} {s : ArcS} (h : SV pl s) (hw : Rw2 s) {id : Int} (hin : In2 s id) : SV pl (touchA s id) ∧ tot2 (touchA s id) = tot2 s ∧ ∀ x, In2 (touchA s id) x ↔ In2 s x := by
  have wid : Wid s.L := fun r x hr hx => by
    match r, hr, hx with
    | 0, _, hx => have := h.rng x (.inl hx); omega
    | 1, _, hx => have := h.rng x (.inr hx); omega
  have e := touchA_yes wid hin
  have hi : ∀ x, In2 (touchA s id) x ↔ In2 s x := fun x => by
    rw [e]
    show (x ∈ (putF (del s.L id) 1 id) 0 ∨ x ∈ (putF (del s.L id) 1 id) 1) ↔ _
    rw [put_in (.inr rfl) _ rfl]
    exact ⟨fun q => q.elim (fun q => by rw [q]; exact hin) (fun q => q), .inr⟩
  have ht : tot2 (touchA s id) = tot2 s := by
    rw [e]; exact (put_len hw (.inr rfl) _ rfl).1 hin
  have er : touchA s id = { s with L := (touchA s id).L } := by rw [e]
  refine ⟨⟨by rw [er]; exact h.m1, by rw [er]; exact h.m2, by rw [er]; exact h.most, by rw [er]; exact h.P0, by rw [er]; exact h.P1, by rw [ht]; exact h.tot, fun x q => h.rng x ((hi x).1 q), fun x q => ?_, fun y q => ?_, fun y q => ?_, by rw [er]; exact h.c1, by rw [er]; exact h.c2⟩, ht, hi⟩
  · rw [er]; exact h.H x ((hi x).1 q)
  · obtain ⟨i, h1, h2, h3⟩ := h.G y (by rw [er] at q; exact q)
    exact ⟨i, h1, h2, fun q => h3 ((hi i).1 q)⟩
  · rw [er] at q ⊢; exact h.dj y q
theorem SV.vic {pl : Nat} {s : ArcS} (h : SV pl s) (hh : Int) (ht : 1 ≤ tot2 s) : In2 s (victA s hh) := by
  have hl : ∀ {l : List Int}, 0 < l.length → lastOf l ∈ l := fun {l} q => lastOf_mem (fun e => by rw [e] at q; simp at q)
  unfold tot2 at ht
  have hP := h.P0
  unfold victA
  by_cases c : s.P < (s.L 0).length ∨ (0 < (s.L 0).length ∧ ((s.L 1).length = 0 ∨ ((s.L 0).length = s.P ∧ hh ∈ s.B2)))
  · rw [if_pos c]
    exact .inl (hl (by rcases c with c | c <;> omega))
  · rw [if_neg c]
    refine .inr (hl ?_)
    by_cases q : (s.L 1).length = 0
    · exact absurd (Or.inr ⟨by omega, Or.inl q⟩) c
    · omega
theorem gadd_mem {most : Int} {l : List Int} {x y : Int} (h : y ∈ gadd most l x) : y = x ∨ y ∈ l := by
  unfold gadd cut at h
  rcases List.mem_append.1 (List.mem_of_mem_drop h) with q | q
  · exact .inr (memf.1 q).1
  · simp at q; exact .inl q
theorem SV.evict {pl : Nat} {s : ArcS} (h : SV pl s) (hw : Rw2 s) {v : Int} (hin : In2 s v) : SV pl (evictA s v) ∧ tot2 (evictA s v) + 1 = tot2 s ∧ ∀ x, In2 (evictA s v) x ↔ In2 s x ∧ x ≠ v := by
  have hi' : ∀ x, (x ∈ (del s.L v) 0 ∨ x ∈ (del s.L v) 1) ↔ In2 s x ∧ x ≠ v := fun x => by
    rw [mem_del2]; unfold In2; exact And.comm
  have hlen : ((del s.L v) 0).length + ((del s.L v) 1).length + 1 = tot2 s := by
    show ((s.L 0).filter (· != v)).length + ((s.L 1).filter (· != v)).length + 1 = _
    unfold tot2
    by_cases m0 : v ∈ s.L 0
    · have := lenf_in hw.n0 m0
      rw [filter_no (hw.dj v m0)]; omega
    · have m1 := hin.resolve_left m0
      have := lenf_in hw.n1 m1
      rw [filter_no m0]; omega
  have hHv := h.H v hin
  have hrv := h.rng v hin
  have hno : ∀ y, y ∈ s.B1 ∨ y ∈ s.B2 → y ≠ 7 * v := fun y q e => by
    obtain ⟨i, h1, h2, h3⟩ := h.G y q
    exact h3 (by have : i = v := by omega
                 rw [this]; exact hin)
  have hsetH : ∀ x, In2 s x ∧ x ≠ v → setH s.H v 0 x = 7 * x := fun x q => by unfold setH; rw [if_neg q.2]; exact h.H x q.1
  have hpl : (0 : Int) ≤ pl := by omega
  by_cases m0 : v ∈ s.L 0
  · have e := evictA_0 m0
    rw [hHv, h.m1] at e
    rw [e]
    refine ⟨⟨rfl, h.m2, h.most, h.P0, h.P1, ?_, fun x q => h.rng x ((hi' x).1 q).1, fun x q => hsetH x ((hi' x).1 q), fun y q => ?_, fun y q q2 => ?_, ?_, h.c2⟩, hlen, hi'⟩
    · have := h.tot; unfold tot2 at *; show ((del s.L v) 0).length + ((del s.L v) 1).length ≤ pl; omega
    · have q' : y ∈ gadd pl s.B1 (7 * v) ∨ y ∈ s.B2 := q
      have : y = 7 * v ∨ (y ∈ s.B1 ∨ y ∈ s.B2) := q'.elim (fun q => (gadd_mem q).imp (fun q => q) .inl) (fun q => .inr (.inr q))
      rcases this with q | q
      · exact ⟨v, q, hrv, fun r => ((hi' v).1 r).2 rfl⟩
      · obtain ⟨i, h1, h2, h3⟩ := h.G y q
        exact ⟨i, h1, h2, fun r => h3 ((hi' i).1 r).1⟩
    · have q' : y ∈ gadd pl s.B1 (7 * v) := q
      rcases gadd_mem q' with r | r
      · exact hno y (.inr q2) r
      · exact h.dj y r q2
    · have := (cut_length (pl : Int) (s.B1.filter (· != 7 * v) ++ [7 * v]) hpl).1
      show (gadd pl s.B1 (7 * v)).length ≤ pl
      unfold gadd; omega
  · have m1 := hin.resolve_left m0
    have e := evictA_1 m0 m1
    rw [hHv, h.m2] at e
    rw [e]
    refine ⟨⟨h.m1, rfl, h.most, h.P0, h.P1, ?_, fun x q => h.rng x ((hi' x).1 q).1, fun x q => hsetH x ((hi' x).1 q), fun y q => ?_, fun y q q2 => ?_, h.c1, ?_⟩, hlen, hi'⟩
    · have := h.tot; unfold tot2 at *; show ((del s.L v) 0).length + ((del s.L v) 1).length ≤ pl; omega
    · have q' : y ∈ s.B1 ∨ y ∈ gadd pl s.B2 (7 * v) := q
      have : y = 7 * v ∨ (y ∈ s.B1 ∨ y ∈ s.B2) := q'.elim (fun q => .inr (.inl q)) (fun q => (gadd_mem q).imp (fun q => q) .inr)
      rcases this with q | q
      · exact ⟨v, q, hrv, fun r => ((hi' v).1 r).2 rfl⟩
      · obtain ⟨i, h1, h2, h3⟩ := h.G y q
        exact ⟨i, h1, h2, fun r => h3 ((hi' i).1 r).1⟩
    · have q' : y ∈ gadd pl s.B2 (7 * v) := q2
      rcases gadd_mem q' with r | r
      · exact hno y (.inl q) r
      · exact h.dj y q r
    · have := (cut_length (pl : Int) (s.B2.filter (· != 7 * v) ++ [7 * v]) hpl).1
      show (gadd pl s.B2 (7 * v)).length ≤ pl
      unfold gadd; omega
theorem SV.put {pl : Nat} {s s' : ArcS} (h : SV pl s) (hw : Rw2 s) {id : Int} (hid : 0 ≤ id ∧ id ≤ 15) (hno : ¬ In2 s id) (ht : tot2 s < pl) {r : Nat} (hr : r = 0 ∨ r = 1) (hL : s'.L = putF (del s.L id) r id) (hH : s'.H = setH s.H id (7 * id))
    (e1 : s'.m1 = s.m1) (e2 : s'.m2 = s.m2) (e3 : s'.most = s.most) (p0 : 0 ≤ s'.P) (p1 : s'.P ≤ pl) (b1 : ∀ y ∈ s'.B1, y ∈ s.B1 ∧ y ≠ 7 * id) (b2 : ∀ y ∈ s'.B2, y ∈ s.B2 ∧ y ≠ 7 * id) (l1 : s'.B1.length ≤ s.B1.length) (l2 : s'.B2.length ≤ s.B2.length) :
    SV pl s' ∧ In2 s' id := by
  have hi : ∀ x, In2 s' x ↔ (x = id ∨ In2 s x) := fun x => put_in hr s'.L hL x
  have hl := (put_len hw hr s'.L hL).2 hno
  refine ⟨⟨e1.trans h.m1, e2.trans h.m2, e3.trans h.most, p0, p1, ?_, fun x q => ?_, fun x q => ?_, fun y q => ?_, fun y q q2 => h.dj y (b1 y q).1 (b2 y q2).1, Nat.le_trans l1 h.c1, Nat.le_trans l2 h.c2⟩, (hi id).2 (.inl rfl)⟩
  · show (s'.L 0).length + (s'.L 1).length ≤ pl
    omega
  · rcases (hi x).1 q with q | q
    · rw [q]; exact hid
    · exact h.rng x q
  · rw [hH]
    unfold setH
    by_cases e : x = id
    · rw [if_pos e, e]
    · rw [if_neg e]; exact h.H x (((hi x).1 q).resolve_left e)
  · have q' : (y ∈ s.B1 ∨ y ∈ s.B2) ∧ y ≠ 7 * id := q.elim (fun q => ⟨.inl (b1 y q).1, (b1 y q).2⟩) (fun q => ⟨.inr (b2 y q).1, (b2 y q).2⟩)
    obtain ⟨i, h1, h2, h3⟩ := h.G y q'.1
    refine ⟨i, h1, h2, fun r => ?_⟩
    rcases (hi i).1 r with r | r
    · exact q'.2 (by rw [h1, r])
    · exact h3 r
theorem SV.insert {pl : Nat} {s : ArcS} (h : SV pl s) (hw : Rw2 s) {id : Int} (hid : 0 ≤ id ∧ id ≤ 15) (hno : ¬ In2 s id) (ht : tot2 s < pl) : insOk s id = true ∧ SV pl (insA s id (7 * id)) ∧ In2 (insA s id (7 * id)) id := by
  have hok : insOk s id = true := insOk_new (fun q => hno (.inl q)) (fun q => hno (.inr q)) (by omega)
  have hg : ∀ l : List Int, ∀ y ∈ grem l (7 * id), y ∈ l ∧ y ≠ 7 * id := fun l y q => memf.1 q
  have hgl : ∀ l : List Int, (grem l (7 * id)).length ≤ l.length := fun l => List.length_filter_le _ _
  have h0 := h.P0
  have h1 := h.P1
  have h3 := h.most
  refine ⟨hok, ?_⟩
  by_cases g1 : 7 * id ∈ s.B1
  · rw [insA_b1 hok g1]
    exact h.put hw hid hno ht (.inr rfl) rfl rfl rfl rfl rfl (by show 0 ≤ min (max _ 0) s.most; omega) (by show min (max _ 0) s.most ≤ pl; omega) (fun y q => hg _ y q) (fun y q => ⟨q, fun e => h.dj _ g1 (e ▸ q)⟩) (hgl _) (Nat.le_refl _)
  · by_cases g2 : 7 * id ∈ s.B2
    · rw [insA_b2 hok g1 g2]
      exact h.put hw hid hno ht (.inr rfl) rfl rfl rfl rfl rfl (by show 0 ≤ min (max _ 0) s.most; omega) (by show min (max _ 0) s.most ≤ pl; omega) (fun y q => ⟨q, fun e => g1 (e ▸ q)⟩) (fun y q => hg _ y q) (Nat.le_refl _) (hgl _)
    · rw [insA_new hok g1 g2]
      exact h.put hw hid hno ht (.inl rfl) rfl rfl rfl rfl rfl h.P0 h.P1 (fun y q => ⟨q, fun e => g1 (e ▸ q)⟩) (fun y q => ⟨q, fun e => g2 (e ▸ q)⟩) (Nat.le_refl _) (Nat.le_refl _)
end Go.Proofs.YtgdlndpjfejmcaaGreat.Arc
