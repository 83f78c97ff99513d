/- Layer 10 (rows): All, which goes through a row. -/
import Derived.Test.YtgdlndpjfejmcaaGreatPRc
import Derived.RangeFuncBox
import Derived.RangeFuncLeaves
import Derived.Shelf.Abstract
import Derived.OwnWalkIn
import Derived.TacticsInMore
import Derived.LoopNIn
import Derived.LoopIn
import Derived.Maps.AppendAt
import Derived.Sort.QuietIn
import Derived.Test.YtgdlndpjfejmcaaGreatPB
namespace Go.Proofs.YtgdlndpjfejmcaaGreat
open Go.RowKit Go.Shelf
set_option linter.unusedVariables false
set_option maxRecDepth 100000
attribute [local go_sem] Oper.semAt_some
/-- What a round of the caller keeps: all but its own box and what is new. -/
def Kept (B n₁ : Nat) : World → World → Prop := Fr fun b => b = B ∨ n₁ ≤ b
/-- What the iterator reads: its two boxes, the links. -/
structure RingAt (w : World) (g Br Bw b off cap r : Nat) (lk : List Lnk) : Prop where
  hr : w.cell? ⟨Br, 0, none⟩ = some (.pointer (some ⟨g, 0, none⟩))
  hw : w.cell? ⟨Bw, 0, none⟩ = some (.int .i64 r)
  hg : w.cell? ⟨g, 0, none⟩ = some (.slice (some ⟨b, off, none⟩) lk.length cap)
  hx : ∀ k, k < lk.length → w.cell? ⟨b, off + k * 4, none⟩ = some (.int .i64 (lI lk k)) ∧ w.cell? ⟨b, off + k * 4 + 3, none⟩ = some (.int .i64 (lA lk k))
theorem RingAt.kept {w w' : World} {g Br Bw b off cap r B n₁ : Nat} {lk : List Lnk} (h : RingAt w g Br Bw b off cap r lk) (hk : Kept B n₁ w w') (hr : Br ≠ B ∧ Br < n₁) (hw : Bw ≠ B ∧ Bw < n₁) (hg : g ≠ B ∧ g < n₁) (hb : b ≠ B ∧ b < n₁) (hn : n₁ ≤ w.heap.size) : RingAt w' g Br Bw b off cap r lk := by
  have hc : ∀ c i, c ≠ B ∧ c < n₁ → w'.cell? ⟨c, i, none⟩ = w.cell? ⟨c, i, none⟩ := fun c i h => Fr.cell hk (by simp; omega) (by simp; omega)
  exact ⟨(hc _ _ hr).trans h.hr, (hc _ _ hw).trans h.hw, (hc _ _ hg).trans h.hg, fun k hkl => ⟨(hc _ _ hb).trans (h.hx k hkl).1, (hc _ _ hb).trans (h.hx k hkl).2⟩⟩
/-- How many places are still to come. -/
def leftOf (ps : List Nat) (v : Value) : Nat := ps.length - ps.idxOf (intOf v).toNat
theorem leftOf_in {u v : List Nat} {k : Nat} (hn : (u ++ k :: v).Nodup) : leftOf (u ++ k :: v) (.int .i64 k) = v.length + 1 := by
  unfold leftOf
  have hk : k ∉ u := fun h => (List.nodup_append.1 hn).2.2 k h k (by simp) rfl
  have : (intOf (.int .i64 (k : Int))).toNat = k := by simp [intOf]
  rw [this, List.idxOf_append, if_neg hk]
  simp
theorem leftOf_out {ps : List Nat} {k : Nat} (hn : k ∉ ps) : leftOf ps (.int .i64 k) = 0 := by
  unfold leftOf
  have : (intOf (.int .i64 (k : Int))).toNat = k := by simp [intOf]
  rw [this, List.idxOf_eq_length hn]
  omega
theorem path_next {A B : Nat → Nat} {r k : Nat} {u v : List Nat} (h : Path A B r (u ++ k :: v) r) : A k = v.headD r := by
  have := (path_split.1 h).2
  exact path_first this
theorem below_drewN {w0 W : World} {n : Nat} (h : Below n w0 W) (k : Nat) : Below n w0 (W.drewN k) := ⟨h.os, h.tape, h.output, h.size, h.block⟩
def int64s (l : List Int) : List Value := l.map (Value.int .i64)
theorem ownsRow_low {W : World} {base base' : Nat} {e : TypeId} {size : Nat} {v : Value} {k : Nat} {xs : List Value} (h : W.ownsRow base e size v k xs) (hb : base' ≤ base) : W.ownsRow base' e size v k xs := by
  obtain ⟨h1, h2⟩ := h
  refine ⟨h1, ?_⟩
  rcases h2 with h2 | ⟨g, cap, cur, hv, hg, r⟩
  · exact Or.inl h2
  · exact Or.inr ⟨g, cap, cur, hv, Nat.le_trans hb hg, r⟩
theorem kept_append {W w1 : World} {n₁ B : Nat} {t e : TypeId} {size : Nat} {v v' : Value} {k m : Nat} {xs ys : List Value} {tmp : Obj} (hv : Boxed W B t v) (hrow : W.ownsRow n₁ e size v k xs) (hown' : w1.ownsRow n₁ e size v' m ys) (hgrow : (W.alloc tmp).grownBy w1 v.ownBlock) :
    Kept B n₁ W (w1.setCell ⟨B, 0, none⟩ v') := by
  refine Fr.setCell (((Fr.refl _ W).alloc tmp).trans (Fr.of_grown hgrow) fun i _ h => ?_) (fun _ => Or.inl rfl) v'
  rcases hrow.2 with ⟨rfl, _⟩ | ⟨g, cap, cur, rfl, hg, _⟩
  · cases h
  · obtain rfl : i = g := by simpa [Value.ownBlock] using h
    exact Or.inr hg
theorem Fr.belowAll {w w' : World} (h : Fr (fun _ => False) w w') : Below w.heap.size w w' := h.below (Nat.le_refl _) (fun _ _ h => h.elim)
end Go.Proofs.YtgdlndpjfejmcaaGreat
/- Layer 10 (rows): Front and Back, whatever comes. -/
namespace Go.Proofs.YtgdlndpjfejmcaaGreat
open Go.RowKit
set_option linter.unusedVariables false
set_option maxRecDepth 100000
def frontL (n : Nat) (L : Nat → List Int) (row id : Int) : Nat → List Int := if mayIn n row id then putF (del L id) row.toNat id else L
def backL (n : Nat) (L : Nat → List Int) (row id : Int) : Nat → List Int := if mayIn n row id then putB (del L id) row.toNat id else L
set_option maxHeartbeats 1000000 in
theorem rows_front_no (S : Nat → Prop) (g n : Nat) (L : Nat → List Int) (N : Nat) (row id : Int) (w : World) (hG : RowsAt w S g n L N) (hno : mayIn n row id = false) :
    Calls Tryz.prog 93 #[.pointer (some ⟨g, 0, none⟩), .int .i64 row, .int .i64 id] w fun e w' => e = .returned (.bool false) ∧ w = w' := by
  have hm := (mayIn_iff hno).2 rfl
  have HC := Lib.hid (rows_has S g n L N row w hG)
  clear hno hG
  by_cases h : 0 ≤ row ∧ row < (n : Int)
  · have HD := Lib.hid (decide_eq_true h)
    by_cases h0 : id < 0
    · clear hm h
      go_enter Tryz.func93, Tryz.ntmps93
      go_wp2_with (go_at_call 85; refine HC.out.mono ?_; rintro e w' ⟨rfl, rfl⟩; rw [HD.out])
      go_ret
      exact ⟨rfl, rfl⟩
    · have h1 : 4194303 < id := by omega
      have h2 : decide (id < 0) = false := decide_eq_false h0
      clear hm h h0
      go_enter Tryz.func93, Tryz.ntmps93
      go_wp2_with (go_at_call 85; refine HC.out.mono ?_; rintro e w' ⟨rfl, rfl⟩; rw [HD.out])
      go_ret
      exact ⟨rfl, rfl⟩
  · have HD := Lib.hid (decide_eq_false h)
    clear hm h
    go_enter Tryz.func93, Tryz.ntmps93
    go_wp2_with (go_at_call 85; refine HC.out.mono ?_; rintro e w' ⟨rfl, rfl⟩; rw [HD.out])
    go_ret
    exact ⟨rfl, rfl⟩
/-- Front (J1). -/
theorem rows_front (S : Nat → Prop) (g n : Nat) (L : Nat → List Int) (N : Nat) (row id : Int) (w : World) (hG : RowsAt w S g n L N) (hN1 : N < 1000000) :
    Calls Tryz.prog 93 #[.pointer (some ⟨g, 0, none⟩), .int .i64 row, .int .i64 id] w fun e w' => e = .returned (.bool (mayIn n row id)) ∧ RowsAt w' (grow S w w') g n (frontL n L row id) (N + 1) ∧ Fr S w w' := by
  rcases hm : mayIn n row id with _ | _
  · refine (rows_front_no S g n L N row id w hG hm).mono fun e w' ⟨he, hw⟩ => ?_
    subst hw
    unfold frontL
    rw [hm]
    exact ⟨he, (hG.mono fun b _ h => Or.inl h).more (Nat.le_succ _), Fr.refl _ _⟩
  · obtain ⟨h1, h2⟩ := (mayIn_iff hm).1 rfl
    obtain ⟨r, rfl⟩ : ∃ r : Nat, row = r := ⟨row.toNat, by omega⟩
    unfold frontL
    rw [hm, if_pos rfl, Int.toNat_natCast]
    exact rows_front_ok S g n L N r id w hG (by omega) h2 hN1
end Go.Proofs.YtgdlndpjfejmcaaGreat
/- Rows in blocks of their own: what each call does, to be taken one by one. -/
namespace Go.Proofs.YtgdlndpjfejmcaaGreat
open Go.RowKit
set_option linter.unusedVariables false
set_option maxRecDepth 100000
def RW (g n : Nat) (L : Nat → List Int) (N : Nat) (w : World) (S : Nat → Prop) : Prop := RowsAt w S g n L N
section
variable {w0 w w' : World} {S : Nat → Prop} {g n : Nat} {L L' : Nat → List Int} {N N' : Nat}
theorem rw_drewN (h : Sep (RW g n L N) w0 w S) (k : Nat) : Sep (RW g n L N) w0 (w.drewN k) S := ⟨RowsAt.frame h.at_ fun _ _ _ => rfl, h.fr.drewN k, h.lo, h.hi⟩
theorem rw_keep (h : Sep (RW g n L N) w0 w S) {F : Nat → Prop} (hF : Fr F w w') (hd : ∀ b, b < w.heap.size → S b → ¬ F b) (h0 : ∀ b, b < w0.heap.size → ¬ F b) : Sep (RW g n L N) w0 w' S :=
  h.keep hF hd h0 (fun hA hf => RowsAt.frame hA hf)
theorem rw_below (h : Sep (RW g n L N) w0 w S) (hB : Below w.heap.size w w') : Sep (RW g n L N) w0 w' S :=
  rw_keep h (Fr.of_below hB) (fun b hb _ => by omega) (fun b hb => by have := h.fr.size; omega)
theorem rw_more (h : Sep (RW g n L N) w0 w S) (hN : N ≤ N') : Sep (RW g n L N') w0 w S := h.as (fun hA => RowsAt.more hA hN)
theorem new_rw (n : Nat) (h1 : 1 ≤ n) (h8 : n ≤ 8) (hF : Fr (From w0.heap.size) w0 w) :
    Calls Tryz.prog 23 #[.int .i64 n] w fun e w' => ∃ g S, e = .returned (.pointer (some ⟨g, 0, none⟩)) ∧ Sep (RW g n (fun _ => []) 0) w0 w' S ∧ (∀ b, S b → w.heap.size ≤ b) ∧ Fr (fun _ => False) w w' :=
  (rows_new n h1 h8 w).mono fun e w' ⟨g, he, hA, hG⟩ => ⟨g, _, he, Sep.new hF hA (fun b q => q) hG, fun b q => q.1, hG⟩
theorem front_rw (h : Sep (RW g n L N) w0 w S) (row id : Int) (hN : N < 1000000) :
    Calls Tryz.prog 93 #[.pointer (some ⟨g, 0, none⟩), .int .i64 row, .int .i64 id] w fun e w' => e = .returned (.bool (mayIn n row id)) ∧ Sep (RW g n (frontL n L row id) (N + 1)) w0 w' (grow S w w') ∧ Fr S w w' :=
  (rows_front _ g n L N row id w h.at_ hN).mono fun e w' ⟨he, hA, hF⟩ => ⟨he, h.next hA hF, hF⟩
theorem take_rw (h : Sep (RW g n L N) w0 w S) (id : Int) (hN : N ≤ 1000000) :
    Calls Tryz.prog 92 #[.pointer (some ⟨g, 0, none⟩), .int .i64 id] w fun e w' => e = .returned (.bool (decide (0 ≤ rowOf n L id))) ∧ Sep (RW g n (del L id) N) w0 w' (grow S w w') ∧ Fr S w w' :=
  (rows_take _ g n L N id w h.at_ hN).mono fun e w' ⟨he, hA, hF⟩ => ⟨he, h.next hA hF, hF⟩
theorem row_rw (h : Sep (RW g n L N) w0 w S) (id : Int) :
    Calls Tryz.prog 84 #[.pointer (some ⟨g, 0, none⟩), .int .i64 id] w fun e w' => e = .returned (.int .i64 (rowOf n L id)) ∧ w = w' := rows_row _ g n L N id w h.at_
theorem len_rw (h : Sep (RW g n L N) w0 w S) (row : Int) :
    Calls Tryz.prog 83 #[.pointer (some ⟨g, 0, none⟩), .int .i64 row] w fun e w' => e = .returned (.int .i64 (rowL L row).length) ∧ w = w' := rows_len _ g n L N row w h.at_
theorem last_rw (h : Sep (RW g n L N) w0 w S) (row : Int) :
    Calls Tryz.prog 94 #[.pointer (some ⟨g, 0, none⟩), .int .i64 row] w fun e w' => ∃ k, e = .returned (.int .i64 (lastOf (rowL L row))) ∧ w' = w.drewN k ∧ Sep (RW g n L N) w0 w' S :=
  (rows_last _ g n L N row w h.at_).mono fun e w' ⟨he, k, hk⟩ => ⟨k, he, hk, hk ▸ rw_drewN h k⟩
end
end Go.Proofs.YtgdlndpjfejmcaaGreat
/- Rows beside slices that are appended to, and arrays that are written. -/
namespace Go.Proofs.YtgdlndpjfejmcaaGreat
open Go.RowKit
set_option linter.unusedVariables false
set_option maxRecDepth 100000
theorem rw_held_app {w0 W w1 : World} {g n : Nat} {L : Nat → List Int} {N : Nat} {S : Nat → Prop} {T : TypeId} {v' : Value} {n' : Nat} {xs : List Value} (hS : Sep (RW g n L N) w0 W S) (hs : Sl w1 (grow (fun b => ¬ S b ∧ w0.heap.size ≤ b) W w1) T 1 v' n' xs)
    (hF : Fr (Arr (fun b => ¬ S b ∧ w0.heap.size ≤ b) W T) W w1) : Held w0 w1 S T 1 v' n' xs ∧ Sep (RW g n L N) w0 w1 S :=
  ⟨hs.mono fun b _ q => q.elim (fun q => q) (fun q => ⟨fun s => by have := hS.hi b s; omega, by have := hS.fr.size; omega⟩),
   rw_keep hS hF (fun b _ s q => q.1.1 s) (fun b hb q => by have := q.1.2; omega)⟩
theorem rw_alloc {w0 W : World} {g n : Nat} {L : Nat → List Int} {N : Nat} {S : Nat → Prop} (hS : Sep (RW g n L N) w0 W S) (o : Obj) : Sep (RW g n L N) w0 (W.alloc o) S := rw_below hS (((Fr.refl (fun _ => False) W).alloc o).belowAll)
/-- A store into what is held. -/
theorem rw_held_set {w0 W : World} {g n : Nat} {L : Nat → List Int} {N : Nat} {S : Nat → Prop} {T : TypeId} {b off m cap : Nat} {xs : List Value} (hS : Sep (RW g n L N) w0 W S) (h : Held w0 W S T 1 (.slice (some ⟨b, off, none⟩) m cap) m xs) {i : Nat} (hi : i < m) (u : Value) :
    Held w0 (W.setCell ⟨b, off + i, none⟩ u) S T 1 (.slice (some ⟨b, off, none⟩) m cap) m (xs.set i u) ∧ Sep (RW g n L N) w0 (W.setCell ⟨b, off + i, none⟩ u) S := by
  have hx : i < xs.length := by have := h.1; omega
  obtain ⟨b', off', cap', hv, hSb, _⟩ := Sl.pos h (by omega)
  simp at hv
  obtain ⟨⟨rfl, rfl⟩, rfl⟩ := hv
  exact ⟨Sl.set h hx u, rw_keep hS (F := fun k => k = b) (Fr.setCell (Fr.refl (fun k => k = b) W) (p := ⟨b, off + i, none⟩) (fun _ => rfl) u) (fun k _ s q => hSb.1 (q ▸ s)) (fun k hk q => by have := hSb.2; omega)⟩
/-- What is held in blocks of another type stays. -/
theorem Held.set_type {w0 W : World} {S : Nat → Prop} {T T' : TypeId} {sz : Nat} {v : Value} {n : Nat} {xs : List Value} (h : Held w0 W S T sz v n xs) {b off m cap : Nat} {ys : List Value} (hb : Held w0 W S T' 1 (.slice (some ⟨b, off, none⟩) m cap) m ys) (hT : T' ≠ T) (i : Nat) (u : Value) : Held w0 (W.setCell ⟨b, i, none⟩ u) S T sz v n xs := by
  rcases hb.2 with ⟨h2, _⟩ | ⟨b', off', cap', c, hv, hSb, hbk, _⟩
  · cases h2
  · simp at hv
    obtain ⟨⟨rfl, rfl⟩, rfl⟩ := hv
    exact Sl.setCell_other h hbk hT i u
/-- An array of the call's own, read as a slice. -/
theorem Held.array {w0 W : World} {S : Nat → Prop} {T : TypeId} {n : Nat} (hn : n ≤ 4096) (cs : List Value) (hc : cs.length = n) (hS : ∀ b, S b → b < W.heap.size) (h0 : w0.heap.size ≤ W.heap.size) :
    Held w0 (W.alloc (.cells cs.toArray T)) S T 1 (.slice (some ⟨W.heap.size, 0, none⟩) n n) n cs := by
  refine ⟨by omega, Or.inr ⟨W.heap.size, 0, n, cs.toArray, rfl, ⟨fun s => by have := hS _ s; omega, h0⟩, heap_alloc_new _ _, Nat.le_refl _, by unfold maxLen; omega, by simp; omega, fun i hi => by simp⟩⟩
end Go.Proofs.YtgdlndpjfejmcaaGreat
/- Two rows: laws that arc and sthree share. -/
namespace Go.Proofs.YtgdlndpjfejmcaaGreat
open Go.RowKit
set_option linter.unusedVariables false
set_option maxRecDepth 100000
theorem rowL_0 (L : Nat → List Int) : rowL L 0 = L 0 := rfl
theorem rowL_1 (L : Nat → List Int) : rowL L 1 = L 1 := rfl
theorem row_drewN {w : World} {S : Nat → Prop} {g n : Nat} {L : Nat → List Int} {N : Nat} (h : RowsAt w S g n L N) (k : Nat) : RowsAt (w.drewN k) S g n L N := h.frame fun _ _ _ => rfl
theorem rowOf_two {w : World} {S : Nat → Prop} {g : Nat} {L : Nat → List Int} {N : Nat} (h : RowsAt w S g 2 L N) (id : Int) :
    (rowOf 2 L id = 0 ∧ id ∈ L 0 ∧ id ∉ L 1) ∨ (rowOf 2 L id = 1 ∧ id ∈ L 1 ∧ id ∉ L 0) ∨ (rowOf 2 L id = -1 ∧ id ∉ L 0 ∧ id ∉ L 1) := by
  by_cases h0 : id ∈ L 0
  · exact Or.inl ⟨rowOf_some (r := 0) (by decide) h0 (fun s hs q => h.disj (by decide) hs h0 q), h0, fun h1 => by have := h.disj (r := 0) (s := 1) (by decide) (by decide) h0 h1; omega⟩
  · by_cases h1 : id ∈ L 1
    · exact Or.inr (Or.inl ⟨rowOf_some (r := 1) (by decide) h1 (fun s hs q => h.disj (by decide) hs h1 q), h1, h0⟩)
    · exact Or.inr (Or.inr ⟨rowOf_none (fun r hr q => by
        match r, hr, q with
        | 0, _, q => exact h0 q
        | 1, _, q => exact h1 q), h0, h1⟩)
theorem grow_grow {S : Nat → Prop} {a b c : World} (h1 : a.heap.size ≤ b.heap.size) (h2 : b.heap.size ≤ c.heap.size) {k : Nat} (h : grow (grow S a b) b c k) : grow S a c k := by
  rcases h with (h | h) | h
  · exact Or.inl h
  · exact Or.inr ⟨h.1, by omega⟩
  · exact Or.inr ⟨by omega, h.2⟩
theorem Fr.grown {S : Nat → Prop} {a b c : World} (h : Fr S a b) (k : Fr (grow S a b) b c) : Fr S a c := h.trans k (fun i hi q => q.elim id (fun q => by omega))
theorem rowOf2 (L : Nat → List Int) (id : Int) : rowOf 2 L id = if id ∈ L 0 then 0 else if id ∈ L 1 then 1 else -1 := by
  unfold rowOf
  by_cases h0 : id ∈ L 0
  · simp [List.range, List.range.loop, h0]
  · by_cases h1 : id ∈ L 1
    · simp [List.range, List.range.loop, h0, h1]
    · simp [List.range, List.range.loop, h0, h1]
theorem rowOf2_nn (L : Nat → List Int) (id : Int) : (0 ≤ rowOf 2 L id) ↔ (id ∈ L 0 ∨ id ∈ L 1) := by
  rw [rowOf2]
  by_cases h0 : id ∈ L 0
  · simp [h0]
  · by_cases h1 : id ∈ L 1
    · simp [h0, h1]
    · simp [h0, h1]
theorem front2 (L : Nat → List Int) (row id : Int) (hr : row = 0 ∨ row = 1) (h0 : 0 ≤ id) (h1 : id ≤ 4194303) : frontL 2 L row id = putF (del L id) row.toNat id := by
  unfold frontL
  rw [if_pos]
  exact decide_eq_true (by omega)
theorem filter_no {l : List Int} {x : Int} (h : x ∉ l) : l.filter (· != x) = l := List.filter_eq_self.2 fun y hy => by simp only [bne_iff_ne, ne_eq]; intro e; subst e; exact h hy
/-- Every one's id is one that may be. -/
def Wid (L : Nat → List Int) : Prop := ∀ r x, r < 2 → x ∈ L r → 0 ≤ x ∧ x ≤ 4194303
theorem putF_0 (L : Nat → List Int) (id : Int) : putF (del L id) 0 id 0 = id :: (L 0).filter (· != id) ∧ putF (del L id) 0 id 1 = (L 1).filter (· != id) := ⟨rfl, rfl⟩
theorem putF_1 (L : Nat → List Int) (id : Int) : putF (del L id) 1 id 0 = (L 0).filter (· != id) ∧ putF (del L id) 1 id 1 = id :: (L 1).filter (· != id) := ⟨rfl, rfl⟩
/-- So many from a number on. -/
def upA (a : Int) : Nat → List Int
  | 0 => []
  | n + 1 => (a + n) :: upA a n
theorem mem_upA {a x : Int} : ∀ {n : Nat}, x ∈ upA a n ↔ a ≤ x ∧ x < a + n
  | 0 => by simp [upA] <;> omega
  | n + 1 => by
    unfold upA
    rw [List.mem_cons, mem_upA]
    omega
theorem len_upA (a : Int) : ∀ n, (upA a n).length = n
  | 0 => rfl
  | n + 1 => by unfold upA; simp [len_upA a n]
theorem upA_last (a : Int) : ∀ n, upA a (n + 1) = upA (a + 1) n ++ [a]
  | 0 => by simp [upA]
  | n + 1 => by
    rw [upA, upA_last a n, upA]
    simp; omega
theorem lastOf_snoc (l : List Int) (x : Int) : lastOf (l ++ [x]) = x := by unfold lastOf; simp [List.getLastD_eq_getLast?]
theorem lastOf_upA (a : Int) (n : Nat) : lastOf (upA a (n + 1)) = a := by rw [upA_last, lastOf_snoc]
theorem lastOf_mem {l : List Int} (h : l ≠ []) : lastOf l ∈ l := by
  unfold lastOf
  rw [List.getLastD_eq_getLast?, List.getLast?_eq_some_getLast h]
  exact List.getLast_mem h
theorem del_upA (a : Int) (n : Nat) : (upA a (n + 1)).filter (· != a) = upA (a + 1) n := by
  rw [upA_last, List.filter_append, filter_no (by rw [mem_upA]; omega)]
  simp
theorem mem_front2 {L : Nat → List Int} {row id : Int} (hr : row = 0 ∨ row = 1) (h0 : 0 ≤ id) (h1 : id ≤ 4194303) (x : Int) : (x ∈ frontL 2 L row id 0 ∨ x ∈ frontL 2 L row id 1) ↔ (x = id ∨ x ∈ L 0 ∨ x ∈ L 1) := by
  rw [front2 L row id hr h0 h1]
  have e : ∀ r, x ∈ (L r).filter (· != id) ↔ x ∈ L r ∧ x ≠ id := fun r => by rw [List.mem_filter]; simp
  rcases hr with rfl | rfl
  · show (x ∈ id :: (L 0).filter (· != id) ∨ x ∈ (L 1).filter (· != id)) ↔ _
    rw [List.mem_cons, e, e]
    by_cases q : x = id <;> simp [q]
  · show (x ∈ (L 0).filter (· != id) ∨ x ∈ id :: (L 1).filter (· != id)) ↔ _
    rw [List.mem_cons, e, e]
    by_cases q : x = id <;> simp [q]
theorem mem_del2 (L : Nat → List Int) (id x : Int) : (x ∈ del L id 0 ∨ x ∈ del L id 1) ↔ (x ≠ id ∧ (x ∈ L 0 ∨ x ∈ L 1)) := by
  have e : ∀ r, x ∈ (L r).filter (· != id) ↔ x ∈ L r ∧ x ≠ id := fun r => by rw [List.mem_filter]; simp
  show (x ∈ (L 0).filter (· != id) ∨ x ∈ (L 1).filter (· != id)) ↔ _
  rw [e, e]
  by_cases q : x = id <;> simp [q]
end Go.Proofs.YtgdlndpjfejmcaaGreat
