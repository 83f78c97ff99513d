/- The reference of layer 13 (arc): rows, two ghosts, the ids' numbers. -/
import Derived.Test.YtgdlndpjfejmcaaGreatRfX
import Derived.Test.YtgdlndpjfejmcaaGreatRg3
import Derived.Test.YtgdlndpjfejmcaaGreatRef11b
import Derived.Test.YtgdlndpjfejmcaaGreatPXc
import Derived.Test.YtgdlndpjfejmcaaGreatPXa
import Derived.Deep.CutBlock
import Derived.StillTailTactics
namespace Go.Proofs.YtgdlndpjfejmcaaGreat.Arc
open Go.RowKit
set_option linter.unusedVariables false
set_option maxRecDepth 100000
/-- The reference, off memory. -/
structure AfS where
  L : Nat → List Int
  B1 : List Int
  B2 : List Int
  most : Int
  P : Int
  H : List (Int × Int)
/-- Named ids, as cells. -/
def nms (l : List (Int × Int)) : List Value := l.flatMap fun p => [.int .i64 p.1, .int .u64 p.2]
theorem nms_len (l : List (Int × Int)) : (nms l).length = l.length * 2 := by
  induction l with
  | nil => rfl
  | cons p l ih => simp only [nms, List.flatMap_cons, List.length_append, List.length_cons, List.length_nil] at *; omega
theorem nms_snoc (l : List (Int × Int)) (p : Int × Int) : nms (l ++ [p]) = nms l ++ [.int .i64 p.1, .int .u64 p.2] := by simp [nms]
theorem nms_get {l : List (Int × Int)} : ∀ {k : Nat} {p : Int × Int}, l[k]? = some p → (nms l)[k * 2]? = some (.int .i64 p.1) ∧ (nms l)[k * 2 + 1]? = some (.int .u64 p.2) := by
  induction l with
  | nil => intro k p h; simp at h
  | cons q l ih =>
    intro k p h
    have e : nms (q :: l) = .int .i64 q.1 :: .int .u64 q.2 :: nms l := by simp [nms]
    rw [e]
    match k, h with
    | 0, h => simp at h; subst h; exact ⟨rfl, rfl⟩
    | k + 1, h =>
      have := ih (k := k) (p := p) (by simpa using h)
      rw [show (k + 1) * 2 = k * 2 + 1 + 1 from by omega]
      exact ⟨by simpa using this.1, by simpa using this.2⟩
/-- The cells of a named id. -/
theorem nm_at {w : World} {S : Nat → Prop} {v : Value} {l : List (Int × Int)} (h : Sl w S 104 2 v l.length (nms l)) :
    ∃ a cap, v = .slice a l.length cap ∧ ∀ k x, l[k]? = some x → ∃ b off, a = some ⟨b, off, none⟩ ∧ b < w.heap.size ∧ S b ∧ w.cell? ⟨b, off + k * 2, none⟩ = some (.int .i64 x.1) ∧ w.cell? ⟨b, off + k * 2 + 1, none⟩ = some (.int .u64 x.2) := by
  obtain ⟨a, cap, rfl, _⟩ := h.shape
  refine ⟨a, cap, rfl, fun k x hx => ?_⟩
  have hk := (List.getElem?_eq_some_iff.1 hx).1
  obtain ⟨b, off, cap', hv, hS, hb, _, hc, hf⟩ := h.pos (by omega)
  simp at hv
  obtain ⟨g1, g2⟩ := nms_get hx
  have hl := nms_len l
  exact ⟨b, off, hv.1, hb, hS, by rw [hc (k * 2) (by omega), g1], by rw [Nat.add_assoc, hc (k * 2 + 1) (by omega), g2]⟩
structure AfO (w : World) (S : Nat → Prop) (p : Nat) (s : AfS) (r b1 b2 : Nat) (sv : Value) (Z : Nat → Nat → Prop) (m1 m2 : Int) : Prop where
  hSp : S p
  hZS : ∀ k b, Z k b → S b
  hZp : ∀ k, ¬ Z k p
  hZd : ∀ j k, j ≠ k → ∀ b, Z j b → Z k b → False
  hZi : ∀ k b, Z k b → b < w.heap.size
  hp : w.heap[p]? = some (.cells #[.pointer (some ⟨r, 0, none⟩), .pointer (some ⟨b1, 0, none⟩), .pointer (some ⟨b2, 0, none⟩), .int .i64 s.most, .int .i64 s.P, sv] 73 (0, 0))
  hR : Rf w (Z 0) r 2 s.L
  h1 : RefG w (Z 1) b1 m1 s.B1
  h2 : RefG w (Z 2) b2 m2 s.B2
  hs : Sl w (Z 3) 104 2 sv s.H.length (nms s.H)
def Af (w : World) (S : Nat → Prop) (p : Nat) (s : AfS) : Prop := ∃ r b1 b2 sv Z, AfO w S p s r b1 b2 sv Z s.most s.most
/-- A part grows. -/
def growZ (Z : Nat → Nat → Prop) (k : Nat) (w w' : World) : Nat → Nat → Prop := fun j => if j = k then grow (Z k) w w' else Z j
section
variable {w w' : World} {S S' : Nat → Prop} {p r b1 b2 : Nat} {s : AfS} {sv v : Value} {Z : Nat → Nat → Prop} {m1 m2 m' : Int}
theorem AfO.frame (h : AfO w S p s r b1 b2 sv Z m1 m2) (hz : w.heap.size ≤ w'.heap.size) (hf : ∀ b, b < w.heap.size → S b → w'.heap[b]? = w.heap[b]?) : AfO w' S p s r b1 b2 sv Z m1 m2 :=
  ⟨h.hSp, h.hZS, h.hZp, h.hZd, fun k b q => Nat.lt_of_lt_of_le (h.hZi k b q) hz, (hf p (lt_of_heap h.hp) h.hSp).trans h.hp, h.hR.frame fun b hb q => hf b hb (h.hZS 0 b q), h.h1.frame fun b hb q => hf b hb (h.hZS 1 b q), h.h2.frame fun b hb q => hf b hb (h.hZS 2 b q), h.hs.frame fun b hb q => hf b hb (h.hZS 3 b q)⟩
theorem AfO.mono (h : AfO w S p s r b1 b2 sv Z m1 m2) (hS : ∀ b, b < w.heap.size → S b → S' b) : AfO w S' p s r b1 b2 sv Z m1 m2 :=
  ⟨hS p (lt_of_heap h.hp) h.hSp, fun k b q => hS b (h.hZi k b q) (h.hZS k b q), h.hZp, h.hZd, h.hZi, h.hp, h.hR, h.h1, h.h2, h.hs⟩
theorem Af.frame (h : Af w S p s) (hz : w.heap.size ≤ w'.heap.size) (hf : ∀ b, b < w.heap.size → S b → w'.heap[b]? = w.heap[b]?) : Af w' S p s := by
  obtain ⟨r, b1, b2, sv, Z, h⟩ := h; exact ⟨r, b1, b2, sv, Z, h.frame hz hf⟩
theorem Af.mono (h : Af w S p s) (hS : ∀ b, b < w.heap.size → S b → S' b) : Af w S' p s := by
  obtain ⟨r, b1, b2, sv, Z, h⟩ := h; exact ⟨r, b1, b2, sv, Z, h.mono hS⟩
theorem Af.fr {F : Nat → Prop} (h : Af w S p s) (hf : Fr F w w') (hd : ∀ b, b < w.heap.size → S b → ¬ F b) : Af w' S p s := h.frame hf.size fun b hb q => hf.block b hb (hd b hb q)
theorem AfO.cells (h : AfO w S p s r b1 b2 sv Z m1 m2) : w.cell? ⟨p, 0, none⟩ = some (.pointer (some ⟨r, 0, none⟩)) ∧ w.cell? ⟨p, 1, none⟩ = some (.pointer (some ⟨b1, 0, none⟩)) ∧ w.cell? ⟨p, 2, none⟩ = some (.pointer (some ⟨b2, 0, none⟩)) ∧ w.cell? ⟨p, 3, none⟩ = some (.int .i64 s.most) ∧ w.cell? ⟨p, 4, none⟩ = some (.int .i64 s.P) ∧ w.cell? ⟨p, 5, none⟩ = some sv ∧ (∀ i, w.frozen? ⟨p, i, none⟩ = false) ∧ p < w.heap.size := by
  have c0 := cell_of_heap h.hp 0
  have c1 := cell_of_heap h.hp 1
  have c2 := cell_of_heap h.hp 2
  have c3 := cell_of_heap h.hp 3
  have c4 := cell_of_heap h.hp 4
  have c5 := cell_of_heap h.hp 5
  exact ⟨by simpa using c0, by simpa using c1, by simpa using c2, by simpa using c3, by simpa using c4, by simpa using c5, fun i => fro_of_heap h.hp i, lt_of_heap h.hp⟩
/-- What holds of the parts when one of them grows. -/
theorem AfO.parts (h : AfO w S p s r b1 b2 sv Z m1 m2) (k : Nat) (hF : Fr (Z k) w w') : (∀ j b, growZ Z k w w' j b → grow S w w' b) ∧ (∀ j, ¬ growZ Z k w w' j p) ∧ (∀ i j, i ≠ j → ∀ b, growZ Z k w w' i b → growZ Z k w w' j b → False) ∧ (∀ j b, growZ Z k w w' j b → b < w'.heap.size) ∧ w'.heap[p]? = w.heap[p]? ∧ Fr S w w' := by
  have hpl := lt_of_heap h.hp
  have hz := hF.size
  refine ⟨fun j b q => ?_, fun j q => ?_, fun i j hij b q q2 => ?_, fun j b q => ?_, hF.block p hpl (h.hZp k), hF.mono fun b _ q => h.hZS k b q⟩
  · unfold growZ at q
    split at q
    · exact q.imp (h.hZS k b) (fun q => q)
    · exact Or.inl (h.hZS j b q)
  · unfold growZ at q
    split at q
    · exact q.elim (h.hZp k) (fun q => by omega)
    · exact h.hZp j q
  · unfold growZ at q q2
    split at q
    · rename_i e
      rw [if_neg (fun e2 => hij (e.trans e2.symm))] at q2
      exact q.elim (fun q => h.hZd k j (fun e2 => hij (e.trans e2)) b q q2) (fun q => by have := h.hZi j b q2; omega)
    · rename_i e
      split at q2
      · rename_i e2
        exact q2.elim (fun q2 => h.hZd i k e b q q2) (fun q2 => by have := h.hZi i b q; omega)
      · exact h.hZd i j hij b q q2
  · unfold growZ at q
    split at q
    · exact q.elim (fun q => Nat.lt_of_lt_of_le (h.hZi k b q) hz) (fun q => q.2)
    · exact Nat.lt_of_lt_of_le (h.hZi j b q) hz
theorem AfO.off (h : AfO w S p s r b1 b2 sv Z m1 m2) {k j : Nat} (hjk : j ≠ k) (b : Nat) (hb : b < w.heap.size) (q : Z j b) : ¬ Z k b := fun q2 => h.hZd j k hjk b q q2
/-- The rows turn. -/
theorem AfO.rows (h : AfO w S p s r b1 b2 sv Z m1 m2) {L' : Nat → List Int} (hR : Rf w' (grow (Z 0) w w') r 2 L') (hF : Fr (Z 0) w w') : AfO w' (grow S w w') p { s with L := L' } r b1 b2 sv (growZ Z 0 w w') m1 m2 ∧ Fr S w w' := by
  obtain ⟨q1, q2, q3, q4, q5, q6⟩ := h.parts 0 hF
  exact ⟨⟨Or.inl h.hSp, q1, q2, q3, q4, q5.trans h.hp, hR, h.h1.fr hF (h.off (by decide)), h.h2.fr hF (h.off (by decide)), h.hs.fr hF (h.off (by decide))⟩, q6⟩
/-- The first ghost turns, its limit as it was. -/
theorem AfO.one (h : AfO w S p s r b1 b2 sv Z m1 m2) {B' : List Int} (hR : RefG w' (grow (Z 1) w w') b1 m' B') (hF : Fr (Z 1) w w') : AfO w' (grow S w w') p { s with B1 := B' } r b1 b2 sv (growZ Z 1 w w') m' m2 ∧ Fr S w w' := by
  obtain ⟨q1, q2, q3, q4, q5, q6⟩ := h.parts 1 hF
  exact ⟨⟨Or.inl h.hSp, q1, q2, q3, q4, q5.trans h.hp, h.hR.fr hF (h.off (by decide)), hR, h.h2.fr hF (h.off (by decide)), h.hs.fr hF (h.off (by decide))⟩, q6⟩
/-- The second ghost turns. -/
theorem AfO.two (h : AfO w S p s r b1 b2 sv Z m1 m2) {B' : List Int} (hR : RefG w' (grow (Z 2) w w') b2 m' B') (hF : Fr (Z 2) w w') : AfO w' (grow S w w') p { s with B2 := B' } r b1 b2 sv (growZ Z 2 w w') m1 m' ∧ Fr S w w' := by
  obtain ⟨q1, q2, q3, q4, q5, q6⟩ := h.parts 2 hF
  exact ⟨⟨Or.inl h.hSp, q1, q2, q3, q4, q5.trans h.hp, h.hR.fr hF (h.off (by decide)), h.h1.fr hF (h.off (by decide)), hR, h.hs.fr hF (h.off (by decide))⟩, q6⟩
/-- A field of p is written. -/
theorem AfO.field (h : AfO w S p s r b1 b2 sv Z m1 m2) (i : Nat) (u : Value) : Fr S w (w.setCell ⟨p, i, none⟩ u) ∧ (∀ k b, b < w.heap.size → Z k b → (w.setCell ⟨p, i, none⟩ u).heap[b]? = w.heap[b]?) ∧ (w.setCell ⟨p, i, none⟩ u).heap.size = w.heap.size :=
  ⟨(Fr.refl S w).setCell (p := ⟨p, i, none⟩) (fun _ => h.hSp) u, fun k b _ q => heap_setCell_other (p := ⟨p, i, none⟩) (fun e => h.hZp k (by have e' : b = p := e; rw [← e']; exact q)) u, by simp [World.setCell]⟩
/-- P turns. -/
theorem AfO.setP (h : AfO w S p s r b1 b2 sv Z m1 m2) (P' : Int) : AfO (w.setCell ⟨p, 4, none⟩ (.int .i64 P')) S p { s with P := P' } r b1 b2 sv Z m1 m2 ∧ Fr S w (w.setCell ⟨p, 4, none⟩ (.int .i64 P')) := by
  obtain ⟨f1, f2, f3⟩ := h.field 4 (.int .i64 P')
  exact ⟨⟨h.hSp, h.hZS, h.hZp, h.hZd, fun k b q => by rw [f3]; exact h.hZi k b q, (heap_setCell_same h.hp 4 _).trans (by simp), h.hR.frame (f2 0), h.h1.frame (f2 1), h.h2.frame (f2 2), h.hs.frame (f2 3)⟩, f1⟩
/-- The limit turns. -/
theorem AfO.setMost (h : AfO w S p s r b1 b2 sv Z m1 m2) (P' : Int) : AfO (w.setCell ⟨p, 3, none⟩ (.int .i64 P')) S p { s with most := P' } r b1 b2 sv Z m1 m2 ∧ Fr S w (w.setCell ⟨p, 3, none⟩ (.int .i64 P')) := by
  obtain ⟨f1, f2, f3⟩ := h.field 3 (.int .i64 P')
  exact ⟨⟨h.hSp, h.hZS, h.hZp, h.hZd, fun k b q => by rw [f3]; exact h.hZi k b q, (heap_setCell_same h.hp 3 _).trans (by simp), h.hR.frame (f2 0), h.h1.frame (f2 1), h.h2.frame (f2 2), h.hs.frame (f2 3)⟩, f1⟩
/-- The numbers turn. -/
theorem AfO.nums (h : AfO w S p s r b1 b2 sv Z m1 m2) {l : List (Int × Int)} (hF : Fr (Z 3) w w') (hv : Sl w' (grow (Z 3) w w') 104 2 v l.length (nms l)) :
    AfO (w'.setCell ⟨p, 5, none⟩ v) (grow S w (w'.setCell ⟨p, 5, none⟩ v)) p { s with H := l } r b1 b2 v (growZ Z 3 w w') m1 m2 ∧ Fr S w (w'.setCell ⟨p, 5, none⟩ v) := by
  obtain ⟨q1, q2, q3, q4, q5, q6⟩ := h.parts 3 hF
  have hz : (w'.setCell ⟨p, 5, none⟩ v).heap.size = w'.heap.size := by simp [World.setCell]
  have hp' : w'.heap[p]? = _ := q5.trans h.hp
  have hk : ∀ k b, b < w'.heap.size → growZ Z 3 w w' k b → (w'.setCell ⟨p, 5, none⟩ v).heap[b]? = w'.heap[b]? := fun k b _ q => heap_setCell_other (p := ⟨p, 5, none⟩) (fun e => q2 k (by have e' : b = p := e; rw [← e']; exact q)) v
  refine ⟨⟨Or.inl h.hSp, fun k b q => (q1 k b q).imp (fun q => q) (fun q => by rw [hz]; exact q), q2, q3, fun k b q => by rw [hz]; exact q4 k b q, (heap_setCell_same hp' 5 v).trans (by simp), ?_, ?_, ?_, ?_⟩, q6.setCell (p := ⟨p, 5, none⟩) (fun _ => h.hSp) v⟩
  · exact (h.hR.fr hF (h.off (by decide))).frame (hk 0)
  · exact (h.h1.fr hF (h.off (by decide))).frame (hk 1)
  · exact (h.h2.fr hF (h.off (by decide))).frame (hk 2)
  · exact hv.frame (hk 3)
end
end Go.Proofs.YtgdlndpjfejmcaaGreat.Arc
/- The reference of layer 13 (arc): an id's number, Touch, Remove, Ghosts. -/
namespace Go.Proofs.YtgdlndpjfejmcaaGreat.Arc
open Go.RowKit
set_option linter.unusedVariables false
set_option maxRecDepth 100000
def numOf : List (Int × Int) → Int → Int
  | [], _ => 0
  | p :: l, id => if p.1 = id then p.2 else numOf l id
theorem numOf_found {id : Int} : ∀ {l : List (Int × Int)} {k : Nat} {x : Int × Int}, l[k]? = some x → x.1 = id → (∀ y ∈ l.take k, y.1 ≠ id) → numOf l id = x.2
  | [], k, x, h, _, _ => by simp at h
  | p :: l, 0, x, h, hx, _ => by
    simp at h
    subst h
    unfold numOf
    rw [if_pos hx]
  | p :: l, k + 1, x, h, hx, hn => by
    have hp : p.1 ≠ id := hn p (by simp)
    unfold numOf
    rw [if_neg hp]
    exact numOf_found (k := k) (by simpa using h) hx (fun y hy => hn y (by simp [hy]))
theorem numOf_none {id : Int} : ∀ {l : List (Int × Int)}, (∀ y ∈ l, y.1 ≠ id) → numOf l id = 0
  | [], _ => rfl
  | p :: l, h => by
    unfold numOf
    rw [if_neg (h p (by simp))]
    exact numOf_none (fun y hy => h y (by simp [hy]))
theorem take_next {l : List (Int × Int)} {k : Nat} {x : Int × Int} {id : Int} (hx : l[k]? = some x) (hne : x.1 ≠ id) (hn : ∀ y ∈ l.take k, y.1 ≠ id) : ∀ y ∈ l.take (k + 1), y.1 ≠ id := by
  obtain ⟨hk, rfl⟩ := List.getElem?_eq_some_iff.1 hx
  rw [List.take_succ_eq_append_getElem hk]
  intro y hy
  rcases List.mem_append.1 hy with q | q
  · exact hn y q
  · simp at q; rw [q]; exact hne
set_option maxHeartbeats 1000000 in
theorem af_number (S : Nat → Prop) (p : Nat) (s : AfS) (id : Int) (w : World) (h : Af w S p s) (hH : s.H.length ≤ 1000000) :
    Calls Tryz.prog 60 #[.pointer (some ⟨p, 0, none⟩), .int .i64 id] w fun e w' => e = .returned (.int .u64 (numOf s.H id)) ∧ w = w' := by
  obtain ⟨r, b1, b2, sv, Z, h⟩ := h
  obtain ⟨_, _, _, _, _, c5, _, _⟩ := h.cells
  obtain ⟨a, cap, rfl, hat⟩ := nm_at h.hs
  obtain ⟨l, hl⟩ : ∃ l, s.H = l := ⟨_, rfl⟩
  rw [hl] at c5 hat hH ⊢
  obtain ⟨rv, hrv⟩ : ∃ rv, numOf l id = rv := ⟨_, rfl⟩
  rw [hrv]
  have HX := Lib.hid (And.intro hat hrv)
  clear h hat hrv hl
  go_enter Tryz.func60, Tryz.ntmps60
  go_wp2_with fail
  go_loopw [5] (fun i wr => ∃ k : Nat, k ≤ l.length ∧ i = .int .i64 k ∧ (∀ y ∈ l.take k, y.1 ≠ id) ∧ wr = w) (fun i _ => l.length - (intOf i).toNat)
  case atStart => exact ⟨0, by omega, rfl, fun y hy => by simp at hy, rfl⟩
  case round =>
    obtain ⟨k, hk, rfl, hno, rfl⟩ := hrel
    have HN := Lib.hid hno
    clear hno
    by_cases hlt : k < l.length
    · obtain ⟨x, hx⟩ : ∃ x, l[k]? = some x := ⟨_, List.getElem?_eq_getElem hlt⟩
      obtain ⟨b, off, rfl, _, _, hc0, hc1⟩ := HX.out.1 k x hx
      obtain ⟨x0, x1⟩ := x
      have HXK := Lib.hid hx
      clear hx
      by_cases he : x0 = id
      · subst he
        have hb : rv = x1 := HX.out.2.symm.trans (numOf_found HXK.out rfl HN.out)
        subst hb
        go_wp2
        go_ret
        exact ⟨rfl, rfl⟩
      · have hb : (x0 == id) = false := by simpa using he
        have HE := Lib.hid he
        clear he
        go_wp2_with fail
        go_roundw
        case rel => exact ⟨k + 1, by omega, by go_num, take_next HXK.out HE.out HN.out, trivial⟩
        case measure => simp [intOf]; omega
    · have hb : rv = 0 := HX.out.2.symm.trans (numOf_none (by have := HN.out; rwa [List.take_of_length_le (by omega)] at this))
      subst hb
      go_wp2
      go_ret
      exact ⟨rfl, rfl⟩
def AfS.front (s : AfS) (row id : Int) : AfS := { s with L := frontL 2 s.L row id }
set_option maxHeartbeats 1000000 in
theorem af_touch (S : Nat → Prop) (p : Nat) (s : AfS) (id : Int) (w : World) (h : Af w S p s) (hN : ∀ k, (s.L k).length ≤ 1000000) (hd : Dsj 2 s.L) :
    Calls Tryz.prog 36 #[.pointer (some ⟨p, 0, none⟩), .int .i64 id] w fun e w' =>
      e = .returned (.bool (if 0 ≤ rowOf 2 s.L id then mayIn 2 1 id else false)) ∧ Af w' (grow S w w') p (if 0 ≤ rowOf 2 s.L id then s.front 1 id else s) ∧ Fr S w w' := by
  have HH := Lib.hid h
  obtain ⟨r, b1, b2, sv, Z, h⟩ := h
  obtain ⟨c0, _⟩ := h.cells
  have HR := Lib.hid (rf_row (Z 0) r 2 s.L id w h.hR hN)
  have HF := Lib.hid (rf_front (Z 0) r 2 s.L 1 id w h.hR hN hd)
  have HO := Lib.hid h
  clear h hN hd
  by_cases hr : 0 ≤ rowOf 2 s.L id
  · rw [if_pos hr, if_pos hr]
    obtain ⟨ro, hro⟩ : ∃ ro, rowOf 2 s.L id = ro := ⟨_, rfl⟩
    rw [hro] at hr HR
    have hr2 : decide (ro < 0) = false := decide_eq_false (by omega)
    obtain ⟨bm, hbm⟩ : ∃ bm, mayIn 2 1 id = bm := ⟨_, rfl⟩
    rw [hbm] at HF ⊢
    clear hro hbm
    go_enter Tryz.func36, Tryz.ntmps36
    go_wp2_with fail
    refine HR.out.mono ?_
    rintro e w1 ⟨rfl, rfl⟩
    go_wp2_with fail
    refine HF.out.mono ?_
    rintro e w1 ⟨rfl, hA, hF⟩
    have H1 := Lib.hid (And.intro hA hF)
    clear hA hF
    go_wp2
    go_ret
    have := HO.out.rows H1.out.1 H1.out.2
    exact ⟨rfl, ⟨_, _, _, _, _, this.1⟩, this.2⟩
  · rw [if_neg hr, if_neg hr]
    obtain ⟨ro, hro⟩ : ∃ ro, rowOf 2 s.L id = ro := ⟨_, rfl⟩
    rw [hro] at hr HR
    have hr2 : decide (ro < 0) = true := decide_eq_true (by omega)
    clear hro
    go_enter Tryz.func36, Tryz.ntmps36
    go_wp2_with fail
    refine HR.out.mono ?_
    rintro e w1 ⟨rfl, rfl⟩
    go_wp2
    go_ret
    exact ⟨rfl, HH.out.mono fun b _ q => Or.inl q, Fr.refl _ _⟩
theorem info_named : (Tryz.prog.info? 104).map (fun i => (i.zero, i.size, i.bytes)) = some (some (.agg #[.int .i64 0, .int .u64 0]), 2, 16) := by kernel_rfl
theorem cell_two_at (X : World) {n : Nat} (u v : Value) (T : TypeId) (hn : n = X.heap.size) : ∀ (j : Nat) (x : Value), [u, v][j]? = some x → (X.alloc (.cells #[u, v] T)).cell? ((⟨n, 0, none⟩ : Addr).add j) = some x := by
  subst hn
  intro j x hx
  have ha : (⟨X.heap.size, 0, none⟩ : Addr).add j = ⟨X.heap.size, j, none⟩ := by unfold Addr.add; split <;> simp_all
  rw [ha, cell_of_heap (heap_alloc_new X _)]
  simpa using hx
theorem filter_takeN {l : List (Int × Int)} {id : Int} {x : Int × Int} {k : Nat} (hx : l[k]? = some x) : (l.take (k + 1)).filter (fun y => y.1 != id) = (l.take k).filter (fun y => y.1 != id) ++ if x.1 = id then [] else [x] := by
  obtain ⟨hk, rfl⟩ := List.getElem?_eq_some_iff.1 hx
  rw [List.take_succ_eq_append_getElem hk, List.filter_append]
  congr 1
  by_cases e : (l[k]).1 = id <;> simp [e]
def AfS.drop (s : AfS) (id : Int) : AfS := { s with L := del s.L id, H := s.H.filter fun y => y.1 != id }
set_option maxHeartbeats 2000000 in
theorem af_remove (S : Nat → Prop) (p : Nat) (s : AfS) (id : Int) (w : World) (h : Af w S p s) (hN : ∀ k, (s.L k).length ≤ 1000000) (hd : Dsj 2 s.L) (hH : s.H.length ≤ 1000000) :
    Calls Tryz.prog 40 #[.pointer (some ⟨p, 0, none⟩), .int .i64 id] w fun e w' => e = .returned (.bool (decide (0 ≤ rowOf 2 s.L id))) ∧ Af w' (grow S w w') p (s.drop id) ∧ Fr S w w' := by
  obtain ⟨i0, hi, hz0, hz1, hz2⟩ := info_parts info_named
  obtain ⟨r, b1, b2, sv, Z, h⟩ := h
  obtain ⟨_, _, _, _, _, c5, fz, hpl⟩ := h.cells
  obtain ⟨a, cap, rfl, hat⟩ := nm_at h.hs
  obtain ⟨bm, hbm⟩ : ∃ bm, decide (0 ≤ rowOf 2 s.L id) = bm := ⟨_, rfl⟩
  rw [hbm]
  have HL := Lib.hid (And.intro h (And.intro hat (And.intro c5 (And.intro (fz 5) (And.intro hN (And.intro hd hbm))))))
  have hHl := hH
  clear h hat c5 fz hN hd hbm
  go_enter Tryz.func40, Tryz.ntmps40
  go_wp2_with fail
  go_loopw [5, 6] (fun q i wr => ∃ k : Nat, k ≤ s.H.length ∧ i = .int .i64 k ∧ Sl wr (fun b => w.heap.size ≤ b) 104 2 q ((s.H.take k).filter (fun y => y.1 != id)).length (nms ((s.H.take k).filter (fun y => y.1 != id))) ∧ Fr (fun b => w.heap.size ≤ b) w wr) (fun _ i _ => s.H.length - (intOf i).toNat)
  case atStart => exact ⟨0, by omega, rfl, Sl.nil _ _ _ _, Fr.refl _ _⟩
  case round =>
    obtain ⟨k, hk, rfl, hsl, hfr⟩ := hrel
    have c1 : wr.cell? ⟨p, 5, none⟩ = some (.slice a s.H.length cap) := (hfr.cell (p := ⟨p, 5, none⟩) hpl (by simp; omega)).trans HL.out.2.2.1
    have hfl : ((s.H.take k).filter (fun y => y.1 != id)).length ≤ k := Nat.le_trans (List.length_filter_le _ _) (List.length_take_le _ _)
    have HS := Lib.hid (And.intro hsl hfr)
    obtain ⟨sa, scap, rfl, _⟩ := hsl.shape
    clear hsl
    by_cases hlt : k < s.H.length
    · obtain ⟨x, hxk⟩ : ∃ x, s.H[k]? = some x := ⟨_, List.getElem?_eq_getElem hlt⟩
      obtain ⟨b, off, rfl, hbl, _, hcx, hcy⟩ := HL.out.2.1 k x hxk
      obtain ⟨x0, x1⟩ := x
      have hc' : wr.cell? ⟨b, off + k * 2, none⟩ = some (.int .i64 x0) := (hfr.cell (p := ⟨b, off + k * 2, none⟩) hbl (by simp; omega)).trans hcx
      have hc'' : wr.cell? ⟨b, off + k * 2 + 1, none⟩ = some (.int .u64 x1) := (hfr.cell (p := ⟨b, off + k * 2 + 1, none⟩) hbl (by simp; omega)).trans hcy
      have HT := Lib.hid (filter_takeN (id := id) hxk)
      clear hcx hcy hxk hfr
      by_cases he : x0 = id
      · subst he
        go_wp2
        go_roundw
        case rel =>
          refine ⟨k + 1, by omega, by go_num, ?_, HS.out.2⟩
          rw [HT.out, if_pos rfl, List.append_nil]; exact HS.out.1
        case measure => simp [intOf]; omega
      · have hb : (x0 != id) = true := by simpa using he
        go_wp2_with (at_builtin; refine wpList_append_sl (S := fun b => w.heap.size ≤ b) rfl _ _ 71 rfl 104 i0 (.agg #[.int .i64 0, .int .u64 0]) 2 16 Tryz.underlying71 hi hz0 hz1 hz2 rfl (by decide) _ _ _ rfl (HS.out.1.alloc _) ⟨_, 0, none⟩ 1 1 [.int .i64 x0, .int .u64 x1] rfl rfl (cell_two_at _ _ _ _ (by simp)) (by intro u hu; simp at hu; rcases hu with rfl | rfl <;> rfl) (by unfold maxLen; omega) (by omega) ?_; intro v1 q5 hs1 hf1; have HS1 := Lib.hid (And.intro hs1 hf1); clear hs1 hf1)
        go_roundw
        case rel =>
          obtain ⟨hs1, hf1⟩ := HS1.out
          have hsz := HS.out.2.size
          refine ⟨k + 1, by omega, by go_num, ?_, (HS.out.2.alloc _).trans hf1.arr (fun _ _ h => h)⟩
          rw [HT.out, if_neg he, nms_snoc, List.length_append]
          exact hs1.mono (S' := fun b => w.heap.size ≤ b) (fun b _ hb => hb.elim (fun q => q) (fun ⟨q, _⟩ => by simp at q; omega))
        case measure => simp [intOf]; omega
    · have hg : (s.H.take k).filter (fun y => y.1 != id) = s.H.filter (fun y => y.1 != id) := by rw [List.take_of_length_le (by omega)]
      have hf2 : wr.frozen? ⟨p, 5, none⟩ = false := (hfr.fro (p := ⟨p, 5, none⟩) hpl (by simp; omega)).trans HL.out.2.2.2.1
      have c0w : wr.cell? ⟨p, 0, none⟩ = some (.pointer (some ⟨r, 0, none⟩)) := (hfr.cell (p := ⟨p, 0, none⟩) hpl (by simp; omega)).trans HL.out.1.cells.1
      obtain ⟨fl, hfl2⟩ : ∃ fl, s.H.filter (fun y => y.1 != id) = fl := ⟨_, rfl⟩
      have hg2 := hg.trans hfl2
      have HSl := HS.out.1
      rw [hg2] at HSl
      have hput := HL.out.1.nums (w' := wr) (v := .slice sa fl.length scap) (l := fl) (HS.out.2.mono fun b hb q => absurd q (by omega)) (HSl.mono fun b hb q => Or.inr ⟨q, hb⟩)
      have HP := Lib.hid (And.intro hput hfl2)
      have HTk := Lib.hid (rf_take _ r 2 s.L id _ hput.1.hR HL.out.2.2.2.2.1 HL.out.2.2.2.2.2.1)
      rw [hg2]
      clear hfr hput hg hg2 HSl hfl2
      go_wp2_with fail
      refine HTk.out.mono ?_
      rintro e w3 ⟨rfl, hR, hF⟩
      have H3 := Lib.hid (And.intro hR hF)
      clear hR hF
      go_wp2
      go_ret
      obtain ⟨⟨hO2, hF2⟩, hfl2⟩ := HP.out
      have ht := hO2.rows H3.out.1 H3.out.2
      have hb := HL.out.2.2.2.2.2.2
      have hs : s.drop id = { s with L := del s.L id, H := fl } := by unfold AfS.drop; rw [hfl2]
      have hfin : Af _ _ p _ := ⟨_, _, _, _, _, ht.1⟩
      rw [← hs] at hfin
      exact ⟨by rw [hb]; rfl, hfin.mono fun b _ q => grow_grow hF2.size H3.out.2.size q, hF2.grown ht.2⟩
end Go.Proofs.YtgdlndpjfejmcaaGreat.Arc
/- The reference of layer 13 (arc): New, Cap, Evict, Victim, Ghosts. -/
namespace Go.Proofs.YtgdlndpjfejmcaaGreat.Arc
open Go.RowKit
set_option linter.unusedVariables false
set_option maxRecDepth 100000
def af0 : AfS := ⟨fun _ => [], [], [], 0, 0, []⟩
set_option maxHeartbeats 1000000 in
theorem af_new (w : World) :
    Calls Tryz.prog 29 #[] w fun e w' => ∃ p, e = .returned (.pointer (some ⟨p, 0, none⟩)) ∧ Af w' (fun b => w.heap.size ≤ b ∧ b < w'.heap.size) p af0 ∧ Fr (fun _ => False) w w' := by
  go_enter Tryz.func29, Tryz.ntmps29
  go_wp2_with fail
  refine (rf_new 2 (by decide) (by decide) w).mono ?_
  rintro e w1 ⟨g, rfl, hA, hF⟩
  have H1 := Lib.hid (And.intro hA hF)
  clear hA hF
  go_wp2_with fail
  refine (rnew_at 0 w1).mono ?_
  rintro e w2 ⟨b1, rfl, hA, hF⟩
  have H2 := Lib.hid (And.intro hA hF)
  clear hA hF
  go_wp2_with fail
  refine (rnew_at 0 w2).mono ?_
  rintro e w3 ⟨b2, rfl, hA, hF⟩
  have H3 := Lib.hid (And.intro hA hF)
  clear hA hF
  go_wp2
  go_ret
  obtain ⟨hA1, hF1⟩ := H1.out
  obtain ⟨hA2, hF2⟩ := H2.out
  obtain ⟨hA3, hF3⟩ := H3.out
  have z1 := hF1.size
  have z2 := hF2.size
  have z3 := hF3.size
  obtain ⟨o, ho⟩ : ∃ o, Obj.cells #[.pointer (some ⟨g, 0, none⟩), .pointer (some ⟨b1, 0, none⟩), .pointer (some ⟨b2, 0, none⟩), .int .i64 0, .int .i64 0, .slice none 0 0] 73 = o := ⟨_, rfl⟩
  rw [ho]
  have hz : (w3.alloc o).heap.size = w3.heap.size + 1 := by simp
  have hFm : Fr (fun _ => False) w3 (w3.alloc o) := (Fr.refl _ w3).alloc _
  refine ⟨_, rfl, ⟨g, b1, b2, .slice none 0 0, fun k b => (k = 0 ∧ w.heap.size ≤ b ∧ b < w1.heap.size) ∨ (k = 1 ∧ w1.heap.size ≤ b ∧ b < w2.heap.size) ∨ (k = 2 ∧ w2.heap.size ≤ b ∧ b < w3.heap.size), ⟨?_, ?_, ?_, ?_, ?_, ?_, ?_, ?_, ?_, ?_⟩⟩, ((hF1.trans hF2 (fun _ _ h => h)).trans hF3 (fun _ _ h => h)).trans hFm (fun _ _ h => h)⟩
  · exact ⟨by omega, by omega⟩
  · intro k b q; exact ⟨by omega, by omega⟩
  · intro k q; omega
  · intro j k hjk b q q2; omega
  · intro k b q; omega
  · subst ho; exact heap_alloc_new _ _
  · exact (((hA1.fr hF2 (fun _ _ _ h => h)).fr hF3 (fun _ _ _ h => h)).fr hFm (fun _ _ _ h => h)).mono fun b _ q => Or.inl ⟨rfl, q⟩
  · exact ((hA2.fr hF3 (fun _ _ _ h => h)).fr hFm (fun _ _ _ h => h)).mono fun b _ q => Or.inr (Or.inl ⟨rfl, q⟩)
  · exact (hA3.fr hFm (fun _ _ _ h => h)).mono fun b _ q => Or.inr (Or.inr ⟨rfl, q⟩)
  · exact Sl.nil _ _ _ _
def AfS.cap (s : AfS) (n : Int) : AfS := { s with most := max 0 n, B1 := Go.Proofs.YtgdlndpjfejmcaaGreat.cut (max 0 n) s.B1, B2 := Go.Proofs.YtgdlndpjfejmcaaGreat.cut (max 0 n) s.B2, P := min s.P (max 0 n) }
set_option maxHeartbeats 2000000 in
theorem af_cap_in (S : Nat → Prop) (p : Nat) (s : AfS) (n mx : Int) (hmx : mx = max 0 n) (w : World) (h : Af w S p s) (hB1 : s.B1.length ≤ 1000000) (hB2 : s.B2.length ≤ 1000000) :
    Calls Tryz.prog 44 #[.pointer (some ⟨p, 0, none⟩), .int .i64 n] w fun e w' =>
      e = .returned (.tuple #[]) ∧ Af w' (grow S w w') p { s with most := mx, B1 := Go.Proofs.YtgdlndpjfejmcaaGreat.cut mx s.B1, B2 := Go.Proofs.YtgdlndpjfejmcaaGreat.cut mx s.B2, P := min s.P mx } ∧ Fr S w w' := by
  obtain ⟨r, b1, b2, sv, Z, h⟩ := h
  obtain ⟨_, c1, _, c3, _, _, fz, _⟩ := h.cells
  have f3 := fz 3
  have hset : ∀ u, u = mx → AfO (w.setCell ⟨p, 3, none⟩ (.int .i64 u)) S p { s with most := mx } r b1 b2 sv Z s.most s.most ∧ Fr S w (w.setCell ⟨p, 3, none⟩ (.int .i64 u)) ∧ (w.setCell ⟨p, 3, none⟩ (.int .i64 u)).heap.size = w.heap.size := by
    intro u hu
    subst hu
    exact ⟨(h.setMost u).1, (h.setMost u).2, by simp [World.setCell]⟩
  have HS := Lib.hid hset
  have HX := Lib.hid hmx
  have HB := Lib.hid (And.intro hB1 hB2)
  have HP := Lib.hid (show ∃ P, s.P = P from ⟨_, rfl⟩)
  clear h hmx hB1 hB2 fz hset
  rcases Int.lt_trichotomy n 0 with hn | hn | hn
  all_goals
    first | subst hn | skip
    go_enter Tryz.func44, Tryz.ntmps44
    go_wp2_with fail
    refine (rlimit_at rcut_said _ b1 _ s.B1 _ _ (HS.out _ (by have := HX.out; omega)).1.h1 HB.out.1).mono ?_
    rintro e w1 ⟨rfl, hG, hF⟩
    rw [← HX.out] at hG
    obtain ⟨v0, hv0, hF, hG⟩ : ∃ v0, v0 = mx ∧ Fr (Z 1) (w.setCell ⟨p, 3, none⟩ (.int .i64 v0)) w1 ∧ RefG w1 (grow (Z 1) (w.setCell ⟨p, 3, none⟩ (.int .i64 v0)) w1) b1 mx (Go.Proofs.YtgdlndpjfejmcaaGreat.cut mx s.B1) := ⟨_, (by have := HX.out; omega), hF, hG⟩
    obtain ⟨hS1, hS2, hS3⟩ := HS.out v0 hv0
    have hone := hS1.one hG hF
    have hz1 := hF.size
    rw [hS3] at hz1
    have hF1 := Fr.trans hS2 hone.2 (fun _ _ q => q)
    have hO1 := hone.1.mono (S' := grow S w w1) fun b _ q => q.imp (fun q => q) (fun q => by rw [hS3] at q; exact q)
    obtain ⟨_, _, e2, e3, e4, _, _, _⟩ := hO1.cells
    have H1 := Lib.hid (And.intro hO1 (And.intro hF1 hz1))
    clear hG hF hone hS1 hS2 hS3 hz1 hF1 hO1
    go_wp2_with fail
    refine (rlimit_at rcut_said _ b2 _ s.B2 _ _ H1.out.1.h2 HB.out.2).mono ?_
    rintro e w2 ⟨rfl, hG, hF⟩
    rw [← HX.out] at hG
    have htwo := H1.out.1.two hG hF
    have hz2 := hF.size
    have hF2 := H1.out.2.1.grown htwo.2
    have hO2 := htwo.1.mono (S' := grow S w w2) fun b _ q => grow_grow H1.out.2.2 hz2 q
    obtain ⟨_, _, _, e3, e4, _, fz, _⟩ := hO2.cells
    have f4 := fz 4
    clear fz hG hF
    have hfin : ∀ v, v = min s.P mx → Af (w2.setCell ⟨p, 4, none⟩ (.int .i64 v)).drew (grow S w (w2.setCell ⟨p, 4, none⟩ (.int .i64 v)).drew) p { s with most := mx, B1 := Go.Proofs.YtgdlndpjfejmcaaGreat.cut mx s.B1, B2 := Go.Proofs.YtgdlndpjfejmcaaGreat.cut mx s.B2, P := min s.P mx } ∧ Fr S w (w2.setCell ⟨p, 4, none⟩ (.int .i64 v)).drew := by
      intro v hv
      subst hv
      obtain ⟨hO3, hF3⟩ := hO2.setP (min s.P mx)
      have hO4 : Af (w2.setCell ⟨p, 4, none⟩ (.int .i64 (min s.P mx))).drew _ p _ := ⟨_, _, _, _, _, hO3.frame (Nat.le_refl _) fun _ _ _ => rfl⟩
      exact ⟨hO4.mono fun b _ q => q.imp (fun q => q) (fun q => by simpa [World.setCell, World.drew] using q), (hF2.grown hF3).drew⟩
    have HF := Lib.hid hfin
    clear hfin hO2 hF2 hz2 htwo
    have hc : s.P < mx ∨ s.P = mx ∨ mx < s.P := Int.lt_trichotomy _ _
    obtain ⟨P, hP⟩ := HP.out
    have e3' : w2.cell? ⟨p, 3, none⟩ = some (.int .i64 mx) := e3
    have e4' : w2.cell? ⟨p, 4, none⟩ = some (.int .i64 s.P) := e4
    rw [hP] at e4' hc
    have HQ := Lib.hid hP
    clear hP e3 e4
    rcases hc with hc | hc | hc
    all_goals
      first | subst hc | skip
      go_wp2_with fail
      go_still_tail 12, (by kernel_rfl)
      go_wp2_with fail
      go_end0
      exact ⟨rfl, HF.out _ (by rw [HQ.out]; omega)⟩
theorem af_cap (S : Nat → Prop) (p : Nat) (s : AfS) (n : Int) (w : World) (h : Af w S p s) (hB1 : s.B1.length ≤ 1000000) (hB2 : s.B2.length ≤ 1000000) :
    Calls Tryz.prog 44 #[.pointer (some ⟨p, 0, none⟩), .int .i64 n] w fun e w' =>
      e = .returned (.tuple #[]) ∧ Af w' (grow S w w') p (s.cap n) ∧ Fr S w w' := af_cap_in S p s n _ rfl w h hB1 hB2
/-- Evict, off memory. -/
def AfS.evict (s : AfS) (id : Int) : AfS := ({ s with B1 := if rowOf 2 s.L id = 0 then gadd s.most s.B1 (numOf s.H id) else s.B1, B2 := if rowOf 2 s.L id = 1 then gadd s.most s.B2 (numOf s.H id) else s.B2 } : AfS).drop id
set_option maxHeartbeats 2000000 in
theorem af_evict (S : Nat → Prop) (p : Nat) (s : AfS) (id : Int) (w : World) (h : Af w S p s) (hN : ∀ k, (s.L k).length ≤ 1000000) (hd : Dsj 2 s.L) (hH : s.H.length ≤ 1000000) (hm : 0 ≤ s.most) (hB1 : s.B1.length < 1000000) (hB2 : s.B2.length < 1000000) :
    Calls Tryz.prog 42 #[.pointer (some ⟨p, 0, none⟩), .int .i64 id] w fun e w' => e = .returned (.bool (decide (0 ≤ rowOf 2 s.L id))) ∧ Af w' (grow S w w') p (s.evict id) ∧ Fr S w w' := by
  have HNUM := Lib.hid (af_number S p s id w h hH)
  have HA := Lib.hid h
  obtain ⟨r, b1, b2, sv, Z, h⟩ := h
  obtain ⟨c0, c1, c2, _, _, _, _, _⟩ := h.cells
  have HR := Lib.hid (rf_row (Z 0) r 2 s.L id w h.hR hN)
  have HO := Lib.hid h
  have HB := Lib.hid (And.intro hm (And.intro hB1 (And.intro hB2 (And.intro hN (And.intro hd hH)))))
  obtain ⟨nu, hnu⟩ : ∃ nu, numOf s.H id = nu := ⟨_, rfl⟩
  rw [hnu] at HNUM
  obtain ⟨ro, hro⟩ : ∃ ro, rowOf 2 s.L id = ro := ⟨_, rfl⟩
  rw [hro] at HR
  have HQ := Lib.hid (And.intro hro hnu)
  clear h hN hd hH hm hB1 hB2 hro hnu
  by_cases e0 : ro = 0
  · subst e0
    go_enter Tryz.func42, Tryz.ntmps42
    go_wp2_with fail
    refine HR.out.mono ?_
    rintro e w1 ⟨rfl, rfl⟩
    go_wp2_with fail
    refine HNUM.out.mono ?_
    rintro e w1 ⟨rfl, rfl⟩
    go_wp2_with fail
    refine (radd_at rcut_said (Z 1) b1 s.most s.B1 nu _ HO.out.h1 HB.out.1 HB.out.2.1).mono ?_
    rintro e w1 ⟨rfl, hG, hF⟩
    have hone := HO.out.one hG hF
    have hz1 := hF.size
    have H1 := Lib.hid (And.intro hone hz1)
    clear hG hF hone hz1
    have hA1 : Af w1 (grow S w w1) p { s with B1 := gadd s.most s.B1 nu } := ⟨_, _, _, _, _, H1.out.1.1⟩
    have HRM := Lib.hid (af_remove _ p _ id w1 hA1 HB.out.2.2.2.1 HB.out.2.2.2.2.1 HB.out.2.2.2.2.2)
    clear hA1
    go_wp2_with fail
    refine HRM.out.mono ?_
    rintro e w2 ⟨rfl, hA, hF⟩
    have H2 := Lib.hid (And.intro hA hF)
    clear hA hF
    go_wp2
    go_ret
    have he : s.evict id = ({ s with B1 := gadd s.most s.B1 nu } : AfS).drop id := by unfold AfS.evict; rw [HQ.out.1, HQ.out.2, if_pos rfl, if_neg (by decide)]
    rw [he]
    exact ⟨rfl, H2.out.1.mono fun b _ q => grow_grow H1.out.2 H2.out.2.size q, H1.out.1.2.grown H2.out.2⟩
  · have e0' : (ro == 0) = false := by simpa using e0
    by_cases e1 : ro = 1
    · subst e1
      go_enter Tryz.func42, Tryz.ntmps42
      go_wp2_with fail
      refine HR.out.mono ?_
      rintro e w1 ⟨rfl, rfl⟩
      go_wp2_with fail
      refine HNUM.out.mono ?_
      rintro e w1 ⟨rfl, rfl⟩
      go_wp2_with fail
      refine (radd_at rcut_said (Z 2) b2 s.most s.B2 nu _ HO.out.h2 HB.out.1 HB.out.2.2.1).mono ?_
      rintro e w1 ⟨rfl, hG, hF⟩
      have hone := HO.out.two hG hF
      have hz1 := hF.size
      have H1 := Lib.hid (And.intro hone hz1)
      clear hG hF hone hz1
      have hA1 : Af w1 (grow S w w1) p { s with B2 := gadd s.most s.B2 nu } := ⟨_, _, _, _, _, H1.out.1.1⟩
      have HRM := Lib.hid (af_remove _ p _ id w1 hA1 HB.out.2.2.2.1 HB.out.2.2.2.2.1 HB.out.2.2.2.2.2)
      clear hA1
      go_wp2_with fail
      refine HRM.out.mono ?_
      rintro e w2 ⟨rfl, hA, hF⟩
      have H2 := Lib.hid (And.intro hA hF)
      clear hA hF
      go_wp2
      go_ret
      have he : s.evict id = ({ s with B2 := gadd s.most s.B2 nu } : AfS).drop id := by unfold AfS.evict; rw [HQ.out.1, HQ.out.2, if_neg (by decide), if_pos rfl]
      rw [he]
      exact ⟨rfl, H2.out.1.mono fun b _ q => grow_grow H1.out.2 H2.out.2.size q, H1.out.1.2.grown H2.out.2⟩
    · have e1' : (ro == 1) = false := by simpa using e1
      have HE := Lib.hid (And.intro e0 e1)
      clear e0 e1
      have HRM := Lib.hid (af_remove _ p s id w HA.out HB.out.2.2.2.1 HB.out.2.2.2.2.1 HB.out.2.2.2.2.2)
      go_enter Tryz.func42, Tryz.ntmps42
      go_wp2_with fail
      refine HR.out.mono ?_
      rintro e w1 ⟨rfl, rfl⟩
      go_wp2_with fail
      refine HNUM.out.mono ?_
      rintro e w1 ⟨rfl, rfl⟩
      go_wp2_with fail
      refine HRM.out.mono ?_
      rintro e w2 ⟨rfl, hA, hF⟩
      have H2 := Lib.hid (And.intro hA hF)
      clear hA hF
      go_wp2
      go_ret
      have he : s.evict id = s.drop id := by unfold AfS.evict; rw [HQ.out.1, if_neg HE.out.1, if_neg HE.out.2]
      rw [he]
      exact ⟨rfl, H2.out.1, H2.out.2⟩
end Go.Proofs.YtgdlndpjfejmcaaGreat.Arc
/- The reference of layer 13 (arc): Victim, Ghosts. -/
namespace Go.Proofs.YtgdlndpjfejmcaaGreat.Arc
open Go.RowKit
set_option linter.unusedVariables false
set_option maxRecDepth 100000
/-- Who goes for a number. -/
def AfS.vict (s : AfS) (h : Int) : Int :=
  if s.P < (s.L 0).length ∨ (0 < (s.L 0).length ∧ ((s.L 1).length = 0 ∨ ((s.L 0).length = s.P ∧ h ∈ s.B2))) then lastOf (s.L 0) else lastOf (s.L 1)
set_option maxHeartbeats 3000000 in
theorem af_victim (S : Nat → Prop) (p : Nat) (s : AfS) (hh : Int) (w : World) (h : Af w S p s) (hN : ∀ k, (s.L k).length ≤ 1000000) (hB : s.B2.length ≤ 1000000) (hP0 : 0 ≤ s.P) :
    Calls Tryz.prog 49 #[.pointer (some ⟨p, 0, none⟩), .int .u64 hh] w fun e w' => e = .returned (.int .i64 (s.vict hh)) ∧ w = w' := by
  obtain ⟨r, b1, b2, sv, Z, h⟩ := h
  obtain ⟨c0, _, c2, _, c4, _, _, _⟩ := h.cells
  have l0 := rf_len (Z 0) r 2 s.L 0 w h.hR
  have l1 := rf_len (Z 0) r 2 s.L 1 w h.hR
  have t0 := rf_last (Z 0) r 2 s.L 0 w h.hR (hN 0)
  have t1 := rf_last (Z 0) r 2 s.L 1 w h.hR (hN 1)
  have hs := rhas_at (Z 2) b2 s.most s.B2 hh w h.h2 hB
  have hle := hN 0
  rw [rowL_0] at l0 t0
  rw [rowL_1] at l1 t1
  unfold AfS.vict
  obtain ⟨n0, hn0⟩ : ∃ n, (s.L 0).length = n := ⟨_, rfl⟩
  obtain ⟨n1, hn1⟩ : ∃ n, (s.L 1).length = n := ⟨_, rfl⟩
  obtain ⟨v0, hv0⟩ : ∃ v, lastOf (s.L 0) = v := ⟨_, rfl⟩
  obtain ⟨v1, hv1⟩ : ∃ v, lastOf (s.L 1) = v := ⟨_, rfl⟩
  obtain ⟨P, hP⟩ : ∃ P, s.P = P := ⟨_, rfl⟩
  rw [hn0] at l0
  rw [hn1] at l1
  rw [hv0] at t0
  rw [hv1] at t1
  rw [hn0, hn1, hv0, hv1, hP]
  rw [hP] at c4 hP0
  obtain ⟨tw, htw⟩ : ∃ tw, decide (hh ∈ s.B2) = tw := ⟨_, rfl⟩
  rw [htw] at hs
  have HL := Lib.hid (And.intro l0 (And.intro l1 (And.intro t0 (And.intro t1 hs))))
  have HT := Lib.hid htw
  clear h l0 l1 t0 t1 hs hn0 hn1 hv0 hv1 hP htw hN hB
  by_cases h2 : 0 < n0
  · have h2' : (0 : Int) < n0 := by omega
    have h2b : decide ((0 : Int) < (n0 : Int)) = true := decide_eq_true h2'
    by_cases h1 : P < (n0 : Int)
    · rw [if_pos (Or.inl h1)]
      have h1b : decide (P < (n0 : Int)) = true := decide_eq_true h1
      clear hle h1
      go_enter Tryz.func49, Tryz.ntmps49
      go_wp2_with fail
      refine HL.out.1.mono ?_
      rintro e w1 ⟨rfl, rfl⟩
      go_wp2_with fail
      refine HL.out.2.2.2.2.mono ?_
      rintro e w1 ⟨rfl, rfl⟩
      go_wp2_with fail
      refine HL.out.2.2.1.mono ?_
      rintro e w1 ⟨rfl, rfl⟩
      go_wp2
      go_ret
      exact ⟨rfl, rfl⟩
    · have h1b : decide (P < (n0 : Int)) = false := decide_eq_false h1
      by_cases h4 : (n0 : Int) = P
      · by_cases h5 : tw = true
        · subst h5
          have hd := of_decide_eq_true HT.out
          rw [if_pos (Or.inr ⟨h2, Or.inr ⟨h4, hd⟩⟩)]
          subst h4
          clear hle hd h1
          go_enter Tryz.func49, Tryz.ntmps49
          go_wp2_with fail
          refine HL.out.1.mono ?_
          rintro e w1 ⟨rfl, rfl⟩
          go_wp2_with fail
          refine HL.out.2.2.2.2.mono ?_
          rintro e w1 ⟨rfl, rfl⟩
          go_wp2_with fail
          refine HL.out.2.2.1.mono ?_
          rintro e w1 ⟨rfl, rfl⟩
          go_wp2
          go_ret
          exact ⟨rfl, rfl⟩
        · have h5 : tw = false := by simpa using h5
          subst h5
          have hd := of_decide_eq_false HT.out
          by_cases h3 : n1 = 0
          · rw [if_pos (Or.inr ⟨h2, Or.inl h3⟩)]
            subst h3
            subst h4
            clear hle hd h1
            go_enter Tryz.func49, Tryz.ntmps49
            go_wp2_with fail
            refine HL.out.1.mono ?_
            rintro e w1 ⟨rfl, rfl⟩
            go_wp2_with fail
            refine HL.out.2.2.2.2.mono ?_
            rintro e w1 ⟨rfl, rfl⟩
            go_wp2_with fail
            refine HL.out.2.1.mono ?_
            rintro e w1 ⟨rfl, rfl⟩
            go_wp2_with fail
            refine HL.out.2.2.1.mono ?_
            rintro e w1 ⟨rfl, rfl⟩
            go_wp2
            go_ret
            exact ⟨rfl, rfl⟩
          · rw [if_neg (fun q => q.elim (fun q => h1 q) (fun q => q.2.elim (fun q => h3 q) (fun q => hd q.2)))]
            have h3' : ((n1 : Int) == 0) = false := by simpa using h3
            subst h4
            clear hle hd h1 h3
            go_enter Tryz.func49, Tryz.ntmps49
            go_wp2_with fail
            refine HL.out.1.mono ?_
            rintro e w1 ⟨rfl, rfl⟩
            go_wp2_with fail
            refine HL.out.2.2.2.2.mono ?_
            rintro e w1 ⟨rfl, rfl⟩
            go_wp2_with fail
            refine HL.out.2.1.mono ?_
            rintro e w1 ⟨rfl, rfl⟩
            go_wp2_with fail
            refine HL.out.2.2.2.1.mono ?_
            rintro e w1 ⟨rfl, rfl⟩
            go_wp2
            go_ret
            exact ⟨rfl, rfl⟩
      · have h4' : ((n0 : Int) == P) = false := by simpa using h4
        by_cases h3 : n1 = 0
        · rw [if_pos (Or.inr ⟨h2, Or.inl h3⟩)]
          subst h3
          clear hle h1 h4
          go_enter Tryz.func49, Tryz.ntmps49
          go_wp2_with fail
          refine HL.out.1.mono ?_
          rintro e w1 ⟨rfl, rfl⟩
          go_wp2_with fail
          refine HL.out.2.2.2.2.mono ?_
          rintro e w1 ⟨rfl, rfl⟩
          go_wp2_with fail
          refine HL.out.2.1.mono ?_
          rintro e w1 ⟨rfl, rfl⟩
          go_wp2_with fail
          refine HL.out.2.2.1.mono ?_
          rintro e w1 ⟨rfl, rfl⟩
          go_wp2
          go_ret
          exact ⟨rfl, rfl⟩
        · rw [if_neg (fun q => q.elim (fun q => h1 q) (fun q => q.2.elim (fun q => h3 q) (fun q => h4 q.1)))]
          have h3' : ((n1 : Int) == 0) = false := by simpa using h3
          clear hle h1 h3 h4
          go_enter Tryz.func49, Tryz.ntmps49
          go_wp2_with fail
          refine HL.out.1.mono ?_
          rintro e w1 ⟨rfl, rfl⟩
          go_wp2_with fail
          refine HL.out.2.2.2.2.mono ?_
          rintro e w1 ⟨rfl, rfl⟩
          go_wp2_with fail
          refine HL.out.2.1.mono ?_
          rintro e w1 ⟨rfl, rfl⟩
          go_wp2_with fail
          refine HL.out.2.2.2.1.mono ?_
          rintro e w1 ⟨rfl, rfl⟩
          go_wp2
          go_ret
          exact ⟨rfl, rfl⟩
  · rw [if_neg (fun q => q.elim (fun q => by omega) (fun q => h2 q.1))]
    obtain rfl : n0 = 0 := by omega
    clear hle h2
    go_enter Tryz.func49, Tryz.ntmps49
    go_wp2_with fail
    refine HL.out.1.mono ?_
    rintro e w1 ⟨rfl, rfl⟩
    go_wp2_with fail
    refine HL.out.2.2.2.2.mono ?_
    rintro e w1 ⟨rfl, rfl⟩
    go_wp2_with fail
    refine HL.out.2.2.2.1.mono ?_
    rintro e w1 ⟨rfl, rfl⟩
    go_wp2
    go_ret
    exact ⟨rfl, rfl⟩
/-- A ghost's numbers, whatever its number. -/
def AfS.ghosts (s : AfS) (row : Int) : List Int := if row = 0 then s.B1 else if row = 1 then s.B2 else []
end Go.Proofs.YtgdlndpjfejmcaaGreat.Arc
