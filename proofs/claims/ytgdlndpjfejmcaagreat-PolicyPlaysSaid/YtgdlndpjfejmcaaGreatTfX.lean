/- Slices cut at both ends; an append of such a slice, held. -/
import Derived.Test.YtgdlndpjfejmcaaGreatPAp
import Derived.Deep.RegionHeld3
import Derived.Test.YtgdlndpjfejmcaaGreatRfX
import Derived.Test.YtgdlndpjfejmcaaGreatRg1
import Derived.Test.YtgdlndpjfejmcaaGreatPTb
import Derived.Deep.CutBlock
import Derived.StillTailTactics
import Derived.Deep.RegionLaw
import Derived.Test.YtgdlndpjfejmcaaGreatRg3
import Derived.Test.YtgdlndpjfejmcaaGreatRef11b
namespace Go.Proofs.YtgdlndpjfejmcaaGreat.Thr
open Go.RowKit
set_option linter.unusedVariables false
set_option maxRecDepth 100000
theorem _root_.Go.Proofs.YtgdlndpjfejmcaaGreat.Sl.prefix2 {w : World} {S : Nat → Prop} {T : TypeId} {sz b off cap n : Nat} {xs : List Value} (h : Sl w S T sz (.slice (some ⟨b, off, none⟩) n cap) n xs) {m : Nat} (hm : m ≤ n) : Sl w S T sz (.slice (some ⟨b, off, none⟩) m cap) m (xs.take (m * sz)) := by
  obtain ⟨h1, h2⟩ := h
  have hle : m * sz ≤ n * sz := Nat.mul_le_mul_right sz hm
  refine ⟨by rw [List.length_take, h1]; omega, ?_⟩
  rcases h2 with ⟨h2, _⟩ | ⟨b', off', cap', c, hv, hS, hb, hc, hmx, hs, hx⟩
  · cases h2
  · simp at hv
    obtain ⟨⟨rfl, rfl⟩, rfl⟩ := hv
    exact Or.inr ⟨b, off, cap, c, rfl, hS, hb, by omega, hmx, hs, fun i hi => by
      rw [List.length_take] at hi
      rw [hx i (by omega), List.getElem?_take, if_pos (by omega)]⟩
theorem _root_.Go.Proofs.YtgdlndpjfejmcaaGreat.Sl.suffix2 {w : World} {S : Nat → Prop} {T : TypeId} {sz b off cap n : Nat} {xs : List Value} (h : Sl w S T sz (.slice (some ⟨b, off, none⟩) n cap) n xs) {m : Nat} (hm : m ≤ n) : Sl w S T sz (.slice (if cap = m then some ⟨b, off, none⟩ else some ⟨b, off + m * sz, none⟩) (n - m) (cap - m)) (n - m) (xs.drop (m * sz)) := by
  obtain ⟨h1, h2⟩ := h
  have hsub : (n - m) * sz = n * sz - m * sz := Nat.sub_mul _ _ _
  have hle : m * sz ≤ n * sz := Nat.mul_le_mul_right sz hm
  refine ⟨by rw [List.length_drop, h1, hsub], ?_⟩
  rcases h2 with ⟨h2, _⟩ | ⟨b', off', cap', c, hv, hS, hb, hc, hmx, hs, hx⟩
  · cases h2
  · simp at hv
    obtain ⟨⟨rfl, rfl⟩, rfl⟩ := hv
    have hcm : (cap - m) * sz = cap * sz - m * sz := Nat.sub_mul _ _ _
    have hle2 : m * sz ≤ cap * sz := Nat.mul_le_mul_right sz (by omega)
    by_cases e : cap = m
    · rw [if_pos e]
      have hnm : n - m = 0 := by omega
      refine Or.inr ⟨b, off, cap - m, c, by rw [hnm], hS, hb, by omega, by omega, by rw [show cap - m = 0 from by omega]; omega, fun i hi => ?_⟩
      rw [List.length_drop, h1, ← hsub, hnm] at hi
      omega
    · rw [if_neg e]
      refine Or.inr ⟨b, off + m * sz, cap - m, c, rfl, hS, hb, by omega, by omega, by omega, fun i hi => ?_⟩
      rw [List.length_drop] at hi
      rw [List.getElem?_drop, ← hx (m * sz + i) (by omega), Nat.add_assoc]
theorem step_append_from2 {P : Program} {S S2 : Nat → Prop} {ops : Array Oper} {o : Oper} {a : Act} {w : World} {K : Act → World → Prop} {Q : Exit → Act → World → Prop} {E : Prop}
    (hg : o.guard = none) (s x : Operand) (t : TypeId) (hop : o.op = Op.call { callee := Callee.builtin Builtin.append, args := #[s, x], argTypes := #[t, t] })
    (e : TypeId) (i : TypeInfo) (z : Value) (sz bytes : Nat) (ht : P.underlying t = some (.slice e)) (h2 : P.info? e = some i) (h3 : i.zero = some z) (h4 : i.size = sz) (h5 : i.bytes = bytes) (h6 : z.cells.size = sz) (h7 : 0 < sz)
    (v : Value) (n : Nat) (xs : List Value) (hs : a.eval s = v) (hown : Sl w S e sz v n xs) (u : Value) (m : Nat) (ys : List Value) (hx : a.eval x = u) (hsrc : Sl w S2 e sz u m ys) (h1c : ∀ y ∈ ys, y.oneCell' = true)
    (b1 : n + m ≤ maxLen) (b2 : (n + m) * bytes ≤ 140737488355328)
    (hK : ∀ v' w', Sl w' (grow S w w') e sz v' (n + m) (xs ++ ys) → Fr (Arr S w e) w w' → K (a.put o.dst v') w') :
    if Region.wanted o (yielded ops a.tmps) = true then Oper.wp P o a w K Q else E := by
  have hw : Region.wanted o (yielded ops a.tmps) = true := by simp [Region.wanted, hg]
  rw [if_pos hw]
  obtain ⟨v', w', hrun, r1, r2⟩ := run_append_from2 (P := P) t o.type e i z sz bytes ht h2 h3 h4 h5 h6 h7 v n xs hown u m ys hsrc h1c b1 b2
  unfold Oper.wp
  simp [execOp, hop, resolve, invoke, builtin, hs, hx, hrun, Result.andThen]
  exact hK v' w' r1 r2
end Go.Proofs.YtgdlndpjfejmcaaGreat.Thr
/- The reference of layer 14 (sthree): rows, a ghost, the ids with number and count. -/
namespace Go.Proofs.YtgdlndpjfejmcaaGreat.Thr
open Go.RowKit
set_option linter.unusedVariables false
set_option maxRecDepth 100000
abbrev Nm := Int × Int × Int
/-- The reference, off memory. -/
structure TfS where
  L : Nat → List Int
  B : List Int
  most : Int
  H : List Nm
/-- Named ids, as cells. -/
def trs (l : List Nm) : List Value := l.flatMap fun p => [.int .i64 p.1, .int .u64 p.2.1, .int .i64 p.2.2]
theorem trs_len (l : List Nm) : (trs l).length = l.length * 3 := by
  induction l with
  | nil => rfl
  | cons p l ih => simp only [trs, List.flatMap_cons, List.length_append, List.length_cons, List.length_nil] at *; omega
theorem trs_app (l m : List Nm) : trs (l ++ m) = trs l ++ trs m := by simp [trs]
theorem trs_snoc (l : List Nm) (p : Nm) : trs (l ++ [p]) = trs l ++ [.int .i64 p.1, .int .u64 p.2.1, .int .i64 p.2.2] := by simp [trs]
theorem trs_one {l : List Nm} : ∀ y ∈ trs l, y.oneCell' = true := by
  intro y hy
  obtain ⟨p, _, hy⟩ := List.mem_flatMap.1 hy
  simp at hy
  rcases hy with rfl | rfl | rfl <;> rfl
theorem trs_get {l : List Nm} : ∀ {k : Nat} {p : Nm}, l[k]? = some p → (trs l)[k * 3]? = some (.int .i64 p.1) ∧ (trs l)[k * 3 + 1]? = some (.int .u64 p.2.1) ∧ (trs l)[k * 3 + 2]? = some (.int .i64 p.2.2) := by
  induction l with
  | nil => intro k p h; simp at h
  | cons q l ih =>
    intro k p h
    have e : trs (q :: l) = .int .i64 q.1 :: .int .u64 q.2.1 :: .int .i64 q.2.2 :: trs l := by simp [trs]
    rw [e]
    match k, h with
    | 0, h => simp at h; subst h; exact ⟨rfl, rfl, rfl⟩
    | k + 1, h =>
      have := ih (k := k) (p := p) (by simpa using h)
      rw [show (k + 1) * 3 = k * 3 + 1 + 1 + 1 from by omega]
      exact ⟨by simpa using this.1, by simpa using this.2.1, by simpa using this.2.2⟩
/-- The cells of a named id. -/
theorem tr_at {w : World} {S : Nat → Prop} {v : Value} {l : List Nm} (h : Sl w S 106 3 v l.length (trs l)) :
    ∃ a cap, v = .slice a l.length cap ∧ ∀ k x, l[k]? = some x → ∃ b off, a = some ⟨b, off, none⟩ ∧ b < w.heap.size ∧ S b ∧ w.cell? ⟨b, off + k * 3, none⟩ = some (.int .i64 x.1) ∧ w.cell? ⟨b, off + k * 3 + 1, none⟩ = some (.int .u64 x.2.1) ∧ w.cell? ⟨b, off + k * 3 + 2, none⟩ = some (.int .i64 x.2.2) := by
  obtain ⟨a, cap, rfl, _⟩ := h.shape
  refine ⟨a, cap, rfl, fun k x hx => ?_⟩
  have hk := (List.getElem?_eq_some_iff.1 hx).1
  obtain ⟨b, off, cap', hv, hS, hb, _, hc, hf⟩ := h.pos (by omega)
  simp at hv
  obtain ⟨g1, g2, g3⟩ := trs_get hx
  have hl := trs_len l
  exact ⟨b, off, hv.1, hb, hS, by rw [hc (k * 3) (by omega), g1], by rw [Nat.add_assoc, hc (k * 3 + 1) (by omega), g2], by rw [Nat.add_assoc, hc (k * 3 + 2) (by omega), g3]⟩
structure TfO (w : World) (S : Nat → Prop) (p : Nat) (s : TfS) (r b1 : Nat) (sv : Value) (Z : Nat → Nat → Prop) (m1 : Int) : Prop where
  hSp : S p
  hZS : ∀ k b, Z k b → S b
  hZp : ∀ k, ¬ Z k p
  hZd : ∀ j k, j ≠ k → ∀ b, Z j b → Z k b → False
  hZi : ∀ k b, Z k b → b < w.heap.size
  hp : w.heap[p]? = some (.cells #[.pointer (some ⟨r, 0, none⟩), .pointer (some ⟨b1, 0, none⟩), .int .i64 s.most, sv] 76 (0, 0))
  hR : Rf w (Z 0) r 2 s.L
  h1 : RefG w (Z 1) b1 m1 s.B
  hs : Sl w (Z 3) 106 3 sv s.H.length (trs s.H)
def Tf (w : World) (S : Nat → Prop) (p : Nat) (s : TfS) : Prop := ∃ r b1 sv Z, TfO w S p s r b1 sv Z s.most
/-- A part grows. -/
def growZ (Z : Nat → Nat → Prop) (k : Nat) (w w' : World) : Nat → Nat → Prop := fun j => if j = k then grow (Z k) w w' else Z j
section
variable {w w' : World} {S S' : Nat → Prop} {p r b1 : Nat} {s : TfS} {sv v : Value} {Z : Nat → Nat → Prop} {m1 m' : Int}
theorem TfO.frame (h : TfO w S p s r b1 sv Z m1) (hz : w.heap.size ≤ w'.heap.size) (hf : ∀ b, b < w.heap.size → S b → w'.heap[b]? = w.heap[b]?) : TfO w' S p s r b1 sv Z m1 :=
  ⟨h.hSp, h.hZS, h.hZp, h.hZd, fun k b q => Nat.lt_of_lt_of_le (h.hZi k b q) hz, (hf p (lt_of_heap h.hp) h.hSp).trans h.hp, h.hR.frame fun b hb q => hf b hb (h.hZS 0 b q), h.h1.frame fun b hb q => hf b hb (h.hZS 1 b q), h.hs.frame fun b hb q => hf b hb (h.hZS 3 b q)⟩
theorem TfO.mono (h : TfO w S p s r b1 sv Z m1) (hS : ∀ b, b < w.heap.size → S b → S' b) : TfO w S' p s r b1 sv Z m1 :=
  ⟨hS p (lt_of_heap h.hp) h.hSp, fun k b q => hS b (h.hZi k b q) (h.hZS k b q), h.hZp, h.hZd, h.hZi, h.hp, h.hR, h.h1, h.hs⟩
theorem Tf.frame (h : Tf w S p s) (hz : w.heap.size ≤ w'.heap.size) (hf : ∀ b, b < w.heap.size → S b → w'.heap[b]? = w.heap[b]?) : Tf w' S p s := by
  obtain ⟨r, b1, sv, Z, h⟩ := h; exact ⟨r, b1, sv, Z, h.frame hz hf⟩
theorem Tf.mono (h : Tf w S p s) (hS : ∀ b, b < w.heap.size → S b → S' b) : Tf w S' p s := by
  obtain ⟨r, b1, sv, Z, h⟩ := h; exact ⟨r, b1, sv, Z, h.mono hS⟩
theorem Tf.fr {F : Nat → Prop} (h : Tf w S p s) (hf : Fr F w w') (hd : ∀ b, b < w.heap.size → S b → ¬ F b) : Tf w' S p s := h.frame hf.size fun b hb q => hf.block b hb (hd b hb q)
theorem TfO.cells (h : TfO w S p s r b1 sv Z m1) : w.cell? ⟨p, 0, none⟩ = some (.pointer (some ⟨r, 0, none⟩)) ∧ w.cell? ⟨p, 1, none⟩ = some (.pointer (some ⟨b1, 0, none⟩)) ∧ w.cell? ⟨p, 2, none⟩ = some (.int .i64 s.most) ∧ w.cell? ⟨p, 3, none⟩ = some sv ∧ (∀ i, w.frozen? ⟨p, i, none⟩ = false) ∧ p < w.heap.size := by
  have c0 := cell_of_heap h.hp 0
  have c1 := cell_of_heap h.hp 1
  have c2 := cell_of_heap h.hp 2
  have c3 := cell_of_heap h.hp 3
  exact ⟨by simpa using c0, by simpa using c1, by simpa using c2, by simpa using c3, fun i => fro_of_heap h.hp i, lt_of_heap h.hp⟩
/-- What holds of the parts when one of them grows. -/
theorem TfO.parts (h : TfO w S p s r b1 sv Z m1) (k : Nat) (hF : Fr (Z k) w w') : (∀ j b, growZ Z k w w' j b → grow S w w' b) ∧ (∀ j, ¬ growZ Z k w w' j p) ∧ (∀ i j, i ≠ j → ∀ b, growZ Z k w w' i b → growZ Z k w w' j b → False) ∧ (∀ j b, growZ Z k w w' j b → b < w'.heap.size) ∧ w'.heap[p]? = w.heap[p]? ∧ Fr S w w' := by
  have hpl := lt_of_heap h.hp
  have hz := hF.size
  refine ⟨fun j b q => ?_, fun j q => ?_, fun i j hij b q q2 => ?_, fun j b q => ?_, hF.block p hpl (h.hZp k), hF.mono fun b _ q => h.hZS k b q⟩
  · unfold growZ at q
    split at q
    · exact q.imp (h.hZS k b) (fun q => q)
    · exact Or.inl (h.hZS j b q)
  · unfold growZ at q
    split at q
    · exact q.elim (h.hZp k) (fun q => by omega)
    · exact h.hZp j q
  · unfold growZ at q q2
    split at q
    · rename_i e
      rw [if_neg (fun e2 => hij (e.trans e2.symm))] at q2
      exact q.elim (fun q => h.hZd k j (fun e2 => hij (e.trans e2)) b q q2) (fun q => by have := h.hZi j b q2; omega)
    · rename_i e
      split at q2
      · rename_i e2
        exact q2.elim (fun q2 => h.hZd i k e b q q2) (fun q2 => by have := h.hZi i b q; omega)
      · exact h.hZd i j hij b q q2
  · unfold growZ at q
    split at q
    · exact q.elim (fun q => Nat.lt_of_lt_of_le (h.hZi k b q) hz) (fun q => q.2)
    · exact Nat.lt_of_lt_of_le (h.hZi j b q) hz
theorem TfO.off (h : TfO w S p s r b1 sv Z m1) {k j : Nat} (hjk : j ≠ k) (b : Nat) (hb : b < w.heap.size) (q : Z j b) : ¬ Z k b := fun q2 => h.hZd j k hjk b q q2
/-- The rows turn. -/
theorem TfO.rows (h : TfO w S p s r b1 sv Z m1) {L' : Nat → List Int} (hR : Rf w' (grow (Z 0) w w') r 2 L') (hF : Fr (Z 0) w w') : TfO w' (grow S w w') p { s with L := L' } r b1 sv (growZ Z 0 w w') m1 ∧ Fr S w w' := by
  obtain ⟨q1, q2, q3, q4, q5, q6⟩ := h.parts 0 hF
  exact ⟨⟨Or.inl h.hSp, q1, q2, q3, q4, q5.trans h.hp, hR, h.h1.fr hF (h.off (by decide)), h.hs.fr hF (h.off (by decide))⟩, q6⟩
/-- The ghost turns. -/
theorem TfO.one (h : TfO w S p s r b1 sv Z m1) {B' : List Int} (hR : RefG w' (grow (Z 1) w w') b1 m' B') (hF : Fr (Z 1) w w') : TfO w' (grow S w w') p { s with B := B' } r b1 sv (growZ Z 1 w w') m' ∧ Fr S w w' := by
  obtain ⟨q1, q2, q3, q4, q5, q6⟩ := h.parts 1 hF
  exact ⟨⟨Or.inl h.hSp, q1, q2, q3, q4, q5.trans h.hp, h.hR.fr hF (h.off (by decide)), hR, h.hs.fr hF (h.off (by decide))⟩, q6⟩
/-- A field of p is written. -/
theorem TfO.field (h : TfO w S p s r b1 sv Z m1) (i : Nat) (u : Value) : Fr S w (w.setCell ⟨p, i, none⟩ u) ∧ (∀ k b, b < w.heap.size → Z k b → (w.setCell ⟨p, i, none⟩ u).heap[b]? = w.heap[b]?) ∧ (w.setCell ⟨p, i, none⟩ u).heap.size = w.heap.size :=
  ⟨(Fr.refl S w).setCell (p := ⟨p, i, none⟩) (fun _ => h.hSp) u, fun k b _ q => heap_setCell_other (p := ⟨p, i, none⟩) (fun e => h.hZp k (by have e' : b = p := e; rw [← e']; exact q)) u, by simp [World.setCell]⟩
/-- The limit turns. -/
theorem TfO.setMost (h : TfO w S p s r b1 sv Z m1) (P' : Int) : TfO (w.setCell ⟨p, 2, none⟩ (.int .i64 P')) S p { s with most := P' } r b1 sv Z m1 ∧ Fr S w (w.setCell ⟨p, 2, none⟩ (.int .i64 P')) := by
  obtain ⟨f1, f2, f3⟩ := h.field 2 (.int .i64 P')
  exact ⟨⟨h.hSp, h.hZS, h.hZp, h.hZd, fun k b q => by rw [f3]; exact h.hZi k b q, (heap_setCell_same h.hp 2 _).trans (by simp), h.hR.frame (f2 0), h.h1.frame (f2 1), h.hs.frame (f2 3)⟩, f1⟩
/-- The ids turn. -/
theorem TfO.nums (h : TfO w S p s r b1 sv Z m1) {l : List Nm} (hF : Fr (Z 3) w w') (hv : Sl w' (grow (Z 3) w w') 106 3 v l.length (trs l)) :
    TfO (w'.setCell ⟨p, 3, none⟩ v) (grow S w (w'.setCell ⟨p, 3, none⟩ v)) p { s with H := l } r b1 v (growZ Z 3 w w') m1 ∧ Fr S w (w'.setCell ⟨p, 3, none⟩ v) := by
  obtain ⟨q1, q2, q3, q4, q5, q6⟩ := h.parts 3 hF
  have hz : (w'.setCell ⟨p, 3, none⟩ v).heap.size = w'.heap.size := by simp [World.setCell]
  have hp' : w'.heap[p]? = _ := q5.trans h.hp
  have hk : ∀ k b, b < w'.heap.size → growZ Z 3 w w' k b → (w'.setCell ⟨p, 3, none⟩ v).heap[b]? = w'.heap[b]? := fun k b _ q => heap_setCell_other (p := ⟨p, 3, none⟩) (fun e => q2 k (by have e' : b = p := e; rw [← e']; exact q)) v
  refine ⟨⟨Or.inl h.hSp, fun k b q => (q1 k b q).imp (fun q => q) (fun q => by rw [hz]; exact q), q2, q3, fun k b q => by rw [hz]; exact q4 k b q, (heap_setCell_same hp' 3 v).trans (by simp), ?_, ?_, ?_⟩, q6.setCell (p := ⟨p, 3, none⟩) (fun _ => h.hSp) v⟩
  · exact (h.hR.fr hF (h.off (by decide))).frame (hk 0)
  · exact (h.h1.fr hF (h.off (by decide))).frame (hk 1)
  · exact hv.frame (hk 3)
end
/-- An id's count is written. -/
def setN (l : List Nm) (k : Nat) (c : Int) : List Nm := match l[k]? with
  | some x => l.set k (x.1, x.2.1, c)
  | none => l
theorem setN_some {l : List Nm} {k : Nat} {x : Nm} {c : Int} (h : l[k]? = some x) : setN l k c = l.set k (x.1, x.2.1, c) := by unfold setN; rw [h]
theorem trs_set {c : Int} : ∀ {l : List Nm} {k : Nat} {x : Nm}, l[k]? = some x → trs (l.set k (x.1, x.2.1, c)) = (trs l).set (k * 3 + 2) (.int .i64 c)
  | [], k, x, h => by simp at h
  | q :: l, 0, x, h => by
    simp at h; subst h
    simp [trs]
  | q :: l, k + 1, x, h => by
    have := trs_set (c := c) (l := l) (k := k) (x := x) (by simpa using h)
    have e : ∀ (q : Nm) (l : List Nm), trs (q :: l) = .int .i64 q.1 :: .int .u64 q.2.1 :: .int .i64 q.2.2 :: trs l := fun q l => by simp [trs]
    rw [List.set_cons_succ, e, e, this, show (k + 1) * 3 + 2 = (k * 3 + 2) + 1 + 1 + 1 from by omega]
    rfl
end Go.Proofs.YtgdlndpjfejmcaaGreat.Thr
/- The reference of layer 14 (sthree): find, Count, Touch. -/
namespace Go.Proofs.YtgdlndpjfejmcaaGreat.Thr
open Go.RowKit
set_option linter.unusedVariables false
set_option maxRecDepth 100000
def fnd : List Nm → Int → Int
  | [], _ => -1
  | p :: l, id => if p.1 = id then 0 else if fnd l id < 0 then -1 else fnd l id + 1
def lk : List Nm → Int → Option (Int × Int)
  | [], _ => none
  | p :: l, id => if p.1 = id then some p.2 else lk l id
theorem fnd_found {id : Int} : ∀ {l : List Nm} {k : Nat} {x : Nm}, l[k]? = some x → x.1 = id → (∀ y ∈ l.take k, y.1 ≠ id) → fnd l id = k ∧ lk l id = some x.2
  | [], k, x, h, _, _ => by simp at h
  | p :: l, 0, x, h, hx, _ => by
    simp at h
    subst h
    unfold fnd lk
    rw [if_pos hx, if_pos hx]
    exact ⟨rfl, rfl⟩
  | p :: l, k + 1, x, h, hx, hn => by
    have hp : p.1 ≠ id := hn p (by simp)
    obtain ⟨q1, q2⟩ := fnd_found (l := l) (k := k) (by simpa using h) hx (fun y hy => hn y (by simp [hy]))
    unfold fnd lk
    rw [if_neg hp, if_neg hp, q1, if_neg (by omega)]
    exact ⟨by omega, q2⟩
theorem fnd_none {id : Int} : ∀ {l : List Nm}, (∀ y ∈ l, y.1 ≠ id) → fnd l id = -1 ∧ lk l id = none
  | [], _ => ⟨rfl, rfl⟩
  | p :: l, h => by
    obtain ⟨q1, q2⟩ := fnd_none (l := l) (id := id) (fun y hy => h y (by simp [hy]))
    unfold fnd lk
    rw [if_neg (h p (by simp)), if_neg (h p (by simp)), q1]
    exact ⟨rfl, q2⟩
theorem fnd_split (id : Int) : ∀ (l : List Nm), (∀ y ∈ l, y.1 ≠ id) ∨ ∃ k x, l[k]? = some x ∧ x.1 = id ∧ ∀ y ∈ l.take k, y.1 ≠ id
  | [] => Or.inl (fun y hy => by simp at hy)
  | p :: l => by
    by_cases e : p.1 = id
    · exact Or.inr ⟨0, p, rfl, e, fun y hy => by simp at hy⟩
    · rcases fnd_split id l with h | ⟨k, x, h1, h2, h3⟩
      · left
        intro y hy
        rcases List.mem_cons.1 hy with rfl | hy
        · exact e
        · exact h y hy
      · refine Or.inr ⟨k + 1, x, by simpa using h1, h2, fun y hy => ?_⟩
        rw [List.take_succ_cons] at hy
        rcases List.mem_cons.1 hy with rfl | hy
        · exact e
        · exact h3 y hy
theorem take_next {l : List Nm} {k : Nat} {x : Nm} {id : Int} (hx : l[k]? = some x) (hne : x.1 ≠ id) (hn : ∀ y ∈ l.take k, y.1 ≠ id) : ∀ y ∈ l.take (k + 1), y.1 ≠ id := by
  obtain ⟨hk, rfl⟩ := List.getElem?_eq_some_iff.1 hx
  rw [List.take_succ_eq_append_getElem hk]
  intro y hy
  rcases List.mem_append.1 hy with q | q
  · exact hn y q
  · simp at q; rw [q]; exact hne
set_option maxHeartbeats 1000000 in
theorem tf_find (S : Nat → Prop) (p : Nat) (s : TfS) (id : Int) (w : World) (h : Tf w S p s) (hH : s.H.length ≤ 1000000) :
    Calls Tryz.prog 58 #[.pointer (some ⟨p, 0, none⟩), .int .i64 id] w fun e w' => e = .returned (.int .i64 (fnd s.H id)) ∧ w = w' := by
  obtain ⟨r, b1, sv, Z, h⟩ := h
  obtain ⟨_, _, _, c3, _, _⟩ := h.cells
  obtain ⟨a, cap, rfl, hat⟩ := tr_at h.hs
  obtain ⟨l, hl⟩ : ∃ l, s.H = l := ⟨_, rfl⟩
  rw [hl] at c3 hat hH ⊢
  obtain ⟨rv, hrv⟩ : ∃ rv, fnd l id = rv := ⟨_, rfl⟩
  rw [hrv]
  have HX := Lib.hid (And.intro hat hrv)
  clear h hat hrv hl
  go_enter Tryz.func58, Tryz.ntmps58
  go_wp2_with fail
  go_loopw [5] (fun i wr => ∃ k : Nat, k ≤ l.length ∧ i = .int .i64 k ∧ (∀ y ∈ l.take k, y.1 ≠ id) ∧ wr = w) (fun i _ => l.length - (intOf i).toNat)
  case atStart => exact ⟨0, by omega, rfl, fun y hy => by simp at hy, rfl⟩
  case round =>
    obtain ⟨k, hk, rfl, hno, rfl⟩ := hrel
    have HN := Lib.hid hno
    clear hno
    by_cases hlt : k < l.length
    · obtain ⟨x, hx⟩ : ∃ x, l[k]? = some x := ⟨_, List.getElem?_eq_getElem hlt⟩
      obtain ⟨b, off, rfl, _, _, hc0, hc1, hc2⟩ := HX.out.1 k x hx
      obtain ⟨x0, x1, x2⟩ := x
      have HXK := Lib.hid hx
      clear hx
      by_cases he : x0 = id
      · subst he
        have hb : rv = k := HX.out.2.symm.trans (fnd_found HXK.out rfl HN.out).1
        subst hb
        go_wp2
        go_ret
        exact ⟨rfl, rfl⟩
      · have hb : (x0 == id) = false := by simpa using he
        have HE := Lib.hid he
        clear he
        go_wp2_with fail
        go_roundw
        case rel => exact ⟨k + 1, by omega, by go_num, take_next HXK.out HE.out HN.out, trivial⟩
        case measure => simp [intOf]; omega
    · have hb : rv = -1 := HX.out.2.symm.trans (fnd_none (by have := HN.out; rwa [List.take_of_length_le (by omega)] at this)).1
      subst hb
      go_wp2
      go_ret
      exact ⟨rfl, rfl⟩
def cntH (l : List Nm) (id : Int) : Int := match lk l id with
  | some (_, c) => c
  | none => -1
/-- A count is written, in place. -/
theorem TfO.count {w : World} {S : Nat → Prop} {p : Nat} {s : TfS} {r b1 : Nat} {Z : Nat → Nat → Prop} {m1 : Int} {b off cap : Nat} (h : TfO w S p s r b1 (.slice (some ⟨b, off, none⟩) s.H.length cap) Z m1) {k : Nat} {x : Nm} (hx : s.H[k]? = some x) (c : Int) :
    TfO (w.setCell ⟨b, off + k * 3 + 2, none⟩ (.int .i64 c)) S p { s with H := s.H.set k (x.1, x.2.1, c) } r b1 (.slice (some ⟨b, off, none⟩) s.H.length cap) Z m1 ∧ Fr S w (w.setCell ⟨b, off + k * 3 + 2, none⟩ (.int .i64 c)) ∧ w.frozen? ⟨b, off + k * 3 + 2, none⟩ = false := by
  have hk := (List.getElem?_eq_some_iff.1 hx).1
  obtain ⟨b', off', cap', hv, hS, hb, hfz, hc, hf⟩ := h.hs.pos (by omega)
  simp at hv
  obtain ⟨⟨rfl, rfl⟩, rfl⟩ := hv
  have hz : (w.setCell ⟨b, off + k * 3 + 2, none⟩ (.int .i64 c)).heap.size = w.heap.size := by simp [World.setCell]
  have hne : ∀ b', b' ≠ b → (w.setCell ⟨b, off + k * 3 + 2, none⟩ (.int .i64 c)).heap[b']? = w.heap[b']? := fun b' q => heap_setCell_other (p := ⟨b, off + k * 3 + 2, none⟩) q _
  have hZ : ∀ j, j ≠ 3 → ∀ b', b' < w.heap.size → Z j b' → (w.setCell ⟨b, off + k * 3 + 2, none⟩ (.int .i64 c)).heap[b']? = w.heap[b']? := fun j hj b' _ q => hne b' (fun e => h.hZd j 3 hj b' q (e ▸ hS))
  have hll := trs_len s.H
  have hset := h.hs.set (i := k * 3 + 2) (by omega) (.int .i64 c)
  rw [← trs_set hx, ← Nat.add_assoc] at hset
  refine ⟨⟨h.hSp, h.hZS, h.hZp, h.hZd, fun k b q => by rw [hz]; exact h.hZi k b q, (hne p (fun e => h.hZp 3 (e ▸ hS))).trans h.hp, h.hR.frame (hZ 0 (by decide)), h.h1.frame (hZ 1 (by decide)), ?_⟩, (Fr.refl S w).setCell (p := ⟨b, off + k * 3 + 2, none⟩) (fun _ => h.hZS 3 b hS) _, ?_⟩
  · show Sl _ _ _ _ _ (s.H.set k (x.1, x.2.1, c)).length _
    rw [List.length_set]
    exact hset
  · first | exact hfz _ | exact hf _ | (rw [Nat.add_assoc]; exact hf _ (by omega))
def TfS.setc (s : TfS) (id c : Int) : TfS := { s with H := setN s.H (fnd s.H id).toNat c }
theorem setc_at {s : TfS} {id c : Int} {k : Nat} {x : Nm} (hx : s.H[k]? = some x) (hf : fnd s.H id = k) : s.setc id c = { s with H := s.H.set k (x.1, x.2.1, c) } := by
  unfold TfS.setc
  rw [hf, Int.toNat_natCast, setN_some hx]
def TfS.touch (s : TfS) (id : Int) : TfS := match lk s.H id with
  | some (_, c) => s.setc id (min (c + 1) 3)
  | none => s
set_option maxHeartbeats 2000000 in
theorem tf_touch (S : Nat → Prop) (p : Nat) (s : TfS) (id : Int) (w : World) (h : Tf w S p s) (hH : s.H.length ≤ 1000000) (hcn : ∀ x ∈ s.H, 0 ≤ x.2.2 ∧ x.2.2 ≤ 3) :
    Calls Tryz.prog 37 #[.pointer (some ⟨p, 0, none⟩), .int .i64 id] w fun e w' => e = .returned (.bool (lk s.H id).isSome) ∧ Tf w' S p (s.touch id) ∧ Fr S w w' ∧ w.heap.size = w'.heap.size := by
  have HF := Lib.hid (tf_find S p s id w h hH)
  have HT := Lib.hid h
  obtain ⟨r, b1, sv, Z, h⟩ := h
  obtain ⟨_, _, _, c3, _, _⟩ := h.cells
  obtain ⟨a, cap, rfl, hat⟩ := tr_at h.hs
  unfold TfS.touch
  obtain ⟨l, hl⟩ : ∃ l, s.H = l := ⟨_, rfl⟩
  rcases fnd_split id s.H with hn | ⟨k, x, hx, he, hn⟩
  · obtain ⟨e1, e2⟩ := fnd_none hn
    rw [e2]
    rw [e1] at HF
    rw [hl] at c3
    clear hat hn e1 e2 h hl hH hcn
    go_enter Tryz.func37, Tryz.ntmps37
    go_wp2_with fail
    refine HF.out.mono ?_
    rintro e w1 ⟨rfl, rfl⟩
    go_wp2
    go_ret
    exact ⟨rfl, HT.out, Fr.refl _ _, rfl⟩
  · obtain ⟨e1, e2⟩ := fnd_found hx he hn
    have hk := (List.getElem?_eq_some_iff.1 hx).1
    obtain ⟨b, off, rfl, _, _, hc0, hc1, hc2⟩ := hat k x hx
    have hcx := hcn x (List.mem_of_getElem? hx)
    obtain ⟨T, hT⟩ : ∃ T, min (x.2.2 + 1) 3 = T := ⟨_, rfl⟩
    have hfin : ∀ c', c' = T → Tf (w.setCell ⟨b, off + k * 3 + 2, none⟩ (.int .i64 c')).drew S p (s.setc id T) ∧ Fr S w (w.setCell ⟨b, off + k * 3 + 2, none⟩ (.int .i64 c')).drew ∧ w.heap.size = (w.setCell ⟨b, off + k * 3 + 2, none⟩ (.int .i64 c')).drew.heap.size := by
      intro c' hc'
      subst hc'
      rw [setc_at hx e1]
      have := h.count hx c'
      refine ⟨⟨r, b1, _, Z, this.1.frame (Nat.le_refl _) fun _ _ _ => rfl⟩, this.2.1.drew, by simp [World.setCell, World.drew]⟩
    have hfz := (h.count hx 0).2.2
    rw [e2]
    show Calls _ _ _ _ fun e w' => e = .returned (.bool (some x.2).isSome) ∧ Tf w' S p (s.setc id (min (x.2.2 + 1) 3)) ∧ Fr S w w' ∧ w.heap.size = w'.heap.size
    rw [hT]
    rw [e1] at HF
    rw [hl] at c3 hk hH
    have HQ := Lib.hid (show min (x.2.2 + 1) 3 = T from hT)
    have HG := Lib.hid hfin
    obtain ⟨x0, x1, x2⟩ := x
    have hneg : decide ((k : Int) < 0) = false := decide_eq_false (by omega)
    have hc4 : x2 = 0 ∨ x2 = 1 ∨ x2 = 2 ∨ x2 = 3 := by simp at hcx; omega
    clear hat hn e1 e2 hx he hfin h hl hcx hcn hT
    rcases hc4 with rfl | rfl | rfl | rfl
    all_goals
      go_enter Tryz.func37, Tryz.ntmps37
      go_wp2_with fail
      refine HF.out.mono ?_
      rintro e w1 ⟨rfl, rfl⟩
      go_wp2_with fail
      go_region_law (fail)
      go_wp2_with fail
      all_goals
        go_ret
        refine ⟨rfl, HG.out _ ?_⟩
        rw [← HQ.out]; decide
end Go.Proofs.YtgdlndpjfejmcaaGreat.Thr
/- The reference of layer 14 (sthree): New, Cap. -/
namespace Go.Proofs.YtgdlndpjfejmcaaGreat.Thr
open Go.RowKit
set_option linter.unusedVariables false
set_option maxRecDepth 100000
def tf0 : TfS := ⟨fun _ => [], [], 0, []⟩
set_option maxHeartbeats 1000000 in
theorem tf_new (w : World) :
    Calls Tryz.prog 30 #[] w fun e w' => ∃ p, e = .returned (.pointer (some ⟨p, 0, none⟩)) ∧ Tf w' (fun b => w.heap.size ≤ b ∧ b < w'.heap.size) p tf0 ∧ Fr (fun _ => False) w w' := by
  go_enter Tryz.func30, Tryz.ntmps30
  go_wp2_with fail
  refine (rf_new 2 (by decide) (by decide) w).mono ?_
  rintro e w1 ⟨g, rfl, hA, hF⟩
  have H1 := Lib.hid (And.intro hA hF)
  clear hA hF
  go_wp2_with fail
  refine (rnew_at 0 w1).mono ?_
  rintro e w2 ⟨b1, rfl, hA, hF⟩
  have H2 := Lib.hid (And.intro hA hF)
  clear hA hF
  go_wp2
  go_ret
  obtain ⟨hA1, hF1⟩ := H1.out
  obtain ⟨hA2, hF2⟩ := H2.out
  have z1 := hF1.size
  have z2 := hF2.size
  obtain ⟨o, ho⟩ : ∃ o, Obj.cells #[.pointer (some ⟨g, 0, none⟩), .pointer (some ⟨b1, 0, none⟩), .int .i64 0, .slice none 0 0] 76 = o := ⟨_, rfl⟩
  rw [ho]
  have hz : (w2.alloc o).heap.size = w2.heap.size + 1 := by simp
  have hFm : Fr (fun _ => False) w2 (w2.alloc o) := (Fr.refl _ w2).alloc _
  refine ⟨_, rfl, ⟨g, b1, .slice none 0 0, fun k b => (k = 0 ∧ w.heap.size ≤ b ∧ b < w1.heap.size) ∨ (k = 1 ∧ w1.heap.size ≤ b ∧ b < w2.heap.size), ⟨?_, ?_, ?_, ?_, ?_, ?_, ?_, ?_, ?_⟩⟩, (hF1.trans hF2 (fun _ _ h => h)).trans hFm (fun _ _ h => h)⟩
  · exact ⟨by omega, by omega⟩
  · intro k b q; exact ⟨by omega, by omega⟩
  · intro k q; omega
  · intro j k hjk b q q2; omega
  · intro k b q; omega
  · subst ho; exact heap_alloc_new _ _
  · exact ((hA1.fr hF2 (fun _ _ _ h => h)).fr hFm (fun _ _ _ h => h)).mono fun b _ q => Or.inl ⟨rfl, q⟩
  · exact (hA2.fr hFm (fun _ _ _ h => h)).mono fun b _ q => Or.inr ⟨rfl, q⟩
  · exact Sl.nil _ _ _ _
def TfS.cap (s : TfS) (n : Int) : TfS := { s with most := max 0 n, B := Go.Proofs.YtgdlndpjfejmcaaGreat.cut (max 0 n) s.B }
set_option maxHeartbeats 2000000 in
theorem tf_cap_in (S : Nat → Prop) (p : Nat) (s : TfS) (n mx : Int) (hmx : mx = max 0 n) (w : World) (h : Tf w S p s) (hB1 : s.B.length ≤ 1000000) :
    Calls Tryz.prog 45 #[.pointer (some ⟨p, 0, none⟩), .int .i64 n] w fun e w' =>
      e = .returned (.tuple #[]) ∧ Tf w' (grow S w w') p { s with most := mx, B := Go.Proofs.YtgdlndpjfejmcaaGreat.cut mx s.B } ∧ Fr S w w' := by
  obtain ⟨r, b1, sv, Z, h⟩ := h
  obtain ⟨_, c1, c2, _, fz, _⟩ := h.cells
  have f2 := fz 2
  have hset : ∀ u, u = mx → TfO (w.setCell ⟨p, 2, none⟩ (.int .i64 u)) S p { s with most := mx } r b1 sv Z s.most ∧ Fr S w (w.setCell ⟨p, 2, none⟩ (.int .i64 u)) ∧ (w.setCell ⟨p, 2, none⟩ (.int .i64 u)).heap.size = w.heap.size := by
    intro u hu
    subst hu
    exact ⟨(h.setMost u).1, (h.setMost u).2, by simp [World.setCell]⟩
  have HS := Lib.hid hset
  have HX := Lib.hid hmx
  have HB := Lib.hid hB1
  clear h hmx hB1 fz hset
  rcases Int.lt_trichotomy n 0 with hn | hn | hn
  all_goals
    first | subst hn | skip
    go_enter Tryz.func45, Tryz.ntmps45
    go_wp2_with fail
    refine (rlimit_at rcut_said _ b1 _ s.B _ _ (HS.out _ (by have := HX.out; omega)).1.h1 HB.out).mono ?_
    rintro e w1 ⟨rfl, hG, hF⟩
    rw [← HX.out] at hG
    obtain ⟨v0, hv0, hF, hG⟩ : ∃ v0, v0 = mx ∧ Fr (Z 1) (w.setCell ⟨p, 2, none⟩ (.int .i64 v0)) w1 ∧ RefG w1 (grow (Z 1) (w.setCell ⟨p, 2, none⟩ (.int .i64 v0)) w1) b1 mx (Go.Proofs.YtgdlndpjfejmcaaGreat.cut mx s.B) := ⟨_, (by have := HX.out; omega), hF, hG⟩
    obtain ⟨hS1, hS2, hS3⟩ := HS.out v0 hv0
    have hone := hS1.one hG hF
    have hz1 := hF.size
    rw [hS3] at hz1
    have hF1 := Fr.trans hS2 hone.2 (fun _ _ q => q)
    have hO1 := hone.1.mono (S' := grow S w w1) fun b _ q => q.imp (fun q => q) (fun q => by rw [hS3] at q; exact q)
    have H1 := Lib.hid (And.intro hO1 hF1)
    clear hG hF hone hS1 hS2 hS3 hz1 hF1 hO1
    go_wp2_with fail
    go_end0
    exact ⟨rfl, ⟨_, _, _, _, H1.out.1⟩, H1.out.2⟩
theorem tf_cap (S : Nat → Prop) (p : Nat) (s : TfS) (n : Int) (w : World) (h : Tf w S p s) (hB1 : s.B.length ≤ 1000000) :
    Calls Tryz.prog 45 #[.pointer (some ⟨p, 0, none⟩), .int .i64 n] w fun e w' =>
      e = .returned (.tuple #[]) ∧ Tf w' (grow S w w') p (s.cap n) ∧ Fr S w w' := tf_cap_in S p s n _ rfl w h hB1
end Go.Proofs.YtgdlndpjfejmcaaGreat.Thr
/- The reference of layer 14 (sthree): Insert, Remove. -/
namespace Go.Proofs.YtgdlndpjfejmcaaGreat.Thr
open Go.RowKit
set_option linter.unusedVariables false
set_option maxRecDepth 100000
theorem info_named : (Tryz.prog.info? 106).map (fun i => (i.zero, i.size, i.bytes)) = some (some (.agg #[.int .i64 0, .int .u64 0, .int .i64 0]), 3, 24) := by kernel_rfl
def drp (l : List Nm) (id : Int) : List Nm := l.filter fun y => y.1 != id
def ids (l : List Nm) : List Int := l.map (·.1)
theorem drp_none {l : List Nm} {id : Int} (h : ∀ y ∈ l, y.1 ≠ id) : drp l id = l := by
  unfold drp
  rw [List.filter_eq_self]
  intro y hy; simpa using h y hy
theorem drp_at {pre suf : List Nm} {x : Nm} {id : Int} (hx : x.1 = id) (hn : (ids (pre ++ x :: suf)).Nodup) : drp (pre ++ x :: suf) id = pre ++ suf := by
  unfold ids at hn
  rw [List.map_append, List.map_cons] at hn
  have h2 := List.nodup_append.1 hn
  have h3 := List.nodup_cons.1 h2.2.1
  unfold drp
  rw [List.filter_append, List.filter_cons_of_neg (by simp [hx])]
  have e1 : pre.filter (fun y => y.1 != id) = pre := by
    rw [List.filter_eq_self]
    intro y hy
    have := h2.2.2 y.1 (List.mem_map_of_mem hy) x.1 (by simp)
    simp; rw [← hx]; exact this
  have e2 : suf.filter (fun y => y.1 != id) = suf := by
    rw [List.filter_eq_self]
    intro y hy
    have : y.1 ≠ x.1 := fun e => h3.1 (e ▸ List.mem_map_of_mem (f := (·.1)) hy)
    simp; rw [← hx]; exact this
  rw [e1, e2]
theorem split_at {l : List Nm} {k : Nat} {x : Nm} (h : l[k]? = some x) : l = l.take k ++ x :: l.drop (k + 1) := by
  obtain ⟨hk, rfl⟩ := List.getElem?_eq_some_iff.1 h
  simp
def TfS.drop (s : TfS) (id : Int) : TfS := { s with L := del s.L id, H := drp s.H id }
set_option maxRecDepth 100000 in
set_option maxHeartbeats 4000000 in
theorem tf_remove (S : Nat → Prop) (p : Nat) (s : TfS) (id : Int) (w : World) (h : Tf w S p s) (hN : ∀ k, (s.L k).length ≤ 1000000) (hd : Dsj 2 s.L) (hH : s.H.length ≤ 1000000) (hnd : (ids s.H).Nodup) (hin : ∀ x, x ∈ ids s.H ↔ 0 ≤ rowOf 2 s.L x) :
    Calls Tryz.prog 41 #[.pointer (some ⟨p, 0, none⟩), .int .i64 id] w fun e w' => e = .returned (.bool (decide (0 ≤ rowOf 2 s.L id))) ∧ (0 ≤ rowOf 2 s.L id → Tf w' (grow S w w') p (s.drop id)) ∧ (¬ 0 ≤ rowOf 2 s.L id → Tf w' (grow S w w') p s) ∧ Fr S w w' := by
  have HF := Lib.hid (tf_find S p s id w h hH)
  have HT := Lib.hid h
  obtain ⟨i0, hi, hz0, hz1, hz2⟩ := info_parts info_named
  obtain ⟨r, b1, sv, Z, h⟩ := h
  obtain ⟨c0, _, _, c3, fz, hpl⟩ := h.cells
  have f3 := fz 3
  obtain ⟨a, cap, rfl, hat⟩ := tr_at h.hs
  rcases fnd_split id s.H with hn | ⟨k, x, hx, he, hn⟩
  · have hno : ¬ 0 ≤ rowOf 2 s.L id := fun q => by
      obtain ⟨y, hy, e⟩ := List.mem_map.1 ((hin id).2 q)
      exact hn y hy e
    obtain ⟨e1, e2⟩ := fnd_none hn
    rw [e1] at HF
    rw [decide_eq_false hno]
    have HO := Lib.hid hno
    obtain ⟨l, hl⟩ : ∃ l, s.H = l := ⟨_, rfl⟩
    clear hat hn e1 e2 h hl hH hno hN hd hnd hin fz c0 c3 f3
    go_enter Tryz.func41, Tryz.ntmps41
    go_wp2_with fail
    refine HF.out.mono ?_
    rintro e w1 ⟨rfl, rfl⟩
    go_wp2
    go_ret
    exact ⟨rfl, fun q => absurd q (by have := HO.out; omega), fun _ => HT.out.mono fun b _ q => Or.inl q, Fr.refl _ _⟩
  · have hyes : 0 ≤ rowOf 2 s.L id := (hin id).1 (List.mem_map.2 ⟨x, List.mem_of_getElem? hx, he⟩)
    obtain ⟨e1, e2⟩ := fnd_found hx he hn
    have hk := (List.getElem?_eq_some_iff.1 hx).1
    obtain ⟨b, off, rfl, hbl, hSb, _, _, _⟩ := hat k x hx
    have hsp := split_at hx
    have hdr : drp s.H id = s.H.take k ++ s.H.drop (k + 1) := by
      rw [hsp] at hnd
      have := drp_at he hnd
      rwa [← hsp] at this
    rw [e1] at HF
    obtain ⟨bm, hbm⟩ : ∃ bm, decide (0 ≤ rowOf 2 s.L id) = bm := ⟨_, rfl⟩
    rw [hbm]
    obtain ⟨ln, hln⟩ : ∃ ln, s.H.length = ln := ⟨_, rfl⟩
    obtain ⟨pre, hpre⟩ : ∃ pre, s.H.take k = pre := ⟨_, rfl⟩
    obtain ⟨suf, hsuf⟩ : ∃ suf, s.H.drop (k + 1) = suf := ⟨_, rfl⟩
    have hpl2 : pre.length = k := by rw [← hpre, List.length_take]; omega
    have hsl2 : suf.length = ln - (k + 1) := by rw [← hsuf, List.length_drop, hln]
    have hp1 := h.hs.prefix2 (m := k) (by omega)
    have hp2 := h.hs.suffix2 (m := k + 1) (by omega)
    have hx1 : (trs s.H).take (k * 3) = trs pre := by
      conv => lhs; rw [hsp, trs_app]
      rw [hpre, ← hpl2, ← trs_len pre, List.take_left]
    have hx2 : (trs s.H).drop ((k + 1) * 3) = trs suf := by
      have e : s.H = (s.H.take k ++ [x]) ++ s.H.drop (k + 1) := by rw [List.append_assoc]; exact hsp
      have e3 : (trs (s.H.take k ++ [x])).length = (k + 1) * 3 := by rw [trs_len, hpre, List.length_append, hpl2]; rfl
      conv => lhs; rw [e, trs_app]
      rw [← e3, List.drop_left, hsuf]
    rw [hln] at hp2 c3 hk hH
    rw [hx1] at hp1
    rw [hx2] at hp2
    obtain ⟨_, capl, hcpl⟩ := h.hs.shape
    have hcl : ln ≤ cap := by have := hcpl.1; have q := hcpl.2; simp at this; omega
    obtain ⟨u2, hu2⟩ : ∃ u2, (if cap = k + 1 then some (⟨b, off, none⟩ : Addr) else some ⟨b, off + (k + 1) * 3, none⟩) = u2 := ⟨_, rfl⟩
    rw [hu2] at hp2
    have HH := Lib.hid (And.intro h (And.intro hp1 (And.intro hp2 (And.intro hdr (And.intro hyes (And.intro hbm (And.intro hN (And.intro hd (And.intro hpre (And.intro hsuf (And.intro hpl2 (And.intro hsl2 hSb))))))))))))
    have hneg : decide ((k : Int) < 0) = false := decide_eq_false (by omega)
    have hk' : (k : Int) < ln := by omega
    have hk1 : (k : Int) + 1 ≤ ln := by omega
    have hk0 : (0 : Int) ≤ k := by omega
    have hkc : k ≤ cap := by omega
    have hk3 : (0 : Int) ≤ (k : Int) + 1 := by omega
    have hwr : IntKind.i64.wrap ((k : Int) + 1) = (k : Int) + 1 := by rw [IntKind.wrap_i64]; omega
    have HB0 := Lib.hid (show Sl (w.drew.alloc (.cells #[] 106)) (fun b => w.heap.size ≤ b) 106 3 (.slice (some ⟨w.heap.size, 0, none⟩) 0 0) 0 [] from
      ⟨rfl, Or.inr ⟨w.heap.size, 0, 0, #[], rfl, Nat.le_refl _, heap_alloc_new w.drew _, Nat.le_refl _, by unfold maxLen; omega, by simp, fun i hi => absurd hi (by simp)⟩⟩)
    clear hat hn e1 e2 h hx he hsp hdr hbm hyes hN hd hnd hin hpre hsuf hp1 hp2 hx1 hx2 hpl2 hsl2 fz hcpl
    go_enter Tryz.func41, Tryz.ntmps41
    go_wp2_with fail
    refine HF.out.mono ?_
    rintro e w1 ⟨rfl, rfl⟩
    go_wp2_with fail
    have ca3 : (w.drew.alloc (.cells #[] 106)).cell? ⟨p, 3, none⟩ = some (.slice (some ⟨b, off, none⟩) ln cap) := (((Fr.refl (fun _ => False) w).drew.alloc _).cell (p := ⟨p, 3, none⟩) hpl (fun q => q)).trans c3
    go_region_law (first
      | (refine step_append_from2 (S := fun b => w.heap.size ≤ b) rfl _ _ 74 rfl 106 i0 (.agg #[.int .i64 0, .int .u64 0, .int .i64 0]) 3 24 Tryz.underlying74 hi hz0 hz1 hz2 rfl (by decide) _ k (trs pre) rfl X1.out.1 _ (ln - (k + 1)) (trs suf) rfl (HH.out.2.2.1.fr X1.out.2 (fun b hb _ => by omega)) trs_one (by unfold maxLen; omega) (by omega) ?_; intro v3 w3 hs3 hf3; have hq3 : Fr (fun b => w.heap.size ≤ b) w w3 := X1.out.2.trans hf3.arr (fun b _ q => q); obtain ⟨va3, vc3, rfl, _⟩ := hs3.shape; have c33 : w3.cell? ⟨p, 3, none⟩ = some (.slice (some ⟨b, off, none⟩) ln cap) := (hq3.cell (p := ⟨p, 3, none⟩) hpl (by simp; omega)).trans c3; have f33 : w3.frozen? ⟨p, 3, none⟩ = false := (hq3.fro (p := ⟨p, 3, none⟩) hpl (by simp; omega)).trans f3; have X3 := Lib.hid (And.intro (hs3.mono (S' := fun b => w.heap.size ≤ b) (fun b _ q => q.elim (fun q => q) (fun q => by (have q1 := q.1; have := X1.out.2.size; omega)))) hq3); clear hs3 hf3 hq3)
      | (refine step_append_from2 (S := fun b => w.heap.size ≤ b) rfl _ _ 74 rfl 106 i0 (.agg #[.int .i64 0, .int .u64 0, .int .i64 0]) 3 24 Tryz.underlying74 hi hz0 hz1 hz2 rfl (by decide) _ 0 [] rfl HB0.out _ k (trs pre) rfl ((HH.out.2.1.frame (w' := w.drew) fun _ _ _ => rfl).alloc _) trs_one (by unfold maxLen; omega) (by omega) ?_; intro v1 w2 hs1 hf1; rw [Nat.zero_add, List.nil_append] at hs1; have hq1 : Fr (fun b => w.heap.size ≤ b) w w2 := (((Fr.refl (fun b => w.heap.size ≤ b) w).drew).alloc (.cells #[] 106)).trans hf1.arr (fun b _ q => q); obtain ⟨va1, vc1, rfl, _⟩ := hs1.shape; have c32 : w2.cell? ⟨p, 3, none⟩ = some (.slice (some ⟨b, off, none⟩) ln cap) := (hq1.cell (p := ⟨p, 3, none⟩) hpl (by simp; omega)).trans c3; have X1 := Lib.hid (And.intro (hs1.mono (S' := fun b => w.heap.size ≤ b) (fun b _ q => q.elim (fun q => q) (fun q => by (have q1 := q.1; simp at q1; omega)))) hq1); clear hs1 hf1 hq1))
    all_goals
      obtain ⟨hO0, _, _, hdr, hyes, hbm, hN, hd, hpre, hsuf, hpl2, hsl2, _⟩ := HH.out
      have hll : (pre ++ suf).length = k + (ln - (k + 1)) := by rw [List.length_append, hpl2, hsl2]
      have hput := hO0.nums (w' := w3) (v := .slice va3 (k + (ln - (k + 1))) vc3) (l := pre ++ suf) (X3.out.2.mono fun b hb q => absurd q (by omega)) (by rw [hll, trs_app]; exact X3.out.1.mono fun b hb q => Or.inr ⟨q, hb⟩)
      have HP := Lib.hid hput
      have HTk := Lib.hid (rf_take _ r 2 s.L id _ hput.1.hR hN hd)
      obtain ⟨e0, _, _, _, _, _⟩ := hput.1.cells
      clear hO0 hdr hyes hbm hN hd hpre hsuf hpl2 hsl2 hll hput
      go_wp2_with fail
      refine HTk.out.mono ?_
      rintro e w4 ⟨rfl, hR, hF⟩
      have H4 := Lib.hid (And.intro hR hF)
      clear hR hF
      go_wp2
      go_ret
      obtain ⟨_, _, _, hdr, hyes, hbm, _, _, hpre, hsuf, _, _, _⟩ := HH.out
      have ht := HP.out.1.rows H4.out.1 H4.out.2
      have hs : s.drop id = { s with L := del s.L id, H := pre ++ suf } := by unfold TfS.drop; rw [hdr, hpre, hsuf]
      have hfin : Tf _ _ p _ := ⟨_, _, _, _, ht.1⟩
      rw [← hs] at hfin
      refine ⟨by rw [hbm]; rfl, fun _ => hfin.mono fun b _ q => grow_grow HP.out.2.size H4.out.2.size q, fun q => absurd hyes (by omega), HP.out.2.grown ht.2⟩
end Go.Proofs.YtgdlndpjfejmcaaGreat.Thr
/- The reference of layer 14 (sthree): Insert. -/
namespace Go.Proofs.YtgdlndpjfejmcaaGreat.Thr
open Go.RowKit
set_option linter.unusedVariables false
set_option maxRecDepth 100000
theorem info_named2 : (Tryz.prog.info? 106).map (fun i => (i.zero, i.size, i.bytes)) = some (some (.agg #[.int .i64 0, .int .u64 0, .int .i64 0]), 3, 24) := by kernel_rfl
theorem cell_three_at (X : World) {n : Nat} (u v x : Value) (T : TypeId) (hn : n = X.heap.size) : ∀ (j : Nat) (y : Value), [u, v, x][j]? = some y → (X.alloc (.cells #[u, v, x] T)).cell? ((⟨n, 0, none⟩ : Addr).add j) = some y := by
  subst hn
  intro j y hx
  have ha : (⟨X.heap.size, 0, none⟩ : Addr).add j = ⟨X.heap.size, j, none⟩ := by unfold Addr.add; split <;> simp_all
  rw [ha, cell_of_heap (heap_alloc_new X _)]
  simpa using hx
/-- Insert's answer, off memory. -/
def TfS.inOk (s : TfS) (id : Int) : Bool := decide (lk s.H id = none ∧ 0 ≤ id ∧ id ≤ 4194303)
def TfS.inR (s : TfS) (h : Int) : Int := if h ∈ s.B then 1 else 0
def TfS.put (s : TfS) (id h : Int) : TfS := { s with B := grem s.B h, L := frontL 2 s.L (s.inR h) id, H := s.H ++ [(id, h, 0)] }
theorem fnd_ge {l : List Nm} {id : Int} : (lk l id = none → fnd l id = -1) ∧ (lk l id ≠ none → 0 ≤ fnd l id) := by
  rcases fnd_split id l with hn | ⟨k, x, hx, he, hn⟩
  · obtain ⟨e1, e2⟩ := fnd_none hn
    exact ⟨fun _ => e1, fun q => absurd e2 q⟩
  · obtain ⟨e1, e2⟩ := fnd_found hx he hn
    exact ⟨fun q => (by rw [e2] at q; cases q), fun _ => by rw [e1]; omega⟩
set_option maxHeartbeats 2000000 in
theorem tf_insert_no (S : Nat → Prop) (p : Nat) (s : TfS) (id hh : Int) (w : World) (h : Tf w S p s) (hno : s.inOk id = false) (hH : s.H.length ≤ 1000000) :
    Calls Tryz.prog 34 #[.pointer (some ⟨p, 0, none⟩), .int .i64 id, .int .u64 hh] w fun e w' => e = .returned (.bool false) ∧ w = w' := by
  have HF := Lib.hid (tf_find S p s id w h hH)
  have hn := of_decide_eq_false hno
  clear h hno hH
  by_cases hk : lk s.H id = none
  · rw [fnd_ge.1 hk] at HF
    by_cases h0 : id < 0
    · have h0b : decide (id < 0) = true := decide_eq_true h0
      clear hn hk
      go_enter Tryz.func34, Tryz.ntmps34
      go_wp2_with fail
      refine HF.out.mono ?_
      rintro e w1 ⟨rfl, rfl⟩
      go_wp2
      go_ret
      exact ⟨rfl, rfl⟩
    · have h1 : 4194303 < id := Int.not_le.1 fun q => hn ⟨hk, by omega, q⟩
      have h0b : decide (id < 0) = false := decide_eq_false h0
      have h1b : decide (4194303 < id) = true := decide_eq_true h1
      clear hn hk
      go_enter Tryz.func34, Tryz.ntmps34
      go_wp2_with fail
      refine HF.out.mono ?_
      rintro e w1 ⟨rfl, rfl⟩
      go_wp2
      go_ret
      exact ⟨rfl, rfl⟩
  · have hf := fnd_ge.2 hk
    obtain ⟨f, hf2⟩ : ∃ f, fnd s.H id = f := ⟨_, rfl⟩
    rw [hf2] at HF hf
    have hfb : decide (0 ≤ f) = true := decide_eq_true hf
    clear hn hk hf2
    go_enter Tryz.func34, Tryz.ntmps34
    go_wp2_with fail
    refine HF.out.mono ?_
    rintro e w1 ⟨rfl, rfl⟩
    go_wp2
    go_ret
    exact ⟨rfl, rfl⟩
set_option maxHeartbeats 4000000 in
theorem tf_insert_ok (S : Nat → Prop) (p : Nat) (s : TfS) (id hh : Int) (w : World) (h : Tf w S p s) (hok : s.inOk id = true) (hN : ∀ k, (s.L k).length ≤ 1000000) (hd : Dsj 2 s.L) (hH : s.H.length < 1000000) (hB : s.B.length ≤ 1000000) :
    Calls Tryz.prog 34 #[.pointer (some ⟨p, 0, none⟩), .int .i64 id, .int .u64 hh] w fun e w' => e = .returned (.bool true) ∧ Tf w' (grow S w w') p (s.put id hh) ∧ Fr S w w' := by
  obtain ⟨i0, hi, hz0, hz1, hz2⟩ := info_parts info_named2
  have HF := Lib.hid (tf_find S p s id w h (by omega))
  obtain ⟨hk, h0, h1⟩ := of_decide_eq_true hok
  rw [fnd_ge.1 hk] at HF
  have h0b : decide (id < 0) = false := decide_eq_false (by omega)
  have h1b : decide (4194303 < id) = false := decide_eq_false (by omega)
  obtain ⟨r, b1, sv, Z, h⟩ := h
  obtain ⟨_, c1, _, _, _, _⟩ := h.cells
  have HR := Lib.hid (rremove_at (Z 1) b1 s.most s.B hh w h.h1 hB)
  have HO := Lib.hid (And.intro h (And.intro hN (And.intro hd hH)))
  obtain ⟨tw, htw⟩ : ∃ tw, decide (hh ∈ s.B) = tw := ⟨_, rfl⟩
  rw [htw] at HR
  have HT := Lib.hid htw
  obtain ⟨ln, hln⟩ : ∃ ln, s.H.length = ln := ⟨_, rfl⟩
  have HLN := Lib.hid hln
  have hH' : ln < 1000000 := by omega
  clear h hok hk hN hd hH hB htw hln
  have hput : ∀ (w1 : World) (ro : Int), (if hh ∈ s.B then (1 : Int) else 0) = ro → RefG w1 (grow (Z 1) w w1) b1 s.most (grem s.B hh) → Fr (Z 1) w w1 →
      (Calls Tryz.prog 31 #[.pointer (some ⟨r, 0, none⟩), .int .i64 ro, .int .i64 id] w1 fun e w2 => ∃ sv Z', e = .returned (.bool (mayIn 2 ro id)) ∧ TfO w2 (grow S w w2) p { s with B := grem s.B hh, L := frontL 2 s.L ro id } r b1 sv Z' s.most ∧ Fr S w w2) ∧ w1.cell? ⟨p, 0, none⟩ = some (.pointer (some ⟨r, 0, none⟩)) := by
    intro w1 ro hro hG hF
    obtain ⟨hO, hN, hd, _⟩ := HO.out
    have hone := hO.one hG hF
    refine ⟨(rf_front _ r 2 s.L ro id w1 hone.1.hR hN hd).mono ?_, hone.1.cells.1⟩
    rintro e w2 ⟨rfl, hA, hF2⟩
    have ht := hone.1.rows hA hF2
    exact ⟨_, _, rfl, ht.1.mono fun b _ q => grow_grow hone.2.size hF2.size q, hone.2.grown ht.2⟩
  have HP := Lib.hid hput
  clear hput
  have hlast : ∀ (w2 : World) (ro : Int) (sv : Value) (Z' : Nat → Nat → Prop), (if hh ∈ s.B then (1 : Int) else 0) = ro → TfO w2 (grow S w w2) p { s with B := grem s.B hh, L := frontL 2 s.L ro id } r b1 sv Z' s.most → Fr S w w2 →
      ∀ (w3 : World) (v : Value), Fr (Z' 3) w2 w3 → Sl w3 (grow (Z' 3) w2 w3) 106 3 v (ln + 1) (trs s.H ++ [.int .i64 id, .int .u64 hh, .int .i64 0]) → Tf (w3.setCell ⟨p, 3, none⟩ v) (grow S w (w3.setCell ⟨p, 3, none⟩ v)) p (s.put id hh) ∧ Fr S w (w3.setCell ⟨p, 3, none⟩ v) := by
    intro w2 ro sv Z' hro hO hF w3 v hF3 hv
    have hnu := hO.nums (l := s.H ++ [(id, hh, 0)]) hF3 (by rw [List.length_append, HLN.out, trs_snoc]; exact hv)
    have he : s.put id hh = { s with B := grem s.B hh, L := frontL 2 s.L ro id, H := s.H ++ [(id, hh, 0)] } := by unfold TfS.put TfS.inR; rw [hro]
    rw [he]
    exact ⟨⟨_, _, _, _, hnu.1.mono fun b _ q => grow_grow hF.size hnu.2.size q⟩, hF.grown hnu.2⟩
  have HLA := Lib.hid hlast
  clear hlast
  rcases tw with _ | _
  all_goals
    go_enter Tryz.func34, Tryz.ntmps34
    go_wp2_with fail
    refine HF.out.mono ?_
    rintro e w0 ⟨rfl, rfl⟩
    go_wp2_with fail
    refine HR.out.mono ?_
    rintro e w1 ⟨rfl, hG, hF⟩
    obtain ⟨ro, hro⟩ : ∃ ro, (if hh ∈ s.B then (1 : Int) else 0) = ro := ⟨_, rfl⟩
    obtain ⟨hp1, hp2⟩ := HP.out w1 ro hro hG hF
    have hro2 := hro
    first
      | rw [if_pos (of_decide_eq_true HT.out)] at hro2
      | rw [if_neg (of_decide_eq_false HT.out)] at hro2
    subst hro2
    have H1 := Lib.hid (And.intro hp1 hro)
    clear hp1 hG hF hro
    go_wp2_with fail
    refine H1.out.1.mono ?_
    rintro e w2 ⟨sv2, Z2, rfl, hO2, hF2⟩
    obtain ⟨_, _, _, d3, df, dl⟩ := hO2.cells
    have df3 := df 3
    obtain ⟨a2, cap2, rfl, _⟩ := hO2.hs.shape
    have d3' : w2.cell? ⟨p, 3, none⟩ = some (.slice a2 ln cap2) := by rw [← HLN.out]; exact d3
    have hs2 : Sl w2 (Z2 3) 106 3 (.slice a2 ln cap2) ln (trs s.H) := by rw [← HLN.out]; exact hO2.hs
    have hzp := hO2.hZp 3
    have H2 := Lib.hid (And.intro hO2 (And.intro hF2 (And.intro hs2 hzp)))
    clear hO2 hF2 df hs2 hzp d3
    go_wp2_with (at_builtin; refine wpList_append_sl (S := Z2 3) rfl _ _ 74 rfl 106 i0 (.agg #[.int .i64 0, .int .u64 0, .int .i64 0]) 3 24 Tryz.underlying74 hi hz0 hz1 hz2 rfl (by decide) _ _ _ rfl (H2.out.2.2.1.alloc _) ⟨_, 0, none⟩ 1 1 [.int .i64 id, .int .u64 hh, .int .i64 0] rfl rfl (cell_three_at _ _ _ _ _ (by simp)) (by intro u hu; simp at hu; rcases hu with rfl | rfl | rfl <;> rfl) (by unfold maxLen; omega) (by omega) ?_; intro v3 w3 hs3 hf3; obtain ⟨va3, vc3, rfl, _⟩ := hs3.shape; have hz2l : w2.heap.size < w3.heap.size := (by have := hf3.size; simp at this; omega); have hq3 : Fr (Z2 3) w2 w3 := (Fr.alloc (Fr.refl (Z2 3) w2) _).trans hf3.arr (fun b _ q => q); have c33 : w3.cell? ⟨p, 3, none⟩ = some (.slice a2 ln cap2) := (hq3.cell (p := ⟨p, 3, none⟩) dl (fun q => H2.out.2.2.2 q)).trans d3'; have f33 : w3.frozen? ⟨p, 3, none⟩ = false := (hq3.fro (p := ⟨p, 3, none⟩) dl (fun q => H2.out.2.2.2 q)).trans df3; have H3 := Lib.hid (And.intro (hs3.mono (S' := grow (Z2 3) w2 w3) (fun b hb q => q.elim (fun q => Or.inl q) (fun q => Or.inr (by (have q1 := q.1; simp at q1; exact ⟨by omega, q.2⟩))))) hq3); clear hs3 hf3 hq3)
    go_ret
    have := HLA.out w2 _ _ Z2 H1.out.2 H2.out.1 H2.out.2.1 w3 _ H3.out.2 H3.out.1
    exact ⟨rfl, this.1, this.2⟩
theorem tf_insert (S : Nat → Prop) (p : Nat) (s : TfS) (id hh : Int) (w : World) (h : Tf w S p s) (hN : ∀ k, (s.L k).length ≤ 1000000) (hd : Dsj 2 s.L) (hH : s.H.length < 1000000) (hB : s.B.length ≤ 1000000) :
    Calls Tryz.prog 34 #[.pointer (some ⟨p, 0, none⟩), .int .i64 id, .int .u64 hh] w fun e w' => e = .returned (.bool (s.inOk id)) ∧ Tf w' (grow S w w') p (if s.inOk id then s.put id hh else s) ∧ Fr S w w' := by
  cases hok : s.inOk id with
  | true => exact (tf_insert_ok S p s id hh w h hok hN hd hH hB).mono fun e w' q => q
  | false =>
    refine (tf_insert_no S p s id hh w h hok (by omega)).mono ?_
    rintro e w' ⟨rfl, rfl⟩
    exact ⟨rfl, h.mono fun b _ q => Or.inl q, Fr.refl _ _⟩
end Go.Proofs.YtgdlndpjfejmcaaGreat.Thr
/- The reference of layer 14 (sthree): its ids beside the map. -/
namespace Go.Proofs.YtgdlndpjfejmcaaGreat.Thr
open Go.RowKit
set_option linter.unusedVariables false
set_option maxRecDepth 100000
theorem lk_mem {id : Int} : ∀ {l : List Nm}, (lk l id).isSome = true ↔ id ∈ ids l
  | [] => by simp [lk, ids]
  | p :: l => by
    have ih := lk_mem (id := id) (l := l)
    unfold lk
    by_cases e : p.1 = id
    · rw [if_pos e]; simp [ids, e]
    · rw [if_neg e, ih]
      simp only [ids, List.map_cons, List.mem_cons]
      exact ⟨Or.inr, fun q => q.resolve_left (fun q => e q.symm)⟩
theorem lk_set {c : Int} {id : Int} : ∀ {l : List Nm} {k : Nat} {x : Nm}, l[k]? = some x → (ids l).Nodup → lk (l.set k (x.1, x.2.1, c)) id = if id = x.1 then some (x.2.1, c) else lk l id
  | [], k, x, h, _ => by simp at h
  | p :: l, 0, x, h, hn => by
    simp at h; subst h
    rw [List.set_cons_zero]
    by_cases e : id = p.1
    · subst e; rw [if_pos rfl]; unfold lk; rw [if_pos rfl]
    · rw [if_neg e]; unfold lk; rw [if_neg (fun q => e q.symm), if_neg (fun q => e q.symm)]
  | p :: l, k + 1, x, h, hn => by
    have h' : l[k]? = some x := by simpa using h
    obtain ⟨h1, h2⟩ := List.nodup_cons.1 (show (p.1 :: ids l).Nodup from hn)
    have ih := lk_set (c := c) (id := id) h' h2
    have hne : p.1 ≠ x.1 := fun e => h1 (e ▸ List.mem_map_of_mem (f := (·.1)) (List.mem_of_getElem? h'))
    rw [List.set_cons_succ]
    unfold lk
    by_cases e : p.1 = id
    · rw [if_pos e, if_pos e, if_neg (fun q => hne (e.trans q))]
    · rw [if_neg e, if_neg e, ih]
theorem ids_set {c : Int} : ∀ {l : List Nm} {k : Nat} {x : Nm}, l[k]? = some x → ids (l.set k (x.1, x.2.1, c)) = ids l
  | [], k, x, h => by simp at h
  | p :: l, 0, x, h => by simp at h; subst h; simp [ids]
  | p :: l, k + 1, x, h => by
    have := ids_set (c := c) (l := l) (k := k) (x := x) (by simpa using h)
    unfold ids at this ⊢
    rw [List.set_cons_succ, List.map_cons, List.map_cons, this]
theorem lk_drp {id id' : Int} : ∀ {l : List Nm}, lk (drp l id) id' = if id' = id then none else lk l id'
  | [] => by
    show (none : Option (Int × Int)) = if id' = id then none else none
    split <;> rfl
  | p :: l => by
    have ih := lk_drp (id := id) (id' := id') (l := l)
    unfold drp at ih ⊢
    by_cases e : p.1 = id
    · rw [List.filter_cons_of_neg (by simp [e]), ih]
      by_cases e2 : id' = id
      · rw [if_pos e2, if_pos e2]
      · rw [if_neg e2, if_neg e2]
        conv => rhs; unfold lk
        rw [if_neg (fun q => e2 (q.symm.trans e))]
    · rw [List.filter_cons_of_pos (by simp [e])]
      unfold lk
      by_cases e3 : p.1 = id'
      · rw [if_pos e3, if_pos e3, if_neg (fun q => e (e3.trans q))]
      · rw [if_neg e3, if_neg e3, ih]
theorem lk_snoc {id h c id' : Int} : ∀ {l : List Nm}, lk l id = none → lk (l ++ [(id, h, c)]) id' = if id' = id then some (h, c) else lk l id'
  | [], _ => by
    simp only [List.nil_append, lk]
    by_cases e : id' = id
    · rw [if_pos e.symm, if_pos e]
    · rw [if_neg (fun q => e q.symm), if_neg e]
  | p :: l, hn => by
    unfold lk at hn
    by_cases e : p.1 = id
    · rw [if_pos e] at hn; cases hn
    · rw [if_neg e] at hn
      have ih := lk_snoc (h := h) (c := c) (id' := id') hn
      rw [List.cons_append]
      unfold lk
      by_cases e3 : p.1 = id'
      · rw [if_pos e3, if_pos e3, if_neg (fun q => e (e3.trans q))]
      · rw [if_neg e3, if_neg e3, ih]
theorem ids_drp {l : List Nm} {id : Int} (h : (ids l).Nodup) : (ids (drp l id)).Nodup := by
  have : (drp l id).Sublist l := List.filter_sublist
  exact (this.map _).nodup h
/-- The reference beside the policy. -/
structure Syn (s : TfS) (t : ThS) : Prop where
  hL : s.L = t.L
  hB : s.B = t.B
  hm : s.most = t.most
  hmB : t.mB = t.most
  hK : ∀ id, lk s.H id = t.K id
  hnd : (ids s.H).Nodup
  h0 : 0 ≤ t.most
theorem syn0 : Syn tf0 th0 := ⟨rfl, rfl, rfl, rfl, fun _ => rfl, List.nodup_nil, by show (0 : Int) ≤ 0; omega⟩
section
variable {s : TfS} {t : ThS}
theorem Syn.cnt (h : Syn s t) (hi : ThIn t) : ∀ x ∈ s.H, 0 ≤ x.2.2 ∧ x.2.2 ≤ 3 := by
  intro x hx
  obtain ⟨k, hk⟩ := List.getElem?_of_mem hx
  have : lk (s.H.set k (x.1, x.2.1, x.2.2)) x.1 = some (x.2.1, x.2.2) := by rw [lk_set hk h.hnd, if_pos rfl]
  have e : s.H.set k (x.1, x.2.1, x.2.2) = s.H := by
    obtain ⟨hl, rfl⟩ := List.getElem?_eq_some_iff.1 hk
    exact List.set_getElem_self hl
  rw [e, h.hK] at this
  exact hi.cnt _ _ _ this
theorem Syn.count (h : Syn s t) (id : Int) : cntH s.H id = countT t id := by unfold cntH countT; rw [h.hK]; rcases t.K id with _ | ⟨a, c⟩ <;> rfl
theorem Syn.set (h : Syn s t) {k : Nat} {x : Nm} (hx : s.H[k]? = some x) (c : Int) : Syn { s with H := s.H.set k (x.1, x.2.1, c) } { t with K := setK t.K x.1 (some (x.2.1, c)) } := by
  refine ⟨h.hL, h.hB, h.hm, h.hmB, fun id => ?_, ?_, h.h0⟩
  · show lk (s.H.set k (x.1, x.2.1, c)) id = setK t.K x.1 (some (x.2.1, c)) id
    rw [lk_set hx h.hnd]
    unfold setK
    rw [h.hK]
  · show (ids (s.H.set k (x.1, x.2.1, c))).Nodup
    rw [ids_set hx]; exact h.hnd
theorem Syn.touch (h : Syn s t) (id : Int) : Syn (s.touch id) (touchT t id) := by
  unfold TfS.touch touchT
  rw [h.hK id]
  rcases e : t.K id with _ | ⟨hh, c⟩
  · exact h
  · show Syn (s.setc id (min (c + 1) 3)) { t with K := setK t.K id (some (hh, min (c + 1) 3)) }
    rcases fnd_split id s.H with hn | ⟨k, x, hx, he, hn⟩
    · have := (fnd_none hn).2
      rw [h.hK, e] at this; cases this
    · obtain ⟨e1, e2⟩ := fnd_found hx he hn
      rw [h.hK, e] at e2
      rw [setc_at hx e1]
      have := h.set hx (min (c + 1) 3)
      have e3 : x.2.1 = hh := by
        have e4 : (hh, c) = x.2 := Option.some.inj e2
        rw [← e4]
      rw [← e3]
      have e5 : setK t.K id (some (x.2.1, min (c + 1) 3)) = setK t.K x.1 (some (x.2.1, min (c + 1) 3)) := by rw [he]
      rw [e5]
      exact this
theorem Syn.front (h : Syn s t) (row id : Int) : Syn { s with L := frontL 2 s.L row id } { t with L := frontL 2 t.L row id } :=
  ⟨by show frontL 2 s.L row id = _; rw [h.hL], h.hB, h.hm, h.hmB, h.hK, h.hnd, h.h0⟩
theorem Syn.ok (h : Syn s t) (id : Int) : s.inOk id = inOk t id := by unfold TfS.inOk inOk; rw [h.hK]
theorem Syn.put (h : Syn s t) (id hh : Int) : Syn (if s.inOk id then s.put id hh else s) (inT t id hh) := by
  unfold inT
  rw [h.ok]
  split
  · rename_i hok
    have hk : lk s.H id = none := by rw [h.hK]; exact (of_decide_eq_true hok).1
    refine ⟨?_, ?_, h.hm, h.hmB, fun id' => ?_, ?_, h.h0⟩
    · show frontL 2 s.L (s.inR hh) id = frontL 2 t.L (inR t hh) id
      unfold TfS.inR inR; rw [h.hL, h.hB]
    · show grem s.B hh = grem t.B hh
      rw [h.hB]
    · show lk (s.H ++ [(id, hh, 0)]) id' = setK t.K id (some (hh, 0)) id'
      rw [lk_snoc hk]; unfold setK; rw [h.hK]
    · show (ids (s.H ++ [(id, hh, 0)])).Nodup
      have : id ∉ ids s.H := fun q => by have := lk_mem.2 q; rw [hk] at this; cases this
      unfold ids at this ⊢
      rw [List.map_append]
      exact List.nodup_append.2 ⟨h.hnd, by simp, fun a q b q2 e => by simp at q2; rw [q2] at e; exact this (e ▸ q)⟩
  · exact h
theorem Syn.ghost (h : Syn s t) {B : List Int} : Syn { s with B := B } { t with B := B } := ⟨h.hL, rfl, h.hm, h.hmB, h.hK, h.hnd, h.h0⟩
theorem Syn.drop (h : Syn s t) (id : Int) : Syn (s.drop id) (remT t id) := by
  refine ⟨?_, h.hB, h.hm, h.hmB, fun id' => ?_, ids_drp h.hnd, h.h0⟩
  · show del s.L id = del t.L id
    rw [h.hL]
  · show lk (drp s.H id) id' = setK t.K id none id'
    rw [lk_drp]; unfold setK; rw [h.hK]
theorem Syn.cap (h : Syn s t) (n : Int) : Syn (s.cap n) (capT t n) := by
  refine ⟨h.hL, ?_, rfl, rfl, h.hK, h.hnd, by show 0 ≤ max 0 n; omega⟩
  show Go.Proofs.YtgdlndpjfejmcaaGreat.cut (max 0 n) s.B = _
  rw [h.hB]; rfl
/-- Who stands is known. -/
theorem Syn.inn (h : Syn s t) (hi : ThIn t) (x : Int) : x ∈ ids s.H ↔ 0 ≤ rowOf 2 s.L x := by
  rw [← lk_mem, h.hK, hi.in_, h.hL]
  exact (rowOf2_nn t.L x).symm
/-- Nothing is dropped where nobody stands. -/
theorem Syn.none (h : Syn s t) (hi : ThIn t) (h2 : ∀ r, 2 ≤ r → t.L r = []) {id : Int} (hr : ¬ 0 ≤ rowOf 2 s.L id) : Syn s (remT t id) := by
  have hno : id ∉ ids s.H := fun q => hr ((h.inn hi id).1 q)
  have hk : t.K id = Option.none := by
    rcases e : t.K id with _ | v
    · rfl
    · exact absurd (lk_mem.1 (by rw [h.hK, e]; rfl)) hno
  have hn : ∀ r, id ∉ t.L r := by
    intro r q
    rcases Nat.lt_or_ge r 2 with hlt | hge
    · have : (t.K id).isSome = true := (hi.in_ id).2 (by
        match r, hlt, q with
        | 0, _, q => exact Or.inl q
        | 1, _, q => exact Or.inr q)
      rw [hk] at this; cases this
    · rw [h2 r hge] at q; cases q
  refine ⟨?_, h.hB, h.hm, h.hmB, fun id' => ?_, h.hnd, h.h0⟩
  · show s.L = del t.L id
    rw [del_none hn, h.hL]
  · show lk s.H id' = setK t.K id Option.none id'
    unfold setK
    split
    · rename_i e; rw [e, h.hK, hk]
    · exact h.hK id'
end
theorem len_le : ∀ {l m : List Int}, l.Nodup → (∀ x ∈ l, x ∈ m) → l.length ≤ m.length
  | [], m, _, _ => by simp
  | x :: l, m, hn, hs => by
    obtain ⟨h1, h2⟩ := List.nodup_cons.1 hn
    have hx := hs x (by simp)
    have := len_le (l := l) (m := m.erase x) h2 (fun y hy => (List.mem_erase_of_ne (fun e => h1 (by rw [← e]; exact hy))).2 (hs y (by simp [hy])))
    rw [List.length_erase_of_mem hx] at this
    have := List.length_pos_of_mem hx
    rw [List.length_cons]; omega
theorem Syn.tot {s : TfS} {t : ThS} (h : Syn s t) (g : Gd t) : totT t ≤ s.H.length := by
  have : (t.L 0 ++ t.L 1).Nodup := List.nodup_append.2 ⟨g.n0, g.n1, fun a q b q2 e => g.dj a q (e ▸ q2)⟩
  have := len_le (m := ids s.H) this (fun x q => by
    rw [← lk_mem, h.hK, g.in_.in_]
    exact List.mem_append.1 q)
  unfold ids at this
  rw [List.length_append, List.length_map] at this
  exact this
end Go.Proofs.YtgdlndpjfejmcaaGreat.Thr
