/- One structure that lies behind a world, and what was there stays; masks. -/
import Derived.Test.YtgdlndpjfejmcaaGreatPA
import Derived.Laws.BitsAllLaws
import Derived.Laws.BitsLemmas
import Derived.StillTailTactics
namespace Go.Proofs.YtgdlndpjfejmcaaGreat
open Go.RowKit
set_option linter.unusedVariables false
set_option maxRecDepth 100000
/-- All that is new. -/
def From (n : Nat) (b : Nat) : Prop := n ≤ b
theorem Sl.two {w : World} {S : Nat → Prop} {T : TypeId} {v : Value} {x y : Value} (h : Sl w S T 1 v 2 [x, y]) :
    ∃ b off cap, v = .slice (some ⟨b, off, none⟩) 2 cap ∧ w.cell? ⟨b, off, none⟩ = some x ∧ w.cell? ⟨b, off + 1, none⟩ = some y := by
  obtain ⟨b, off, cap, hv, hS, hb, hc, hx, _⟩ := h.pos (by omega)
  exact ⟨b, off, cap, hv, hx 0 (by simp), hx 1 (by simp)⟩
theorem grow_from {B : Nat} {w w' : World} (hB : B ≤ w.heap.size) {b : Nat} (h : grow (From B) w w' b) : From B b := h.elim id (fun h => Nat.le_trans hB h.1)
/-- One structure that lies behind B, and what was there stays. -/
def Own (P : World → (Nat → Prop) → Prop) (w0 w : World) : Prop := P w (From w0.heap.size) ∧ Fr (From w0.heap.size) w0 w
theorem Own.start {P : World → (Nat → Prop) → Prop} {w0 w w' : World} {S : Nat → Prop} (hP : P w' S) (hS : ∀ b, S b → w.heap.size ≤ b) (hF : Fr (fun _ => False) w w') (h0 : Fr (From w0.heap.size) w0 w)
    (hm : ∀ S', P w' S → (∀ b, S b → S' b) → P w' S') : Own P w0 w' :=
  ⟨hm _ hP (fun b h => Nat.le_trans h0.size (hS b h)), h0.trans hF (fun _ _ h => h.elim)⟩
theorem Own.next {P P' : World → (Nat → Prop) → Prop} {w0 w w' : World} (h : Own P w0 w) (hP : P' w' (grow (From w0.heap.size) w w')) (hF : Fr (From w0.heap.size) w w')
    (hm : ∀ S', P' w' (grow (From w0.heap.size) w w') → (∀ b, grow (From w0.heap.size) w w' b → S' b) → P' w' S') : Own P' w0 w' :=
  ⟨hm _ hP (fun b hb => grow_from h.2.size hb), h.2.trans hF (fun _ _ h => h)⟩
theorem Below.fr {w w' : World} (h : Below w.heap.size w w') : Fr (fun b => w.heap.size ≤ b) w w' := Fr.of_below h
/-- What '& k' leaves is a number from 0 to k. -/
theorem and_mask (x : Int) (k : Nat) (hk : k < 4611686018427387904) : ∃ y : Nat, bits .and .i64 x (k : Int) = (y : Int) ∧ y ≤ k := by
  have hb : (BitVec.ofInt 64 (k : Int)).toNat = k := by
    rw [BitVec.ofInt_natCast, BitVec.toNat_ofNat]; exact Nat.mod_eq_of_lt (by omega)
  refine ⟨(BitVec.ofInt 64 x).toNat &&& k, ?_, Nat.and_le_right⟩
  show IntKind.i64.wrap ((BitVec.ofInt 64 x &&& BitVec.ofInt 64 (k : Int)).toNat : Int) = _
  rw [BitVec.toNat_and, hb, IntKind.wrap_i64]
  have : (BitVec.ofInt 64 x).toNat &&& k ≤ k := Nat.and_le_right
  omega
/-- The elements of a slice of integers. -/
theorem sl_at {w : World} {S : Nat → Prop} {T : TypeId} {v : Value} {l : List Int} (h : Sl w S T 1 v l.length (l.map (Value.int .i64))) :
    ∃ a cap, v = .slice a l.length cap ∧ ∀ k x, l[k]? = some x → ∃ b off, a = some ⟨b, off, none⟩ ∧ b < w.heap.size ∧ S b ∧ w.cell? ⟨b, off + k, none⟩ = some (.int .i64 x) ∧ w.frozen? ⟨b, off + k, none⟩ = false := by
  obtain ⟨a, cap, rfl, _⟩ := h.shape
  refine ⟨a, cap, rfl, fun k x hx => ?_⟩
  have hk := (List.getElem?_eq_some_iff.1 hx).1
  obtain ⟨b, off, cap', hv, hS, hb, _, hc, hf⟩ := h.pos (by omega)
  simp at hv
  exact ⟨b, off, hv.1, hb, hS, by rw [hc k (by simpa using hk)]; simp [hx], hf _⟩
end Go.Proofs.YtgdlndpjfejmcaaGreat
/- Structures that lie behind a world, each in blocks of its own; slices beside them. -/
namespace Go.Proofs.YtgdlndpjfejmcaaGreat
open Go.RowKit
set_option linter.unusedVariables false
set_option maxRecDepth 100000
/-- A structure behind w0 in the blocks S; what lay there lies as it lay. -/
structure Sep (P : World → (Nat → Prop) → Prop) (w0 w : World) (S : Nat → Prop) : Prop where
  at_ : P w S
  fr : Fr (From w0.heap.size) w0 w
  lo : ∀ b, S b → w0.heap.size ≤ b
  hi : ∀ b, S b → b < w.heap.size
section
variable {P P' : World → (Nat → Prop) → Prop} {w0 w w' : World} {S : Nat → Prop}
theorem Sep.next (h : Sep P w0 w S) (hA : P' w' (grow S w w')) (hF : Fr S w w') : Sep P' w0 w' (grow S w w') :=
  ⟨hA, h.fr.trans hF (fun b _ q => h.lo b q), fun b q => q.elim (h.lo b) (fun q => Nat.le_trans h.fr.size q.1), fun b q => q.elim (fun q => Nat.lt_of_lt_of_le (h.hi b q) hF.size) (fun q => q.2)⟩
theorem Sep.keep (h : Sep P w0 w S) {F : Nat → Prop} (hF : Fr F w w') (hd : ∀ b, b < w.heap.size → S b → ¬ F b) (h0 : ∀ b, b < w0.heap.size → ¬ F b) (hP : P w S → (∀ b, b < w.heap.size → S b → w'.heap[b]? = w.heap[b]?) → P w' S) : Sep P w0 w' S :=
  ⟨hP h.at_ (fun b hb hS => hF.block b hb (hd b hb hS)), h.fr.trans hF (fun b hb q => absurd q (h0 b hb)), h.lo, fun b q => Nat.lt_of_lt_of_le (h.hi b q) hF.size⟩
theorem Sep.new (hF : Fr (From w0.heap.size) w0 w) (hA : P w' S) (hS : ∀ b, S b → w.heap.size ≤ b ∧ b < w'.heap.size) (hG : Fr (fun _ => False) w w') : Sep P w0 w' S :=
  ⟨hA, hF.trans hG (fun _ _ q => q.elim), fun b q => Nat.le_trans hF.size (hS b q).1, fun b q => (hS b q).2⟩
theorem Sep.below (h : Sep P w0 w S) : Below w0.heap.size w0 w := h.fr.below (Nat.le_refl _) fun b _ q => q
theorem Sep.as (h : Sep P w0 w S) (hP : P w S → P' w S) : Sep P' w0 w S := ⟨hP h.at_, h.fr, h.lo, h.hi⟩
/-- A slice beside a structure. -/
def Held (w0 w : World) (S : Nat → Prop) (T : TypeId) (sz : Nat) (v : Value) (n : Nat) (xs : List Value) : Prop := Sl w (fun b => ¬ S b ∧ w0.heap.size ≤ b) T sz v n xs
theorem Held.step {T : TypeId} {sz : Nat} {v : Value} {n : Nat} {xs : List Value} (h : Held w0 w S T sz v n xs) (hF : Fr S w w') : Held w0 w' (grow S w w') T sz v n xs :=
  (Sl.mono h (S' := fun b => (¬ grow S w w' b ∧ w0.heap.size ≤ b) ∧ ¬ S b) fun b hb q => ⟨⟨fun g => g.elim q.1 (fun g => by omega), q.2⟩, q.1⟩).fr hF (fun b _ q => q.2) |>.mono fun b _ q => q.1
/-- It stays where what turns is not its own. -/
theorem Held.keep {T : TypeId} {sz : Nat} {v : Value} {n : Nat} {xs : List Value} (h : Held w0 w S T sz v n xs) {F : Nat → Prop} (hF : Fr F w w') (hd : ∀ b, b < w.heap.size → ¬ F b) : Held w0 w' S T sz v n xs :=
  Sl.fr h hF (fun b hb _ => hd b hb)
theorem Held.new {T : TypeId} {sz : Nat} {v : Value} {n : Nat} {xs : List Value} (hS : Sep P w0 w S) (h : Sl w' (fun b => w.heap.size ≤ b) T sz v n xs) : Held w0 w' S T sz v n xs :=
  h.mono fun b _ q => ⟨fun g => by have := hS.hi b g; omega, Nat.le_trans hS.fr.size q⟩
end
end Go.Proofs.YtgdlndpjfejmcaaGreat
/- Counting numbers in lists, plainly. -/
namespace Go.Proofs.YtgdlndpjfejmcaaGreat
set_option linter.unusedVariables false
set_option maxRecDepth 100000
/-- The rows one behind the other. -/
def flat (L : Nat → List Int) (k : Nat) : List Int := (List.range k).flatMap L
theorem flat_zero (L : Nat → List Int) : flat L 0 = [] := rfl
theorem flat_succ (L : Nat → List Int) (k : Nat) : flat L (k + 1) = flat L k ++ L k := by
  unfold flat; rw [List.range_succ, List.flatMap_append]; simp
theorem mem_flat {L : Nat → List Int} {k : Nat} {x : Int} : x ∈ flat L k ↔ ∃ r, r < k ∧ x ∈ L r := by
  unfold flat; simp
theorem flat_nodup {L : Nat → List Int} : ∀ (k : Nat), (∀ r, r < k → (L r).Nodup) → (∀ r s, r < k → s < k → ∀ x, x ∈ L r → x ∈ L s → s = r) → (flat L k).Nodup
  | 0, _, _ => List.nodup_nil
  | k + 1, h1, h2 => by
    rw [flat_succ, List.nodup_append]
    refine ⟨flat_nodup k (fun r hr => h1 r (by omega)) (fun r s hr hs => h2 r s (by omega) (by omega)), h1 k (by omega), fun a ha b hb e => ?_⟩
    obtain ⟨r, hr, har⟩ := mem_flat.1 ha
    subst e
    have := h2 r k (by omega) (by omega) a har hb
    omega
theorem flat_len_le {L : Nat → List Int} {N : Nat} (h : ∀ r, (L r).length ≤ N) : ∀ k, (flat L k).length ≤ k * N
  | 0 => by simp [flat_zero]
  | k + 1 => by
    rw [flat_succ, List.length_append, Nat.add_mul]
    have := flat_len_le h k
    have := h k
    omega
/-- How often each number below m is there. -/
def counts (m : Nat) (l : List Int) : List Value := (List.range m).map fun (j : Nat) => .int .i64 (l.count (j : Int))
theorem counts_len (m : Nat) (l : List Int) : (counts m l).length = m := by simp [counts]
theorem counts_get {m j : Nat} (l : List Int) (h : j < m) : (counts m l)[j]? = some (.int .i64 (l.count (j : Int))) := by
  simp [counts, h]
theorem counts_snoc {m j : Nat} (l : List Int) (h : j < m) : counts m (l ++ [(j : Int)]) = (counts m l).set j (.int .i64 ((l.count (j : Int) : Nat) + 1)) := by
  apply List.ext_getElem?
  intro i
  rw [List.getElem?_set]
  by_cases e : j = i
  · subst e
    rw [if_pos rfl, if_pos (by rw [counts_len]; exact h), counts_get _ h]
    simp [List.count_append]
  · rw [if_neg e]
    by_cases hi : i < m
    · rw [counts_get _ hi, counts_get _ hi, List.count_append]
      have : ((i : Int) == (j : Int)) = false := by rw [beq_eq_false_iff_ne]; omega
      have h0 : List.count (i : Int) [(j : Int)] = 0 := by
        rw [List.count_eq_zero]; intro hm; simp at hm; omega
      rw [h0]; rfl
    · rw [List.getElem?_eq_none (by rw [counts_len]; omega), List.getElem?_eq_none (by rw [counts_len]; omega)]
theorem counts_nil (m : Nat) : counts m [] = List.replicate m (.int .i64 0) := by
  unfold counts
  apply List.ext_getElem
  · simp
  · intro i h1 h2; simp
/-- How many are below j. -/
def low (l : List Int) (j : Nat) : Nat := (l.filter fun x => decide (x < (j : Int))).length
theorem low_succ (l : List Int) (j : Nat) : low l (j + 1) = low l j + l.count (j : Int) := by
  unfold low
  induction l with
  | nil => rfl
  | cons x l ih =>
    by_cases h1 : x < (j : Int)
    · have h2 : x < ((j + 1 : Nat) : Int) := by omega
      have h3 : (x == (j : Int)) = false := by rw [beq_eq_false_iff_ne]; omega
      rw [List.filter_cons_of_pos (by simpa using h2), List.filter_cons_of_pos (by simpa using h1), List.count_cons, h3]
      simp at ih ⊢; omega
    · by_cases h2 : x = (j : Int)
      · subst h2
        rw [List.filter_cons_of_pos (by simp; omega), List.filter_cons_of_neg (by simp), List.count_cons_self]
        simp at ih ⊢; omega
      · have h3 : (x == (j : Int)) = false := by rw [beq_eq_false_iff_ne]; exact h2
        rw [List.filter_cons_of_neg (by simp; omega), List.filter_cons_of_neg (by simpa using h1), List.count_cons, h3]
        simp at ih ⊢; omega
theorem low_zero {l : List Int} (h : ∀ x ∈ l, 0 ≤ x) : low l 0 = 0 := by
  unfold low
  rw [List.filter_eq_nil_iff.2 (fun x hx => by have := h x hx; simp; omega)]; rfl
theorem low_all {l : List Int} {m : Nat} (h : ∀ x ∈ l, x < (m : Int)) : low l m = l.length := by
  unfold low
  rw [List.filter_eq_self.2 (fun x hx => by simpa using h x hx)]
theorem low_le (l : List Int) (j : Nat) : low l j ≤ l.length := List.length_filter_le _ _
theorem count_one {l : List Int} (hn : l.Nodup) (x : Int) : l.count x = if x ∈ l then 1 else 0 := by
  by_cases h : x ∈ l
  · rw [if_pos h]
    have h1 := List.count_pos_iff.2 h
    have h2 := List.nodup_iff_count.1 hn x
    omega
  · rw [if_neg h]; exact List.count_eq_zero.2 h
/-- Marks of the numbers below m. -/
def bools (m : Nat) (f : Nat → Bool) : List Value := (List.range m).map fun (j : Nat) => .bool (f j)
theorem bools_len (m : Nat) (f : Nat → Bool) : (bools m f).length = m := by simp [bools]
theorem bools_get {m j : Nat} (f : Nat → Bool) (h : j < m) : (bools m f)[j]? = some (.bool (f j)) := by simp [bools, h]
theorem bools_set {m j : Nat} (f : Nat → Bool) (b : Bool) (h : j < m) : (bools m f).set j (.bool b) = bools m (fun k => if k = j then b else f k) := by
  apply List.ext_getElem?
  intro i
  rw [List.getElem?_set]
  by_cases e : j = i
  · subst e
    rw [if_pos rfl, if_pos (by rw [bools_len]; exact h), bools_get _ h, if_pos rfl]
  · rw [if_neg e]
    by_cases hi : i < m
    · rw [bools_get _ hi, bools_get _ hi, if_neg (fun q => e q.symm)]
    · rw [List.getElem?_eq_none (by rw [bools_len]; omega), List.getElem?_eq_none (by rw [bools_len]; omega)]
theorem bools_congr {m : Nat} {f g : Nat → Bool} (h : ∀ j, j < m → f j = g j) : bools m f = bools m g := by
  unfold bools
  apply List.map_congr_left
  intro j hj
  rw [h j (List.mem_range.1 hj)]
theorem bools_none (m : Nat) : bools m (fun _ => false) = List.replicate m (.bool false) := by
  unfold bools
  apply List.ext_getElem
  · simp
  · intro i h1 h2; simp
/-- Numbers by their places below m. -/
def ints (m : Nat) (f : Int → Int) : List Value := (List.range m).map fun (j : Nat) => .int .i64 (f j)
theorem ints_len (m : Nat) (f : Int → Int) : (ints m f).length = m := by simp [ints]
theorem ints_get {m j : Nat} (f : Int → Int) (h : j < m) : (ints m f)[j]? = some (.int .i64 (f j)) := by simp [ints, h]
theorem ints_set {m j : Nat} (f : Int → Int) (b : Int) (h : j < m) : (ints m f).set j (.int .i64 b) = ints m (fun k => if k = j then b else f k) := by
  apply List.ext_getElem?
  intro i
  rw [List.getElem?_set]
  by_cases e : j = i
  · subst e
    rw [if_pos rfl, if_pos (by rw [ints_len]; exact h), ints_get _ h, if_pos rfl]
  · rw [if_neg e]
    by_cases hi : i < m
    · rw [ints_get _ hi, ints_get _ hi, if_neg (fun q => e (by omega))]
    · rw [List.getElem?_eq_none (by rw [ints_len]; omega), List.getElem?_eq_none (by rw [ints_len]; omega)]
theorem ints_zero (m : Nat) : ints m (fun _ => 0) = List.replicate m (.int .i64 0) := by
  unfold ints
  apply List.ext_getElem
  · simp
  · intro i h1 h2; simp
end Go.Proofs.YtgdlndpjfejmcaaGreat
/- Regions of reads before one store or call: a map's entry is read. -/
namespace Go.Proofs.YtgdlndpjfejmcaaGreat
open Go.RowKit
set_option linter.unusedVariables false
set_option maxRecDepth 100000
theorem wpStill_lookup_imap {P : Program} {w : World} {ops : Array Oper} {rest : List Oper} {o : Oper} {a : Act} {Q : Act → Prop} (hw : Region.wanted o (yielded ops a.tmps) = true)
    (m x : Operand) (t : TypeId) (hop : o.op = Op.lookup t m x false) (k e : TypeId) (q : IntKind) (ht : P.underlying t = some (.map k e)) (hk : P.underlying k = some (.int q))
    (z : Value) (hz : (zeroValue e).run P w = .ok z w) (b : Nat) (hm : a.eval m = .map (some b)) (ob : Obj) (l : List (Int × Value)) (hb : w.heap[b]? = some ob) (ho : MapBlk q l ob) (n : Int) (hx : a.eval x = .int q n)
    (hK : wpStill P ops w Q rest (a.put o.dst ((aget l n).getD z))) : wpStill P ops w Q (o :: rest) a := by
  refine wpStill_step fun K' hK' => ?_
  rw [if_pos hw]
  unfold Oper.still
  simp [execOp, hop, hm, hx, run_lookup_imap ht hk hb ho n false hz, Result.andThen, Oper.stillUpon]
  exact hK' _ hK
theorem run_max_int {P : Program} (w : World) (a : Array TypeId) (t : TypeId) (q : IntKind) (x y : Int) : (Builtin.max_ a t #[.int q x, .int q y]).run P w = .ok (.int q (max x y)) w := by
  have h : (if y > x then y else x) = max x y := by split <;> omega
  simp [Builtin.max_, List.foldlM, Builtin.max2, h]
theorem wpList_max_int {P : Program} {w : World} {ops : Array Oper} {rest : List Oper} {o : Oper} {a : Act} {Q : Exit → Act → World → Prop} (hg : o.guard = none) (x y : Operand) (ts : Array TypeId)
    (hop : o.op = Op.call { callee := Callee.builtin Builtin.max, args := #[x, y], argTypes := ts }) (q : IntKind) (m n : Int) (hx : a.eval x = .int q m) (hy : a.eval y = .int q n)
    (hK : wpList P ops Q rest (a.put o.dst (.int q (max m n))) w) : wpList P ops Q (o :: rest) a w := by
  refine wpList_plain hg fun K' hK' => ?_
  unfold Oper.wp
  simp [execOp, hop, resolve, invoke, builtin, hx, hy, run_max_int (P := P) w ts o.type, Result.andThen]
  exact hK' _ _ hK
theorem wpStill_max_int {P : Program} {w : World} {ops : Array Oper} {rest : List Oper} {o : Oper} {a : Act} {Q : Act → Prop} (hw : Region.wanted o (yielded ops a.tmps) = true) (x y : Operand) (ts : Array TypeId)
    (hop : o.op = Op.call { callee := Callee.builtin Builtin.max, args := #[x, y], argTypes := ts }) (q : IntKind) (m n : Int) (hx : a.eval x = .int q m) (hy : a.eval y = .int q n)
    (hK : wpStill P ops w Q rest (a.put o.dst (.int q (max m n)))) : wpStill P ops w Q (o :: rest) a := by
  refine wpStill_step fun K' hK' => ?_
  rw [if_pos hw]
  unfold Oper.still
  simp [execOp, hop, resolve, invoke, builtin, hx, hy, run_max_int (P := P) w ts o.type, Result.andThen, Oper.stillUpon]
  exact hK' _ hK
theorem run_min_int {P : Program} (w : World) (a : Array TypeId) (t : TypeId) (q : IntKind) (x y : Int) : (Builtin.min_ a t #[.int q x, .int q y]).run P w = .ok (.int q (min x y)) w := by
  have h : (if y < x then y else x) = min x y := by split <;> omega
  simp [Builtin.min_, List.foldlM, Builtin.min2, h]
theorem wpList_min_int {P : Program} {w : World} {ops : Array Oper} {rest : List Oper} {o : Oper} {a : Act} {Q : Exit → Act → World → Prop} (hg : o.guard = none) (x y : Operand) (ts : Array TypeId)
    (hop : o.op = Op.call { callee := Callee.builtin Builtin.min, args := #[x, y], argTypes := ts }) (q : IntKind) (m n : Int) (hx : a.eval x = .int q m) (hy : a.eval y = .int q n)
    (hK : wpList P ops Q rest (a.put o.dst (.int q (min m n))) w) : wpList P ops Q (o :: rest) a w := by
  refine wpList_plain hg fun K' hK' => ?_
  unfold Oper.wp
  simp [execOp, hop, resolve, invoke, builtin, hx, hy, run_min_int (P := P) w ts o.type, Result.andThen]
  exact hK' _ _ hK
theorem wpStill_min_int {P : Program} {w : World} {ops : Array Oper} {rest : List Oper} {o : Oper} {a : Act} {Q : Act → Prop} (hw : Region.wanted o (yielded ops a.tmps) = true) (x y : Operand) (ts : Array TypeId)
    (hop : o.op = Op.call { callee := Callee.builtin Builtin.min, args := #[x, y], argTypes := ts }) (q : IntKind) (m n : Int) (hx : a.eval x = .int q m) (hy : a.eval y = .int q n)
    (hK : wpStill P ops w Q rest (a.put o.dst (.int q (min m n)))) : wpStill P ops w Q (o :: rest) a := by
  refine wpStill_step fun K' hK' => ?_
  rw [if_pos hw]
  unfold Oper.still
  simp [execOp, hop, resolve, invoke, builtin, hx, hy, run_min_int (P := P) w ts o.type, Result.andThen, Oper.stillUpon]
  exact hK' _ hK
end Go.Proofs.YtgdlndpjfejmcaaGreat
