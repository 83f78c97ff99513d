/- Counting numbers in lists, plainly. -/
import Derived.Test.YtlhiglhhnjljpaaStore
namespace Go.Proofs.Ytlhiglhhnjljpaa
set_option linter.unusedVariables false
/-- The rows one behind the other. -/
def flat (L : Nat → List Int) (k : Nat) : List Int := (List.range k).flatMap L
theorem flat_zero (L : Nat → List Int) : flat L 0 = [] := rfl
theorem flat_succ (L : Nat → List Int) (k : Nat) : flat L (k + 1) = flat L k ++ L k := by
  unfold flat; rw [List.range_succ, List.flatMap_append]; simp
theorem mem_flat {L : Nat → List Int} {k : Nat} {x : Int} : x ∈ flat L k ↔ ∃ r, r < k ∧ x ∈ L r := by
  unfold flat; simp
theorem flat_nodup {L : Nat → List Int} : ∀ (k : Nat), (∀ r, r < k → (L r).Nodup) → (∀ r s, r < k → s < k → ∀ x, x ∈ L r → x ∈ L s → s = r) → (flat L k).Nodup
  | 0, _, _ => List.nodup_nil
  | k + 1, h1, h2 => by
    rw [flat_succ, List.nodup_append]
    refine ⟨flat_nodup k (fun r hr => h1 r (by omega)) (fun r s hr hs => h2 r s (by omega) (by omega)), h1 k (by omega), fun a ha b hb e => ?_⟩
    obtain ⟨r, hr, har⟩ := mem_flat.1 ha
    subst e
    have := h2 r k (by omega) (by omega) a har hb
    omega
theorem flat_len_le {L : Nat → List Int} {N : Nat} (h : ∀ r, (L r).length ≤ N) : ∀ k, (flat L k).length ≤ k * N
  | 0 => by simp [flat_zero]
  | k + 1 => by
    rw [flat_succ, List.length_append, Nat.add_mul]
    have := flat_len_le h k
    have := h k
    omega
/-- How often each number below m is there. -/
def counts (m : Nat) (l : List Int) : List Value := (List.range m).map fun (j : Nat) => .int .i64 (l.count (j : Int))
theorem counts_len (m : Nat) (l : List Int) : (counts m l).length = m := by simp [counts]
theorem counts_get {m j : Nat} (l : List Int) (h : j < m) : (counts m l)[j]? = some (.int .i64 (l.count (j : Int))) := by
  simp [counts, h]
theorem counts_snoc {m j : Nat} (l : List Int) (h : j < m) : counts m (l ++ [(j : Int)]) = (counts m l).set j (.int .i64 ((l.count (j : Int) : Nat) + 1)) := by
  apply List.ext_getElem?
  intro i
  rw [List.getElem?_set]
  by_cases e : j = i
  · subst e
    rw [if_pos rfl, if_pos (by rw [counts_len]; exact h), counts_get _ h]
    simp [List.count_append]
  · rw [if_neg e]
    by_cases hi : i < m
    · rw [counts_get _ hi, counts_get _ hi, List.count_append]
      have : ((i : Int) == (j : Int)) = false := by rw [beq_eq_false_iff_ne]; omega
      have h0 : List.count (i : Int) [(j : Int)] = 0 := by
        rw [List.count_eq_zero]; intro hm; simp at hm; omega
      rw [h0]; rfl
    · rw [List.getElem?_eq_none (by rw [counts_len]; omega), List.getElem?_eq_none (by rw [counts_len]; omega)]
theorem counts_nil (m : Nat) : counts m [] = List.replicate m (.int .i64 0) := by
  unfold counts
  apply List.ext_getElem
  · simp
  · intro i h1 h2; simp
/-- How many are below j. -/
def low (l : List Int) (j : Nat) : Nat := (l.filter fun x => decide (x < (j : Int))).length
theorem low_succ (l : List Int) (j : Nat) : low l (j + 1) = low l j + l.count (j : Int) := by
  unfold low
  induction l with
  | nil => rfl
  | cons x l ih =>
    by_cases h1 : x < (j : Int)
    · have h2 : x < ((j + 1 : Nat) : Int) := by omega
      have h3 : (x == (j : Int)) = false := by rw [beq_eq_false_iff_ne]; omega
      rw [List.filter_cons_of_pos (by simpa using h2), List.filter_cons_of_pos (by simpa using h1), List.count_cons, h3]
      simp at ih ⊢; omega
    · by_cases h2 : x = (j : Int)
      · subst h2
        rw [List.filter_cons_of_pos (by simp; omega), List.filter_cons_of_neg (by simp), List.count_cons_self]
        simp at ih ⊢; omega
      · have h3 : (x == (j : Int)) = false := by rw [beq_eq_false_iff_ne]; exact h2
        rw [List.filter_cons_of_neg (by simp; omega), List.filter_cons_of_neg (by simpa using h1), List.count_cons, h3]
        simp at ih ⊢; omega
theorem low_zero {l : List Int} (h : ∀ x ∈ l, 0 ≤ x) : low l 0 = 0 := by
  unfold low
  rw [List.filter_eq_nil_iff.2 (fun x hx => by have := h x hx; simp; omega)]; rfl
theorem low_all {l : List Int} {m : Nat} (h : ∀ x ∈ l, x < (m : Int)) : low l m = l.length := by
  unfold low
  rw [List.filter_eq_self.2 (fun x hx => by simpa using h x hx)]
theorem low_le (l : List Int) (j : Nat) : low l j ≤ l.length := List.length_filter_le _ _
theorem count_one {l : List Int} (hn : l.Nodup) (x : Int) : l.count x = if x ∈ l then 1 else 0 := by
  by_cases h : x ∈ l
  · rw [if_pos h]
    have h1 := List.count_pos_iff.2 h
    have h2 := List.nodup_iff_count.1 hn x
    omega
  · rw [if_neg h]; exact List.count_eq_zero.2 h
/-- Marks of the numbers below m. -/
def bools (m : Nat) (f : Nat → Bool) : List Value := (List.range m).map fun (j : Nat) => .bool (f j)
theorem bools_len (m : Nat) (f : Nat → Bool) : (bools m f).length = m := by simp [bools]
theorem bools_get {m j : Nat} (f : Nat → Bool) (h : j < m) : (bools m f)[j]? = some (.bool (f j)) := by simp [bools, h]
theorem bools_set {m j : Nat} (f : Nat → Bool) (b : Bool) (h : j < m) : (bools m f).set j (.bool b) = bools m (fun k => if k = j then b else f k) := by
  apply List.ext_getElem?
  intro i
  rw [List.getElem?_set]
  by_cases e : j = i
  · subst e
    rw [if_pos rfl, if_pos (by rw [bools_len]; exact h), bools_get _ h, if_pos rfl]
  · rw [if_neg e]
    by_cases hi : i < m
    · rw [bools_get _ hi, bools_get _ hi, if_neg (fun q => e q.symm)]
    · rw [List.getElem?_eq_none (by rw [bools_len]; omega), List.getElem?_eq_none (by rw [bools_len]; omega)]
theorem bools_congr {m : Nat} {f g : Nat → Bool} (h : ∀ j, j < m → f j = g j) : bools m f = bools m g := by
  unfold bools
  apply List.map_congr_left
  intro j hj
  rw [h j (List.mem_range.1 hj)]
theorem bools_none (m : Nat) : bools m (fun _ => false) = List.replicate m (.bool false) := by
  unfold bools
  apply List.ext_getElem
  · simp
  · intro i h1 h2; simp
/-- Numbers by their places below m. -/
def ints (m : Nat) (f : Int → Int) : List Value := (List.range m).map fun (j : Nat) => .int .i64 (f j)
theorem ints_len (m : Nat) (f : Int → Int) : (ints m f).length = m := by simp [ints]
theorem ints_get {m j : Nat} (f : Int → Int) (h : j < m) : (ints m f)[j]? = some (.int .i64 (f j)) := by simp [ints, h]
theorem ints_set {m j : Nat} (f : Int → Int) (b : Int) (h : j < m) : (ints m f).set j (.int .i64 b) = ints m (fun k => if k = j then b else f k) := by
  apply List.ext_getElem?
  intro i
  rw [List.getElem?_set]
  by_cases e : j = i
  · subst e
    rw [if_pos rfl, if_pos (by rw [ints_len]; exact h), ints_get _ h, if_pos rfl]
  · rw [if_neg e]
    by_cases hi : i < m
    · rw [ints_get _ hi, ints_get _ hi, if_neg (fun q => e (by omega))]
    · rw [List.getElem?_eq_none (by rw [ints_len]; omega), List.getElem?_eq_none (by rw [ints_len]; omega)]
theorem ints_zero (m : Nat) : ints m (fun _ => 0) = List.replicate m (.int .i64 0) := by
  unfold ints
  apply List.ext_getElem
  · simp
  · intro i h1 h2; simp
end Go.Proofs.Ytlhiglhhnjljpaa
