/- Where nobody is active: who came first goes first, plainly. -/
import Derived.Test.YtldnacphfoagnacSegSep
namespace Go.Proofs.Ytldnacphfoagnac
set_option linter.unusedVariables false
/-- So many numbers from a on. -/
def up (a m : Nat) : List Int := (List.range m).map fun (j : Nat) => ((a + j : Nat) : Int)
theorem up_snoc (m : Nat) : up 0 (m + 1) = up 0 m ++ [(m : Int)] := by simp [up, List.range_succ]
theorem up_cons (a m : Nat) : up a (m + 1) = (a : Int) :: up (a + 1) m := by
  unfold up
  rw [List.range_succ_eq_map, List.map_cons, List.map_map]
  congr 1
  apply List.map_congr_left
  intro j _
  simp only [Function.comp]
  congr 1; omega
theorem mem_up {a m : Nat} {x : Int} : x ∈ up a m ↔ (a : Int) ≤ x ∧ x < a + m := by
  unfold up
  rw [List.mem_map]
  constructor
  · rintro ⟨j, hj, rfl⟩
    have := List.mem_range.1 hj
    omega
  · rintro ⟨h1, h2⟩
    exact ⟨(x - a).toNat, List.mem_range.2 (by omega), by omega⟩
theorem up_nodup (a m : Nat) : (up a m).Nodup := by
  unfold up
  rw [List.Nodup, List.pairwise_map]
  exact List.Pairwise.imp (fun h e => h (by omega)) List.nodup_range
/-- Hot and cold together are l; nobody is active. -/
structure FI (L : Nat → List Int) (A : Int → Bool) (l : List Int) : Prop where
  all : L 0 ++ L 2 = l
  warm : L 1 = []
  over : ∀ r, 3 ≤ r → L r = []
  idle : ∀ x, A x = false
  nodup : l.Nodup
  range : ∀ x, x ∈ l → 0 ≤ x ∧ x ≤ 4194303
theorem filter_not {l : List Int} {x : Int} (h : x ∉ l) : l.filter (· != x) = l := by
  rw [List.filter_eq_self]; intro y hy; simp only [bne_iff_ne, ne_eq]; intro e; subst e; exact h hy
theorem FI.mem {L : Nat → List Int} {A : Int → Bool} {l : List Int} (h : FI L A l) (x : Int) : x ∈ l ↔ x ∈ L 0 ∨ x ∈ L 2 := by rw [← h.all, List.mem_append]
theorem FI.row {L : Nat → List Int} {A : Int → Bool} {l : List Int} (h : FI L A l) (x : Int) : decide (0 ≤ rowOf 3 L x) = decide (x ∈ l) := by
  by_cases hx : x ∈ l
  · rw [decide_eq_true hx, decide_eq_true]
    unfold rowOf
    cases e : (List.range 3).find? (fun r => decide (x ∈ L r)) with
    | none =>
      have := List.find?_eq_none.1 e
      rcases (h.mem x).1 hx with q | q
      · exact absurd q (by simpa using this 0 (by decide))
      · exact absurd q (by simpa using this 2 (by decide))
    | some r => simp
  · rw [decide_eq_false hx, decide_eq_false]
    rw [rowOf_none (fun r hr q => by
      match r, hr, q with
      | 0, _, q => exact hx ((h.mem x).2 (Or.inl q))
      | 1, _, q => rw [h.warm] at q; cases q
      | 2, _, q => exact hx ((h.mem x).2 (Or.inr q)))]
    decide
theorem FI.notin {L : Nat → List Int} {A : Int → Bool} {l : List Int} (h : FI L A l) {x : Int} (hx : x ∉ l) : ∀ s, x ∉ L s := fun s q => by
  match s, q with
  | 0, q => exact hx ((h.mem x).2 (Or.inl q))
  | 1, q => rw [h.warm] at q; cases q
  | 2, q => exact hx ((h.mem x).2 (Or.inr q))
  | s + 3, q => rw [h.over (s + 3) (by omega)] at q; cases q
theorem FI.insert {L : Nat → List Int} {A : Int → Bool} {l : List Int} (h : FI L A l) {x : Int} (hx : x ∉ l) (h2 : L 2 = []) (hr : 0 ≤ x ∧ x ≤ 4194303) : FI (insL L x) A (x :: l) ∧ insL L x 2 = [] := by
  have hno := h.notin hx
  have hrow : rowOf 3 L x < 0 := by rw [rowOf_none (fun r _ => hno r)]; decide
  have hm : mayIn 3 0 x = true := decide_eq_true ⟨by decide, by decide, hr⟩
  have e : insL L x = putF L 0 x := by
    unfold insL frontL
    rw [if_pos hrow, hm, if_pos rfl, del_none hno]; rfl
  rw [e]
  refine ⟨⟨?_, h.warm, fun r hr3 => ?_, h.idle, List.nodup_cons.2 ⟨hx, h.nodup⟩, fun y hy => ?_⟩, h2⟩
  · show (x :: L 0) ++ L 2 = _
    rw [List.cons_append, h.all]
  · unfold putF; rw [if_neg (by omega)]; exact h.over r hr3
  · rcases List.mem_cons.1 hy with q | q
    · rw [q]; exact hr
    · exact h.range y q
theorem last_split {l : List Int} (h : l ≠ []) : ∃ u, l = u ++ [lastOf l] := by
  refine ⟨l.dropLast, ?_⟩
  unfold lastOf
  rw [List.getLastD_eq_getLast?, List.getLast?_eq_some_getLast h]
  exact (List.dropLast_concat_getLast h).symm
theorem FI.step {L : Nat → List Int} {A : Int → Bool} {l : List Int} (h : FI L A l) : FI (stepL L A) (stepA L A) l := by
  by_cases hw : whoF L A < 0
  · unfold stepL stepA; rw [if_pos hw, if_pos hw]; exact h
  · have hne : 20 * tot L / 100 < (L 0).length := by
      rcases Nat.lt_or_ge (20 * tot L / 100) (L 0).length with q | q
      · exact q
      · exfalso; apply hw
        unfold whoF
        rw [if_neg (by omega), if_neg (by rw [h.warm]; simp), if_neg (by rw [h.idle]; decide)]
        decide
    have hwe : whoF L A = lastOf (L 0) := by unfold whoF; rw [if_pos hne]
    have h0 : L 0 ≠ [] := fun e => by rw [e] at hne; simp at hne
    obtain ⟨u, hu⟩ := last_split h0
    obtain ⟨x, hx⟩ : ∃ x, lastOf (L 0) = x := ⟨_, rfl⟩
    rw [hx] at hwe hu
    have hnd : (u ++ (x :: L 2)).Nodup := by
      have := h.nodup
      rw [← h.all, hu] at this
      simpa using this
    have hxu : x ∉ u := fun q => (List.nodup_append.1 hnd).2.2 x q x (by simp) rfl
    have hx2 : x ∉ L 2 := (List.nodup_cons.1 (List.nodup_append.1 hnd).2.1).1
    have hxl : x ∈ l := (h.mem x).2 (Or.inl (by rw [hu]; simp))
    have hm : mayIn 3 2 x = true := decide_eq_true ⟨by decide, by decide, h.range x hxl⟩
    unfold stepL stepA
    rw [if_neg hw, if_neg hw, hwe, h.idle x, if_neg (by decide)]
    unfold frontL
    rw [hm, if_pos rfl]
    refine ⟨?_, ?_, fun r hr => ?_, fun y => ?_, h.nodup, h.range⟩
    · show (L 0).filter (· != x) ++ (x :: (L 2).filter (· != x)) = l
      rw [filter_not hx2, hu, List.filter_append, filter_not hxu]
      simp
      rw [← h.all, hu]; simp
    · show (L 1).filter _ = []
      rw [h.warm]; rfl
    · unfold putF
      rw [if_neg (show ¬ r = (2 : Int).toNat from by simp; omega)]
      show (L r).filter _ = []
      rw [h.over r hr]; rfl
    · unfold setB'; split
      · rfl
      · exact h.idle y
theorem lastOf_append (u : List Int) {v : List Int} (h : v ≠ []) : lastOf (u ++ v) = lastOf v := by
  unfold lastOf
  rw [List.getLastD_eq_getLast?, List.getLastD_eq_getLast?, List.getLast?_append, List.getLast?_eq_some_getLast h]
  rfl
theorem FI.vict {L : Nat → List Int} {A : Int → Bool} {l : List Int} (h : FI L A l) : vict L = lastOf l := by
  unfold Proofs.Ytldnacphfoagnac.vict
  by_cases h2 : L 2 = []
  · rw [h2, h.warm, if_neg (by decide), if_neg (by decide), ← h.all, h2, List.append_nil]
  · have hx : lastOf (L 2) ∈ L 2 := by
      obtain ⟨u, hu⟩ := last_split h2
      rw [hu]; simp [lastOf]
    have := h.range _ ((h.mem _).2 (Or.inr hx))
    rw [if_pos this.1, ← h.all, lastOf_append _ h2]
theorem FI.remove {L : Nat → List Int} {A : Int → Bool} {l : List Int} (h : FI L A l) (x : Int) : FI (del L x) (setB' A x false) (l.filter (· != x)) := by
  refine ⟨?_, ?_, fun r hr => ?_, fun y => ?_, h.nodup.filter _, fun y hy => h.range y (List.mem_filter.1 hy).1⟩
  · show (L 0).filter _ ++ (L 2).filter _ = _
    rw [← List.filter_append, h.all]
  · show (L 1).filter _ = _
    rw [h.warm]; rfl
  · show (L r).filter _ = _
    rw [h.over r hr]; rfl
  · unfold setB'; split
    · rfl
    · exact h.idle y
theorem FI.none {L : Nat → List Int} {A : Int → Bool} (h : FI L A []) : Proofs.Ytldnacphfoagnac.vict L = -1 ∧ decide (0 ≤ whoF L A) = false := by
  refine ⟨h.vict, decide_eq_false ?_⟩
  have h0 : L 0 = [] := (List.append_eq_nil_iff.1 h.all).1
  unfold whoF
  rw [if_neg (by rw [h0]; simp), if_neg (by rw [h.warm]; simp), if_neg (by rw [h.idle]; decide)]
  decide
theorem down_filter (i m : Nat) : ((up i (m + 1)).reverse).filter (· != (i : Int)) = (up (i + 1) m).reverse := by
  rw [up_cons, List.reverse_cons, List.filter_append, filter_not]
  · simp
  · intro q
    rw [List.mem_reverse, mem_up] at q
    omega
theorem down_last (i m : Nat) : lastOf (up i (m + 1)).reverse = i := by
  rw [up_cons, List.reverse_cons]; simp [lastOf]
end Go.Proofs.Ytldnacphfoagnac
