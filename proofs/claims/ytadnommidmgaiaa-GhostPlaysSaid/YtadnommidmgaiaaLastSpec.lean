/- Plainly: the last ones of a row of different numbers. -/
import Derived.Test.YtadnommidmgaiaaGhostShown
namespace Go.Proofs.Ytadnommidmgaiaa
open Go.RowKit
set_option linter.unusedVariables false
def nth (a : Int) (k : Nat) : Int := IntKind.u64.wrap (a + k * 3)
def firsts (a : Int) (k : Nat) : List Int := (List.range k).map (nth a)
theorem firsts_succ (a : Int) (k : Nat) : firsts a (k + 1) = firsts a k ++ [nth a k] := by simp [firsts, List.range_succ]
theorem firsts_len (a : Int) (k : Nat) : (firsts a k).length = k := by simp [firsts]
theorem mod_inj3 (a : Int) (i j : Nat) (hi : i < 300) (hj : j < 300) (M : Int) (hM : 100000 < M) (h : (a + (i:Int) * 3) % M = (a + (j:Int) * 3) % M) : i = j := by
  have h2 : (a + (i:Int) * 3 - (a + (j:Int) * 3)) % M = 0 := Int.emod_eq_emod_iff_emod_sub_eq_zero.1 h
  rw [show a + (i:Int) * 3 - (a + (j:Int) * 3) = (i:Int) * 3 - (j:Int) * 3 from by omega] at h2
  obtain ⟨c, hc⟩ := Int.dvd_of_emod_eq_zero h2
  have : c = 0 := by
    rcases Int.lt_trichotomy c 0 with hc0 | hc0 | hc0
    · have : M * c ≤ M * (-1) := Int.mul_le_mul_of_nonneg_left (by omega) (by omega)
      omega
    · exact hc0
    · have : M * 1 ≤ M * c := Int.mul_le_mul_of_nonneg_left (by omega) (by omega)
      omega
  subst this
  omega
theorem nth_inj {a : Int} {i j : Nat} (hi : i < 300) (hj : j < 300) (h : nth a i = nth a j) : i = j := by
  unfold nth at h; rw [IntKind.wrap_u64, IntKind.wrap_u64] at h
  exact mod_inj3 a i j hi hj _ (by decide) h
theorem last_step (p a : Int) (hp : 0 ≤ p) (k : Nat) (hk : k < 250) : gadd p (cut p (firsts a k)) (nth a k) = cut p (firsts a (k + 1)) := by
  have hno : (cut p (firsts a k)).filter (· != nth a k) = cut p (firsts a k) := by
    rw [List.filter_eq_self]; intro x hx
    have hx := List.mem_of_mem_drop hx
    obtain ⟨j, hj, rfl⟩ := List.mem_map.1 hx
    have hj := List.mem_range.1 hj
    simp only [bne_iff_ne, ne_eq]
    intro e; have := nth_inj (by omega) (by omega) e; omega
  unfold gadd
  rw [hno, firsts_succ]
  unfold cut
  simp only [List.length_append, List.length_drop, firsts_len, List.length_singleton]
  by_cases h : k < p.toNat
  · have e0 : k - p.toNat = 0 := by omega
    have e1 : k - (k - p.toNat) + 1 - p.toNat = 0 := by omega
    have e2 : k + 1 - p.toNat = 0 := by omega
    rw [e1, e2, e0]; rfl
  · by_cases h2 : p.toNat = 0
    · rw [h2]
      simp
      rw [List.drop_of_length_le (by simp [firsts_len]), List.drop_of_length_le (by simp [firsts_len])]
      rfl
    · rw [show k - (k - p.toNat) + 1 - p.toNat = 1 from by omega]
      have e1 : (firsts a k).drop (k - p.toNat) ≠ [] := by
        intro e; have := congrArg List.length e; simp [firsts_len] at this; omega
      rw [List.drop_append_of_le_length (by rw [List.length_drop, firsts_len]; omega), List.drop_drop, List.drop_append_of_le_length (by rw [firsts_len]; omega)]
      congr 2; omega
theorem last_len (p a : Int) (k : Nat) : (cut p (firsts a k)).length = min k p.toNat := by
  unfold cut; rw [List.length_drop, firsts_len]; omega
theorem last_mem (p a : Int) (n i : Nat) (hi : i < n) (hn : n < 300) : (nth a i ∈ cut p (firsts a n)) ↔ n - min n p.toNat ≤ i := by
  unfold cut
  rw [firsts_len, show n - p.toNat = n - min n p.toNat from by omega]
  constructor
  · intro h
    obtain ⟨j, hj⟩ := List.getElem?_of_mem h
    rw [List.getElem?_drop] at hj
    have hlt := (List.getElem?_eq_some_iff.1 hj).1
    rw [firsts_len] at hlt
    simp [firsts, hlt] at hj
    have := nth_inj (by omega) (by omega) hj
    omega
  · intro h
    refine List.mem_of_getElem? (i := i - (n - min n p.toNat)) ?_
    rw [List.getElem?_drop, show n - min n p.toNat + (i - (n - min n p.toNat)) = i from by omega]
    simp [firsts, hi]
theorem last_get (p a : Int) (n i : Nat) (hi : i < n) (h : n - min n p.toNat ≤ i) : (cut p (firsts a n))[i - (n - min n p.toNat)]? = some (nth a i) := by
  unfold cut
  rw [firsts_len, show n - p.toNat = n - min n p.toNat from by omega, List.getElem?_drop, show n - min n p.toNat + (i - (n - min n p.toNat)) = i from by omega]
  simp [firsts, hi]
/-- A slice of numbers: its value, and each of its cells. -/
theorem sl_ints {w : World} {S : Nat → Prop} {T : TypeId} {v : Value} {n : Nat} {L : List Int} (hsl : Sl w S T 1 v n (u64s L)) :
    ∃ a cap, v = .slice a n cap ∧ ∀ k x, L[k]? = some x → ∃ b off, a = some ⟨b, off, none⟩ ∧ b < w.heap.size ∧ w.cell? ⟨b, off + k, none⟩ = some (.int .u64 x) := by
  obtain ⟨a, cap, rfl, _⟩ := hsl.shape
  refine ⟨a, cap, rfl, fun k x h => ?_⟩
  have hk := (List.getElem?_eq_some_iff.1 h).1
  have hn : n = L.length := by have := hsl.1; simp [u64s] at this; omega
  obtain ⟨b, off, cap', hv, hS, hb, _, hx, _⟩ := hsl.pos (by omega)
  simp at hv
  exact ⟨b, off, hv.1, hb, by rw [hx k (by simpa [u64s] using hk)]; simp [u64s, h]⟩
theorem sl_intsS {w : World} {S : Nat → Prop} {T : TypeId} {v : Value} {n : Nat} {L : List Int} (hsl : Sl w S T 1 v n (u64s L)) :
    ∃ a cap, v = .slice a n cap ∧ n = L.length ∧ ∀ k x, L[k]? = some x → ∃ b off, a = some ⟨b, off, none⟩ ∧ S b ∧ b < w.heap.size ∧ w.cell? ⟨b, off + k, none⟩ = some (.int .u64 x) := by
  obtain ⟨a, cap, rfl, _⟩ := hsl.shape
  have hn : n = L.length := by have := hsl.1; simp [u64s] at this; omega
  refine ⟨a, cap, rfl, hn, fun k x h => ?_⟩
  have hk := (List.getElem?_eq_some_iff.1 h).1
  obtain ⟨b, off, cap', hv, hS, hb, _, hx, _⟩ := hsl.pos (by omega)
  simp at hv
  exact ⟨b, off, hv.1, hS, hb, by rw [hx k (by simpa [u64s] using hk)]; simp [u64s, h]⟩
theorem GhostAt.nodup {w : World} {S : Nat → Prop} {g : Nat} {most : Int} {L : List Int} {N : Nat} (h : GhostAt w S g most L N) : L.Nodup := by
  obtain ⟨l, row, first, _, _, hL, _⟩ := h
  rw [← hL]; exact live_nodup _ _ _
theorem ntmod_rng (x n : Int) (h : x ≤ 0) (hn : 0 < n) : 0 ≤ -x.tmod n ∧ -x.tmod n < n := by
  rw [← Int.neg_tmod, Int.tmod_eq_emod_of_nonneg (by omega)]
  exact ⟨Int.emod_nonneg _ (by omega), Int.emod_lt_of_pos _ hn⟩
end Go.Proofs.Ytadnommidmgaiaa
