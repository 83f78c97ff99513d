/- Layer 9 (chain), off memory: all keys, each once. -/
import Derived.Test.YtnabgcnndehaaaaChLaw
namespace Go.Proofs.Ytnabgcnndehaaaa
open Go.RowKit
set_option linter.unusedVariables false
/-- The keys of so many buckets. -/
def rowsK (F : Nat → List KN) : Nat → List ByteArray
  | 0 => []
  | m + 1 => rowsK F m ++ ks (F m)
theorem rowsK_mem {F : Nat → List KN} {k : ByteArray} : ∀ {m : Nat}, k ∈ rowsK F m ↔ ∃ i, i < m ∧ k ∈ ks (F i)
  | 0 => ⟨fun h => (by cases h), fun ⟨i, h, _⟩ => absurd h (Nat.not_lt_zero _)⟩
  | m + 1 => by
    show k ∈ rowsK F m ++ ks (F m) ↔ _
    rw [List.mem_append, rowsK_mem (m := m)]
    constructor
    · rintro (⟨i, h, q⟩ | q)
      · exact ⟨i, by omega, q⟩
      · exact ⟨m, by omega, q⟩
    · rintro ⟨i, h, q⟩
      by_cases e : i = m
      · exact Or.inr (e ▸ q)
      · exact Or.inl ⟨i, by omega, q⟩
theorem rowsK_nodup {F : Nat → List KN} {f : ByteArray → Nat} (h1 : ∀ i, (ks (F i)).Nodup) (h2 : ∀ i k, k ∈ ks (F i) → f k = i) : ∀ m, (rowsK F m).Nodup
  | 0 => List.nodup_nil
  | m + 1 => by
    show (rowsK F m ++ ks (F m)).Nodup
    refine List.nodup_append.2 ⟨rowsK_nodup h1 h2 m, h1 m, fun a ha b hb e => ?_⟩
    subst e
    obtain ⟨i, hi, q⟩ := rowsK_mem.1 ha
    have a1 := h2 _ _ q
    have a2 := h2 _ _ hb
    omega
theorem rowsK_nil {F : Nat → List KN} {m : Nat} (h : ∀ i, i < m → F i = []) : rowsK F m = [] := by
  refine List.eq_nil_iff_forall_not_mem.2 fun k hk => ?_
  obtain ⟨i, hi, q⟩ := rowsK_mem.1 hk
  rw [h i hi] at q
  cases q
def keysS (s : ChS) : List ByteArray := (if s.g then rowsK s.O (2 ^ (s.pw - 1)) else []) ++ rowsK s.R (2 ^ s.pw)
theorem keysS_mem {s : ChS} (hW : ChW s) (k : ByteArray) : k ∈ keysS s ↔ (look s k).isSome = true := by
  unfold keysS look home
  rw [List.mem_append]
  by_cases ho : inOld s k
  · rw [if_pos ho, if_pos ho.1, rowsK_mem, rowsK_mem, getN_some]
    constructor
    · rintro (⟨i, h, q⟩ | ⟨i, h, q⟩)
      · rw [hW.O2 ho.1 i k q]; exact q
      · have := hW.RG ho.1 i k q
        have := ho.2
        omega
    · exact fun q => Or.inl ⟨_, hx_lt _ _, q⟩
  · rw [if_neg ho, getN_some]
    constructor
    · rintro (q | q)
      · by_cases hg : s.g = true
        · rw [if_pos hg] at q
          obtain ⟨i, h, q⟩ := rowsK_mem.1 q
          have hi := hW.O2 hg i k q
          by_cases hm : i < s.m
          · rw [hW.OG hg i hm] at q; cases q
          · exact absurd ⟨hg, by omega⟩ ho
        · rw [if_neg hg] at q; cases q
      · obtain ⟨i, h, q⟩ := rowsK_mem.1 q
        rw [hW.R2 i k q]; exact q
    · exact fun q => Or.inr (rowsK_mem.2 ⟨_, hx_lt _ _, q⟩)
theorem keysS_nodup {s : ChS} (hW : ChW s) : (keysS s).Nodup := by
  unfold keysS
  refine List.nodup_append.2 ⟨?_, rowsK_nodup hW.R1 (f := fun k => hx k s.pw) hW.R2 _, ?_⟩
  · split
    · rename_i hg
      exact rowsK_nodup (hW.O1 hg) (f := fun k => hx k (s.pw - 1)) (hW.O2 hg) _
    · exact List.nodup_nil
  · intro a ha b hb e
    subst e
    by_cases hg : s.g = true
    · rw [if_pos hg] at ha
      obtain ⟨i, hi, q⟩ := rowsK_mem.1 ha
      obtain ⟨j, hj, q2⟩ := rowsK_mem.1 hb
      have a1 := hW.O2 hg i a q
      have a2 := hW.RG hg j a q2
      have : ¬ i < s.m := fun h => by rw [hW.OG hg i h] at q; cases q
      omega
    · rw [if_neg hg] at ha; cases ha
end Go.Proofs.Ytnabgcnndehaaaa
