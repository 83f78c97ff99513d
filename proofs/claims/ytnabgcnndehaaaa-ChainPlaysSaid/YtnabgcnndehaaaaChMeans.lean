/- Layer 9 (chain): 256 keys, and what was set for each. -/
import Derived.Test.YtnabgcnndehaaaaChGrow
import Derived.Test.YtnabgcnndehaaaaChKeys
namespace Go.Proofs.Ytnabgcnndehaaaa
open Go.RowKit
set_option linter.unusedVariables false
def keyM (k : Nat) : ByteArray := key2 107 (k / 16) (k % 16)
theorem keyM_inj {i j : Nat} (hi : i < 256) (hj : j < 256) (h : keyM i = keyM j) : i = j := by
  have := key2_inj h (by omega) (by omega) (by omega) (by omega)
  omega
def putH (H : Nat → Int) (k : Nat) (v : Int) : Nat → Int := fun j => if j = k then v else H j
def cntH (H : Nat → Int) : Nat → Nat
  | 0 => 0
  | m + 1 => cntH H m + if H m = 0 then 0 else 1
theorem cntH_put_out (H : Nat → Int) {k : Nat} (v : Int) : ∀ m, m ≤ k → cntH (putH H k v) m = cntH H m
  | 0, _ => rfl
  | m + 1, h => by
    show cntH (putH H k v) m + (if putH H k v m = 0 then 0 else 1) = cntH H m + if H m = 0 then 0 else 1
    rw [cntH_put_out H v m (by omega), show putH H k v m = H m from if_neg (show m ≠ k by omega)]
theorem cntH_put (H : Nat → Int) {k : Nat} (v : Int) : ∀ m, k < m → cntH (putH H k v) m + (if H k = 0 then 0 else 1) = cntH H m + if v = 0 then 0 else 1
  | 0, h => absurd h (Nat.not_lt_zero _)
  | m + 1, h => by
    show cntH (putH H k v) m + (if putH H k v m = 0 then 0 else 1) + _ = cntH H m + (if H m = 0 then 0 else 1) + _
    by_cases e : m = k
    · subst e
      rw [cntH_put_out H v m (Nat.le_refl _), show putH H m v m = v from if_pos rfl]
      omega
    · rw [show putH H k v m = H m from if_neg e]
      have := cntH_put H (k := k) v m (by omega)
      omega
def keysH (H : Nat → Int) : Nat → List ByteArray
  | 0 => []
  | m + 1 => keysH H m ++ if H m = 0 then [] else [keyM m]
theorem keysH_len (H : Nat → Int) : ∀ m, (keysH H m).length = cntH H m
  | 0 => rfl
  | m + 1 => by
    show (keysH H m ++ _).length = cntH H m + _
    rw [List.length_append, keysH_len H m]
    split <;> rfl
theorem keysH_mem {H : Nat → Int} {k : ByteArray} : ∀ {m}, k ∈ keysH H m ↔ ∃ j, j < m ∧ H j ≠ 0 ∧ k = keyM j
  | 0 => ⟨fun h => (by cases h), fun ⟨i, h, _⟩ => absurd h (Nat.not_lt_zero _)⟩
  | m + 1 => by
    show k ∈ keysH H m ++ _ ↔ _
    rw [List.mem_append, keysH_mem (m := m)]
    constructor
    · rintro (⟨j, h, q⟩ | q)
      · exact ⟨j, by omega, q⟩
      · split at q
        · cases q
        · rename_i h; exact ⟨m, by omega, h, by simpa using q⟩
    · rintro ⟨j, h, q1, q2⟩
      by_cases e : j = m
      · subst e; exact Or.inr (by rw [if_neg q1]; simpa using q2)
      · exact Or.inl ⟨j, by omega, q1, q2⟩
theorem keysH_nodup {H : Nat → Int} : ∀ {m}, m ≤ 256 → (keysH H m).Nodup
  | 0, _ => List.nodup_nil
  | m + 1, h => by
    show (keysH H m ++ _).Nodup
    refine List.nodup_append.2 ⟨keysH_nodup (by omega), by split <;> simp, fun a ha b hb e => ?_⟩
    subst e
    obtain ⟨j, hj, _, hk⟩ := keysH_mem.1 ha
    split at hb
    · cases hb
    · have hb' : a = keyM m := by simpa using hb
      have := keyM_inj (by omega) (by omega) (hk.symm.trans hb')
      omega
theorem sub_len {α : Type} : ∀ {l1 l2 : List α}, l1.Nodup → (∀ x ∈ l1, x ∈ l2) → l1.length ≤ l2.length
  | [], _, _, _ => Nat.zero_le _
  | a :: l1, l2, hn, hs => by
    obtain ⟨s, t, rfl⟩ := List.append_of_mem (hs a (by simp))
    have hn' := List.nodup_cons.1 hn
    have := sub_len (l1 := l1) (l2 := s ++ t) hn'.2 (fun x hx => by
      have := hs x (List.mem_cons_of_mem _ hx)
      rcases List.mem_append.1 this with q | q
      · exact List.mem_append_left _ q
      · rcases List.mem_cons.1 q with q | q
        · subst q; exact absurd hx hn'.1
        · exact List.mem_append_right _ q)
    simp at this ⊢
    omega
/-- What each key was set to. -/
structure Mn (H : Nat → Int) (s : ChS) : Prop where
  l : ∀ k, k < 256 → look s (keyM k) = if H k = 0 then none else some (H k - 1)
  o : ∀ key, (look s key).isSome = true → ∃ k, k < 256 ∧ key = keyM k
  n : s.n = cntH H 256
theorem cntH_zero : ∀ m, cntH (fun _ => 0) m = 0
  | 0 => rfl
  | m + 1 => by show cntH _ m + 0 = 0; rw [cntH_zero m]
theorem look_ch0 (k : ByteArray) : look ch0 k = none := by
  unfold look home; rw [if_neg (fun q => by have := q.1; cases this)]; simp [ch0, getN]
theorem mn_start : Mn (fun _ => 0) ch0 := ⟨fun k _ => by rw [look_ch0, if_pos rfl], fun k h => (by rw [look_ch0] at h; cases h), (by rw [cntH_zero]; rfl)⟩
theorem Mn.is {H : Nat → Int} {s : ChS} (h : Mn H s) {k : Nat} (hk : k < 256) : (look s (keyM k)).isSome = decide (H k ≠ 0) := by
  rw [h.l k hk]; split
  · rename_i q; simp [q]
  · rename_i q; simp [q]
theorem Mn.set {H : Nat → Int} {s : ChS} (h : Mn H s) {k : Nat} (hk : k < 256) (n : Int) (hn : n + 1 ≠ 0) : Mn (putH H k (n + 1)) (setS s (keyM k) n) ∧ cntH (putH H k (n + 1)) 256 = if H k = 0 then cntH H 256 + 1 else cntH H 256 := by
  have hl := fun q => look_set (s := s) (keyM k) q n
  have hc := cntH_put H (k := k) (n + 1) 256 hk
  rw [if_neg hn] at hc
  have hc2 : cntH (putH H k (n + 1)) 256 = if H k = 0 then cntH H 256 + 1 else cntH H 256 := by
    split at hc <;> (rename_i q; simp only [q, if_true, if_false]; omega)
  refine ⟨⟨fun j hj => ?_, fun key q => ?_, ?_⟩, hc2⟩
  · rw [(hl _).1]
    by_cases e : j = k
    · subst e
      rw [if_pos rfl, show putH H j (n + 1) j = n + 1 from if_pos rfl, if_neg hn]
      simp
    · rw [if_neg (fun q => e (keyM_inj hj hk q)), show putH H k (n + 1) j = H j from if_neg e]
      exact h.l j hj
  · rw [(hl _).1] at q
    by_cases e : key = keyM k
    · exact ⟨k, hk, e⟩
    · rw [if_neg e] at q; exact h.o key q
  · rw [(hl (keyM k)).2, h.is hk, hc2, h.n]
    by_cases q : H k = 0
    · simp [q]
    · simp [q]
theorem Mn.del {H : Nat → Int} {s : ChS} (h : Mn H s) (hW : ChW s) {k : Nat} (hk : k < 256) : Mn (putH H k 0) (delS s (keyM k)) ∧ cntH (putH H k 0) 256 + (if H k = 0 then 0 else 1) = cntH H 256 := by
  have hl := fun q => look_del hW (keyM k) q
  have hc := cntH_put H (k := k) 0 256 hk
  rw [if_pos (rfl : (0 : Int) = 0), Nat.add_zero] at hc
  refine ⟨⟨fun j hj => ?_, fun key q => ?_, ?_⟩, hc⟩
  · rw [(hl _).1]
    by_cases e : j = k
    · subst e
      rw [if_pos rfl, show putH H j 0 j = 0 from if_pos rfl, if_pos rfl]
    · rw [if_neg (fun q => e (keyM_inj hj hk q)), show putH H k 0 j = H j from if_neg e]
      exact h.l j hj
  · rw [(hl _).1] at q
    by_cases e : key = keyM k
    · exact ⟨k, hk, e⟩
    · rw [if_neg e] at q; exact h.o key q
  · rw [(hl (keyM k)).2, h.is hk, h.n]
    by_cases q : H k = 0
    · simp [q] at hc ⊢; omega
    · simp [q] at hc ⊢; omega
theorem Mn.step {H : Nat → Int} {s : ChS} (h : Mn H s) (hW : ChW s) : Mn H (stepS s) :=
  ⟨fun k hk => by rw [(look_step hW _).1]; exact h.l k hk, fun key q => by rw [(look_step hW _).1] at q; exact h.o key q, by rw [(look_step hW ByteArray.empty).2]; exact h.n⟩
theorem Mn.all {H : Nat → Int} {s : ChS} (h : Mn H s) (hW : ChW s) : (keysS s).length = cntH H 256 := by
  have h1 : ∀ x, x ∈ keysS s ↔ x ∈ keysH H 256 := fun x => by
    rw [keysS_mem hW, keysH_mem]
    constructor
    · intro q
      obtain ⟨k, hk, rfl⟩ := h.o x q
      rw [h.is hk] at q
      exact ⟨k, hk, of_decide_eq_true q, rfl⟩
    · rintro ⟨k, hk, q, rfl⟩
      rw [h.is hk]; exact decide_eq_true q
  have a := sub_len (keysS_nodup hW) (fun x q => (h1 x).1 q)
  have b := sub_len (keysH_nodup (H := H) (Nat.le_refl 256)) (fun x q => (h1 x).2 q)
  rw [keysH_len] at a b
  omega
theorem cntH_le (H : Nat → Int) : ∀ m, cntH H m ≤ m
  | 0 => Nat.le_refl _
  | m + 1 => by
    show cntH H m + _ ≤ m + 1
    have := cntH_le H m
    split <;> omega
/-- How often a key is there. -/
def timesK (k : ByteArray) : List ByteArray → Nat
  | [] => 0
  | x :: l => (if x = k then 1 else 0) + timesK k l
theorem timesK_app (k : ByteArray) (a b : List ByteArray) : timesK k (a ++ b) = timesK k a + timesK k b := by
  induction a with
  | nil => simp [timesK]
  | cons x a ih => show _ + timesK k (a ++ b) = _ + timesK k a + _; rw [ih]; omega
theorem timesK_le (k : ByteArray) : ∀ l : List ByteArray, timesK k l ≤ l.length
  | [] => Nat.le_refl _
  | x :: l => by
    show (if x = k then 1 else 0) + timesK k l ≤ l.length + 1
    have := timesK_le k l
    split <;> omega
theorem timesK_take {k : ByteArray} {l : List ByteArray} {j : Nat} {x : ByteArray} (h : l[j]? = some x) : timesK k (l.take (j + 1)) = timesK k (l.take j) + if x = k then 1 else 0 := by
  obtain ⟨hi, hv⟩ := List.getElem?_eq_some_iff.1 h
  rw [List.take_succ_eq_append_getElem hi, timesK_app, hv]
  show _ + (_ + 0) = _
  rw [Nat.add_zero]
theorem timesK_zero {k : ByteArray} {l : List ByteArray} (h : k ∉ l) : timesK k l = 0 := by
  induction l with
  | nil => rfl
  | cons x l ih =>
    show (if x = k then 1 else 0) + timesK k l = 0
    rw [if_neg (fun e => h (by rw [e]; simp)), ih (fun q => h (List.mem_cons_of_mem _ q))]
theorem timesK_one {k : ByteArray} {l : List ByteArray} (hn : l.Nodup) (h : k ∈ l) : timesK k l = 1 := by
  induction l with
  | nil => cases h
  | cons x l ih =>
    have hn' := List.nodup_cons.1 hn
    show (if x = k then 1 else 0) + timesK k l = 1
    by_cases e : x = k
    · subst e; rw [if_pos rfl, timesK_zero hn'.1]
    · rw [if_neg e, ih hn'.2 ((List.mem_cons.1 h).elim (fun q => absurd q.symm e) (fun q => q))]
theorem times_keys {s : ChS} (hW : ChW s) (k : ByteArray) : timesK k (keysS s) = if (look s k).isSome then 1 else 0 := by
  by_cases h : (look s k).isSome = true
  · rw [if_pos h]; exact timesK_one (keysS_nodup hW) ((keysS_mem hW k).2 h)
  · rw [if_neg h]; exact timesK_zero (fun q => h ((keysS_mem hW k).1 q))
end Go.Proofs.Ytnabgcnndehaaaa
