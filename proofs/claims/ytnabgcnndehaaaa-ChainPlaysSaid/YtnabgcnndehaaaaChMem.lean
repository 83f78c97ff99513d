/- Layer 9 (chain) in memory: buckets of entries that hang one on another. -/
import Derived.Test.YtnabgcnndehaaaaFnvC
import Derived.Test.YtnabgcnndehaaaaSep
namespace Go.Proofs.Ytnabgcnndehaaaa
open Go.RowKit
set_option linter.unusedVariables false
abbrev KN := ByteArray × Int
def fk (k : ByteArray) : Int := fnv k.data.toList
theorem fk_range (k : ByteArray) : 0 ≤ fk k ∧ fk k < 18446744073709551616 := fnv_range _
def hx (k : ByteArray) (p : Nat) : Nat := (fk k).toNat % 2 ^ p
theorem hx_lt (k : ByteArray) (p : Nat) : hx k p < 2 ^ p := Nat.mod_lt _ (Nat.pow_pos (by decide))
theorem bkt_hx (k : ByteArray) {p : Nat} (hp : p ≤ 30) : bkt (fk k) p = hx k p := by
  unfold bkt hx
  rw [if_neg (by omega)]
  have h := (fk_range k).1
  rw [Int.natCast_emod, Int.toNat_of_nonneg h, Int.natCast_pow]
  rfl
def entB (k : ByteArray) (n : Int) (nx : Value) : Obj := .cells #[.string k, .int .u64 (fk k), .int .i64 n, nx] 63 (0, 0)
theorem entB_key {k k' : ByteArray} {n n' : Int} {nx nx' : Value} (h : entB k n nx = entB k' n' nx') : k = k' := by
  unfold entB at h; simp at h; exact h.1
/-- Entries that hang one on another. -/
def Chn (w : World) (S : Nat → Prop) : Value → List KN → Prop
  | v, [] => v = .pointer none
  | v, (k, n) :: es => ∃ b nx, v = .pointer (some ⟨b, 0, none⟩) ∧ S b ∧ w.heap[b]? = some (entB k n nx) ∧ Chn w S nx es
def ks (es : List KN) : List ByteArray := es.map (·.1)
theorem ks_cons (e : KN) (es : List KN) : ks (e :: es) = e.1 :: ks es := rfl
theorem ks_app (a b : List KN) : ks (a ++ b) = ks a ++ ks b := List.map_append
section
variable {w w' : World} {S S' : Nat → Prop} {t : Nat}
theorem chn_keep : ∀ {es : List KN} {v : Value}, Chn w S v es → (∀ b k n nx, w.heap[b]? = some (entB k n nx) → S b → k ∈ ks es → w'.heap[b]? = w.heap[b]?) → (∀ b, b < w.heap.size → S b → S' b) → Chn w' S' v es
  | [], v, h, _, _ => h
  | (k, n) :: es, v, ⟨b, nx, h1, h2, h3, h4⟩, hf, hS =>
    ⟨b, nx, h1, hS b (lt_of_heap h3) h2, (hf b k n nx h3 h2 (by simp [ks])).trans h3, chn_keep h4 (fun b' k' n' nx' q q2 q3 => hf b' k' n' nx' q q2 (by simp only [ks_cons]; exact List.mem_cons_of_mem _ q3)) hS⟩
theorem chn_mem : ∀ {es : List KN} {v : Value}, Chn w S v es → ∀ k ∈ ks es, ∃ b n nx, S b ∧ w.heap[b]? = some (entB k n nx)
  | [], v, _, k, hk => by cases hk
  | (k0, n) :: es, v, ⟨b, nx, h1, h2, h3, h4⟩, k, hk => by
    rcases List.mem_cons.1 hk with e | hk
    · exact ⟨b, n, nx, h2, by rw [e]; exact h3⟩
    · exact chn_mem h4 k hk
/-- The way to a place behind some entries: the place, and what it holds. -/
def Hole (w : World) (S : Nat → Prop) : Addr → Value → List KN → Addr → Value → Prop
  | a0, v, [], a, v' => a = a0 ∧ v' = v
  | a0, v, (k, n) :: pre, a, v' => ∃ b nx, v = .pointer (some ⟨b, 0, none⟩) ∧ S b ∧ w.heap[b]? = some (entB k n nx) ∧ Hole w S ⟨b, 3, none⟩ nx pre a v'
theorem hole_snoc : ∀ {pre : List KN} {a0 a : Addr} {v v' nx : Value} {b : Nat} {k : ByteArray} {n : Int}, Hole w S a0 v pre a v' → v' = .pointer (some ⟨b, 0, none⟩) → S b → w.heap[b]? = some (entB k n nx) → Hole w S a0 v (pre ++ [(k, n)]) ⟨b, 3, none⟩ nx
  | [], a0, a, v, v', nx, b, k, n, ⟨h1, h2⟩, h3, h4, h5 => ⟨b, nx, h2 ▸ h3, h4, h5, rfl, rfl⟩
  | (k0, n0) :: pre, a0, a, v, v', nx, b, k, n, ⟨b0, nx0, g1, g2, g3, g4⟩, h3, h4, h5 => ⟨b0, nx0, g1, g2, g3, hole_snoc g4 h3 h4 h5⟩
theorem hole_block : ∀ {pre : List KN} {a0 a : Addr} {v v' : Value}, Hole w S a0 v pre a v' → pre ≠ [] → ∃ b k n, a = ⟨b, 3, none⟩ ∧ S b ∧ k ∈ ks pre ∧ w.heap[b]? = some (entB k n v')
  | [], _, _, _, _, _, h => absurd rfl h
  | [(k, n)], a0, a, v, v', ⟨b, nx, h1, h2, h3, h4, h5⟩, _ => ⟨b, k, n, h4, h2, by simp [ks], by rw [h5]; exact h3⟩
  | (k, n) :: e :: pre, a0, a, v, v', ⟨b, nx, h1, h2, h3, h4⟩, _ => by
    obtain ⟨b', k', n', q1, q2, q3, q4⟩ := hole_block h4 (by simp)
    exact ⟨b', k', n', q1, q2, List.mem_cons_of_mem _ q3, q4⟩
theorem hole_keep : ∀ {pre : List KN} {a0 a : Addr} {v v' : Value}, Hole w S a0 v pre a v' → (∀ b k n nx, w.heap[b]? = some (entB k n nx) → S b → k ∈ ks pre → w'.heap[b]? = w.heap[b]?) → Hole w' S a0 v pre a v'
  | [], _, _, _, _, h, _ => h
  | (k, n) :: pre, a0, a, v, v', ⟨b, nx, h1, h2, h3, h4⟩, hf => ⟨b, nx, h1, h2, (hf b k n nx h3 h2 (by simp [ks])).trans h3, hole_keep h4 (fun b' k' n' nx' q q2 q3 => hf b' k' n' nx' q q2 (by simp only [ks_cons]; exact List.mem_cons_of_mem _ q3))⟩
theorem hole_chn : ∀ {pre suf : List KN} {a0 a : Addr} {v v' : Value}, Hole w S a0 v pre a v' → Chn w S v' suf → Chn w S v (pre ++ suf)
  | [], suf, _, _, _, _, ⟨_, h⟩, hc => h ▸ hc
  | (k, n) :: pre, suf, a0, a, v, v', ⟨b, nx, h1, h2, h3, h4⟩, hc => ⟨b, nx, h1, h2, h3, hole_chn h4 hc⟩
/-- The place is written. -/
theorem hole_fill {u : Value} {suf : List KN} : ∀ {pre : List KN} {a0 a : Addr} {v v' : Value}, Hole w S a0 v pre a v' → pre ≠ [] → (ks pre).Nodup → Chn (w.setCell a u) S u suf → Chn (w.setCell a u) S v (pre ++ suf)
  | [], _, _, _, _, _, h, _, _ => absurd rfl h
  | [(k, n)], a0, a, v, v', ⟨b, nx, h1, h2, h3, h4, h5⟩, _, _, hc => by
    subst h4
    exact ⟨b, u, h1, h2, (heap_setCell_same h3 3 u).trans (by simp [entB]), hc⟩
  | (k, n) :: e :: pre, a0, a, v, v', ⟨b, nx, h1, h2, h3, h4⟩, _, hn, hc => by
    obtain ⟨b', k', n', q1, q2, q3, q4⟩ := hole_block h4 (by simp)
    have hne : b ≠ b' := fun q => by
      subst q
      rw [h3] at q4
      have := entB_key (Option.some.inj q4)
      subst this
      exact (List.nodup_cons.1 hn).1 q3
    have ih := hole_fill h4 (by simp) (List.nodup_cons.1 hn).2 hc
    subst q1
    exact ⟨b, nx, h1, h2, (heap_setCell_other (p := ⟨b', 3, none⟩) hne u).trans h3, ih⟩
end
/-- What is said of the table, off memory. -/
structure ChS where
  pw : Nat
  g : Bool
  m : Nat
  O : Nat → List KN
  R : Nat → List KN
  n : Int
structure ChO (w : World) (S : Nat → Prop) (t : Nat) (s : ChS) (rb ob : Nat) (xs ys : List Value) (mvv : Int) : Prop where
  hSt : S t
  hSr : S rb
  hp : w.heap[t]? = some (.cells #[.int .i64 s.pw, if s.g then .slice (some ⟨ob, 0, none⟩) (2 ^ (s.pw - 1)) (2 ^ (s.pw - 1)) else .slice none 0 0, .slice (some ⟨rb, 0, none⟩) (2 ^ s.pw) (2 ^ s.pw), .int .i64 mvv, .int .i64 s.n] 58 (0, 0))
  hr : w.heap[rb]? = some (.cells xs.toArray 59 (0, 0))
  hxl : xs.length = 2 ^ s.pw
  hx : ∀ i v, xs[i]? = some v → Chn w S v (s.R i)
  hg : s.g = true → mvv = s.m ∧ S ob ∧ ob ≠ rb ∧ w.heap[ob]? = some (.cells ys.toArray 59 (0, 0)) ∧ ys.length = 2 ^ (s.pw - 1) ∧ ∀ i v, ys[i]? = some v → Chn w S v (s.O i)
structure ChW (s : ChS) : Prop where
  p2 : 2 ≤ s.pw
  p20 : s.pw ≤ 20
  m : s.g = true → s.m < 2 ^ (s.pw - 1)
  R1 : ∀ i, (ks (s.R i)).Nodup
  R2 : ∀ i k, k ∈ ks (s.R i) → hx k s.pw = i
  RG : s.g = true → ∀ i k, k ∈ ks (s.R i) → hx k (s.pw - 1) < s.m
  O1 : s.g = true → ∀ i, (ks (s.O i)).Nodup
  O2 : s.g = true → ∀ i k, k ∈ ks (s.O i) → hx k (s.pw - 1) = i
  OG : s.g = true → ∀ i, i < s.m → s.O i = []
def ChAt (w : World) (S : Nat → Prop) (t : Nat) (s : ChS) : Prop := ChW s ∧ ∃ rb ob xs ys mvv, ChO w S t s rb ob xs ys mvv
def inOld (s : ChS) (k : ByteArray) : Prop := s.g = true ∧ s.m ≤ hx k (s.pw - 1)
instance (s : ChS) (k : ByteArray) : Decidable (inOld s k) := inferInstanceAs (Decidable (_ ∧ _))
def upd (L : Nat → List KN) (i : Nat) (l : List KN) : Nat → List KN := fun j => if j = i then l else L j
def home (s : ChS) (k : ByteArray) : List KN := if inOld s k then s.O (hx k (s.pw - 1)) else s.R (hx k s.pw)
def put (s : ChS) (k : ByteArray) (l : List KN) : ChS := if inOld s k then { s with O := upd s.O (hx k (s.pw - 1)) l } else { s with R := upd s.R (hx k s.pw) l }
theorem other_R {s : ChS} (h : ChW s) {k k0 : ByteArray} {j : Nat} (h1 : k0 ∈ ks (home s k)) (h2 : k0 ∈ ks (s.R j)) : ¬ inOld s k ∧ j = hx k s.pw := by
  unfold home at h1
  split at h1
  · rename_i ho
    have a := h.O2 ho.1 _ _ h1
    have b := h.RG ho.1 _ _ h2
    have := ho.2
    omega
  · rename_i ho
    exact ⟨ho, (h.R2 _ _ h2).symm.trans (h.R2 _ _ h1)⟩
theorem other_O {s : ChS} (h : ChW s) {k k0 : ByteArray} {j : Nat} (hg : s.g = true) (h1 : k0 ∈ ks (home s k)) (h2 : k0 ∈ ks (s.O j)) : inOld s k ∧ j = hx k (s.pw - 1) := by
  unfold home at h1
  split at h1
  · rename_i ho
    exact ⟨ho, (h.O2 hg _ _ h2).symm.trans (h.O2 hg _ _ h1)⟩
  · rename_i ho
    have a := h.RG hg _ _ h1
    have b := h.O2 hg _ _ h2
    by_cases hj : j < s.m
    · rw [h.OG hg j hj] at h2; cases h2
    · omega
theorem home_nodup {s : ChS} (h : ChW s) (k : ByteArray) : (ks (home s k)).Nodup := by
  unfold home
  split
  · rename_i ho; exact h.O1 ho.1 _
  · exact h.R1 _
theorem home_of {s : ChS} (h : ChW s) {k k0 : ByteArray} (h1 : k0 ∈ ks (home s k)) : (inOld s k ∧ hx k0 (s.pw - 1) = hx k (s.pw - 1)) ∨ (¬ inOld s k ∧ hx k0 s.pw = hx k s.pw ∧ (s.g = true → hx k0 (s.pw - 1) < s.m)) := by
  unfold home at h1
  split at h1
  · rename_i ho; exact Or.inl ⟨ho, h.O2 ho.1 _ _ h1⟩
  · rename_i ho; exact Or.inr ⟨ho, h.R2 _ _ h1, fun hg => h.RG hg _ _ h1⟩
theorem put_w {s : ChS} (h : ChW s) {k : ByteArray} {l : List KN} (hn : (ks l).Nodup) (hl : ∀ k0, k0 ∈ ks l → k0 = k ∨ k0 ∈ ks (home s k)) : ChW (put s k l) := by
  unfold put
  split
  · rename_i ho
    have ho' := ho
    refine ⟨h.p2, h.p20, h.m, h.R1, h.R2, h.RG, fun hg i => ?_, fun hg i k0 hk => ?_, fun hg i hi => ?_⟩
    · show (ks (upd _ _ _ i)).Nodup
      unfold upd; split
      · exact hn
      · exact h.O1 hg i
    · have hk' : k0 ∈ ks (upd s.O (hx k (s.pw - 1)) l i) := hk
      unfold upd at hk'; split at hk'
      · rename_i e
        rcases hl k0 hk' with q | q
        · rw [q]; exact e.symm
        · rcases home_of h q with ⟨_, q⟩ | ⟨q, _⟩
          · exact q.trans e.symm
          · exact absurd ho q
      · exact h.O2 hg i k0 hk'
    · show upd _ _ _ i = []
      have hi' : i < s.m := hi
      unfold upd; rw [if_neg (by have := ho.2; omega)]
      exact h.OG hg i hi
  · rename_i ho
    have hkm : s.g = true → hx k (s.pw - 1) < s.m := fun hg => by
      by_cases q : s.m ≤ hx k (s.pw - 1)
      · exact absurd ⟨hg, q⟩ ho
      · omega
    have hall : ∀ k0, k0 ∈ ks l → hx k0 s.pw = hx k s.pw ∧ (s.g = true → hx k0 (s.pw - 1) < s.m) := fun k0 hk => by
      rcases hl k0 hk with q | q
      · rw [q]; exact ⟨rfl, hkm⟩
      · rcases home_of h q with ⟨q, _⟩ | ⟨_, q⟩
        · exact absurd q ho
        · exact q
    refine ⟨h.p2, h.p20, h.m, fun i => ?_, fun i k0 hk => ?_, fun hg i k0 hk => ?_, h.O1, h.O2, h.OG⟩
    · show (ks (upd _ _ _ i)).Nodup
      unfold upd; split
      · exact hn
      · exact h.R1 i
    · have hk' : k0 ∈ ks (upd s.R (hx k s.pw) l i) := hk
      unfold upd at hk'; split at hk'
      · rename_i e; exact (hall k0 hk').1.trans e.symm
      · exact h.R2 i k0 hk'
    · have hk' : k0 ∈ ks (upd s.R (hx k s.pw) l i) := hk
      unfold upd at hk'; split at hk'
      · exact (hall k0 hk').2 hg
      · exact h.RG hg i k0 hk'
end Go.Proofs.Ytnabgcnndehaaaa
