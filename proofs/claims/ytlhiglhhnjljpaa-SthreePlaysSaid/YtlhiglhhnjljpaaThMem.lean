/- Layer 14 (sthree) in memory: rows, a ghost, what is known of the ids. -/
import Derived.Test.YtlhiglhhnjljpaaRowsMore
import Derived.Test.YtlhiglhhnjljpaaGhost3
namespace Go.Proofs.Ytlhiglhhnjljpaa
open Go.RowKit
set_option linter.unusedVariables false
/-- What is said of the policy, off memory: K: an id's number and count. -/
structure ThS where
  L : Nat → List Int
  B : List Int
  mB : Int
  most : Int
  K : Int → Option (Int × Int)
def setK (K : Int → Option (Int × Int)) (id : Int) (v : Option (Int × Int)) : Int → Option (Int × Int) := fun k => if k = id then v else K k
theorem setK_same (K : Int → Option (Int × Int)) (id : Int) (v : Option (Int × Int)) : setK K id v id = v := if_pos rfl
theorem setK_ne {K : Int → Option (Int × Int)} {id k : Int} {v : Option (Int × Int)} (h : k ≠ id) : setK K id v k = K k := if_neg h
def knownB (h c : Int) : Obj := .cells #[.int .u64 h, .int .i64 c] 62 (0, 0)
structure KnO (w : World) (S : Nat → Prop) (l : List (Int × Value)) (K : Int → Option (Int × Int)) : Prop where
  at_ : ∀ k v, aget l k = some v → ∃ b h c, v = .pointer (some ⟨b, 0, none⟩) ∧ S b ∧ K k = some (h, c) ∧ w.heap[b]? = some (knownB h c)
  no : ∀ k, aget l k = none → K k = none
  inj : ∀ k k' v, aget l k = some v → aget l k' = some v → k = k'
structure ThO (w : World) (S : Nat → Prop) (p : Nat) (s : ThS) (N M g b1 m : Nat) (l : List (Int × Value)) (o : Obj) (Sr Sg Sk : Nat → Prop) : Prop where
  hSp : S p
  hSm : S m
  hSr : ∀ b, Sr b → S b
  hSg : ∀ b, Sg b → S b
  hSk : ∀ b, Sk b → S b
  hlt : ∀ b, Sr b ∨ Sg b ∨ Sk b → b < w.heap.size
  dp : ¬ Sr p ∧ ¬ Sg p ∧ ¬ Sk p
  dm : ¬ Sr m ∧ ¬ Sg m ∧ ¬ Sk m
  drg : ∀ b, Sr b → ¬ Sg b
  drk : ∀ b, Sr b → ¬ Sk b
  dgk : ∀ b, Sg b → ¬ Sk b
  hp : w.heap[p]? = some (.cells #[.pointer (some ⟨g, 0, none⟩), .pointer (some ⟨b1, 0, none⟩), .int .i64 s.most, .map (some m)] 49 (0, 0))
  hmo : w.heap[m]? = some o
  hmb : MapBlk .i64 l o
  hK : KnO w Sk l s.K
  hR : RowsAt w Sr g 2 s.L N
  hG : GhostAt w Sg b1 s.mB s.B M
/-- Who is known stands, and the counts are small. -/
structure ThIn (s : ThS) : Prop where
  in_ : ∀ id, (s.K id).isSome = true ↔ id ∈ s.L 0 ∨ id ∈ s.L 1
  cnt : ∀ id h c, s.K id = some (h, c) → 0 ≤ c ∧ c ≤ 3
def ThAt (w : World) (S : Nat → Prop) (p : Nat) (s : ThS) (N M : Nat) : Prop := (∃ g b1 m l o Sr Sg Sk, ThO w S p s N M g b1 m l o Sr Sg Sk) ∧ ThIn s
section
variable {w w' : World} {S : Nat → Prop} {p : Nat} {s : ThS} {N N' M M' g b1 m : Nat} {l : List (Int × Value)} {o : Obj} {Sr Sg Sk : Nat → Prop}
theorem KnO.frame {K : Int → Option (Int × Int)} (h : KnO w Sk l K) (hf : ∀ b, b < w.heap.size → Sk b → w'.heap[b]? = w.heap[b]?) : KnO w' Sk l K :=
  ⟨fun k v hv => by obtain ⟨b, hh, c, h1, h2, h3, h4⟩ := h.at_ k v hv; exact ⟨b, hh, c, h1, h2, h3, (hf b (lt_of_heap h4) h2).trans h4⟩, h.no, h.inj⟩
theorem ThO.pm (h : ThO w S p s N M g b1 m l o Sr Sg Sk) : p ≠ m := fun e => by
  subst e; obtain ⟨es, clk, e, _⟩ := h.hmb; have h1 := h.hp; rw [h.hmo, e] at h1; cases h1
theorem ThO.frame (h : ThO w S p s N M g b1 m l o Sr Sg Sk) (hs : w.heap.size ≤ w'.heap.size) (hf : ∀ b, b < w.heap.size → S b → w'.heap[b]? = w.heap[b]?) : ThO w' S p s N M g b1 m l o Sr Sg Sk :=
  ⟨h.hSp, h.hSm, h.hSr, h.hSg, h.hSk, fun b q => Nat.lt_of_lt_of_le (h.hlt b q) hs, h.dp, h.dm, h.drg, h.drk, h.dgk, (hf p (lt_of_heap h.hp) h.hSp).trans h.hp, (hf m (lt_of_heap h.hmo) h.hSm).trans h.hmo, h.hmb,
   h.hK.frame fun b hb q => hf b hb (h.hSk b q), h.hR.frame fun b hb q => hf b hb (h.hSr b q), h.hG.frame fun b hb q => hf b hb (h.hSg b q)⟩
theorem ThAt.frame (h : ThAt w S p s N M) (hs : w.heap.size ≤ w'.heap.size) (hf : ∀ b, b < w.heap.size → S b → w'.heap[b]? = w.heap[b]?) : ThAt w' S p s N M := by
  obtain ⟨⟨g, b1, m, l, o, Sr, Sg, Sk, h⟩, hi⟩ := h; exact ⟨⟨g, b1, m, l, o, Sr, Sg, Sk, h.frame hs hf⟩, hi⟩
theorem ThO.mono {S' : Nat → Prop} (h : ThO w S p s N M g b1 m l o Sr Sg Sk) (hS : ∀ b, b < w.heap.size → S b → S' b) : ThO w S' p s N M g b1 m l o Sr Sg Sk :=
  ⟨hS _ (lt_of_heap h.hp) h.hSp, hS _ (lt_of_heap h.hmo) h.hSm, fun b q => hS b (h.hlt b (.inl q)) (h.hSr b q), fun b q => hS b (h.hlt b (.inr (.inl q))) (h.hSg b q), fun b q => hS b (h.hlt b (.inr (.inr q))) (h.hSk b q),
   h.hlt, h.dp, h.dm, h.drg, h.drk, h.dgk, h.hp, h.hmo, h.hmb, h.hK, h.hR, h.hG⟩
theorem ThAt.mono {S' : Nat → Prop} (h : ThAt w S p s N M) (hS : ∀ b, b < w.heap.size → S b → S' b) : ThAt w S' p s N M := by
  obtain ⟨⟨g, b1, m, l, o, Sr, Sg, Sk, h⟩, hi⟩ := h; exact ⟨⟨g, b1, m, l, o, Sr, Sg, Sk, h.mono hS⟩, hi⟩
theorem ThAt.more (h : ThAt w S p s N M) (hN : N ≤ N') (hM : M ≤ M') : ThAt w S p s N' M' := by
  obtain ⟨⟨g, b1, m, l, o, Sr, Sg, Sk, h⟩, hi⟩ := h
  exact ⟨⟨g, b1, m, l, o, Sr, Sg, Sk, h.hSp, h.hSm, h.hSr, h.hSg, h.hSk, h.hlt, h.dp, h.dm, h.drg, h.drk, h.dgk, h.hp, h.hmo, h.hmb, h.hK, h.hR.more hN, h.hG.more hM⟩, hi⟩
/-- The rows turn. -/
theorem ThO.rows {L' : Nat → List Int} (h : ThO w S p s N M g b1 m l o Sr Sg Sk) (hR : RowsAt w' (grow Sr w w') g 2 L' N') (hF : Fr Sr w w') : ThO w' (grow S w w') p { s with L := L' } N' M g b1 m l o (grow Sr w w') Sg Sk :=
  ⟨.inl h.hSp, .inl h.hSm, fun b q => q.imp (h.hSr b) (fun q => q), fun b q => .inl (h.hSg b q), fun b q => .inl (h.hSk b q),
   fun b q => q.elim (fun q => q.elim (fun q => Nat.lt_of_lt_of_le (h.hlt b (.inl q)) hF.size) (fun q => q.2)) (fun q => Nat.lt_of_lt_of_le (h.hlt b (.inr q)) hF.size),
   ⟨fun q => q.elim h.dp.1 (fun q => by have := lt_of_heap h.hp; omega), h.dp.2⟩, ⟨fun q => q.elim h.dm.1 (fun q => by have := lt_of_heap h.hmo; omega), h.dm.2⟩,
   fun b q r => q.elim (fun q => h.drg b q r) (fun q => by have := h.hlt b (.inr (.inl r)); omega), fun b q r => q.elim (fun q => h.drk b q r) (fun q => by have := h.hlt b (.inr (.inr r)); omega), h.dgk,
   (hF.block p (lt_of_heap h.hp) h.dp.1).trans h.hp, (hF.block m (lt_of_heap h.hmo) h.dm.1).trans h.hmo, h.hmb, h.hK.frame (fun b hb q => hF.block b hb fun r => h.drk b r q), hR, h.hG.fr hF (fun b _ q r => h.drg b r q)⟩
/-- The ghost turns. -/
theorem ThO.ghost {mB' : Int} {B' : List Int} (h : ThO w S p s N M g b1 m l o Sr Sg Sk) (hG : GhostAt w' (grow Sg w w') b1 mB' B' M') (hF : Fr Sg w w') : ThO w' (grow S w w') p { s with B := B', mB := mB' } N M' g b1 m l o Sr (grow Sg w w') Sk :=
  ⟨.inl h.hSp, .inl h.hSm, fun b q => .inl (h.hSr b q), fun b q => q.imp (h.hSg b) (fun q => q), fun b q => .inl (h.hSk b q),
   fun b q => q.elim (fun q => Nat.lt_of_lt_of_le (h.hlt b (.inl q)) hF.size) (fun q => q.elim (fun q => q.elim (fun q => Nat.lt_of_lt_of_le (h.hlt b (.inr (.inl q))) hF.size) (fun q => q.2)) (fun q => Nat.lt_of_lt_of_le (h.hlt b (.inr (.inr q))) hF.size)),
   ⟨h.dp.1, fun q => q.elim h.dp.2.1 (fun q => by have := lt_of_heap h.hp; omega), h.dp.2.2⟩, ⟨h.dm.1, fun q => q.elim h.dm.2.1 (fun q => by have := lt_of_heap h.hmo; omega), h.dm.2.2⟩,
   fun b q r => r.elim (fun r => h.drg b q r) (fun r => by have := h.hlt b (.inl q); omega), h.drk, fun b q r => q.elim (fun q => h.dgk b q r) (fun q => by have := h.hlt b (.inr (.inr r)); omega),
   (hF.block p (lt_of_heap h.hp) h.dp.2.1).trans h.hp, (hF.block m (lt_of_heap h.hmo) h.dm.2.1).trans h.hmo, h.hmb, h.hK.frame (fun b hb q => hF.block b hb fun r => h.dgk b r q), h.hR.fr hF (fun b _ q r => h.drg b q r), hG⟩
/-- An id is known no more. -/
theorem ThO.del {o' : Obj} (h : ThO w S p s N M g b1 m l o Sr Sg Sk) (id : Int) (ho : MapBlk .i64 (adel l id) o') : ThO (w.putObj m o') S p { s with K := setK s.K id none } N M g b1 m (adel l id) o' Sr Sg Sk := by
  have hk := h.hmb.keys
  refine ⟨h.hSp, h.hSm, h.hSr, h.hSg, h.hSk, fun b q => by rw [World.putObj_size]; exact h.hlt b q, h.dp, h.dm, h.drg, h.drk, h.dgk, (World.putObj_heap_other h.pm).trans h.hp, World.putObj_heap_same (lt_of_heap h.hmo), ho, ⟨?_, ?_, ?_⟩,
   h.hR.frame fun b hb q => World.putObj_heap_other fun e => h.dm.1 (e ▸ q), h.hG.frame fun b hb q => World.putObj_heap_other fun e => h.dm.2.1 (e ▸ q)⟩
  · intro k v hv
    rw [aget_adel hk] at hv
    split at hv
    · cases hv
    · rename_i hne
      obtain ⟨b, hh, c, h1, h2, h3, h4⟩ := h.hK.at_ k v hv
      exact ⟨b, hh, c, h1, h2, (setK_ne hne).trans h3, (World.putObj_heap_other (fun e : b = m => h.dm.2.2 (by rw [← e]; exact h2))).trans h4⟩
  · intro k hv
    rw [aget_adel hk] at hv
    show setK s.K id none k = none
    unfold setK
    split
    · rfl
    · rename_i hne; rw [if_neg hne] at hv; exact h.hK.no k hv
  · intro k k' v h1 h2
    rw [aget_adel hk] at h1 h2
    split at h1
    · cases h1
    · split at h2
      · cases h2
      · exact h.hK.inj k k' v h1 h2
/-- An id is known. -/
theorem ThO.ins {o' : Obj} (h : ThO w S p s N M g b1 m l o Sr Sg Sk) (id hh : Int) (ho : MapBlk .i64 (aset l id (.pointer (some ⟨w.heap.size, 0, none⟩))) o') :
    ThO ((w.alloc (knownB hh 0)).putObj m o') (grow S w (w.alloc (knownB hh 0))) p { s with K := setK s.K id (some (hh, 0)) } N M g b1 m (aset l id (.pointer (some ⟨w.heap.size, 0, none⟩))) o' Sr Sg (fun b => Sk b ∨ b = w.heap.size) := by
  have hk := h.hmb.keys
  have hsz : (w.alloc (knownB hh 0)).heap.size = w.heap.size + 1 := by simp
  have hlp := lt_of_heap h.hp
  have hlm := lt_of_heap h.hmo
  have hold : ∀ b, b < w.heap.size → b ≠ m → ((w.alloc (knownB hh 0)).putObj m o').heap[b]? = w.heap[b]? := fun b hb hne => (World.putObj_heap_other hne).trans (heap_alloc_old _ hb)
  refine ⟨.inl h.hSp, .inl h.hSm, fun b q => .inl (h.hSr b q), fun b q => .inl (h.hSg b q), fun b q => q.elim (fun q => .inl (h.hSk b q)) (fun q => .inr ⟨by omega, by omega⟩), ?_,
   ⟨h.dp.1, h.dp.2.1, fun q => q.elim h.dp.2.2 (fun q => by omega)⟩, ⟨h.dm.1, h.dm.2.1, fun q => q.elim h.dm.2.2 (fun q => by omega)⟩, h.drg,
   fun b q r => r.elim (h.drk b q) (fun r => by have := h.hlt b (.inl q); omega), fun b q r => r.elim (h.dgk b q) (fun r => by have := h.hlt b (.inr (.inl q)); omega),
   (hold p hlp h.pm).trans h.hp, World.putObj_heap_same (by rw [hsz]; omega), ho, ⟨?_, ?_, ?_⟩, h.hR.frame fun b hb q => hold b hb fun e => h.dm.1 (e ▸ q), h.hG.frame fun b hb q => hold b hb fun e => h.dm.2.1 (e ▸ q)⟩
  · intro b q
    rw [World.putObj_size, hsz]
    rcases q with q | q | q | q
    · have := h.hlt b (.inl q); omega
    · have := h.hlt b (.inr (.inl q)); omega
    · have := h.hlt b (.inr (.inr q)); omega
    · omega
  · intro k v hv
    rw [aget_aset hk] at hv
    split at hv
    · rename_i e
      cases hv
      exact ⟨_, hh, 0, rfl, .inr rfl, by rw [e]; exact setK_same _ _ _, (World.putObj_heap_other (by omega)).trans (heap_alloc_new _ _)⟩
    · rename_i hne
      obtain ⟨b, h', c, h1, h2, h3, h4⟩ := h.hK.at_ k v hv
      exact ⟨b, h', c, h1, .inl h2, (setK_ne hne).trans h3, (hold b (lt_of_heap h4) fun e => h.dm.2.2 (e ▸ h2)).trans h4⟩
  · intro k hv
    rw [aget_aset hk] at hv
    split at hv
    · cases hv
    · rename_i hne
      show setK s.K id (some (hh, 0)) k = none
      unfold setK
      rw [if_neg hne]; exact h.hK.no k hv
  · intro k k' v h1 h2
    rw [aget_aset hk] at h1 h2
    have hnew : ∀ k, aget l k ≠ some (.pointer (some ⟨w.heap.size, 0, none⟩)) := fun k q => by
      obtain ⟨b, _, _, e, _, _, h4⟩ := h.hK.at_ k _ q
      cases e
      exact absurd (lt_of_heap h4) (Nat.lt_irrefl _)
    split at h1
    · rename_i e1
      cases h1
      split at h2
      · rename_i e2; rw [e1, e2]
      · exact absurd h2 (hnew k')
    · split at h2
      · cases h2; exact absurd h1 (hnew k)
      · exact h.hK.inj k k' v h1 h2
/-- An id's count turns. -/
theorem ThO.count (h : ThO w S p s N M g b1 m l o Sr Sg Sk) {id : Int} {b : Nat} {hh c : Int} (hv : aget l id = some (.pointer (some ⟨b, 0, none⟩))) (hk : s.K id = some (hh, c)) (c' : Int) :
    ThO (w.setCell ⟨b, 1, none⟩ (.int .i64 c')) S p { s with K := setK s.K id (some (hh, c')) } N M g b1 m l o Sr Sg Sk := by
  obtain ⟨b', h', c2, e1, hSb, e3, e4⟩ := h.hK.at_ id _ hv
  cases e1
  rw [hk] at e3
  cases e3
  have hne : ∀ k, k ≠ b → (w.setCell ⟨b, 1, none⟩ (.int .i64 c')).heap[k]? = w.heap[k]? := fun k q => heap_setCell_other (p := ⟨b, 1, none⟩) q _
  refine ⟨h.hSp, h.hSm, h.hSr, h.hSg, h.hSk, fun k q => ?_, h.dp, h.dm, h.drg, h.drk, h.dgk, (hne p fun e => h.dp.2.2 (e ▸ hSb)).trans h.hp, (hne m fun e => h.dm.2.2 (e ▸ hSb)).trans h.hmo, h.hmb, ⟨?_, ?_, h.hK.inj⟩, h.hR.frame fun k hk q => hne k fun e => h.drk k q (e ▸ hSb), h.hG.frame fun k hk q => hne k fun e => h.dgk k q (e ▸ hSb)⟩
  · have := h.hlt k q; simpa [World.setCell] using this
  · intro k v hv'
    obtain ⟨b2, h2, c2, f1, f2, f3, f4⟩ := h.hK.at_ k v hv'
    by_cases e : k = id
    · subst e
      rw [hv] at hv'
      cases hv'
      cases f1
      refine ⟨_, hh, c', rfl, f2, setK_same _ _ _, ?_⟩
      rw [heap_setCell_same e4]; rfl
    · have hb2 : b2 ≠ b := fun q => e (h.hK.inj k id v hv' (by rw [f1, q]; exact hv))
      exact ⟨b2, h2, c2, f1, f2, (setK_ne e).trans f3, (hne b2 hb2).trans f4⟩
  · intro k hv'
    show setK s.K id _ k = none
    unfold setK
    rw [if_neg (fun e => by rw [e, hv] at hv'; cases hv')]
    exact h.hK.no k hv'
theorem ThO.setMost (h : ThO w S p s N M g b1 m l o Sr Sg Sk) (n : Int) : ThO (w.setCell ⟨p, 2, none⟩ (.int .i64 n)) S p { s with most := n } N M g b1 m l o Sr Sg Sk := by
  have hne : ∀ b, b ≠ p → (w.setCell ⟨p, 2, none⟩ (.int .i64 n)).heap[b]? = w.heap[b]? := fun b q => heap_setCell_other (p := ⟨p, 2, none⟩) q _
  refine ⟨h.hSp, h.hSm, h.hSr, h.hSg, h.hSk, fun b q => ?_, h.dp, h.dm, h.drg, h.drk, h.dgk, ?_, (hne m (fun e => h.pm e.symm)).trans h.hmo, h.hmb, h.hK.frame fun b hb q => hne b fun e => h.dp.2.2 (e ▸ q), h.hR.frame fun b hb q => hne b fun e => h.dp.1 (e ▸ q), h.hG.frame fun b hb q => hne b fun e => h.dp.2.1 (e ▸ q)⟩
  · have := h.hlt b q; simpa [World.setCell] using this
  · rw [heap_setCell_same h.hp]; simp
end
/-- What is known of an id, as the map gives it. -/
theorem ThO.find {w : World} {S : Nat → Prop} {p : Nat} {s : ThS} {N M g b1 m : Nat} {l : List (Int × Value)} {o : Obj} {Sr Sg Sk : Nat → Prop} (h : ThO w S p s N M g b1 m l o Sr Sg Sk) (id : Int) :
    (s.K id = none ∧ aget l id = none) ∨ ∃ b hh c, s.K id = some (hh, c) ∧ aget l id = some (.pointer (some ⟨b, 0, none⟩)) ∧ w.heap[b]? = some (knownB hh c) ∧ Sk b := by
  rcases ha : aget l id with _ | v
  · exact .inl ⟨h.hK.no id ha, rfl⟩
  · obtain ⟨b, hh, c, h1, h2, h3, h4⟩ := h.hK.at_ id v ha
    exact .inr ⟨b, hh, c, h3, by rw [h1], h4, h2⟩
end Go.Proofs.Ytlhiglhhnjljpaa
