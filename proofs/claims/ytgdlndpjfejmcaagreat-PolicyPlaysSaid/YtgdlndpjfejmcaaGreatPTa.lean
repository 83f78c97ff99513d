/- Layer 14 (sthree) in memory: rows, a ghost, what is known of the ids. -/
import Derived.Test.YtgdlndpjfejmcaaGreatPRd
import Derived.Test.YtgdlndpjfejmcaaGreatPGh
import Derived.Test.YtgdlndpjfejmcaaGreatPB
import Derived.WalkSpells
import Derived.WalkLawsBesides
import Derived.StillTailTactics
import Derived.Deep.CutBlock
import Derived.Deep.QuietTactic
import Derived.BigQuiet
namespace Go.Proofs.YtgdlndpjfejmcaaGreat.Thr
open Go.RowKit
set_option linter.unusedVariables false
set_option maxRecDepth 100000
/-- What is said of the policy, off memory: K: an id's number and count. -/
structure ThS where
  L : Nat → List Int
  B : List Int
  mB : Int
  most : Int
  K : Int → Option (Int × Int)
def setK (K : Int → Option (Int × Int)) (id : Int) (v : Option (Int × Int)) : Int → Option (Int × Int) := fun k => if k = id then v else K k
theorem setK_same (K : Int → Option (Int × Int)) (id : Int) (v : Option (Int × Int)) : setK K id v id = v := if_pos rfl
theorem setK_ne {K : Int → Option (Int × Int)} {id k : Int} {v : Option (Int × Int)} (h : k ≠ id) : setK K id v k = K k := if_neg h
def knownB (h c : Int) : Obj := .cells #[.int .u64 h, .int .i64 c] 132 (0, 0)
structure KnO (w : World) (S : Nat → Prop) (l : List (Int × Value)) (K : Int → Option (Int × Int)) : Prop where
  at_ : ∀ k v, aget l k = some v → ∃ b h c, v = .pointer (some ⟨b, 0, none⟩) ∧ S b ∧ K k = some (h, c) ∧ w.heap[b]? = some (knownB h c)
  no : ∀ k, aget l k = none → K k = none
  inj : ∀ k k' v, aget l k = some v → aget l k' = some v → k = k'
structure ThO (w : World) (S : Nat → Prop) (p : Nat) (s : ThS) (N M g b1 m : Nat) (l : List (Int × Value)) (o : Obj) (Sr Sg Sk : Nat → Prop) : Prop where
  hSp : S p
  hSm : S m
  hSr : ∀ b, Sr b → S b
  hSg : ∀ b, Sg b → S b
  hSk : ∀ b, Sk b → S b
  hlt : ∀ b, Sr b ∨ Sg b ∨ Sk b → b < w.heap.size
  dp : ¬ Sr p ∧ ¬ Sg p ∧ ¬ Sk p
  dm : ¬ Sr m ∧ ¬ Sg m ∧ ¬ Sk m
  drg : ∀ b, Sr b → ¬ Sg b
  drk : ∀ b, Sr b → ¬ Sk b
  dgk : ∀ b, Sg b → ¬ Sk b
  hp : w.heap[p]? = some (.cells #[.pointer (some ⟨g, 0, none⟩), .pointer (some ⟨b1, 0, none⟩), .int .i64 s.most, .map (some m)] 94 (0, 0))
  hmo : w.heap[m]? = some o
  hmb : MapBlk .i64 l o
  hK : KnO w Sk l s.K
  hR : RowsAt w Sr g 2 s.L N
  hG : GhostAt w Sg b1 s.mB s.B M
/-- Who is known stands, and the counts are small. -/
structure ThIn (s : ThS) : Prop where
  in_ : ∀ id, (s.K id).isSome = true ↔ id ∈ s.L 0 ∨ id ∈ s.L 1
  cnt : ∀ id h c, s.K id = some (h, c) → 0 ≤ c ∧ c ≤ 3
def ThAt (w : World) (S : Nat → Prop) (p : Nat) (s : ThS) (N M : Nat) : Prop := (∃ g b1 m l o Sr Sg Sk, ThO w S p s N M g b1 m l o Sr Sg Sk) ∧ ThIn s
section
variable {w w' : World} {S : Nat → Prop} {p : Nat} {s : ThS} {N N' M M' g b1 m : Nat} {l : List (Int × Value)} {o : Obj} {Sr Sg Sk : Nat → Prop}
theorem KnO.frame {K : Int → Option (Int × Int)} (h : KnO w Sk l K) (hf : ∀ b, b < w.heap.size → Sk b → w'.heap[b]? = w.heap[b]?) : KnO w' Sk l K :=
  ⟨fun k v hv => by obtain ⟨b, hh, c, h1, h2, h3, h4⟩ := h.at_ k v hv; exact ⟨b, hh, c, h1, h2, h3, (hf b (lt_of_heap h4) h2).trans h4⟩, h.no, h.inj⟩
theorem ThO.pm (h : ThO w S p s N M g b1 m l o Sr Sg Sk) : p ≠ m := fun e => by
  subst e; obtain ⟨es, clk, e, _⟩ := h.hmb; have h1 := h.hp; rw [h.hmo, e] at h1; cases h1
theorem ThO.frame (h : ThO w S p s N M g b1 m l o Sr Sg Sk) (hs : w.heap.size ≤ w'.heap.size) (hf : ∀ b, b < w.heap.size → S b → w'.heap[b]? = w.heap[b]?) : ThO w' S p s N M g b1 m l o Sr Sg Sk :=
  ⟨h.hSp, h.hSm, h.hSr, h.hSg, h.hSk, fun b q => Nat.lt_of_lt_of_le (h.hlt b q) hs, h.dp, h.dm, h.drg, h.drk, h.dgk, (hf p (lt_of_heap h.hp) h.hSp).trans h.hp, (hf m (lt_of_heap h.hmo) h.hSm).trans h.hmo, h.hmb,
   h.hK.frame fun b hb q => hf b hb (h.hSk b q), h.hR.frame fun b hb q => hf b hb (h.hSr b q), h.hG.frame fun b hb q => hf b hb (h.hSg b q)⟩
theorem ThAt.frame (h : ThAt w S p s N M) (hs : w.heap.size ≤ w'.heap.size) (hf : ∀ b, b < w.heap.size → S b → w'.heap[b]? = w.heap[b]?) : ThAt w' S p s N M := by
  obtain ⟨⟨g, b1, m, l, o, Sr, Sg, Sk, h⟩, hi⟩ := h; exact ⟨⟨g, b1, m, l, o, Sr, Sg, Sk, h.frame hs hf⟩, hi⟩
theorem ThO.mono {S' : Nat → Prop} (h : ThO w S p s N M g b1 m l o Sr Sg Sk) (hS : ∀ b, b < w.heap.size → S b → S' b) : ThO w S' p s N M g b1 m l o Sr Sg Sk :=
  ⟨hS _ (lt_of_heap h.hp) h.hSp, hS _ (lt_of_heap h.hmo) h.hSm, fun b q => hS b (h.hlt b (.inl q)) (h.hSr b q), fun b q => hS b (h.hlt b (.inr (.inl q))) (h.hSg b q), fun b q => hS b (h.hlt b (.inr (.inr q))) (h.hSk b q),
   h.hlt, h.dp, h.dm, h.drg, h.drk, h.dgk, h.hp, h.hmo, h.hmb, h.hK, h.hR, h.hG⟩
theorem ThAt.mono {S' : Nat → Prop} (h : ThAt w S p s N M) (hS : ∀ b, b < w.heap.size → S b → S' b) : ThAt w S' p s N M := by
  obtain ⟨⟨g, b1, m, l, o, Sr, Sg, Sk, h⟩, hi⟩ := h; exact ⟨⟨g, b1, m, l, o, Sr, Sg, Sk, h.mono hS⟩, hi⟩
theorem ThAt.more (h : ThAt w S p s N M) (hN : N ≤ N') (hM : M ≤ M') : ThAt w S p s N' M' := by
  obtain ⟨⟨g, b1, m, l, o, Sr, Sg, Sk, h⟩, hi⟩ := h
  exact ⟨⟨g, b1, m, l, o, Sr, Sg, Sk, h.hSp, h.hSm, h.hSr, h.hSg, h.hSk, h.hlt, h.dp, h.dm, h.drg, h.drk, h.dgk, h.hp, h.hmo, h.hmb, h.hK, h.hR.more hN, h.hG.more hM⟩, hi⟩
/-- The rows turn. -/
theorem ThO.rows {L' : Nat → List Int} (h : ThO w S p s N M g b1 m l o Sr Sg Sk) (hR : RowsAt w' (grow Sr w w') g 2 L' N') (hF : Fr Sr w w') : ThO w' (grow S w w') p { s with L := L' } N' M g b1 m l o (grow Sr w w') Sg Sk :=
  ⟨.inl h.hSp, .inl h.hSm, fun b q => q.imp (h.hSr b) (fun q => q), fun b q => .inl (h.hSg b q), fun b q => .inl (h.hSk b q),
   fun b q => q.elim (fun q => q.elim (fun q => Nat.lt_of_lt_of_le (h.hlt b (.inl q)) hF.size) (fun q => q.2)) (fun q => Nat.lt_of_lt_of_le (h.hlt b (.inr q)) hF.size),
   ⟨fun q => q.elim h.dp.1 (fun q => by have := lt_of_heap h.hp; omega), h.dp.2⟩, ⟨fun q => q.elim h.dm.1 (fun q => by have := lt_of_heap h.hmo; omega), h.dm.2⟩,
   fun b q r => q.elim (fun q => h.drg b q r) (fun q => by have := h.hlt b (.inr (.inl r)); omega), fun b q r => q.elim (fun q => h.drk b q r) (fun q => by have := h.hlt b (.inr (.inr r)); omega), h.dgk,
   (hF.block p (lt_of_heap h.hp) h.dp.1).trans h.hp, (hF.block m (lt_of_heap h.hmo) h.dm.1).trans h.hmo, h.hmb, h.hK.frame (fun b hb q => hF.block b hb fun r => h.drk b r q), hR, h.hG.fr hF (fun b _ q r => h.drg b r q)⟩
/-- The ghost turns. -/
theorem ThO.ghost {mB' : Int} {B' : List Int} (h : ThO w S p s N M g b1 m l o Sr Sg Sk) (hG : GhostAt w' (grow Sg w w') b1 mB' B' M') (hF : Fr Sg w w') : ThO w' (grow S w w') p { s with B := B', mB := mB' } N M' g b1 m l o Sr (grow Sg w w') Sk :=
  ⟨.inl h.hSp, .inl h.hSm, fun b q => .inl (h.hSr b q), fun b q => q.imp (h.hSg b) (fun q => q), fun b q => .inl (h.hSk b q),
   fun b q => q.elim (fun q => Nat.lt_of_lt_of_le (h.hlt b (.inl q)) hF.size) (fun q => q.elim (fun q => q.elim (fun q => Nat.lt_of_lt_of_le (h.hlt b (.inr (.inl q))) hF.size) (fun q => q.2)) (fun q => Nat.lt_of_lt_of_le (h.hlt b (.inr (.inr q))) hF.size)),
   ⟨h.dp.1, fun q => q.elim h.dp.2.1 (fun q => by have := lt_of_heap h.hp; omega), h.dp.2.2⟩, ⟨h.dm.1, fun q => q.elim h.dm.2.1 (fun q => by have := lt_of_heap h.hmo; omega), h.dm.2.2⟩,
   fun b q r => r.elim (fun r => h.drg b q r) (fun r => by have := h.hlt b (.inl q); omega), h.drk, fun b q r => q.elim (fun q => h.dgk b q r) (fun q => by have := h.hlt b (.inr (.inr r)); omega),
   (hF.block p (lt_of_heap h.hp) h.dp.2.1).trans h.hp, (hF.block m (lt_of_heap h.hmo) h.dm.2.1).trans h.hmo, h.hmb, h.hK.frame (fun b hb q => hF.block b hb fun r => h.dgk b r q), h.hR.fr hF (fun b _ q r => h.drg b q r), hG⟩
/-- An id is known no more. -/
theorem ThO.del {o' : Obj} (h : ThO w S p s N M g b1 m l o Sr Sg Sk) (id : Int) (ho : MapBlk .i64 (adel l id) o') : ThO (w.putObj m o') S p { s with K := setK s.K id none } N M g b1 m (adel l id) o' Sr Sg Sk := by
  have hk := h.hmb.keys
  refine ⟨h.hSp, h.hSm, h.hSr, h.hSg, h.hSk, fun b q => by rw [World.putObj_size]; exact h.hlt b q, h.dp, h.dm, h.drg, h.drk, h.dgk, (World.putObj_heap_other h.pm).trans h.hp, World.putObj_heap_same (lt_of_heap h.hmo), ho, ⟨?_, ?_, ?_⟩,
   h.hR.frame fun b hb q => World.putObj_heap_other fun e => h.dm.1 (e ▸ q), h.hG.frame fun b hb q => World.putObj_heap_other fun e => h.dm.2.1 (e ▸ q)⟩
  · intro k v hv
    rw [aget_adel hk] at hv
    split at hv
    · cases hv
    · rename_i hne
      obtain ⟨b, hh, c, h1, h2, h3, h4⟩ := h.hK.at_ k v hv
      exact ⟨b, hh, c, h1, h2, (setK_ne hne).trans h3, (World.putObj_heap_other (fun e : b = m => h.dm.2.2 (by rw [← e]; exact h2))).trans h4⟩
  · intro k hv
    rw [aget_adel hk] at hv
    show setK s.K id none k = none
    unfold setK
    split
    · rfl
    · rename_i hne; rw [if_neg hne] at hv; exact h.hK.no k hv
  · intro k k' v h1 h2
    rw [aget_adel hk] at h1 h2
    split at h1
    · cases h1
    · split at h2
      · cases h2
      · exact h.hK.inj k k' v h1 h2
/-- An id is known. -/
theorem ThO.ins {o' : Obj} (h : ThO w S p s N M g b1 m l o Sr Sg Sk) (id hh : Int) (ho : MapBlk .i64 (aset l id (.pointer (some ⟨w.heap.size, 0, none⟩))) o') :
    ThO ((w.alloc (knownB hh 0)).putObj m o') (grow S w (w.alloc (knownB hh 0))) p { s with K := setK s.K id (some (hh, 0)) } N M g b1 m (aset l id (.pointer (some ⟨w.heap.size, 0, none⟩))) o' Sr Sg (fun b => Sk b ∨ b = w.heap.size) := by
  have hk := h.hmb.keys
  have hsz : (w.alloc (knownB hh 0)).heap.size = w.heap.size + 1 := by simp
  have hlp := lt_of_heap h.hp
  have hlm := lt_of_heap h.hmo
  have hold : ∀ b, b < w.heap.size → b ≠ m → ((w.alloc (knownB hh 0)).putObj m o').heap[b]? = w.heap[b]? := fun b hb hne => (World.putObj_heap_other hne).trans (heap_alloc_old _ hb)
  refine ⟨.inl h.hSp, .inl h.hSm, fun b q => .inl (h.hSr b q), fun b q => .inl (h.hSg b q), fun b q => q.elim (fun q => .inl (h.hSk b q)) (fun q => .inr ⟨by omega, by omega⟩), ?_,
   ⟨h.dp.1, h.dp.2.1, fun q => q.elim h.dp.2.2 (fun q => by omega)⟩, ⟨h.dm.1, h.dm.2.1, fun q => q.elim h.dm.2.2 (fun q => by omega)⟩, h.drg,
   fun b q r => r.elim (h.drk b q) (fun r => by have := h.hlt b (.inl q); omega), fun b q r => r.elim (h.dgk b q) (fun r => by have := h.hlt b (.inr (.inl q)); omega),
   (hold p hlp h.pm).trans h.hp, World.putObj_heap_same (by rw [hsz]; omega), ho, ⟨?_, ?_, ?_⟩, h.hR.frame fun b hb q => hold b hb fun e => h.dm.1 (e ▸ q), h.hG.frame fun b hb q => hold b hb fun e => h.dm.2.1 (e ▸ q)⟩
  · intro b q
    rw [World.putObj_size, hsz]
    rcases q with q | q | q | q
    · have := h.hlt b (.inl q); omega
    · have := h.hlt b (.inr (.inl q)); omega
    · have := h.hlt b (.inr (.inr q)); omega
    · omega
  · intro k v hv
    rw [aget_aset hk] at hv
    split at hv
    · rename_i e
      cases hv
      exact ⟨_, hh, 0, rfl, .inr rfl, by rw [e]; exact setK_same _ _ _, (World.putObj_heap_other (by omega)).trans (heap_alloc_new _ _)⟩
    · rename_i hne
      obtain ⟨b, h', c, h1, h2, h3, h4⟩ := h.hK.at_ k v hv
      exact ⟨b, h', c, h1, .inl h2, (setK_ne hne).trans h3, (hold b (lt_of_heap h4) fun e => h.dm.2.2 (e ▸ h2)).trans h4⟩
  · intro k hv
    rw [aget_aset hk] at hv
    split at hv
    · cases hv
    · rename_i hne
      show setK s.K id (some (hh, 0)) k = none
      unfold setK
      rw [if_neg hne]; exact h.hK.no k hv
  · intro k k' v h1 h2
    rw [aget_aset hk] at h1 h2
    have hnew : ∀ k, aget l k ≠ some (.pointer (some ⟨w.heap.size, 0, none⟩)) := fun k q => by
      obtain ⟨b, _, _, e, _, _, h4⟩ := h.hK.at_ k _ q
      cases e
      exact absurd (lt_of_heap h4) (Nat.lt_irrefl _)
    split at h1
    · rename_i e1
      cases h1
      split at h2
      · rename_i e2; rw [e1, e2]
      · exact absurd h2 (hnew k')
    · split at h2
      · cases h2; exact absurd h1 (hnew k)
      · exact h.hK.inj k k' v h1 h2
/-- An id's count turns. -/
theorem ThO.count (h : ThO w S p s N M g b1 m l o Sr Sg Sk) {id : Int} {b : Nat} {hh c : Int} (hv : aget l id = some (.pointer (some ⟨b, 0, none⟩))) (hk : s.K id = some (hh, c)) (c' : Int) :
    ThO (w.setCell ⟨b, 1, none⟩ (.int .i64 c')) S p { s with K := setK s.K id (some (hh, c')) } N M g b1 m l o Sr Sg Sk := by
  obtain ⟨b', h', c2, e1, hSb, e3, e4⟩ := h.hK.at_ id _ hv
  cases e1
  rw [hk] at e3
  cases e3
  have hne : ∀ k, k ≠ b → (w.setCell ⟨b, 1, none⟩ (.int .i64 c')).heap[k]? = w.heap[k]? := fun k q => heap_setCell_other (p := ⟨b, 1, none⟩) q _
  refine ⟨h.hSp, h.hSm, h.hSr, h.hSg, h.hSk, fun k q => ?_, h.dp, h.dm, h.drg, h.drk, h.dgk, (hne p fun e => h.dp.2.2 (e ▸ hSb)).trans h.hp, (hne m fun e => h.dm.2.2 (e ▸ hSb)).trans h.hmo, h.hmb, ⟨?_, ?_, h.hK.inj⟩, h.hR.frame fun k hk q => hne k fun e => h.drk k q (e ▸ hSb), h.hG.frame fun k hk q => hne k fun e => h.dgk k q (e ▸ hSb)⟩
  · have := h.hlt k q; simpa [World.setCell] using this
  · intro k v hv'
    obtain ⟨b2, h2, c2, f1, f2, f3, f4⟩ := h.hK.at_ k v hv'
    by_cases e : k = id
    · subst e
      rw [hv] at hv'
      cases hv'
      cases f1
      refine ⟨_, hh, c', rfl, f2, setK_same _ _ _, ?_⟩
      rw [heap_setCell_same e4]; rfl
    · have hb2 : b2 ≠ b := fun q => e (h.hK.inj k id v hv' (by rw [f1, q]; exact hv))
      exact ⟨b2, h2, c2, f1, f2, (setK_ne e).trans f3, (hne b2 hb2).trans f4⟩
  · intro k hv'
    show setK s.K id _ k = none
    unfold setK
    rw [if_neg (fun e => by rw [e, hv] at hv'; cases hv')]
    exact h.hK.no k hv'
theorem ThO.setMost (h : ThO w S p s N M g b1 m l o Sr Sg Sk) (n : Int) : ThO (w.setCell ⟨p, 2, none⟩ (.int .i64 n)) S p { s with most := n } N M g b1 m l o Sr Sg Sk := by
  have hne : ∀ b, b ≠ p → (w.setCell ⟨p, 2, none⟩ (.int .i64 n)).heap[b]? = w.heap[b]? := fun b q => heap_setCell_other (p := ⟨p, 2, none⟩) q _
  refine ⟨h.hSp, h.hSm, h.hSr, h.hSg, h.hSk, fun b q => ?_, h.dp, h.dm, h.drg, h.drk, h.dgk, ?_, (hne m (fun e => h.pm e.symm)).trans h.hmo, h.hmb, h.hK.frame fun b hb q => hne b fun e => h.dp.2.2 (e ▸ q), h.hR.frame fun b hb q => hne b fun e => h.dp.1 (e ▸ q), h.hG.frame fun b hb q => hne b fun e => h.dp.2.1 (e ▸ q)⟩
  · have := h.hlt b q; simpa [World.setCell] using this
  · rw [heap_setCell_same h.hp]; simp
end
/-- What is known of an id, as the map gives it. -/
theorem ThO.find {w : World} {S : Nat → Prop} {p : Nat} {s : ThS} {N M g b1 m : Nat} {l : List (Int × Value)} {o : Obj} {Sr Sg Sk : Nat → Prop} (h : ThO w S p s N M g b1 m l o Sr Sg Sk) (id : Int) :
    (s.K id = none ∧ aget l id = none) ∨ ∃ b hh c, s.K id = some (hh, c) ∧ aget l id = some (.pointer (some ⟨b, 0, none⟩)) ∧ w.heap[b]? = some (knownB hh c) ∧ Sk b := by
  rcases ha : aget l id with _ | v
  · exact .inl ⟨h.hK.no id ha, rfl⟩
  · obtain ⟨b, hh, c, h1, h2, h3, h4⟩ := h.hK.at_ id v ha
    exact .inr ⟨b, hh, c, h3, by rw [h1], h4, h2⟩
end Go.Proofs.YtgdlndpjfejmcaaGreat.Thr
/- Layer 14 (sthree): what each call does, one. -/
namespace Go.Proofs.YtgdlndpjfejmcaaGreat.Thr
open Go.RowKit
set_option linter.unusedVariables false
set_option maxRecDepth 100000
theorem zero_known (w : World) : (zeroValue 133).run Tryz.prog w = .ok (.pointer none) w := by kernel_rfl
def th0 : ThS := ⟨fun _ => [], [], 0, 0, fun _ => none⟩
set_option maxHeartbeats 1000000 in
theorem th_new (w : World) :
    Calls Tryz.prog 26 #[] w fun e w' => ∃ p, e = .returned (.pointer (some ⟨p, 0, none⟩)) ∧ ThAt w' (fun b => w.heap.size ≤ b ∧ b < w'.heap.size) p th0 0 0 ∧ Fr (fun _ => False) w w' := by
  have hmm := @run_makeMap Tryz.prog
  go_enter Tryz.func26, Tryz.ntmps26
  go_wp2_with fail
  refine (rows_new 2 (by decide) (by decide) w).mono ?_
  rintro e w1 ⟨g, rfl, hA, hF⟩
  have H1 := Lib.hid (And.intro hA hF)
  clear hA hF
  go_wp2_with fail
  refine (new_at 0 w1).mono ?_
  rintro e w2 ⟨b1, rfl, hA, hF⟩
  have H2 := Lib.hid (And.intro hA hF)
  clear hA hF
  go_wp2
  go_ret
  obtain ⟨hA1, hF1⟩ := H1.out
  obtain ⟨hA2, hF2⟩ := H2.out
  have z1 := hF1.size
  have z2 := hF2.size
  obtain ⟨W, hW⟩ : ∃ W, ((w2.alloc (.map #[] 0)).alloc (.cells #[.pointer (some ⟨g, 0, none⟩), .pointer (some ⟨b1, 0, none⟩), .int .i64 0, .map (some w2.heap.size)] 94)) = W := ⟨_, rfl⟩
  have hFm : Fr (fun _ => False) w2 W := by rw [← hW]; exact ((Fr.refl _ w2).alloc _).alloc _
  have hz : W.heap.size = w2.heap.size + 2 := by rw [← hW]; simp
  have hfin : ∀ b, b < w2.heap.size → W.heap[b]? = w2.heap[b]? := fun b hb => hFm.block b hb (fun h => h)
  have hp : W.heap[w2.heap.size + 1]? = some (.cells #[.pointer (some ⟨g, 0, none⟩), .pointer (some ⟨b1, 0, none⟩), .int .i64 0, .map (some w2.heap.size)] 94 (0, 0)) := by
    rw [← hW]
    have := heap_alloc_new (w2.alloc (.map #[] 0)) (.cells #[.pointer (some ⟨g, 0, none⟩), .pointer (some ⟨b1, 0, none⟩), .int .i64 0, .map (some w2.heap.size)] 94)
    simpa using this
  have hm : W.heap[w2.heap.size]? = some (.map #[] 0) := by
    rw [← hW, heap_alloc_old _ (by simp), heap_alloc_new]
  have hR : Ending.returned (Value.pointer (some ⟨w2.heap.size + 1, 0, none⟩)) = Ending.returned (Value.pointer (some ⟨w2.heap.size + 1, 0, none⟩)) := rfl
  refine ⟨w2.heap.size + 1, by first | rfl | simp, ?_, ?_⟩
  · show ThAt ((w2.alloc (.map #[] 0)).alloc (.cells #[.pointer (some ⟨g, 0, none⟩), .pointer (some ⟨b1, 0, none⟩), .int .i64 0, .map (some w2.heap.size)] 94)) _ _ _ _ _
    rw [hW]
    refine ⟨⟨g, b1, w2.heap.size, [], .map #[] 0, fun b => w.heap.size ≤ b ∧ b < w1.heap.size, fun b => w1.heap.size ≤ b ∧ b < w2.heap.size, fun _ => False, ?_⟩, ⟨fun id => by simp [th0], fun id h c q => by cases q⟩⟩
    refine ⟨⟨by omega, by omega⟩, ⟨by omega, by omega⟩, fun b q => ⟨by have := q.1; omega, by have := q.2; omega⟩, fun b q => ⟨by have := q.1; omega, by have := q.2; omega⟩, fun b q => q.elim, ?_, ⟨fun q => by have := q.2; omega, fun q => by have := q.2; omega, fun q => q⟩,
      ⟨fun q => by have := q.2; omega, fun q => by have := q.2; omega, fun q => q⟩, fun b q r => by have := q.2; have := r.1; omega, fun b q r => r, fun b q r => r, hp, hm, mapBlk_nil _, ⟨fun k v q => (by cases q), fun k _ => rfl, fun k k' v q => (by cases q)⟩, ?_, ?_⟩
    · intro b q
      rcases q with q | q | q
      · have := q.2; omega
      · have := q.2; omega
      · exact q.elim
    · exact (hA1.fr hF2 (fun _ _ _ h => h)).frame fun b hb q => hfin b hb
    · exact hA2.frame fun b hb q => hfin b hb
  · show Fr _ w ((w2.alloc (.map #[] 0)).alloc (.cells #[.pointer (some ⟨g, 0, none⟩), .pointer (some ⟨b1, 0, none⟩), .int .i64 0, .map (some w2.heap.size)] 94))
    rw [hW]
    exact (hF1.trans hF2 (fun _ _ h => h)).trans hFm (fun _ _ h => h)
/-- Count, off memory. -/
def countT (s : ThS) (id : Int) : Int := match s.K id with
  | some (_, c) => c
  | none => -1
/-- Touch, off memory. -/
def touchT (s : ThS) (id : Int) : ThS := match s.K id with
  | some (h, c) => { s with K := setK s.K id (some (h, min (c + 1) 3)) }
  | none => s
theorem th_touch (S : Nat → Prop) (p : Nat) (s : ThS) (N M : Nat) (id : Int) (w : World) (h : ThAt w S p s N M) :
    Calls Tryz.prog 122 #[.pointer (some ⟨p, 0, none⟩), .int .i64 id] w fun e w' => e = .returned (.bool (s.K id).isSome) ∧ ThAt w' S p (touchT s id) N M ∧ Fr S w w' ∧ w.heap.size = w'.heap.size := by
  obtain ⟨⟨g, b1, m, l, o, Sr, Sg, Sk, h⟩, hi⟩ := h
  have c3 := cell_of_heap h.hp 3
  simp at c3
  have hmo := h.hmo
  have hmb := h.hmb
  unfold touchT
  rcases h.find id with ⟨hk, hv⟩ | ⟨b, hh, c, hk, hv, hb, hSk⟩
  · rw [hk]
    have HH := Lib.hid (And.intro h hi)
    clear h hi hk
    go_enter Tryz.func122, Tryz.ntmps122
    go_wp2_with (at_lookup; refine wpList_lookup_imap rfl _ _ 92 rfl 3 133 .i64 Tryz.underlying92 Tryz.underlying3 _ (zero_known _) m rfl o l hmo hmb id rfl ?_; rw [hv, Option.getD_none])
    go_ret
    exact ⟨rfl, ⟨⟨g, b1, m, l, o, Sr, Sg, Sk, HH.out.1⟩, HH.out.2⟩, Fr.refl _ _, rfl⟩
  · have hc := hi.cnt id hh c hk
    have hfin : ∀ c', c' = min (c + 1) 3 → ThAt (w.setCell ⟨b, 1, none⟩ (.int .i64 c')) S p { s with K := setK s.K id (some (hh, min (c + 1) 3)) } N M ∧ Fr S w (w.setCell ⟨b, 1, none⟩ (.int .i64 c')) ∧ w.heap.size = (w.setCell ⟨b, 1, none⟩ (.int .i64 c')).heap.size := by
      intro c' hc'
      subst hc'
      refine ⟨⟨⟨g, b1, m, l, o, Sr, Sg, Sk, h.count hv hk _⟩, ⟨fun k => ?_, fun k h' c2 q => ?_⟩⟩, ((Fr.refl S w).setCell (fun _ => h.hSk b hSk) _), by simp [World.setCell]⟩
      · show (setK s.K id _ k).isSome = true ↔ _
        unfold setK
        split
        · rename_i e; subst e
          rw [← hi.in_ k, hk]; simp
        · exact hi.in_ k
      · have q' : setK s.K id (some (hh, min (c + 1) 3)) k = some (h', c2) := q
        unfold setK at q'
        split at q'
        · cases q'; omega
        · exact hi.cnt k h' c2 q'
    have d1 := cell_of_heap hb 1
    have f1 := fro_of_heap hb 1
    simp at d1
    rw [hk]
    have HF := Lib.hid hfin
    clear h hi hk hfin
    have hc4 : c = 0 ∨ c = 1 ∨ c = 2 ∨ c = 3 := by omega
    rcases hc4 with rfl | rfl | rfl | rfl
    all_goals
      go_enter Tryz.func122, Tryz.ntmps122
      go_wp2_with (at_lookup; refine wpList_lookup_imap rfl _ _ 92 rfl 3 133 .i64 Tryz.underlying92 Tryz.underlying3 _ (zero_known _) m rfl o l hmo hmb id rfl ?_; rw [hv, Option.getD_some])
      go_ret
      exact ⟨rfl, HF.out _ (by decide)⟩
end Go.Proofs.YtgdlndpjfejmcaaGreat.Thr
/- Layer 14 (sthree): what each call does, two: Cap, Insert, Remove, Evict. -/
namespace Go.Proofs.YtgdlndpjfejmcaaGreat.Thr
open Go.RowKit
set_option linter.unusedVariables false
set_option maxRecDepth 100000
def capT (s : ThS) (n : Int) : ThS := { s with most := max 0 n, mB := max 0 n, B := cut (max 0 n) s.B }
set_option maxHeartbeats 1000000 in
theorem th_cap (S : Nat → Prop) (p : Nat) (s : ThS) (N M : Nat) (n : Int) (w : World) (h : ThAt w S p s N M) (hM : M ≤ 1000000) :
    Calls Tryz.prog 118 #[.pointer (some ⟨p, 0, none⟩), .int .i64 n] w fun e w' => e = .returned (.tuple #[]) ∧ ThAt w' (grow S w w') p (capT s n) N M ∧ Fr S w w' := by
  obtain ⟨⟨g, b1, m, l, o, Sr, Sg, Sk, h⟩, hi⟩ := h
  have c1 := cell_of_heap h.hp 1
  have c2 := cell_of_heap h.hp 2
  have f2 := fro_of_heap h.hp 2
  simp at c1 c2
  obtain ⟨mx, hmx⟩ : ∃ mx, max 0 n = mx := ⟨_, rfl⟩
  unfold capT
  rw [hmx]
  have h0 : 0 ≤ mx := by omega
  have hA := (h.setMost mx).frame (w' := (w.setCell ⟨p, 2, none⟩ (.int .i64 mx)).drew) (Nat.le_refl _) fun _ _ _ => rfl
  have hl := limit_at Sg b1 s.mB s.B M mx _ hA.hG hM
  rw [Int.max_eq_right h0] at hl
  have d1 : (w.setCell ⟨p, 2, none⟩ (.int .i64 mx)).cell? ⟨p, 1, none⟩ = some (.pointer (some ⟨b1, 0, none⟩)) := by rw [cell_of_heap (h.setMost mx).hp]; rfl
  have d2 : (w.setCell ⟨p, 2, none⟩ (.int .i64 mx)).cell? ⟨p, 2, none⟩ = some (.int .i64 mx) := by rw [cell_of_heap (h.setMost mx).hp]; rfl
  have HL := Lib.hid (And.intro hA (And.intro hl (And.intro h.hSp hi)))
  clear hA hl h hi h0
  have hc : n < 0 ∧ mx = 0 ∨ n = 0 ∧ mx = 0 ∨ 0 < n ∧ mx = n := by omega
  clear hmx
  rcases hc with ⟨hn, hm⟩ | ⟨hn, hm⟩ | ⟨hn, hm⟩
  · subst hm
    go_enter Tryz.func118, Tryz.ntmps118
    go_wp2_with fail
    obtain ⟨wz, hwz⟩ : ∃ wz, w.setCell ⟨p, 2, none⟩ (.int .i64 0) = wz := ⟨_, rfl⟩
    rw [hwz] at d1 d2 HL ⊢
    have HW := Lib.hid hwz
    clear hwz
    go_still_tail 8, (by kernel_rfl)
    go_wp2_with fail
    refine HL.out.2.1.mono ?_
    rintro e w1 ⟨rfl, hG, hF⟩
    have H1 := Lib.hid (And.intro hG hF)
    clear hG hF
    go_wp2
    go_end0
    obtain ⟨hG, hF⟩ := H1.out
    have hz : wz.drew.heap.size = w.heap.size := by rw [← HW.out]; simp [World.setCell, World.drew]
    refine ⟨rfl, ⟨⟨g, b1, m, l, o, Sr, _, Sk, (HL.out.1.ghost (hG.mono fun b _ q => Or.inl q) hF).mono fun b _ q => q.imp (fun q => q) (fun q => by rw [hz] at q; exact q)⟩, ⟨HL.out.2.2.2.in_, HL.out.2.2.2.cnt⟩⟩, ?_⟩
    refine Fr.trans (b := wz.drew) ?_ hF (fun b _ q => HL.out.1.hSg b q)
    rw [← HW.out]
    exact ((Fr.refl S w).setCell (fun _ => HL.out.2.2.1) _).drew
  · subst hm; subst hn
    go_enter Tryz.func118, Tryz.ntmps118
    go_wp2_with fail
    obtain ⟨wz, hwz⟩ : ∃ wz, w.setCell ⟨p, 2, none⟩ (.int .i64 0) = wz := ⟨_, rfl⟩
    rw [hwz] at d1 d2 HL ⊢
    have HW := Lib.hid hwz
    clear hwz
    go_still_tail 8, (by kernel_rfl)
    go_wp2_with fail
    refine HL.out.2.1.mono ?_
    rintro e w1 ⟨rfl, hG, hF⟩
    have H1 := Lib.hid (And.intro hG hF)
    clear hG hF
    go_wp2
    go_end0
    obtain ⟨hG, hF⟩ := H1.out
    have hz : wz.drew.heap.size = w.heap.size := by rw [← HW.out]; simp [World.setCell, World.drew]
    refine ⟨rfl, ⟨⟨g, b1, m, l, o, Sr, _, Sk, (HL.out.1.ghost (hG.mono fun b _ q => Or.inl q) hF).mono fun b _ q => q.imp (fun q => q) (fun q => by rw [hz] at q; exact q)⟩, ⟨HL.out.2.2.2.in_, HL.out.2.2.2.cnt⟩⟩, ?_⟩
    refine Fr.trans (b := wz.drew) ?_ hF (fun b _ q => HL.out.1.hSg b q)
    rw [← HW.out]
    exact ((Fr.refl S w).setCell (fun _ => HL.out.2.2.1) _).drew
  · subst hm
    go_enter Tryz.func118, Tryz.ntmps118
    go_wp2_with fail
    obtain ⟨wz, hwz⟩ : ∃ wz, w.setCell ⟨p, 2, none⟩ (.int .i64 mx) = wz := ⟨_, rfl⟩
    rw [hwz] at d1 d2 HL ⊢
    have HW := Lib.hid hwz
    clear hwz
    go_still_tail 8, (by kernel_rfl)
    go_wp2_with fail
    refine HL.out.2.1.mono ?_
    rintro e w1 ⟨rfl, hG, hF⟩
    have H1 := Lib.hid (And.intro hG hF)
    clear hG hF
    go_wp2
    go_end0
    obtain ⟨hG, hF⟩ := H1.out
    have hz : wz.drew.heap.size = w.heap.size := by rw [← HW.out]; simp [World.setCell, World.drew]
    refine ⟨rfl, ⟨⟨g, b1, m, l, o, Sr, _, Sk, (HL.out.1.ghost (hG.mono fun b _ q => Or.inl q) hF).mono fun b _ q => q.imp (fun q => q) (fun q => by rw [hz] at q; exact q)⟩, ⟨HL.out.2.2.2.in_, HL.out.2.2.2.cnt⟩⟩, ?_⟩
    refine Fr.trans (b := wz.drew) ?_ hF (fun b _ q => HL.out.1.hSg b q)
    rw [← HW.out]
    exact ((Fr.refl S w).setCell (fun _ => HL.out.2.2.1) _).drew
end Go.Proofs.YtgdlndpjfejmcaaGreat.Thr
/- Layer 14 (sthree): what each call does, three: Insert, Remove, Evict. -/
namespace Go.Proofs.YtgdlndpjfejmcaaGreat.Thr
open Go.RowKit
set_option linter.unusedVariables false
set_option maxRecDepth 100000
/-- Remove, off memory. -/
def remT (s : ThS) (id : Int) : ThS := { s with L := del s.L id, K := setK s.K id none }
theorem th_remove (S : Nat → Prop) (p : Nat) (s : ThS) (N M : Nat) (id : Int) (w : World) (h : ThAt w S p s N M) (hN : N ≤ 1000000) :
    Calls Tryz.prog 121 #[.pointer (some ⟨p, 0, none⟩), .int .i64 id] w fun e w' =>
      e = .returned (.bool (decide (0 ≤ rowOf 2 s.L id))) ∧ ThAt w' (grow S w w') p (remT s id) N M ∧ Fr S w w' := by
  obtain ⟨⟨g, b1, m, l, o, Sr, Sg, Sk, h⟩, hi⟩ := h
  have c0 := cell_of_heap h.hp 0
  have c3 := cell_of_heap h.hp 3
  simp at c0 c3
  have hmo := h.hmo
  have hmb := h.hmb
  have d0 := fun o' : Obj => cell_putObj (w := w) (b := m) o' (p := ⟨p, 0, none⟩) h.pm
  have HH := Lib.hid (And.intro h hi)
  clear h hi
  go_enter Tryz.func121, Tryz.ntmps121
  go_wp2_with (first
    | (at_delete; refine wpList_delete_imap rfl _ _ 92 3 rfl 133 .i64 Tryz.underlying92 Tryz.underlying3 m rfl o l hmo hmb id rfl ?_; intro o3 ho3; have HO := Lib.hid (HH.out.1.del id ho3); clear ho3)
    | (go_at_call 92; refine (rows_take Sr g 2 s.L N id _ HO.out.hR hN).mono ?_; rintro e w1 ⟨rfl, hA, hF⟩; have H1 := Lib.hid (And.intro hA hF); clear hA hF))
  go_ret
  have hsz : (w.putObj m o3).heap.size = w.heap.size := by simp
  refine ⟨rfl, ⟨⟨_, _, _, _, _, _, _, _, (HO.out.rows H1.out.1 H1.out.2).mono fun b _ q => q.imp (fun q => q) (fun q => by rw [hsz] at q; exact q)⟩, ⟨fun k => ?_, fun k hh c q => ?_⟩⟩, ?_⟩
  · show (setK s.K id none k).isSome = true ↔ (k ∈ del s.L id 0 ∨ k ∈ del s.L id 1)
    rw [mem_del2, ← HH.out.2.in_ k]
    by_cases e : k = id
    · subst e; rw [setK_same]; simp
    · rw [setK_ne e]; simp [e]
  · have q' : setK s.K id none k = some (hh, c) := q
    by_cases e : k = id
    · subst e; rw [setK_same] at q'; cases q'
    · rw [setK_ne e] at q'; exact HH.out.2.cnt k hh c q'
  · exact ((Fr.refl S w).putObj (fun _ => HH.out.1.hSm) o3).trans (H1.out.2.mono fun b _ q => HH.out.1.hSr b q) (fun _ _ q => q)
/-- Insert, off memory. -/
def inOk (s : ThS) (id : Int) : Bool := decide (s.K id = none ∧ 0 ≤ id ∧ id ≤ 4194303)
def inR (s : ThS) (h : Int) : Int := if h ∈ s.B then 1 else 0
def inT (s : ThS) (id h : Int) : ThS := if inOk s id then { s with B := grem s.B h, K := setK s.K id (some (h, 0)), L := frontL 2 s.L (inR s h) id } else s
set_option maxHeartbeats 2000000 in
theorem th_insert_no (S : Nat → Prop) (p : Nat) (s : ThS) (N M : Nat) (id hh : Int) (w : World) (h : ThAt w S p s N M) (hno : inOk s id = false) :
    Calls Tryz.prog 120 #[.pointer (some ⟨p, 0, none⟩), .int .i64 id, .int .u64 hh] w fun e w' => e = .returned (.bool false) ∧ w = w' := by
  obtain ⟨⟨g, b1, m, l, o, Sr, Sg, Sk, h⟩, hi⟩ := h
  have c3 := cell_of_heap h.hp 3
  simp at c3
  have hmo := h.hmo
  have hmb := h.hmb
  have hc := of_decide_eq_false hno
  rcases h.find id with ⟨hk, hv⟩ | ⟨b, h', c, hk, hv, hb, _⟩
  · have hc' : ¬ (0 ≤ id ∧ id ≤ 4194303) := fun q => hc ⟨hk, q⟩
    clear h hi hc hno hk
    by_cases h2 : id < 0
    · have h2' : decide (id < 0) = true := decide_eq_true h2
      clear hc' h2
      go_enter Tryz.func120, Tryz.ntmps120
      go_wp2_with (at_lookup; refine wpList_lookup_imap rfl _ _ 92 rfl 3 133 .i64 Tryz.underlying92 Tryz.underlying3 _ (zero_known _) m rfl o l hmo hmb id rfl ?_; rw [hv, Option.getD_none])
      go_ret
      exact ⟨rfl, rfl⟩
    · have h2' : decide (id < 0) = false := decide_eq_false h2
      have h3' : decide (4194303 < id) = true := decide_eq_true (by omega)
      clear hc' h2
      go_enter Tryz.func120, Tryz.ntmps120
      go_wp2_with (at_lookup; refine wpList_lookup_imap rfl _ _ 92 rfl 3 133 .i64 Tryz.underlying92 Tryz.underlying3 _ (zero_known _) m rfl o l hmo hmb id rfl ?_; rw [hv, Option.getD_none])
      go_ret
      exact ⟨rfl, rfl⟩
  · clear h hi hc hno hk hb
    go_enter Tryz.func120, Tryz.ntmps120
    go_wp2_with (at_lookup; refine wpList_lookup_imap rfl _ _ 92 rfl 3 133 .i64 Tryz.underlying92 Tryz.underlying3 _ (zero_known _) m rfl o l hmo hmb id rfl ?_; rw [hv, Option.getD_some])
    go_ret
    exact ⟨rfl, rfl⟩
set_option maxHeartbeats 2000000 in
theorem th_insert_ok (S : Nat → Prop) (p : Nat) (s : ThS) (N M : Nat) (id hh : Int) (w : World) (h : ThAt w S p s N M) (hok : inOk s id = true) (hN : N < 1000000) (hM : M ≤ 1000000) :
    Calls Tryz.prog 120 #[.pointer (some ⟨p, 0, none⟩), .int .i64 id, .int .u64 hh] w fun e w' => e = .returned (.bool true) ∧ ThAt w' (grow S w w') p { s with B := grem s.B hh, K := setK s.K id (some (hh, 0)), L := frontL 2 s.L (inR s hh) id } (N + 1) M ∧ Fr S w w' := by
  obtain ⟨⟨g, b1, m, l, o, Sr, Sg, Sk, h⟩, hi⟩ := h
  have c0 := cell_of_heap h.hp 0
  have c1 := cell_of_heap h.hp 1
  have c3 := cell_of_heap h.hp 3
  simp at c0 c1 c3
  have hmo := h.hmo
  have hmb := h.hmb
  have hc := of_decide_eq_true hok
  have hv : aget l id = none := by
    rcases h.find id with ⟨_, hv⟩ | ⟨b, h', c, hk, _⟩
    · exact hv
    · rw [hc.1] at hk; cases hk
  have h2' : decide (id < 0) = false := decide_eq_false (by omega)
  have h3' : decide (4194303 < id) = false := decide_eq_false (by omega)
  have HG := Lib.hid (remove_at Sg b1 s.mB s.B M hh w h.hG hM)
  have HH := Lib.hid (And.intro h (And.intro hi (And.intro hc hN)))
  clear h hi hc hok hN hM
  obtain ⟨r, hr⟩ : ∃ r, inR s hh = r := ⟨_, rfl⟩
  have hr01 : r = 0 ∨ r = 1 := by rw [← hr]; unfold inR; split <;> simp
  have HR := Lib.hid (And.intro hr hr01)
  rw [hr]
  obtain ⟨B, hB⟩ : ∃ B, grem s.B hh = B := ⟨_, rfl⟩
  rw [hB] at HG ⊢
  have hrd : (r = 1 ∧ decide (hh ∈ s.B) = true) ∨ (r = 0 ∧ decide (hh ∈ s.B) = false) := by
    rw [← hr]; unfold inR
    by_cases q : hh ∈ s.B
    · exact .inl ⟨if_pos q, decide_eq_true q⟩
    · exact .inr ⟨if_neg q, decide_eq_false q⟩
  clear hr hr01 hB
  rcases hrd with ⟨rfl, hd⟩ | ⟨rfl, hd⟩
  all_goals
    rw [hd] at HG
    clear hd
    go_enter Tryz.func120, Tryz.ntmps120
    go_wp2_with (first
      | (at_lookup; refine wpList_lookup_imap rfl _ _ 92 rfl 3 133 .i64 Tryz.underlying92 Tryz.underlying3 _ (zero_known _) m rfl o l hmo hmb id rfl ?_; rw [hv, Option.getD_none])
      | (go_at_call 116; fail))
    refine HG.out.mono ?_
    rintro e w1 ⟨rfl, hG, hF⟩
    have hO1 := HH.out.1.ghost (hG.mono fun b _ q => Or.inl q) hF
    have e0 := cell_of_heap hO1.hp 0
    have e3 := cell_of_heap hO1.hp 3
    simp at e0 e3
    have hmo1 := hO1.hmo
    have hne := hO1.pm
    have hlp := lt_of_heap hO1.hp
    have hlm := lt_of_heap hO1.hmo
    have hmo2 : (w1.alloc (knownB hh 0)).heap[m]? = some o := by rw [heap_alloc_old _ hlm]; exact hmo1
    have e0' : ∀ o' : Obj, ((w1.alloc (knownB hh 0)).putObj m o').cell? ⟨p, 0, none⟩ = some (.pointer (some ⟨g, 0, none⟩)) := fun o' => (cell_putObj o' hne).trans ((World.cell?_of_block (w := w1) (heap_alloc_old _ hlp)).trans e0)
    have e3' : (w1.alloc (knownB hh 0)).cell? ⟨p, 3, none⟩ = some (.map (some m)) := (World.cell?_of_block (w := w1) (heap_alloc_old _ hlp)).trans e3
    have H1 := Lib.hid (And.intro hO1 (hF.mono fun b _ q => HH.out.1.hSg b q))
    clear hG hF hO1 hne hlp hlm
    unfold knownB at hmo2 e0' e3'
    go_wp2_with (first
      | (at_mapUpdate; refine wpList_update_imap rfl _ _ _ 92 rfl 3 133 .i64 Tryz.underlying92 Tryz.underlying3 m rfl o l hmo2 hmb id rfl _ rfl ?_; intro o6 ho6; have HO := Lib.hid (H1.out.1.ins id hh ho6); clear ho6)
      | (go_at_call 93; refine (rows_front Sr g 2 s.L N _ id _ HO.out.hR HH.out.2.2.2).mono ?_; rintro e w2 ⟨rfl, hR, hF⟩; have H2 := Lib.hid (And.intro hR hF); clear hR hF))
    go_ret
    have hid := HH.out.2.2.1.2
    have hz1 : w.heap.size ≤ w1.heap.size := H1.out.2.size
    have hza : (w1.alloc (knownB hh 0)).heap.size = w1.heap.size + 1 := by simp
    have hzb : ((w1.alloc (knownB hh 0)).putObj m o6).heap.size = w1.heap.size + 1 := by simp
    have hz2 : w1.heap.size + 1 ≤ w2.heap.size := by have := H2.out.2.size; rw [← hzb]; exact this
    refine ⟨congrArg (fun b => Ending.returned (Value.bool b)) (decide_eq_true (by omega)), ⟨⟨_, _, _, _, _, _, _, _, (HO.out.rows H2.out.1 H2.out.2).mono fun b _ q => ?_⟩, ⟨fun k => ?_, fun k h' c q => ?_⟩⟩, ?_⟩
    · rcases q with ((q | q) | q) | q
      · exact Or.inl q
      · exact Or.inr ⟨q.1, by have := q.2; omega⟩
      · exact Or.inr ⟨by have := q.1; omega, by have := q.2; omega⟩
      · exact Or.inr ⟨by have h1 := q.1; rw [hzb] at h1; omega, q.2⟩
    · show (setK s.K id (some (hh, 0)) k).isSome = true ↔ _
      rw [mem_front2 (by decide) hid.1 hid.2 k, ← HH.out.2.1.in_ k]
      by_cases e : k = id
      · subst e; rw [setK_same]; simp
      · rw [setK_ne e]; simp [e]
    · have q' : setK s.K id (some (hh, 0)) k = some (h', c) := q
      by_cases e : k = id
      · subst e; rw [setK_same] at q'; cases q'; omega
      · rw [setK_ne e] at q'; exact HH.out.2.1.cnt k h' c q'
    · exact ((H1.out.2.alloc (knownB hh 0)).putObj (b := m) (fun _ => HH.out.1.hSm) o6).trans H2.out.2 (fun b _ q => HH.out.1.hSr b q)
theorem th_insert (S : Nat → Prop) (p : Nat) (s : ThS) (N M : Nat) (id hh : Int) (w : World) (h : ThAt w S p s N M) (hN : N < 1000000) (hM : M ≤ 1000000) :
    Calls Tryz.prog 120 #[.pointer (some ⟨p, 0, none⟩), .int .i64 id, .int .u64 hh] w fun e w' => e = .returned (.bool (inOk s id)) ∧ ThAt w' (grow S w w') p (inT s id hh) (N + 1) M ∧ Fr S w w' := by
  unfold inT
  rcases hok : inOk s id with _ | _
  · rw [if_neg (by simp)]
    refine (th_insert_no S p s N M id hh w h hok).mono fun e w' ⟨he, hw⟩ => ?_
    subst hw
    exact ⟨he, (h.mono fun b _ q => Or.inl q).more (Nat.le_succ _) (Nat.le_refl _), Fr.refl _ _⟩
  · rw [if_pos rfl]
    exact th_insert_ok S p s N M id hh w h hok hN hM
/-- Evict, off memory. -/
def numT (s : ThS) (id : Int) : Int := match s.K id with
  | some (h, _) => h
  | none => 0
def evT (s : ThS) (id : Int) : ThS := remT (if rowOf 2 s.L id = 0 then { s with B := gadd s.mB s.B (numT s id) } else s) id
set_option maxHeartbeats 2000000 in
theorem th_evict (S : Nat → Prop) (p : Nat) (s : ThS) (N M : Nat) (id : Int) (w : World) (h : ThAt w S p s N M) (hN : N ≤ 1000000) (hM : M < 1000000) :
    Calls Tryz.prog 119 #[.pointer (some ⟨p, 0, none⟩), .int .i64 id] w fun e w' =>
      e = .returned (.bool (decide (0 ≤ rowOf 2 s.L id))) ∧ ThAt w' (grow S w w') p (evT s id) N (M + 1) ∧ Fr S w w' := by
  have hw := h
  obtain ⟨⟨g, b1, m, l, o, Sr, Sg, Sk, h⟩, hi⟩ := h
  have c0 := cell_of_heap h.hp 0
  have c1 := cell_of_heap h.hp 1
  have c3 := cell_of_heap h.hp 3
  simp at c0 c1 c3
  have hmo := h.hmo
  have hmb := h.hmb
  have HC := Lib.hid (rows_row Sr g 2 s.L N id w h.hR)
  unfold evT
  by_cases hr : rowOf 2 s.L id = 0
  · have hm0 : id ∈ s.L 0 := by
      rcases rowOf_two h.hR id with ⟨_, q, _⟩ | ⟨q, _⟩ | ⟨q, _⟩
      · exact q
      · rw [hr] at q; cases q
      · rw [hr] at q; cases q
    rw [hr] at HC
    rw [if_pos hr]
    rcases h.find id with ⟨hk, hv⟩ | ⟨b, hh, c, hk, hv, hb, hSk⟩
    · have := (hi.in_ id).2 (.inl hm0)
      rw [hk] at this; cases this
    · have hn : numT s id = hh := by unfold numT; rw [hk]
      rw [hn]
      have d0 := cell_of_heap hb 0
      simp at d0
      have HA := Lib.hid (add_at Sg b1 s.mB s.B M hh w.drew (h.hG.frame fun _ _ _ => rfl) hM)
      have HH := Lib.hid (And.intro h (And.intro hi hN))
      clear h hi hr hN hM hm0 hk hn hb hSk hw
      go_enter Tryz.func119, Tryz.ntmps119
      go_wp2_with (go_at_call 84; refine HC.out.mono ?_; rintro e w1 ⟨rfl, rfl⟩)
      go_still_tail 13, (by kernel_rfl)
      refine wpStill_lookup_imap rfl _ _ 92 rfl 3 133 .i64 Tryz.underlying92 Tryz.underlying3 _ (zero_known _) m rfl o l hmo hmb id rfl ?_
      rw [hv, Option.getD_some]
      repeat still_step
      refine wpStill_nil ?_
      go_wp2_with fail
      refine HA.out.mono ?_
      rintro e w1 ⟨rfl, hG, hF⟩
      have H1 := Lib.hid (And.intro (ThO.ghost (w := w.drew) (HH.out.1.frame (Nat.le_refl _) fun _ _ _ => rfl) hG hF) (Fr.mono (T := S) hF (fun b _ q => HH.out.1.hSg b q)))
      clear hG hF
      go_wp2_with fail
      refine (th_remove _ p _ N (M + 1) id w1 ⟨⟨_, _, _, _, _, _, _, _, H1.out.1⟩, ⟨HH.out.2.1.in_, HH.out.2.1.cnt⟩⟩ HH.out.2.2).mono ?_
      rintro e w2 ⟨rfl, hA, hF⟩
      have H2 := Lib.hid (And.intro hA hF)
      clear hA hF
      go_wp2
      go_ret
      have hz1 : w.heap.size ≤ w1.heap.size := H1.out.2.size
      exact ⟨rfl, H2.out.1.mono (fun b _ q => grow_grow (a := w) (b := w1) hz1 H2.out.2.size q), Fr.grown (a := w) (b := w1) ((Fr.refl S w).drew.trans H1.out.2 (fun _ _ q => q)) H2.out.2⟩
  · rw [if_neg hr]
    obtain ⟨ro, hro⟩ : ∃ ro, rowOf 2 s.L id = ro := ⟨_, rfl⟩
    rw [hro] at HC hr
    have hr' : (ro == 0) = false := by rw [beq_eq_false_iff_ne]; exact hr
    have HW := Lib.hid (And.intro hw (And.intro hN hro))
    clear h hi hr hN hM hw hro
    go_enter Tryz.func119, Tryz.ntmps119
    go_wp2_with fail
    refine HC.out.mono ?_
    rintro e w1 ⟨rfl, rfl⟩
    go_wp2_with fail
    refine (th_remove S p s N M id w HW.out.1 HW.out.2.1).mono ?_
    rintro e w2 ⟨rfl, hA, hF⟩
    have H2 := Lib.hid (And.intro hA hF)
    clear hA hF
    go_wp2
    go_ret
    exact ⟨rfl, H2.out.1.more (Nat.le_refl _) (Nat.le_succ _), H2.out.2⟩
end Go.Proofs.YtgdlndpjfejmcaaGreat.Thr
