/- Small laws on memory: what a call may turn; maps keyed by integers, entry by entry. -/
import Derived.WalkKit
import Derived.WalkSpells
import Derived.Lib.Hide
import Derived.Maps.OwnSet
import Derived.Maps.OwnOps
import Derived.RangeFuncRecord
import Derived.Deep.Draws
import Derived.Deep.QuietTactic
import Derived.BigQuiet
import Derived.Test.YtgdlndpjfejmcaaGreatRows
namespace Go.Proofs.YtgdlndpjfejmcaaGreat
open Go.RowKit
set_option linter.unusedVariables false
set_option maxRecDepth 100000

/-- Of the blocks that lay there, those outside S are as they were. -/
structure Fr (S : Nat → Prop) (w w' : World) : Prop where
  os : w'.os = w.os
  tape : w'.tape = w.tape
  output : w'.output = w.output
  size : w.heap.size ≤ w'.heap.size
  block : ∀ k, k < w.heap.size → ¬ S k → w'.heap[k]? = w.heap[k]?

theorem Fr.refl (S : Nat → Prop) (w : World) : Fr S w w := ⟨rfl, rfl, rfl, Nat.le_refl _, fun _ _ _ => rfl⟩
theorem Fr.mono {S T : Nat → Prop} {w w' : World} (h : Fr S w w') (hT : ∀ k, k < w.heap.size → S k → T k) : Fr T w w' :=
  ⟨h.os, h.tape, h.output, h.size, fun k hk hn => h.block k hk fun hs => hn (hT k hk hs)⟩
/-- Two steps: what the second turns lies in S or is new. -/
theorem Fr.trans {S T : Nat → Prop} {a b c : World} (h : Fr S a b) (k : Fr T b c) (hT : ∀ i, i < a.heap.size → T i → S i) : Fr S a c :=
  ⟨k.os.trans h.os, k.tape.trans h.tape, k.output.trans h.output, Nat.le_trans h.size k.size,
    fun i hi hn => (k.block i (Nat.lt_of_lt_of_le hi h.size) fun ht => hn (hT i hi ht)).trans (h.block i hi hn)⟩
theorem Fr.alloc {S : Nat → Prop} {a w : World} (h : Fr S a w) (o : Obj) : Fr S a (w.alloc o) :=
  h.trans (T := fun _ => False) ⟨rfl, rfl, rfl, by simp, fun k hk _ => Below.heap_alloc _ _ _ hk⟩ (fun _ _ f => f.elim)
theorem Fr.drew {S : Nat → Prop} {a w : World} (h : Fr S a w) : Fr S a w.drew := ⟨h.os, h.tape, h.output, h.size, h.block⟩
theorem Fr.drewN {S : Nat → Prop} {a w : World} (h : Fr S a w) (n : Nat) : Fr S a (w.drewN n) := ⟨h.os, h.tape, h.output, h.size, h.block⟩
theorem Fr.setCell {S : Nat → Prop} {a w : World} (h : Fr S a w) {p : Addr} (hp : p.block < a.heap.size → S p.block) (u : Value) : Fr S a (w.setCell p u) :=
  h.trans (T := fun i => i = p.block) ⟨rfl, rfl, rfl, by simp [World.setCell], fun k hk hn => Below.heap_setCell _ _ _ _ hn⟩ (fun i hi e => by subst e; exact hp hi)
theorem Fr.putObj {S : Nat → Prop} {a w : World} (h : Fr S a w) {b : Nat} (hb : b < a.heap.size → S b) (o : Obj) : Fr S a (w.putObj b o) :=
  h.trans (T := fun i => i = b) ⟨rfl, rfl, rfl, by simp, fun k hk hn => World.putObj_heap_other hn⟩ (fun i hi e => by subst e; exact hb hi)
theorem Fr.of_grown {w w' : World} {row : Option Nat} (h : w.grownBy w' row) : Fr (fun k => some k = row) w w' :=
  ⟨h.os, h.tape, h.output, h.size, fun k hk hn => h.block k hk hn⟩
theorem Fr.of_below {B : Nat} {w w' : World} (h : Below B w w') : Fr (fun k => B ≤ k) w w' :=
  ⟨h.os, h.tape, h.output, h.size, fun k hk hn => h.block k (by omega)⟩
theorem Fr.below {S : Nat → Prop} {w w' : World} (h : Fr S w w') {B : Nat} (hB : B ≤ w.heap.size) (hS : ∀ k, k < w.heap.size → S k → B ≤ k) : Below B w w' :=
  ⟨h.os, h.tape, h.output, h.size, fun k hk => h.block k (by omega) fun hs => by have := hS k (by omega) hs; omega⟩
theorem Fr.cell {S : Nat → Prop} {w w' : World} (h : Fr S w w') {p : Addr} (hp : p.block < w.heap.size) (hn : ¬ S p.block) : w'.cell? p = w.cell? p := World.cell?_of_block (w := w) (h.block p.block hp hn)
theorem Fr.fro {S : Nat → Prop} {w w' : World} (h : Fr S w w') {p : Addr} (hp : p.block < w.heap.size) (hn : ¬ S p.block) : w'.frozen? p = w.frozen? p := World.frozen?_of_block (w := w) (h.block p.block hp hn)

theorem lt_of_heap {w : World} {b : Nat} {o : Obj} (h : w.heap[b]? = some o) : b < w.heap.size := (Array.getElem?_eq_some_iff.1 h).1
theorem cell_of_heap {w : World} {b : Nat} {c : Array Value} {t : TypeId} {f : Nat × Nat} (h : w.heap[b]? = some (.cells c t f)) (i : Nat) : w.cell? ⟨b, i, none⟩ = c[i]? := by
  simp [World.cell?, h]
theorem fro_of_heap {w : World} {b : Nat} {c : Array Value} {t : TypeId} (h : w.heap[b]? = some (.cells c t (0, 0))) (i : Nat) : w.frozen? ⟨b, i, none⟩ = false := by
  simp [World.frozen?, h]
theorem heap_alloc_new (w : World) (o : Obj) : (w.alloc o).heap[w.heap.size]? = some o := by
  show (w.heap.push o)[w.heap.size]? = _
  simp
theorem heap_alloc_old {w : World} {b : Nat} (o : Obj) (h : b < w.heap.size) : (w.alloc o).heap[b]? = w.heap[b]? := Below.heap_alloc _ _ _ h
theorem heap_setCell_same {w : World} {b : Nat} {c : Array Value} {t : TypeId} {f : Nat × Nat} (h : w.heap[b]? = some (.cells c t f)) (i : Nat) (u : Value) :
    (w.setCell ⟨b, i, none⟩ u).heap[b]? = some (.cells (c.setIfInBounds i u) t f) := by
  simp only [World.setCell, Array.getElem?_modify]
  simp [h]
theorem heap_setCell_other {w : World} {b : Nat} {p : Addr} (h : b ≠ p.block) (u : Value) : (w.setCell p u).heap[b]? = w.heap[b]? := Below.heap_setCell _ _ _ _ h

/-! ### Maps keyed by integers -/
def aget (l : List (Int × Value)) (k : Int) : Option Value := (l.find? (fun p => p.1 == k)).map (·.2)
def aset (l : List (Int × Value)) (k : Int) (v : Value) : List (Int × Value) := if (aget l k).isSome then l.map (fun p => if p.1 = k then (k, v) else p) else l ++ [(k, v)]
def adel (l : List (Int × Value)) (k : Int) : List (Int × Value) := l.filter (fun p => p.1 != k)
def Keys (l : List (Int × Value)) : Prop := (l.map (·.1)).Nodup

def MapBlk (q : IntKind) (l : List (Int × Value)) (o : Obj) : Prop :=
  ∃ es clk, o = .map es clk ∧ es.toList.map (fun (e : MapEntry) => (e.key, e.val)) = l.map (fun (p : Int × Value) => (Value.int q p.1, p.2)) ∧ Keys l

theorem aget_nil (k : Int) : aget [] k = none := rfl
theorem aget_none {l : List (Int × Value)} {k : Int} : aget l k = none ↔ ∀ p ∈ l, p.1 ≠ k := by
  unfold aget; simp
theorem aget_mem {l : List (Int × Value)} (hn : Keys l) {k : Int} {v : Value} (h : (k, v) ∈ l) : aget l k = some v := by
  induction l with
  | nil => simp at h
  | cons p l ih =>
    have hn' : p.1 ∉ l.map (·.1) ∧ (l.map (·.1)).Nodup := by simpa [Keys] using hn
    rcases List.mem_cons.1 h with h | h
    · subst h; simp [aget]
    · have hne : p.1 ≠ k := fun e => hn'.1 (by rw [e]; exact List.mem_map.2 ⟨_, h, rfl⟩)
      have := ih hn'.2 h
      unfold aget at this ⊢
      rw [List.find?_cons_of_neg (by simpa using hne)]; exact this
theorem mem_of_aget {l : List (Int × Value)} {k : Int} {v : Value} (h : aget l k = some v) : (k, v) ∈ l := by
  unfold aget at h
  rcases hf : l.find? (fun p => p.1 == k) with _ | p
  · simp [hf] at h
  · rw [hf] at h
    have h1 := List.find?_some hf
    have h2 := List.mem_of_find?_eq_some hf
    simp at h h1
    subst h; subst h1; exact h2
theorem aget_iff {l : List (Int × Value)} (hn : Keys l) {k : Int} {v : Value} : aget l k = some v ↔ (k, v) ∈ l := ⟨mem_of_aget, aget_mem hn⟩
theorem keys_aset {l : List (Int × Value)} (hn : Keys l) (k : Int) (v : Value) : Keys (aset l k v) := by
  unfold aset
  split
  · have : (l.map (fun p => if p.1 = k then (k, v) else p)).map (·.1) = l.map (·.1) := by
      rw [List.map_map]; apply List.map_congr_left; intro p _; simp only [Function.comp]; split <;> simp_all
    unfold Keys; rw [this]; exact hn
  · rename_i h
    have h' : aget l k = none := by simpa using h
    unfold Keys at hn ⊢
    rw [List.map_append, List.nodup_append]
    refine ⟨hn, by simp, ?_⟩
    intro a ha b hb e
    obtain ⟨p, hp, rfl⟩ := List.mem_map.1 ha
    simp at hb
    exact aget_none.1 h' p hp (by rw [e, hb])
theorem keys_adel {l : List (Int × Value)} (hn : Keys l) (k : Int) : Keys (adel l k) := by
  unfold Keys adel at *
  exact hn.sublist (List.filter_sublist.map _)
theorem aget_aset {l : List (Int × Value)} (hn : Keys l) (k : Int) (v : Value) (k' : Int) : aget (aset l k v) k' = if k' = k then some v else aget l k' := by
  have hk := keys_aset hn k v
  split
  · rename_i e; subst e
    refine (aget_iff hk).2 ?_
    unfold aset; split
    · rename_i h
      obtain ⟨u, hu⟩ := Option.isSome_iff_exists.1 h
      exact List.mem_map.2 ⟨(k', u), mem_of_aget hu, by simp⟩
    · simp
  · rename_i e
    apply Option.ext; intro u
    rw [aget_iff hk, aget_iff hn]
    unfold aset; split
    · rw [List.mem_map]; constructor
      · rintro ⟨p, hp, h⟩
        split at h
        · simp at h; exact absurd h.1.symm e
        · subst h; exact hp
      · intro h; exact ⟨_, h, by simp [e]⟩
    · simp [e]
theorem aget_adel {l : List (Int × Value)} (hn : Keys l) (k : Int) (k' : Int) : aget (adel l k) k' = if k' = k then none else aget l k' := by
  have hk := keys_adel hn k
  split
  · rename_i e; subst e
    rw [aget_none]; intro p hp; have := (List.mem_filter.1 hp).2; simpa using this
  · rename_i e
    apply Option.ext; intro u
    rw [aget_iff hk, aget_iff hn]
    unfold adel; rw [List.mem_filter]; simp [e]
theorem length_aset (l : List (Int × Value)) (k : Int) (v : Value) : (aset l k v).length = if (aget l k).isSome then l.length else l.length + 1 := by
  unfold aset; split <;> simp
theorem adel_none {l : List (Int × Value)} {k : Int} (h : aget l k = none) : adel l k = l := by
  unfold adel; rw [List.filter_eq_self]; intro p hp; simpa using aget_none.1 h p hp
theorem length_adel {l : List (Int × Value)} (hn : Keys l) (k : Int) : (adel l k).length = if (aget l k).isSome then l.length - 1 else l.length := by
  split
  · rename_i h
    induction l with
    | nil => simp [aget] at h
    | cons p l ih =>
      have hn' : p.1 ∉ l.map (·.1) ∧ (l.map (·.1)).Nodup := by simpa [Keys] using hn
      by_cases e : p.1 = k
      · have h2 : adel l k = l := adel_none (aget_none.2 fun x hx hxk => hn'.1 (by rw [e, ← hxk]; exact List.mem_map.2 ⟨x, hx, rfl⟩))
        have : adel (p :: l) k = adel l k := by unfold adel; rw [List.filter_cons_of_neg (by simp [e])]
        rw [this, h2]; simp
      · have h3 : (aget l k).isSome := by
          unfold aget at h ⊢; rw [List.find?_cons_of_neg (by simpa using e)] at h; exact h
        have : adel (p :: l) k = p :: adel l k := by unfold adel; rw [List.filter_cons_of_pos (by simpa using e)]
        have := ih hn'.2 h3
        obtain ⟨u, hu⟩ := Option.isSome_iff_exists.1 h3
        have hpos := List.length_pos_of_mem (mem_of_aget hu)
        simp [*]; omega
  · rename_i h
    rw [adel_none (by simpa using h)]
theorem keys_idx {l : List (Int × Value)} (hn : Keys l) {x : Int} : ∀ {i j : Nat} {u v : Value}, l[i]? = some (x, u) → l[j]? = some (x, v) → i = j := by
  induction l with
  | nil => intro i j u v h; simp at h
  | cons p l ih =>
    have hn' : p.1 ∉ l.map (·.1) ∧ (l.map (·.1)).Nodup := by simpa [Keys] using hn
    have hno : ∀ {i : Nat} {u : Value}, p.1 = x → l[i]? = some (x, u) → False := fun e h => hn'.1 (by rw [e]; exact List.mem_map.2 ⟨_, List.mem_of_getElem? h, rfl⟩)
    intro i j u v h1 h2
    cases i <;> cases j
    · rfl
    · simp at h1 h2; exact (hno (by rw [h1]) h2).elim
    · simp at h1 h2; exact (hno (by rw [h2]) h1).elim
    · simp at h1 h2; rw [ih hn'.2 h1 h2]
theorem map_eraseIdx' {α β : Type} (f : α → β) : ∀ (l : List α) (j : Nat), (l.map f).eraseIdx j = (l.eraseIdx j).map f
  | [], _ => rfl
  | a :: l, 0 => rfl
  | a :: l, j + 1 => by simp [map_eraseIdx' f l j]
theorem eraseIdx_adel {l : List (Int × Value)} (hn : Keys l) {k : Int} : ∀ {j : Nat} {v : Value}, l[j]? = some (k, v) → l.eraseIdx j = adel l k := by
  induction l with
  | nil => intro j v h; simp at h
  | cons p l ih =>
    have hn' : p.1 ∉ l.map (·.1) ∧ (l.map (·.1)).Nodup := by simpa [Keys] using hn
    intro j v h
    cases j with
    | zero =>
      simp at h; subst h
      have h2 : adel l k = l := adel_none (aget_none.2 fun x hx hxk => hn'.1 (by simp only; rw [← hxk]; exact List.mem_map.2 ⟨x, hx, rfl⟩))
      show l = _
      unfold adel at h2 ⊢; rw [List.filter_cons_of_neg (by simp)]; exact h2.symm
    | succ j =>
      simp at h
      have hm := List.mem_of_getElem? h
      have hne : p.1 ≠ k := fun e => hn'.1 (by rw [e]; exact List.mem_map.2 ⟨_, hm, rfl⟩)
      show p :: l.eraseIdx j = _
      rw [ih hn'.2 h]; unfold adel; rw [List.filter_cons_of_pos (by simpa using hne)]

section
variable {P : Program} {w : World} {t k e : TypeId} {q : IntKind} {b : Nat} {l : List (Int × Value)} {o : Obj}

theorem find_imap {es : Array MapEntry} (he : es.toList.map (fun (e : MapEntry) => (e.key, e.val)) = l.map (fun (p : Int × Value) => (Value.int q p.1, p.2))) (hn : Keys l) (x : Int) :
    ∃ a, Instr.findNow (.int q) (.int q x) es.toList 0 = some a ∧ ((a = none ∧ aget l x = none) ∨ ∃ (j : Nat) (v : Value), a = some (j, v) ∧ l[j]? = some (x, v) ∧ aget l x = some v) := by
  have hget : ∀ j : Nat, es.toList[j]?.map (fun (e : MapEntry) => (e.key, e.val)) = l[j]?.map (fun (p : Int × Value) => (Value.int q p.1, p.2)) := by
    intro j; rw [← List.getElem?_map, ← List.getElem?_map, he]
  have hks : ∀ y ∈ es.toList, MapKept.IsKey (.int q) y.key := by
    intro y hy
    have : (y.key, y.val) ∈ l.map (fun (p : Int × Value) => (Value.int q p.1, p.2)) := by rw [← he]; exact List.mem_map.2 ⟨y, hy, rfl⟩
    obtain ⟨p, _, hp⟩ := List.mem_map.1 this
    simp at hp
    rw [← hp.1]; simp [MapKept.IsKey]
  rcases MapKept.findNow_spec (d := .int q) (k := .int q x) (by simp [MapKept.IsKey]) es.toList 0 hks with ⟨h1, h2⟩ | ⟨j, e0, h1, h2, h3⟩
  · refine ⟨_, h1, Or.inl ⟨rfl, aget_none.2 fun p hp hpx => ?_⟩⟩
    have : (Value.int q p.1, p.2) ∈ es.toList.map (fun (e : MapEntry) => (e.key, e.val)) := by rw [he]; exact List.mem_map.2 ⟨p, hp, rfl⟩
    obtain ⟨y, hy, hyp⟩ := List.mem_map.1 this
    simp at hyp
    exact h2 y hy (by rw [hyp.1, hpx])
  · rw [Nat.zero_add] at h1
    have := hget j
    rw [h2] at this
    rcases hl : l[j]? with _ | p
    · rw [hl] at this; simp at this
    · rw [hl] at this; simp at this
      rw [h3] at this
      simp at this
      obtain ⟨p1, p2⟩ := p
      simp at this
      obtain ⟨rfl, rfl⟩ := this
      exact ⟨_, h1, Or.inr ⟨j, e0.val, rfl, hl, aget_mem hn (List.mem_of_getElem? hl)⟩⟩

theorem run_lookup_imap (ht : P.underlying t = some (.map k e)) (hk : P.underlying k = some (.int q)) (hb : w.heap[b]? = some o) (ho : MapBlk q l o) (x : Int) (ok : Bool) {z : Value} (hz : (zeroValue e).run P w = .ok z w) :
    (Instr.lookup t (.map (some b)) (.int q x) ok).run P w = .ok (if ok then .tuple #[(aget l x).getD z, .bool (aget l x).isSome] else (aget l x).getD z) w := by
  obtain ⟨es, clk, rfl, he, hn⟩ := ho
  obtain ⟨a, h1, h2⟩ := find_imap he hn x
  have hck := MapKept.run_checkKey (w := w) (k := .int q x) hk (by simp [MapKept.IsKey]) es.isEmpty 9999
  have hfk := MapKept.run_findKey (w := w) hk h1
  rcases h2 with ⟨rfl, hg⟩ | ⟨j, v, rfl, hl, hg⟩
  · cases ok <;> simp [Instr.lookup, run_underlying ht, MapKept.run_getObj_map hb, hck, hfk, hg, hz, Result.andThen]
  · cases ok <;> simp [Instr.lookup, run_underlying ht, MapKept.run_getObj_map hb, hck, hfk, hg, Result.andThen]

theorem run_update_imap (ht : P.underlying t = some (.map k e)) (hk : P.underlying k = some (.int q)) (hb : w.heap[b]? = some o) (ho : MapBlk q l o) (x : Int) (v : Value) :
    ∃ o', (Instr.mapUpdate t (.map (some b)) (.int q x) v).run P w = .ok () (w.putObj b o') ∧ MapBlk q (aset l x v) o' := by
  obtain ⟨es, clk, rfl, he, hn⟩ := ho
  obtain ⟨a, h1, h2⟩ := find_imap he hn x
  have hck := MapKept.run_checkKey (w := w) (k := .int q x) hk (by simp [MapKept.IsKey]) false 9999
  have hfk := MapKept.run_findKey (w := w) hk h1
  rcases h2 with ⟨rfl, hg⟩ | ⟨j, u, rfl, hl, hg⟩
  · refine ⟨.map (es.push { key := .int q x, val := v, born := clk }) (clk + 1), ?_, _, _, rfl, ?_, keys_aset hn x v⟩
    · simp [Instr.mapUpdate, run_underlying ht, MapKept.run_getObj_map hb, hck, hfk, MapKept.run_setObj_map _ hb, Result.andThen, World.putObj]
    · unfold aset; rw [hg]; simp [he]
  · have hj : es.toList[j]?.map (fun (e : MapEntry) => (e.key, e.val)) = some (Value.int q x, u) := by
      rw [← List.getElem?_map, he, List.getElem?_map, hl]; rfl
    rcases hes : es.toList[j]? with _ | e0
    · rw [hes] at hj; simp at hj
    · rw [hes] at hj; simp at hj
      have hes' : es[j]? = some e0 := by rw [← Array.getElem?_toList]; exact hes
      refine ⟨.map (es.modify j fun e => { e with key := .int q x, val := v }) clk, ?_, _, _, rfl, ?_, keys_aset hn x v⟩
      · simp [Instr.mapUpdate, run_underlying ht, MapKept.run_getObj_map hb, hck, hfk, hes', hj.1, MapKept.run_keyThatStays (d := .int q) (k := .int q x) (by simp [MapKept.IsKey]), MapKept.run_setObj_map _ hb, Result.andThen, World.putObj]
      · unfold aset; rw [hg]; simp only [Option.isSome_some, if_true]
        apply List.ext_getElem?; intro i
        rw [List.getElem?_map, Array.getElem?_toList, Array.getElem?_modify, List.getElem?_map, List.getElem?_map]
        have hget : es.toList[i]?.map (fun (e : MapEntry) => (e.key, e.val)) = l[i]?.map (fun (p : Int × Value) => (Value.int q p.1, p.2)) := by
          rw [← List.getElem?_map, ← List.getElem?_map, he]
        rw [Array.getElem?_toList] at hget
        split
        · rename_i e; subst e
          rw [hes', hl]; simp
        · rename_i hne
          rw [hget]
          rcases hli : l[i]? with _ | p
          · simp
          · have : p.1 ≠ x := by
              intro hpx
              obtain ⟨p1, p2⟩ := p
              simp only at hpx; subst hpx
              exact hne (keys_idx hn hl hli)
            simp [this]

theorem run_delete_imap (ht : P.underlying t = some (.map k e)) (hk : P.underlying k = some (.int q)) (hb : w.heap[b]? = some o) (ho : MapBlk q l o) (x : Int) (ty : TypeId) :
    ∃ o', (Builtin.delete_ #[t, k] ty #[.map (some b), .int q x]).run P w = .ok (.tuple #[]) (w.putObj b o') ∧ MapBlk q (adel l x) o' := by
  obtain ⟨es, clk, rfl, he, hn⟩ := ho
  obtain ⟨a, h1, h2⟩ := find_imap he hn x
  have hck := MapKept.run_checkKey (w := w) (k := .int q x) hk (by simp [MapKept.IsKey]) es.isEmpty 9999
  have hfk := MapKept.run_findKey (w := w) hk h1
  rcases h2 with ⟨rfl, hg⟩ | ⟨j, u, rfl, hl, hg⟩
  · refine ⟨.map es clk, ?_, _, _, rfl, ?_, keys_adel hn x⟩
    · simp [Builtin.delete_, run_underlying ht, MapKept.run_getObj_map hb, hck, hfk, MapKept.run_setObj_map _ hb, Result.andThen, World.putObj]
    · rw [adel_none hg]; exact he
  · refine ⟨.map (es.eraseIdxIfInBounds j) clk, ?_, _, _, rfl, ?_, keys_adel hn x⟩
    · simp [Builtin.delete_, run_underlying ht, MapKept.run_getObj_map hb, hck, hfk, MapKept.run_setObj_map _ hb, Result.andThen, World.putObj]
    · have hlen : j < es.size := by
        have := (List.getElem?_eq_some_iff.1 hl).1
        have h2 := congrArg List.length he
        simp at h2; omega
      have e1 : (es.eraseIdxIfInBounds j).toList = es.toList.eraseIdx j := by simp [Array.eraseIdxIfInBounds, hlen]
      rw [e1, ← map_eraseIdx', he, map_eraseIdx', eraseIdx_adel hn hl]

theorem mapBlk_size {es : Array MapEntry} {clk : Nat} (ho : MapBlk q l (.map es clk)) : es.size = l.length := by
  obtain ⟨es', clk', h, he, _⟩ := ho
  cases h
  have := congrArg List.length he
  simpa using this
theorem run_len_imap (ht : P.underlying t = some (.map k e)) (hb : w.heap[b]? = some o) (ho : MapBlk q l o) (ty : TypeId) : (Builtin.len_ #[t] ty #[.map (some b)]).run P w = .ok (.int .i64 l.length) w := by
  obtain ⟨es, clk, rfl, he, hn⟩ := ho
  have e1 : es.size = l.length := mapBlk_size ⟨es, clk, rfl, he, hn⟩
  rw [← e1]
  simp [Builtin.len_, run_underlying ht, MapKept.run_getObj_map hb, goInt, Result.andThen]
theorem mapBlk_nil (q : IntKind) : MapBlk q [] (.map #[] 0) := ⟨#[], 0, rfl, rfl, List.nodup_nil⟩
theorem MapBlk.keys (h : MapBlk q l o) : Keys l := by obtain ⟨_, _, _, _, hn⟩ := h; exact hn
end

section
variable {P : Program} {w : World} {ops : Array Oper} {rest : List Oper} {o : Oper} {a : Act} {Q : Exit → Act → World → Prop}
theorem wpList_lookup_imap (hg : o.guard = none) (m x : Operand) (t : TypeId) (hop : o.op = Op.lookup t m x false) (k e : TypeId) (q : IntKind) (ht : P.underlying t = some (.map k e)) (hk : P.underlying k = some (.int q))
    (z : Value) (hz : (zeroValue e).run P w = .ok z w) (b : Nat) (hm : a.eval m = .map (some b)) (ob : Obj) (l : List (Int × Value)) (hb : w.heap[b]? = some ob) (ho : MapBlk q l ob) (n : Int) (hx : a.eval x = .int q n)
    (hK : wpList P ops Q rest (a.put o.dst ((aget l n).getD z)) w) : wpList P ops Q (o :: rest) a w := by
  refine wpList_plain hg fun K' hK' => ?_
  unfold Oper.wp
  simp [execOp, hop, hm, hx, run_lookup_imap ht hk hb ho n false hz, Result.andThen]
  exact hK' _ _ hK
theorem wpList_lookupOk_imap (hg : o.guard = none) (m x : Operand) (t : TypeId) (hop : o.op = Op.lookup t m x true) (k e : TypeId) (q : IntKind) (ht : P.underlying t = some (.map k e)) (hk : P.underlying k = some (.int q))
    (z : Value) (hz : (zeroValue e).run P w = .ok z w) (b : Nat) (hm : a.eval m = .map (some b)) (ob : Obj) (l : List (Int × Value)) (hb : w.heap[b]? = some ob) (ho : MapBlk q l ob) (n : Int) (hx : a.eval x = .int q n)
    (hK : wpList P ops Q rest (a.put o.dst (.tuple #[(aget l n).getD z, .bool (aget l n).isSome])) w) : wpList P ops Q (o :: rest) a w := by
  refine wpList_plain hg fun K' hK' => ?_
  unfold Oper.wp
  simp [execOp, hop, hm, hx, run_lookup_imap ht hk hb ho n true hz, Result.andThen]
  exact hK' _ _ hK
theorem wpList_update_imap (hg : o.guard = none) (m x v : Operand) (t : TypeId) (hop : o.op = Op.mapUpdate t m x v) (k e : TypeId) (q : IntKind) (ht : P.underlying t = some (.map k e)) (hk : P.underlying k = some (.int q))
    (b : Nat) (hm : a.eval m = .map (some b)) (ob : Obj) (l : List (Int × Value)) (hb : w.heap[b]? = some ob) (ho : MapBlk q l ob) (n : Int) (hx : a.eval x = .int q n) (u : Value) (hv : a.eval v = u)
    (hK : ∀ o', MapBlk q (aset l n u) o' → wpList P ops Q rest (a.put o.dst undef) (w.putObj b o')) : wpList P ops Q (o :: rest) a w := by
  refine wpList_plain hg fun K' hK' => ?_
  obtain ⟨o', hrun, ho'⟩ := run_update_imap (P := P) ht hk hb ho n u
  unfold Oper.wp
  simp [execOp, hop, hm, hx, hv, hrun, Result.andThen]
  exact hK' _ _ (hK o' ho')
theorem wpList_delete_imap (hg : o.guard = none) (m x : Operand) (t k : TypeId) (hop : o.op = Op.call { callee := Callee.builtin Builtin.delete, args := #[m, x], argTypes := #[t, k] }) (e : TypeId) (q : IntKind) (ht : P.underlying t = some (.map k e)) (hk : P.underlying k = some (.int q))
    (b : Nat) (hm : a.eval m = .map (some b)) (ob : Obj) (l : List (Int × Value)) (hb : w.heap[b]? = some ob) (ho : MapBlk q l ob) (n : Int) (hx : a.eval x = .int q n)
    (hK : ∀ o', MapBlk q (adel l n) o' → wpList P ops Q rest (a.put o.dst (.tuple #[])) (w.putObj b o')) : wpList P ops Q (o :: rest) a w := by
  refine wpList_plain hg fun K' hK' => ?_
  obtain ⟨o', hrun, ho'⟩ := run_delete_imap (P := P) ht hk hb ho n o.type
  unfold Oper.wp
  simp [execOp, hop, resolve, invoke, builtin, hm, hx, hrun, Result.andThen]
  exact hK' _ _ (hK o' ho')
theorem wpList_len_imap (hg : o.guard = none) (m : Operand) (t : TypeId) (hop : o.op = Op.call { callee := Callee.builtin Builtin.len, args := #[m], argTypes := #[t] }) (k e : TypeId) (q : IntKind) (ht : P.underlying t = some (.map k e))
    (b : Nat) (hm : a.eval m = .map (some b)) (ob : Obj) (l : List (Int × Value)) (hb : w.heap[b]? = some ob) (ho : MapBlk q l ob)
    (hK : wpList P ops Q rest (a.put o.dst (.int .i64 l.length)) w) : wpList P ops Q (o :: rest) a w := by
  refine wpList_plain hg fun K' hK' => ?_
  unfold Oper.wp
  simp [execOp, hop, resolve, invoke, builtin, hm, run_len_imap (P := P) ht hb ho o.type, Result.andThen]
  exact hK' _ _ hK
end
/-- A block of one cell that has just been laid, at whatever number the walk calls it. -/
theorem cell_one_at (X : World) {n : Nat} (u : Value) (T : TypeId) (hn : n = X.heap.size) : ∀ (j : Nat) (v : Value), [u][j]? = some v → (X.alloc (.cells #[u] T)).cell? ((⟨n, 0, none⟩ : Addr).add j) = some v := by
  subst hn; exact cell_one_new X u T
theorem cell_putObj {w : World} {b : Nat} (o : Obj) {p : Addr} (h : p.block ≠ b) : (w.putObj b o).cell? p = w.cell? p := World.cell?_of_block (w := w) (World.putObj_heap_other h)
theorem fro_putObj {w : World} {b : Nat} (o : Obj) {p : Addr} (h : p.block ≠ b) : (w.putObj b o).frozen? p = w.frozen? p := World.frozen?_of_block (w := w) (World.putObj_heap_other h)
end Go.Proofs.YtgdlndpjfejmcaaGreat
/- Small laws on slices: a slice that reads as a list of cells, wherever in its array it begins. -/
namespace Go.Proofs.YtgdlndpjfejmcaaGreat
open Go.RowKit
set_option linter.unusedVariables false
set_option maxRecDepth 100000

/-- v is a slice of n elements of sz cells each, which read as xs; its array lies in a block of S. -/
def Sl (w : World) (S : Nat → Prop) (T : TypeId) (sz : Nat) (v : Value) (n : Nat) (xs : List Value) : Prop :=
  xs.length = n * sz ∧ ((v = .slice none 0 0 ∧ n = 0) ∨
    ∃ b off cap c, v = .slice (some ⟨b, off, none⟩) n cap ∧ S b ∧ w.heap[b]? = some (.cells c T (0, 0)) ∧ n ≤ cap ∧ cap ≤ maxLen ∧ off + cap * sz ≤ c.size ∧ ∀ i, i < xs.length → c[off + i]? = xs[i]?)

theorem Sl.nil (w : World) (S : Nat → Prop) (T : TypeId) (sz : Nat) : Sl w S T sz (.slice none 0 0) 0 [] := ⟨by simp, Or.inl ⟨rfl, rfl⟩⟩
theorem Sl.frame {w w' : World} {S : Nat → Prop} {T : TypeId} {sz : Nat} {v : Value} {n : Nat} {xs : List Value} (h : Sl w S T sz v n xs) (hf : ∀ b, b < w.heap.size → S b → w'.heap[b]? = w.heap[b]?) : Sl w' S T sz v n xs := by
  obtain ⟨h1, h2⟩ := h
  refine ⟨h1, ?_⟩
  rcases h2 with h2 | ⟨b, off, cap, c, hv, hS, hb, r⟩
  · exact Or.inl h2
  · exact Or.inr ⟨b, off, cap, c, hv, hS, (hf b (lt_of_heap hb) hS).trans hb, r⟩
theorem Sl.mono {w : World} {S S' : Nat → Prop} {T : TypeId} {sz : Nat} {v : Value} {n : Nat} {xs : List Value} (h : Sl w S T sz v n xs) (hS : ∀ b, b < w.heap.size → S b → S' b) : Sl w S' T sz v n xs := by
  obtain ⟨h1, h2⟩ := h
  refine ⟨h1, ?_⟩
  rcases h2 with h2 | ⟨b, off, cap, c, hv, hSb, hb, r⟩
  · exact Or.inl h2
  · exact Or.inr ⟨b, off, cap, c, hv, hS b (lt_of_heap hb) hSb, hb, r⟩
theorem Sl.fr {w w' : World} {S F : Nat → Prop} {T : TypeId} {sz : Nat} {v : Value} {n : Nat} {xs : List Value} (h : Sl w S T sz v n xs) (hf : Fr F w w') (hd : ∀ b, b < w.heap.size → S b → ¬ F b) : Sl w' S T sz v n xs :=
  h.frame fun b hb hS => hf.block b hb (hd b hb hS)
/-- It stays, as long as the arrays of its type in S stay. -/
theorem Sl.keep {w w' : World} {S : Nat → Prop} {T : TypeId} {sz : Nat} {v : Value} {n : Nat} {xs : List Value} (h : Sl w S T sz v n xs)
    (hf : ∀ b c, S b → w.heap[b]? = some (.cells c T (0, 0)) → w'.heap[b]? = w.heap[b]?) : Sl w' S T sz v n xs := by
  obtain ⟨h1, h2⟩ := h
  refine ⟨h1, ?_⟩
  rcases h2 with h2 | ⟨b, off, cap, c, hv, hS, hb, r⟩
  · exact Or.inl h2
  · exact Or.inr ⟨b, off, cap, c, hv, hS, (hf b c hS hb).trans hb, r⟩
theorem Sl.setCell_other {w : World} {S : Nat → Prop} {T : TypeId} {sz : Nat} {v : Value} {n : Nat} {xs : List Value} (h : Sl w S T sz v n xs) {g : Nat} {c : Array Value} {T' : TypeId} {f : Nat × Nat}
    (hg : w.heap[g]? = some (.cells c T' f)) (hT : T' ≠ T) (i : Nat) (u : Value) : Sl (w.setCell ⟨g, i, none⟩ u) S T sz v n xs :=
  h.keep fun b c' _ hb => heap_setCell_other (fun e => by subst e; rw [hg] at hb; simp at hb; exact hT hb.2.1) u
theorem Sl.putObj_map {w : World} {S : Nat → Prop} {T : TypeId} {sz : Nat} {v : Value} {n : Nat} {xs : List Value} (h : Sl w S T sz v n xs) {m : Nat} {o : Obj} {q : IntKind} {l : List (Int × Value)}
    (hm : w.heap[m]? = some o) (ho : MapBlk q l o) (o' : Obj) : Sl (w.putObj m o') S T sz v n xs :=
  h.keep fun b c' _ hb => World.putObj_heap_other (fun e => by subst e; obtain ⟨es, clk, rfl, _⟩ := ho; rw [hm] at hb; cases hb)
/-- 's[1:]': where there is no room behind it the address stays. -/
theorem Sl.tail {w : World} {S : Nat → Prop} {T : TypeId} {b off cap n : Nat} {x : Value} {xs : List Value} (h : Sl w S T 1 (.slice (some ⟨b, off, none⟩) (n + 1) cap) (n + 1) (x :: xs)) :
    Sl w S T 1 (.slice (if cap = 1 then some ⟨b, off, none⟩ else some ⟨b, off + 1, none⟩) n (cap - 1)) n xs := by
  obtain ⟨h1, h2⟩ := h
  refine ⟨by simp at h1; omega, ?_⟩
  rcases h2 with ⟨_, h2⟩ | ⟨b', off', cap', c, hv, hS, hb, hc, hm, hs, hx⟩
  · omega
  · simp at hv
    obtain ⟨⟨rfl, rfl⟩, rfl⟩ := hv
    simp at h1
    by_cases e : cap = 1
    · subst e
      refine Or.inr ⟨b, off, 0, c, by simp, hS, hb, by omega, by unfold maxLen; omega, by omega, fun i hi => ?_⟩
      have : n = 0 := by omega
      omega
    · refine Or.inr ⟨b, off + 1, cap - 1, c, by simp [e], hS, hb, by omega, by omega, by omega, fun i hi => ?_⟩
      have := hx (i + 1) (by simp; omega)
      rw [show off + 1 + i = off + (i + 1) from by omega, this]; simp
/-- A slice that is not empty is written out. -/
theorem Sl.pos {w : World} {S : Nat → Prop} {T : TypeId} {sz : Nat} {v : Value} {n : Nat} {xs : List Value} (h : Sl w S T sz v n xs) (hn : 0 < n) :
    ∃ b off cap, v = .slice (some ⟨b, off, none⟩) n cap ∧ S b ∧ b < w.heap.size ∧ n ≤ cap ∧ (∀ i, i < xs.length → w.cell? ⟨b, off + i, none⟩ = xs[i]?) ∧ (∀ i, w.frozen? ⟨b, i, none⟩ = false) := by
  obtain ⟨h1, h2⟩ := h
  rcases h2 with ⟨_, h2⟩ | ⟨b, off, cap, c, hv, hS, hb, hc, hm, hs, hx⟩
  · omega
  · exact ⟨b, off, cap, hv, hS, lt_of_heap hb, hc, fun i hi => by rw [cell_of_heap hb]; exact hx i hi, fun i => fro_of_heap hb i⟩
/-- The value, whatever its length. -/
theorem Sl.shape {w : World} {S : Nat → Prop} {T : TypeId} {sz : Nat} {v : Value} {n : Nat} {xs : List Value} (h : Sl w S T sz v n xs) : ∃ a cap, v = .slice a n cap ∧ n ≤ cap := by
  obtain ⟨h1, h2⟩ := h
  rcases h2 with ⟨rfl, rfl⟩ | ⟨b, off, cap, c, rfl, hS, hb, hc, r⟩
  · exact ⟨none, 0, rfl, Nat.le_refl _⟩
  · exact ⟨_, cap, rfl, hc⟩
theorem Sl.of_owns {w : World} {base : Nat} {S : Nat → Prop} {T : TypeId} {sz : Nat} {v : Value} {n : Nat} {xs : List Value} (h : w.ownsRow base T sz v n xs) (hS : ∀ b, base ≤ b → b < w.heap.size → S b) : Sl w S T sz v n xs := by
  obtain ⟨h1, h2⟩ := h
  refine ⟨h1, ?_⟩
  rcases h2 with h2 | ⟨g, cap, cur, hv, hg, hh, hn, hm, hs, ht⟩
  · exact Or.inl h2
  · refine Or.inr ⟨g, 0, cap, cur, hv, hS g hg (lt_of_heap hh), hh, hn, hm, by omega, fun i hi => ?_⟩
    rw [Nat.zero_add, ← ht, List.getElem?_take, if_pos (by omega), Array.getElem?_toList]

theorem setCells_other (b : Nat) : ∀ (vs : List Value) (o : Nat) (w : World) (k : Nat), k ≠ b → (w.setCells b o vs).heap[k]? = w.heap[k]?
  | [], _, _, _, _ => rfl
  | v :: r, o, w, k, h => by
    show ((w.setCell ⟨b, o, none⟩ v).setCells b (o + 1) r).heap[k]? = _
    rw [setCells_other b r (o + 1) _ k h, heap_setCell_other h]
theorem setCells_streams (b : Nat) : ∀ (vs : List Value) (o : Nat) (w : World), (w.setCells b o vs).os = w.os ∧ (w.setCells b o vs).tape = w.tape ∧ (w.setCells b o vs).output = w.output ∧ (w.setCells b o vs).heap.size = w.heap.size
  | [], _, _ => ⟨rfl, rfl, rfl, rfl⟩
  | v :: r, o, w => by
    obtain ⟨h1, h2, h3, h4⟩ := setCells_streams b r (o + 1) (w.setCell ⟨b, o, none⟩ v)
    exact ⟨h1, h2, h3, h4.trans (by simp [World.setCell])⟩
theorem setCells_blk (b : Nat) (T : TypeId) (f : Nat × Nat) : ∀ (vs : List Value) (o : Nat) (w : World) (c : Array Value), w.heap[b]? = some (.cells c T f) → o + vs.length ≤ c.size →
    ∃ c', (w.setCells b o vs).heap[b]? = some (.cells c' T f) ∧ c'.size = c.size ∧ (∀ i, i < o → c'[i]? = c[i]?) ∧ (∀ i, i < vs.length → c'[o + i]? = vs[i]?) ∧ (∀ i, o + vs.length ≤ i → c'[i]? = c[i]?)
  | [], o, w, c, h, _ => ⟨c, h, rfl, fun _ _ => rfl, fun i hi => by simp at hi, fun _ _ => rfl⟩
  | v :: r, o, w, c, h, hl => by
    have hl' : o + 1 + r.length ≤ c.size := by simp at hl; omega
    obtain ⟨c', h1, h2, h3, h4, h5⟩ := setCells_blk b T f r (o + 1) (w.setCell ⟨b, o, none⟩ v) (c.setIfInBounds o v) (heap_setCell_same h o v) (by simpa using hl')
    refine ⟨c', h1, by simpa using h2, ?_, ?_, ?_⟩
    · intro i hi
      rw [h3 i (by omega), Array.getElem?_setIfInBounds_ne (by omega)]
    · intro i hi
      cases i with
      | zero => rw [Nat.add_zero, h3 o (by omega)]; rw [Array.getElem?_setIfInBounds_self_of_lt (by omega)]; rfl
      | succ i => rw [show o + (i + 1) = o + 1 + i from by omega, h4 i (by simpa using hi)]; rfl
    · intro i hi
      have hi' : o + 1 + r.length ≤ i := by simp at hi; omega
      rw [h5 i hi', Array.getElem?_setIfInBounds_ne (by omega)]
theorem Fr.setCells {S : Nat → Prop} (b : Nat) (hS : S b) (vs : List Value) (o : Nat) (w : World) : Fr S w (w.setCells b o vs) := by
  obtain ⟨h1, h2, h3, h4⟩ := setCells_streams b vs o w
  exact ⟨h1, h2, h3, by rw [h4]; exact Nat.le_refl _, fun k hk hn => setCells_other b vs o w k (fun e => hn (by rw [e]; exact hS))⟩

/-- What a structure owns behind a step: what it owned and what is new. -/
def grow (S : Nat → Prop) (w w' : World) (b : Nat) : Prop := S b ∨ (w.heap.size ≤ b ∧ b < w'.heap.size)

/-- The arrays of a type among what is owned. -/
def Arr (S : Nat → Prop) (w : World) (T : TypeId) (b : Nat) : Prop := S b ∧ ∃ c, w.heap[b]? = some (.cells c T (0, 0))
theorem Fr.arr {S : Nat → Prop} {w w' : World} {T : TypeId} (h : Fr (Arr S w T) w w') : Fr S w w' := h.mono fun _ _ h => h.1
/-- A block of another make stays. -/
theorem Fr.other {S : Nat → Prop} {w w' : World} {T : TypeId} (h : Fr (Arr S w T) w w') {g : Nat} {o : Obj} (hg : w.heap[g]? = some o) (ho : ∀ c, o ≠ .cells c T (0, 0)) : w'.heap[g]? = some o :=
  (h.block g (lt_of_heap hg) fun ⟨_, c, hc⟩ => ho c (Option.some.inj (hg.symm.trans hc))).trans hg
theorem Sl.alloc {w : World} {S : Nat → Prop} {T : TypeId} {sz : Nat} {v : Value} {n : Nat} {xs : List Value} (h : Sl w S T sz v n xs) (o : Obj) : Sl (w.alloc o) S T sz v n xs :=
  h.keep fun b c _ hb => heap_alloc_old o (lt_of_heap hb)

section
variable {P : Program} {w : World} {S : Nat → Prop}
theorem run_append_sl (t ty e : TypeId) (i : TypeInfo) (z : Value) (size bytes : Nat) (ht : P.underlying t = some (.slice e)) (hi : P.info? e = some i) (hz : i.zero = some z)
    (hsize : i.size = size) (hby : i.bytes = bytes) (hzs : z.cells.size = size) (hsz : 0 < size)
    (v : Value) (n : Nat) (xs : List Value) (hown : Sl w S e size v n xs)
    (a : Addr) (m c : Nat) (news : List Value) (hl : news.length = m * size) (hnews : ∀ j u, news[j]? = some u → w.cell? (a.add j) = some u) (h1 : ∀ u ∈ news, u.oneCell' = true)
    (h63 : n + m ≤ maxLen) (hbytes : (n + m) * bytes ≤ 140737488355328) :
    ∃ v' w', (Builtin.append_ #[t, t] ty #[v, .slice (some a) m c]).run P w = .ok v' w' ∧ Sl w' (grow S w w') e size v' (n + m) (xs ++ news) ∧ Fr (Arr S w e) w w' := by
  obtain ⟨hx, hv⟩ := hown
  have hlen : (xs ++ news).length = (n + m) * size := by rw [List.length_append, hx, hl, Nat.add_mul]
  have hgrown : ∀ {v' : Value} {w' : World}, w'.ownsRow w.heap.size e size v' (n + m) (xs ++ news) → Sl w' (grow S w w') e size v' (n + m) (xs ++ news) :=
    fun h => Sl.of_owns h fun b hb hb' => Or.inr ⟨hb, hb'⟩
  have hfr : ∀ {w' : World}, w.grownBy w' none → Fr (Arr S w e) w w' := fun h => (Fr.of_grown h).mono (fun k _ hk => by cases hk)
  rcases hv with ⟨rfl, rfl⟩ | ⟨b, off, cap, cur, rfl, hS, hb, hnc, hcm, hoc, hcx⟩
  · obtain ⟨v', w', hr, ho, hg, _⟩ := run_append_own (P := P) w w.heap.size t ty e i z size bytes ht hi hz hsize hby hzs hsz (.slice none 0 0) 0 [] (World.ownsRow_nil w _ e size) a m c news hl hnews h1 h63 hbytes (Nat.le_refl _)
    have hx0 : xs = [] := List.eq_nil_of_length_eq_zero (by simpa using hx)
    subst hx0
    exact ⟨v', w', hr, hgrown ho, hfr hg⟩
  · have hcell : ∀ j u, xs[j]? = some u → w.cell? ((⟨b, off, none⟩ : Addr).add j) = some u := by
      intro j u hu
      have hj := (List.getElem?_eq_some_iff.1 hu).1
      have ha : (⟨b, off, none⟩ : Addr).add j = ⟨b, off + j, none⟩ := by unfold Addr.add; split <;> simp_all
      rw [ha, cell_of_heap hb, hcx j hj, hu]
    by_cases hroom : n + m ≤ cap
    · subst hsize
      have hfit : off + n * i.size + news.length ≤ cur.size := by
        have : (n + m) * i.size ≤ cap * i.size := Nat.mul_le_mul_right _ hroom
        rw [Nat.add_mul] at this; rw [hl]; omega
      have hr := run_append_room_cells (P := P) w t ty e i ht hi b off n cap a m c news hl hnews h1 hroom
        (fun j hj => by rw [cell_of_heap hb, Array.getElem?_eq_getElem (by omega)]; rfl) (fun j hj => fro_of_heap hb _)
      obtain ⟨c', g1, g2, g3, g4, g5⟩ := setCells_blk b e (0, 0) news (off + n * i.size) w cur hb hfit
      refine ⟨_, _, hr, ⟨hlen, Or.inr ⟨b, off, cap, c', rfl, Or.inl hS, g1, hroom, hcm, by omega, ?_⟩⟩, Fr.setCells b ⟨hS, cur, hb⟩ _ _ w⟩
      intro j hj
      by_cases hjx : j < xs.length
      · rw [g3 _ (by omega), hcx j hjx, List.getElem?_append_left hjx]
      · rw [show off + j = off + n * i.size + (j - n * i.size) from by omega, g4 _ (by rw [hlen, Nat.add_mul] at hj; omega), List.getElem?_append_right (by omega), hx]
    · obtain ⟨v', w', hr, ho, hg⟩ := run_append_arg_grows (P := P) w t ty e i z size bytes ht hi hz hsize hby hzs hsz ⟨b, off, none⟩ n cap xs hx hcell a m c news hl hnews (by omega) h63 hbytes
      exact ⟨v', w', hr, hgrown ho, hfr hg⟩
theorem wpList_append_sl {ops : Array Oper} {rest : List Oper} {o : Oper} {a : Act} {Q : Exit → Act → World → Prop}
    (hg : o.guard = none) (s x : Operand) (t : TypeId) (hop : o.op = Op.call { callee := Callee.builtin Builtin.append, args := #[s, x], argTypes := #[t, t] })
    (e : TypeId) (i : TypeInfo) (z : Value) (size bytes : Nat) (h1 : P.underlying t = some (.slice e)) (h2 : P.info? e = some i) (h3 : i.zero = some z) (h4 : i.size = size) (h5 : i.bytes = bytes) (h6 : z.cells.size = size) (h7 : 0 < size)
    (v : Value) (n : Nat) (xs : List Value) (hs : a.eval s = v) (hown : Sl w S e size v n xs)
    (ad : Addr) (m c : Nat) (news : List Value) (hx : a.eval x = .slice (some ad) m c) (hn : news.length = m * size) (hc : ∀ j u, news[j]? = some u → w.cell? (ad.add j) = some u) (h1c : ∀ u ∈ news, u.oneCell' = true)
    (b1 : n + m ≤ maxLen) (b2 : (n + m) * bytes ≤ 140737488355328)
    (hK : ∀ v' w', Sl w' (grow S w w') e size v' (n + m) (xs ++ news) → Fr (Arr S w e) w w' → wpList P ops Q rest (a.put o.dst v') w') :
    wpList P ops Q (o :: rest) a w := by
  refine wpList_plain hg fun K hK' => ?_
  obtain ⟨v', w', hrun, r1, r2⟩ := run_append_sl (P := P) t o.type e i z size bytes h1 h2 h3 h4 h5 h6 h7 v n xs hown ad m c news hn hc h1c b1 b2
  unfold Oper.wp
  simp [execOp, hop, resolve, invoke, builtin, hs, hx, hrun, Result.andThen]
  exact hK' _ _ (hK v' w' r1 r2)
end
end Go.Proofs.YtgdlndpjfejmcaaGreat
/- Stores into the elements of a slice. -/
namespace Go.Proofs.YtgdlndpjfejmcaaGreat
open Go.RowKit
set_option linter.unusedVariables false
set_option maxRecDepth 100000
theorem Sl.set {w : World} {S : Nat → Prop} {T : TypeId} {sz n b off cap : Nat} {xs : List Value} (h : Sl w S T sz (.slice (some ⟨b, off, none⟩) n cap) n xs) {i : Nat} (hi : i < xs.length) (u : Value) :
    Sl (w.setCell ⟨b, off + i, none⟩ u) S T sz (.slice (some ⟨b, off, none⟩) n cap) n (xs.set i u) := by
  obtain ⟨h1, h2⟩ := h
  refine ⟨by rw [List.length_set]; exact h1, ?_⟩
  rcases h2 with ⟨h2, _⟩ | ⟨b', off', cap', c, hv, hS, hb, hc, hm, hs, hx⟩
  · cases h2
  · simp at hv
    obtain ⟨⟨rfl, rfl⟩, rfl⟩ := hv
    have hle : n * sz ≤ cap * sz := Nat.mul_le_mul_right _ hc
    refine Or.inr ⟨b, off, cap, c.setIfInBounds (off + i) u, rfl, hS, heap_setCell_same hb _ _, hc, hm, by simpa using hs, fun j hj => ?_⟩
    rw [List.length_set] at hj
    by_cases e : j = i
    · subst e
      rw [Array.getElem?_setIfInBounds_self_of_lt (by omega), List.getElem?_set_self hi]
    · rw [Array.getElem?_setIfInBounds_ne (by omega), List.getElem?_set_ne (fun q => e q.symm)]
      exact hx j hj
/-- It stays, where another block is stored into. -/
theorem Sl.set_other {w : World} {S : Nat → Prop} {T : TypeId} {sz : Nat} {v : Value} {n : Nat} {xs : List Value} (h : Sl w S T sz v n xs) {p : Addr} (hp : ¬ S p.block) (u : Value) : Sl (w.setCell p u) S T sz v n xs :=
  h.frame fun b hb hS => heap_setCell_other (fun e => hp (e ▸ hS)) u
theorem Sl.put_other {w : World} {S : Nat → Prop} {T : TypeId} {sz : Nat} {v : Value} {n : Nat} {xs : List Value} (h : Sl w S T sz v n xs) {b : Nat} (hp : ¬ S b) (o : Obj) : Sl (w.putObj b o) S T sz v n xs :=
  h.frame fun k hk hS => World.putObj_heap_other (fun e => hp (e ▸ hS))
/-- 's[:n-1]'. -/
theorem Sl.front {w : World} {S : Nat → Prop} {T : TypeId} {a : Option Addr} {n cap : Nat} {xs : List Value} {x : Value} (h : Sl w S T 1 (.slice a (n + 1) cap) (n + 1) (xs ++ [x])) :
    Sl w S T 1 (.slice a n cap) n xs := by
  obtain ⟨h1, h2⟩ := h
  simp at h1
  refine ⟨by omega, ?_⟩
  rcases h2 with ⟨h2, _⟩ | ⟨b', off', cap', c, hv, hS, hb, hc, hm, hs, hx⟩
  · simp at h2
  · simp at hv
    obtain ⟨rfl, rfl⟩ := hv
    refine Or.inr ⟨b', off', cap, c, rfl, hS, hb, by omega, hm, hs, fun j hj => ?_⟩
    rw [hx j (by simp; omega), List.getElem?_append_left hj]
theorem cell_set_other {w : World} {p q : Addr} (h : q.block ≠ p.block) (u : Value) : (w.setCell p u).cell? q = w.cell? q := World.cell?_of_block (w := w) (heap_setCell_other h u)
theorem fro_set_other {w : World} {p q : Addr} (h : q.block ≠ p.block) (u : Value) : (w.setCell p u).frozen? q = w.frozen? q := World.frozen?_of_block (w := w) (heap_setCell_other h u)
/-- So many places below m, none twice, are no more than m. -/
theorem nodup_lt_len : ∀ (m : Nat) (l : List Nat), l.Nodup → (∀ x ∈ l, x < m) → l.length ≤ m
  | 0, [], _, _ => Nat.le_refl _
  | 0, x :: l, _, h => absurd (h x (by simp)) (Nat.not_lt_zero _)
  | m + 1, l, hn, h => by
    have ih := nodup_lt_len m (l.filter (· != m)) (hn.filter _) fun x hx => by
      have h1 := h x (List.mem_filter.1 hx).1
      have h2 : x ≠ m := by simpa using (List.mem_filter.1 hx).2
      omega
    by_cases hm : m ∈ l
    · obtain ⟨u, v, rfl⟩ := List.append_of_mem hm
      have h1 : ∀ x ∈ u, x ≠ m := fun x hx e => (List.nodup_append.1 hn).2.2 x hx m (by simp) e
      have h2 : ∀ x ∈ v, x ≠ m := fun x hx e => by subst e; exact (List.nodup_cons.1 (List.nodup_append.1 hn).2.1).1 hx
      rw [List.filter_append, List.filter_cons, if_neg (by simp), List.filter_eq_self.2 (fun x hx => by simpa using h1 x hx), List.filter_eq_self.2 (fun x hx => by simpa using h2 x hx)] at ih
      simp at ih ⊢; omega
    · rw [List.filter_eq_self.2 (fun x hx => by simp only [bne_iff_ne, ne_eq]; intro e; subst e; exact hm hx)] at ih
      omega
end Go.Proofs.YtgdlndpjfejmcaaGreat
/- Small laws for regions whose operations only read, in whatever order. -/
namespace Go.Proofs.YtgdlndpjfejmcaaGreat
open Go.RowKit
set_option linter.unusedVariables false
set_option maxRecDepth 100000
theorem wpQuiet_len_imap {P : Program} {ops : Array Oper} {C : World → Prop} {Q : Act → Prop} {a : Act} {o : Oper} {rest : List Oper} (hw : Region.wanted o (yielded ops a.tmps) = true)
    (m : Operand) (t : TypeId) (hop : o.op = Op.call { callee := Callee.builtin Builtin.len, args := #[m], argTypes := #[t] }) (k e : TypeId) (q : IntKind) (ht : P.underlying t = some (.map k e))
    (b : Nat) (hm : a.eval m = .map (some b)) (ob : Obj) (l : List (Int × Value)) (hb : ∀ W, C W → W.heap[b]? = some ob) (ho : MapBlk q l ob)
    (h : wpQuiet P ops C Q rest (a.put o.dst (.int .i64 l.length))) : wpQuiet P ops C Q (o :: rest) a :=
  BigFrame.wpQuiet_want hw fun K hK => ⟨_, fun w hw' => by
    unfold Oper.quietAt
    simp [execOp, hop, resolve, invoke, builtin, hm, run_len_imap (P := P) ht (hb w hw') ho o.type, Result.andThen, Oper.quietUpon], hK _ h⟩
end Go.Proofs.YtgdlndpjfejmcaaGreat
/- The zero of an integer, and what an integer's place takes. -/
namespace Go.Proofs.YtgdlndpjfejmcaaGreat
open Go.RowKit
theorem zero_i64 (w : World) : (zeroValue 3).run Tryz.prog w = .ok (.int .i64 0) w := by kernel_rfl
theorem info_i64 : (Tryz.prog.info? 3).map (fun i => (i.zero, i.size, i.bytes)) = some (some (.int .i64 0), 1, 8) := by kernel_rfl
end Go.Proofs.YtgdlndpjfejmcaaGreat
