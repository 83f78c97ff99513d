/- Small laws on memory: what a call may turn; maps keyed by integers, entry by entry. -/
import Derived.WalkKit
import Derived.WalkSpells
import Derived.Lib.Hide
import Derived.Maps.OwnSet
import Derived.Maps.OwnOps
import Derived.RangeFuncRecord
import Derived.Deep.Draws
namespace Go.Proofs.Ytemdhnolccnnfaa
open Go.RowKit
set_option linter.unusedVariables false

/-- Of the blocks that lay there, those outside S are as they were. -/
structure Fr (S : Nat → Prop) (w w' : World) : Prop where
  os : w'.os = w.os
  tape : w'.tape = w.tape
  output : w'.output = w.output
  size : w.heap.size ≤ w'.heap.size
  block : ∀ k, k < w.heap.size → ¬ S k → w'.heap[k]? = w.heap[k]?

theorem Fr.refl (S : Nat → Prop) (w : World) : Fr S w w := ⟨rfl, rfl, rfl, Nat.le_refl _, fun _ _ _ => rfl⟩
theorem Fr.mono {S T : Nat → Prop} {w w' : World} (h : Fr S w w') (hT : ∀ k, k < w.heap.size → S k → T k) : Fr T w w' :=
  ⟨h.os, h.tape, h.output, h.size, fun k hk hn => h.block k hk fun hs => hn (hT k hk hs)⟩
/-- Two steps: what the second turns lies in S or is new. -/
theorem Fr.trans {S T : Nat → Prop} {a b c : World} (h : Fr S a b) (k : Fr T b c) (hT : ∀ i, i < a.heap.size → T i → S i) : Fr S a c :=
  ⟨k.os.trans h.os, k.tape.trans h.tape, k.output.trans h.output, Nat.le_trans h.size k.size,
    fun i hi hn => (k.block i (Nat.lt_of_lt_of_le hi h.size) fun ht => hn (hT i hi ht)).trans (h.block i hi hn)⟩
theorem Fr.alloc {S : Nat → Prop} {a w : World} (h : Fr S a w) (o : Obj) : Fr S a (w.alloc o) :=
  h.trans (T := fun _ => False) ⟨rfl, rfl, rfl, by simp, fun k hk _ => Below.heap_alloc _ _ _ hk⟩ (fun _ _ f => f.elim)
theorem Fr.drew {S : Nat → Prop} {a w : World} (h : Fr S a w) : Fr S a w.drew := ⟨h.os, h.tape, h.output, h.size, h.block⟩
theorem Fr.drewN {S : Nat → Prop} {a w : World} (h : Fr S a w) (n : Nat) : Fr S a (w.drewN n) := ⟨h.os, h.tape, h.output, h.size, h.block⟩
theorem Fr.setCell {S : Nat → Prop} {a w : World} (h : Fr S a w) {p : Addr} (hp : p.block < a.heap.size → S p.block) (u : Value) : Fr S a (w.setCell p u) :=
  h.trans (T := fun i => i = p.block) ⟨rfl, rfl, rfl, by simp [World.setCell], fun k hk hn => Below.heap_setCell _ _ _ _ hn⟩ (fun i hi e => by subst e; exact hp hi)
theorem Fr.putObj {S : Nat → Prop} {a w : World} (h : Fr S a w) {b : Nat} (hb : b < a.heap.size → S b) (o : Obj) : Fr S a (w.putObj b o) :=
  h.trans (T := fun i => i = b) ⟨rfl, rfl, rfl, by simp, fun k hk hn => World.putObj_heap_other hn⟩ (fun i hi e => by subst e; exact hb hi)
theorem Fr.of_grown {w w' : World} {row : Option Nat} (h : w.grownBy w' row) : Fr (fun k => some k = row) w w' :=
  ⟨h.os, h.tape, h.output, h.size, fun k hk hn => h.block k hk hn⟩
theorem Fr.of_below {B : Nat} {w w' : World} (h : Below B w w') : Fr (fun k => B ≤ k) w w' :=
  ⟨h.os, h.tape, h.output, h.size, fun k hk hn => h.block k (by omega)⟩
theorem Fr.below {S : Nat → Prop} {w w' : World} (h : Fr S w w') {B : Nat} (hB : B ≤ w.heap.size) (hS : ∀ k, k < w.heap.size → S k → B ≤ k) : Below B w w' :=
  ⟨h.os, h.tape, h.output, h.size, fun k hk => h.block k (by omega) fun hs => by have := hS k (by omega) hs; omega⟩
theorem Fr.cell {S : Nat → Prop} {w w' : World} (h : Fr S w w') {p : Addr} (hp : p.block < w.heap.size) (hn : ¬ S p.block) : w'.cell? p = w.cell? p := World.cell?_of_block (w := w) (h.block p.block hp hn)
theorem Fr.fro {S : Nat → Prop} {w w' : World} (h : Fr S w w') {p : Addr} (hp : p.block < w.heap.size) (hn : ¬ S p.block) : w'.frozen? p = w.frozen? p := World.frozen?_of_block (w := w) (h.block p.block hp hn)

theorem lt_of_heap {w : World} {b : Nat} {o : Obj} (h : w.heap[b]? = some o) : b < w.heap.size := (Array.getElem?_eq_some_iff.1 h).1
theorem cell_of_heap {w : World} {b : Nat} {c : Array Value} {t : TypeId} {f : Nat × Nat} (h : w.heap[b]? = some (.cells c t f)) (i : Nat) : w.cell? ⟨b, i, none⟩ = c[i]? := by
  simp [World.cell?, h]
theorem fro_of_heap {w : World} {b : Nat} {c : Array Value} {t : TypeId} (h : w.heap[b]? = some (.cells c t (0, 0))) (i : Nat) : w.frozen? ⟨b, i, none⟩ = false := by
  simp [World.frozen?, h]
theorem heap_alloc_new (w : World) (o : Obj) : (w.alloc o).heap[w.heap.size]? = some o := by
  show (w.heap.push o)[w.heap.size]? = _
  simp
theorem heap_alloc_old {w : World} {b : Nat} (o : Obj) (h : b < w.heap.size) : (w.alloc o).heap[b]? = w.heap[b]? := Below.heap_alloc _ _ _ h
theorem heap_setCell_same {w : World} {b : Nat} {c : Array Value} {t : TypeId} {f : Nat × Nat} (h : w.heap[b]? = some (.cells c t f)) (i : Nat) (u : Value) :
    (w.setCell ⟨b, i, none⟩ u).heap[b]? = some (.cells (c.setIfInBounds i u) t f) := by
  simp only [World.setCell, Array.getElem?_modify]
  simp [h]
theorem heap_setCell_other {w : World} {b : Nat} {p : Addr} (h : b ≠ p.block) (u : Value) : (w.setCell p u).heap[b]? = w.heap[b]? := Below.heap_setCell _ _ _ _ h

/-! ### Maps keyed by integers -/
def aget (l : List (Int × Value)) (k : Int) : Option Value := (l.find? (fun p => p.1 == k)).map (·.2)
def aset (l : List (Int × Value)) (k : Int) (v : Value) : List (Int × Value) := if (aget l k).isSome then l.map (fun p => if p.1 = k then (k, v) else p) else l ++ [(k, v)]
def adel (l : List (Int × Value)) (k : Int) : List (Int × Value) := l.filter (fun p => p.1 != k)
def Keys (l : List (Int × Value)) : Prop := (l.map (·.1)).Nodup

def MapBlk (q : IntKind) (l : List (Int × Value)) (o : Obj) : Prop :=
  ∃ es clk, o = .map es clk ∧ es.toList.map (fun (e : MapEntry) => (e.key, e.val)) = l.map (fun (p : Int × Value) => (Value.int q p.1, p.2)) ∧ Keys l

theorem aget_nil (k : Int) : aget [] k = none := rfl
theorem aget_none {l : List (Int × Value)} {k : Int} : aget l k = none ↔ ∀ p ∈ l, p.1 ≠ k := by
  unfold aget; simp
theorem aget_mem {l : List (Int × Value)} (hn : Keys l) {k : Int} {v : Value} (h : (k, v) ∈ l) : aget l k = some v := by
  induction l with
  | nil => simp at h
  | cons p l ih =>
    have hn' : p.1 ∉ l.map (·.1) ∧ (l.map (·.1)).Nodup := by simpa [Keys] using hn
    rcases List.mem_cons.1 h with h | h
    · subst h; simp [aget]
    · have hne : p.1 ≠ k := fun e => hn'.1 (by rw [e]; exact List.mem_map.2 ⟨_, h, rfl⟩)
      have := ih hn'.2 h
      unfold aget at this ⊢
      rw [List.find?_cons_of_neg (by simpa using hne)]; exact this
theorem mem_of_aget {l : List (Int × Value)} {k : Int} {v : Value} (h : aget l k = some v) : (k, v) ∈ l := by
  unfold aget at h
  rcases hf : l.find? (fun p => p.1 == k) with _ | p
  · simp [hf] at h
  · rw [hf] at h
    have h1 := List.find?_some hf
    have h2 := List.mem_of_find?_eq_some hf
    simp at h h1
    subst h; subst h1; exact h2
theorem aget_iff {l : List (Int × Value)} (hn : Keys l) {k : Int} {v : Value} : aget l k = some v ↔ (k, v) ∈ l := ⟨mem_of_aget, aget_mem hn⟩
theorem keys_aset {l : List (Int × Value)} (hn : Keys l) (k : Int) (v : Value) : Keys (aset l k v) := by
  unfold aset
  split
  · have : (l.map (fun p => if p.1 = k then (k, v) else p)).map (·.1) = l.map (·.1) := by
      rw [List.map_map]; apply List.map_congr_left; intro p _; simp only [Function.comp]; split <;> simp_all
    unfold Keys; rw [this]; exact hn
  · rename_i h
    have h' : aget l k = none := by simpa using h
    unfold Keys at hn ⊢
    rw [List.map_append, List.nodup_append]
    refine ⟨hn, by simp, ?_⟩
    intro a ha b hb e
    obtain ⟨p, hp, rfl⟩ := List.mem_map.1 ha
    simp at hb
    exact aget_none.1 h' p hp (by rw [e, hb])
theorem keys_adel {l : List (Int × Value)} (hn : Keys l) (k : Int) : Keys (adel l k) := by
  unfold Keys adel at *
  exact hn.sublist (List.filter_sublist.map _)
theorem aget_aset {l : List (Int × Value)} (hn : Keys l) (k : Int) (v : Value) (k' : Int) : aget (aset l k v) k' = if k' = k then some v else aget l k' := by
  have hk := keys_aset hn k v
  split
  · rename_i e; subst e
    refine (aget_iff hk).2 ?_
    unfold aset; split
    · rename_i h
      obtain ⟨u, hu⟩ := Option.isSome_iff_exists.1 h
      exact List.mem_map.2 ⟨(k', u), mem_of_aget hu, by simp⟩
    · simp
  · rename_i e
    apply Option.ext; intro u
    rw [aget_iff hk, aget_iff hn]
    unfold aset; split
    · rw [List.mem_map]; constructor
      · rintro ⟨p, hp, h⟩
        split at h
        · simp at h; exact absurd h.1.symm e
        · subst h; exact hp
      · intro h; exact ⟨_, h, by simp [e]⟩
    · simp [e]
theorem aget_adel {l : List (Int × Value)} (hn : Keys l) (k : Int) (k' : Int) : aget (adel l k) k' = if k' = k then none else aget l k' := by
  have hk := keys_adel hn k
  split
  · rename_i e; subst e
    rw [aget_none]; intro p hp; have := (List.mem_filter.1 hp).2; simpa using this
  · rename_i e
    apply Option.ext; intro u
    rw [aget_iff hk, aget_iff hn]
    unfold adel; rw [List.mem_filter]; simp [e]
theorem length_aset (l : List (Int × Value)) (k : Int) (v : Value) : (aset l k v).length = if (aget l k).isSome then l.length else l.length + 1 := by
  unfold aset; split <;> simp
theorem adel_none {l : List (Int × Value)} {k : Int} (h : aget l k = none) : adel l k = l := by
  unfold adel; rw [List.filter_eq_self]; intro p hp; simpa using aget_none.1 h p hp
theorem length_adel {l : List (Int × Value)} (hn : Keys l) (k : Int) : (adel l k).length = if (aget l k).isSome then l.length - 1 else l.length := by
  split
  · rename_i h
    induction l with
    | nil => simp [aget] at h
    | cons p l ih =>
      have hn' : p.1 ∉ l.map (·.1) ∧ (l.map (·.1)).Nodup := by simpa [Keys] using hn
      by_cases e : p.1 = k
      · have h2 : adel l k = l := adel_none (aget_none.2 fun x hx hxk => hn'.1 (by rw [e, ← hxk]; exact List.mem_map.2 ⟨x, hx, rfl⟩))
        have : adel (p :: l) k = adel l k := by unfold adel; rw [List.filter_cons_of_neg (by simp [e])]
        rw [this, h2]; simp
      · have h3 : (aget l k).isSome := by
          unfold aget at h ⊢; rw [List.find?_cons_of_neg (by simpa using e)] at h; exact h
        have : adel (p :: l) k = p :: adel l k := by unfold adel; rw [List.filter_cons_of_pos (by simpa using e)]
        have := ih hn'.2 h3
        obtain ⟨u, hu⟩ := Option.isSome_iff_exists.1 h3
        have hpos := List.length_pos_of_mem (mem_of_aget hu)
        simp [*]; omega
  · rename_i h
    rw [adel_none (by simpa using h)]
theorem keys_idx {l : List (Int × Value)} (hn : Keys l) {x : Int} : ∀ {i j : Nat} {u v : Value}, l[i]? = some (x, u) → l[j]? = some (x, v) → i = j := by
  induction l with
  | nil => intro i j u v h; simp at h
  | cons p l ih =>
    have hn' : p.1 ∉ l.map (·.1) ∧ (l.map (·.1)).Nodup := by simpa [Keys] using hn
    have hno : ∀ {i : Nat} {u : Value}, p.1 = x → l[i]? = some (x, u) → False := fun e h => hn'.1 (by rw [e]; exact List.mem_map.2 ⟨_, List.mem_of_getElem? h, rfl⟩)
    intro i j u v h1 h2
    cases i <;> cases j
    · rfl
    · simp at h1 h2; exact (hno (by rw [h1]) h2).elim
    · simp at h1 h2; exact (hno (by rw [h2]) h1).elim
    · simp at h1 h2; rw [ih hn'.2 h1 h2]
theorem map_eraseIdx' {α β : Type} (f : α → β) : ∀ (l : List α) (j : Nat), (l.map f).eraseIdx j = (l.eraseIdx j).map f
  | [], _ => rfl
  | a :: l, 0 => rfl
  | a :: l, j + 1 => by simp [map_eraseIdx' f l j]
theorem eraseIdx_adel {l : List (Int × Value)} (hn : Keys l) {k : Int} : ∀ {j : Nat} {v : Value}, l[j]? = some (k, v) → l.eraseIdx j = adel l k := by
  induction l with
  | nil => intro j v h; simp at h
  | cons p l ih =>
    have hn' : p.1 ∉ l.map (·.1) ∧ (l.map (·.1)).Nodup := by simpa [Keys] using hn
    intro j v h
    cases j with
    | zero =>
      simp at h; subst h
      have h2 : adel l k = l := adel_none (aget_none.2 fun x hx hxk => hn'.1 (by simp only; rw [← hxk]; exact List.mem_map.2 ⟨x, hx, rfl⟩))
      show l = _
      unfold adel at h2 ⊢; rw [List.filter_cons_of_neg (by simp)]; exact h2.symm
    | succ j =>
      simp at h
      have hm := List.mem_of_getElem? h
      have hne : p.1 ≠ k := fun e => hn'.1 (by rw [e]; exact List.mem_map.2 ⟨_, hm, rfl⟩)
      show p :: l.eraseIdx j = _
      rw [ih hn'.2 h]; unfold adel; rw [List.filter_cons_of_pos (by simpa using hne)]

section
variable {P : Program} {w : World} {t k e : TypeId} {q : IntKind} {b : Nat} {l : List (Int × Value)} {o : Obj}

theorem find_imap {es : Array MapEntry} (he : es.toList.map (fun (e : MapEntry) => (e.key, e.val)) = l.map (fun (p : Int × Value) => (Value.int q p.1, p.2))) (hn : Keys l) (x : Int) :
    ∃ a, Instr.findNow (.int q) (.int q x) es.toList 0 = some a ∧ ((a = none ∧ aget l x = none) ∨ ∃ (j : Nat) (v : Value), a = some (j, v) ∧ l[j]? = some (x, v) ∧ aget l x = some v) := by
  have hget : ∀ j : Nat, es.toList[j]?.map (fun (e : MapEntry) => (e.key, e.val)) = l[j]?.map (fun (p : Int × Value) => (Value.int q p.1, p.2)) := by
    intro j; rw [← List.getElem?_map, ← List.getElem?_map, he]
  have hks : ∀ y ∈ es.toList, MapKept.IsKey (.int q) y.key := by
    intro y hy
    have : (y.key, y.val) ∈ l.map (fun (p : Int × Value) => (Value.int q p.1, p.2)) := by rw [← he]; exact List.mem_map.2 ⟨y, hy, rfl⟩
    obtain ⟨p, _, hp⟩ := List.mem_map.1 this
    simp at hp
    rw [← hp.1]; simp [MapKept.IsKey]
  rcases MapKept.findNow_spec (d := .int q) (k := .int q x) (by simp [MapKept.IsKey]) es.toList 0 hks with ⟨h1, h2⟩ | ⟨j, e0, h1, h2, h3⟩
  · refine ⟨_, h1, Or.inl ⟨rfl, aget_none.2 fun p hp hpx => ?_⟩⟩
    have : (Value.int q p.1, p.2) ∈ es.toList.map (fun (e : MapEntry) => (e.key, e.val)) := by rw [he]; exact List.mem_map.2 ⟨p, hp, rfl⟩
    obtain ⟨y, hy, hyp⟩ := List.mem_map.1 this
    simp at hyp
    exact h2 y hy (by rw [hyp.1, hpx])
  · rw [Nat.zero_add] at h1
    have := hget j
    rw [h2] at this
    rcases hl : l[j]? with _ | p
    · rw [hl] at this; simp at this
    · rw [hl] at this; simp at this
      rw [h3] at this
      simp at this
      obtain ⟨p1, p2⟩ := p
      simp at this
      obtain ⟨rfl, rfl⟩ := this
      exact ⟨_, h1, Or.inr ⟨j, e0.val, rfl, hl, aget_mem hn (List.mem_of_getElem? hl)⟩⟩

theorem run_lookup_imap (ht : P.underlying t = some (.map k e)) (hk : P.underlying k = some (.int q)) (hb : w.heap[b]? = some o) (ho : MapBlk q l o) (x : Int) (ok : Bool) {z : Value} (hz : (zeroValue e).run P w = .ok z w) :
    (Instr.lookup t (.map (some b)) (.int q x) ok).run P w = .ok (if ok then .tuple #[(aget l x).getD z, .bool (aget l x).isSome] else (aget l x).getD z) w := by
  obtain ⟨es, clk, rfl, he, hn⟩ := ho
  obtain ⟨a, h1, h2⟩ := find_imap he hn x
  have hck := MapKept.run_checkKey (w := w) (k := .int q x) hk (by simp [MapKept.IsKey]) es.isEmpty 9999
  have hfk := MapKept.run_findKey (w := w) hk h1
  rcases h2 with ⟨rfl, hg⟩ | ⟨j, v, rfl, hl, hg⟩
  · cases ok <;> simp [Instr.lookup, run_underlying ht, MapKept.run_getObj_map hb, hck, hfk, hg, hz, Result.andThen]
  · cases ok <;> simp [Instr.lookup, run_underlying ht, MapKept.run_getObj_map hb, hck, hfk, hg, Result.andThen]

theorem run_update_imap (ht : P.underlying t = some (.map k e)) (hk : P.underlying k = some (.int q)) (hb : w.heap[b]? = some o) (ho : MapBlk q l o) (x : Int) (v : Value) :
    ∃ o', (Instr.mapUpdate t (.map (some b)) (.int q x) v).run P w = .ok () (w.putObj b o') ∧ MapBlk q (aset l x v) o' := by
  obtain ⟨es, clk, rfl, he, hn⟩ := ho
  obtain ⟨a, h1, h2⟩ := find_imap he hn x
  have hck := MapKept.run_checkKey (w := w) (k := .int q x) hk (by simp [MapKept.IsKey]) false 9999
  have hfk := MapKept.run_findKey (w := w) hk h1
  rcases h2 with ⟨rfl, hg⟩ | ⟨j, u, rfl, hl, hg⟩
  · refine ⟨.map (es.push { key := .int q x, val := v, born := clk }) (clk + 1), ?_, _, _, rfl, ?_, keys_aset hn x v⟩
    · simp [Instr.mapUpdate, run_underlying ht, MapKept.run_getObj_map hb, hck, hfk, MapKept.run_setObj_map _ hb, Result.andThen, World.putObj]
    · unfold aset; rw [hg]; simp [he]
  · have hj : es.toList[j]?.map (fun (e : MapEntry) => (e.key, e.val)) = some (Value.int q x, u) := by
      rw [← List.getElem?_map, he, List.getElem?_map, hl]; rfl
    rcases hes : es.toList[j]? with _ | e0
    · rw [hes] at hj; simp at hj
    · rw [hes] at hj; simp at hj
      have hes' : es[j]? = some e0 := by rw [← Array.getElem?_toList]; exact hes
      refine ⟨.map (es.modify j fun e => { e with key := .int q x, val := v }) clk, ?_, _, _, rfl, ?_, keys_aset hn x v⟩
      · simp [Instr.mapUpdate, run_underlying ht, MapKept.run_getObj_map hb, hck, hfk, hes', hj.1, MapKept.run_keyThatStays (d := .int q) (k := .int q x) (by simp [MapKept.IsKey]), MapKept.run_setObj_map _ hb, Result.andThen, World.putObj]
      · unfold aset; rw [hg]; simp only [Option.isSome_some, if_true]
        apply List.ext_getElem?; intro i
        rw [List.getElem?_map, Array.getElem?_toList, Array.getElem?_modify, List.getElem?_map, List.getElem?_map]
        have hget : es.toList[i]?.map (fun (e : MapEntry) => (e.key, e.val)) = l[i]?.map (fun (p : Int × Value) => (Value.int q p.1, p.2)) := by
          rw [← List.getElem?_map, ← List.getElem?_map, he]
        rw [Array.getElem?_toList] at hget
        split
        · rename_i e; subst e
          rw [hes', hl]; simp
        · rename_i hne
          rw [hget]
          rcases hli : l[i]? with _ | p
          · simp
          · have : p.1 ≠ x := by
              intro hpx
              obtain ⟨p1, p2⟩ := p
              simp only at hpx; subst hpx
              exact hne (keys_idx hn hl hli)
            simp [this]

theorem run_delete_imap (ht : P.underlying t = some (.map k e)) (hk : P.underlying k = some (.int q)) (hb : w.heap[b]? = some o) (ho : MapBlk q l o) (x : Int) (ty : TypeId) :
    ∃ o', (Builtin.delete_ #[t, k] ty #[.map (some b), .int q x]).run P w = .ok (.tuple #[]) (w.putObj b o') ∧ MapBlk q (adel l x) o' := by
  obtain ⟨es, clk, rfl, he, hn⟩ := ho
  obtain ⟨a, h1, h2⟩ := find_imap he hn x
  have hck := MapKept.run_checkKey (w := w) (k := .int q x) hk (by simp [MapKept.IsKey]) es.isEmpty 9999
  have hfk := MapKept.run_findKey (w := w) hk h1
  rcases h2 with ⟨rfl, hg⟩ | ⟨j, u, rfl, hl, hg⟩
  · refine ⟨.map es clk, ?_, _, _, rfl, ?_, keys_adel hn x⟩
    · simp [Builtin.delete_, run_underlying ht, MapKept.run_getObj_map hb, hck, hfk, MapKept.run_setObj_map _ hb, Result.andThen, World.putObj]
    · rw [adel_none hg]; exact he
  · refine ⟨.map (es.eraseIdxIfInBounds j) clk, ?_, _, _, rfl, ?_, keys_adel hn x⟩
    · simp [Builtin.delete_, run_underlying ht, MapKept.run_getObj_map hb, hck, hfk, MapKept.run_setObj_map _ hb, Result.andThen, World.putObj]
    · have hlen : j < es.size := by
        have := (List.getElem?_eq_some_iff.1 hl).1
        have h2 := congrArg List.length he
        simp at h2; omega
      have e1 : (es.eraseIdxIfInBounds j).toList = es.toList.eraseIdx j := by simp [Array.eraseIdxIfInBounds, hlen]
      rw [e1, ← map_eraseIdx', he, map_eraseIdx', eraseIdx_adel hn hl]

theorem mapBlk_size {es : Array MapEntry} {clk : Nat} (ho : MapBlk q l (.map es clk)) : es.size = l.length := by
  obtain ⟨es', clk', h, he, _⟩ := ho
  cases h
  have := congrArg List.length he
  simpa using this
theorem run_len_imap (ht : P.underlying t = some (.map k e)) (hb : w.heap[b]? = some o) (ho : MapBlk q l o) (ty : TypeId) : (Builtin.len_ #[t] ty #[.map (some b)]).run P w = .ok (.int .i64 l.length) w := by
  obtain ⟨es, clk, rfl, he, hn⟩ := ho
  have e1 : es.size = l.length := mapBlk_size ⟨es, clk, rfl, he, hn⟩
  rw [← e1]
  simp [Builtin.len_, run_underlying ht, MapKept.run_getObj_map hb, goInt, Result.andThen]
theorem mapBlk_nil (q : IntKind) : MapBlk q [] (.map #[] 0) := ⟨#[], 0, rfl, rfl, List.nodup_nil⟩
theorem MapBlk.keys (h : MapBlk q l o) : Keys l := by obtain ⟨_, _, _, _, hn⟩ := h; exact hn
end

section
variable {P : Program} {w : World} {ops : Array Oper} {rest : List Oper} {o : Oper} {a : Act} {Q : Exit → Act → World → Prop}
theorem wpList_lookup_imap (hg : o.guard = none) (m x : Operand) (t : TypeId) (hop : o.op = Op.lookup t m x false) (k e : TypeId) (q : IntKind) (ht : P.underlying t = some (.map k e)) (hk : P.underlying k = some (.int q))
    (z : Value) (hz : (zeroValue e).run P w = .ok z w) (b : Nat) (hm : a.eval m = .map (some b)) (ob : Obj) (l : List (Int × Value)) (hb : w.heap[b]? = some ob) (ho : MapBlk q l ob) (n : Int) (hx : a.eval x = .int q n)
    (hK : wpList P ops Q rest (a.put o.dst ((aget l n).getD z)) w) : wpList P ops Q (o :: rest) a w := by
  refine wpList_plain hg fun K' hK' => ?_
  unfold Oper.wp
  simp [execOp, hop, hm, hx, run_lookup_imap ht hk hb ho n false hz, Result.andThen]
  exact hK' _ _ hK
theorem wpList_lookupOk_imap (hg : o.guard = none) (m x : Operand) (t : TypeId) (hop : o.op = Op.lookup t m x true) (k e : TypeId) (q : IntKind) (ht : P.underlying t = some (.map k e)) (hk : P.underlying k = some (.int q))
    (z : Value) (hz : (zeroValue e).run P w = .ok z w) (b : Nat) (hm : a.eval m = .map (some b)) (ob : Obj) (l : List (Int × Value)) (hb : w.heap[b]? = some ob) (ho : MapBlk q l ob) (n : Int) (hx : a.eval x = .int q n)
    (hK : wpList P ops Q rest (a.put o.dst (.tuple #[(aget l n).getD z, .bool (aget l n).isSome])) w) : wpList P ops Q (o :: rest) a w := by
  refine wpList_plain hg fun K' hK' => ?_
  unfold Oper.wp
  simp [execOp, hop, hm, hx, run_lookup_imap ht hk hb ho n true hz, Result.andThen]
  exact hK' _ _ hK
theorem wpList_update_imap (hg : o.guard = none) (m x v : Operand) (t : TypeId) (hop : o.op = Op.mapUpdate t m x v) (k e : TypeId) (q : IntKind) (ht : P.underlying t = some (.map k e)) (hk : P.underlying k = some (.int q))
    (b : Nat) (hm : a.eval m = .map (some b)) (ob : Obj) (l : List (Int × Value)) (hb : w.heap[b]? = some ob) (ho : MapBlk q l ob) (n : Int) (hx : a.eval x = .int q n) (u : Value) (hv : a.eval v = u)
    (hK : ∀ o', MapBlk q (aset l n u) o' → wpList P ops Q rest (a.put o.dst undef) (w.putObj b o')) : wpList P ops Q (o :: rest) a w := by
  refine wpList_plain hg fun K' hK' => ?_
  obtain ⟨o', hrun, ho'⟩ := run_update_imap (P := P) ht hk hb ho n u
  unfold Oper.wp
  simp [execOp, hop, hm, hx, hv, hrun, Result.andThen]
  exact hK' _ _ (hK o' ho')
theorem wpList_delete_imap (hg : o.guard = none) (m x : Operand) (t k : TypeId) (hop : o.op = Op.call { callee := Callee.builtin Builtin.delete, args := #[m, x], argTypes := #[t, k] }) (e : TypeId) (q : IntKind) (ht : P.underlying t = some (.map k e)) (hk : P.underlying k = some (.int q))
    (b : Nat) (hm : a.eval m = .map (some b)) (ob : Obj) (l : List (Int × Value)) (hb : w.heap[b]? = some ob) (ho : MapBlk q l ob) (n : Int) (hx : a.eval x = .int q n)
    (hK : ∀ o', MapBlk q (adel l n) o' → wpList P ops Q rest (a.put o.dst (.tuple #[])) (w.putObj b o')) : wpList P ops Q (o :: rest) a w := by
  refine wpList_plain hg fun K' hK' => ?_
  obtain ⟨o', hrun, ho'⟩ := run_delete_imap (P := P) ht hk hb ho n o.type
  unfold Oper.wp
  simp [execOp, hop, resolve, invoke, builtin, hm, hx, hrun, Result.andThen]
  exact hK' _ _ (hK o' ho')
theorem wpList_len_imap (hg : o.guard = none) (m : Operand) (t : TypeId) (hop : o.op = Op.call { callee := Callee.builtin Builtin.len, args := #[m], argTypes := #[t] }) (k e : TypeId) (q : IntKind) (ht : P.underlying t = some (.map k e))
    (b : Nat) (hm : a.eval m = .map (some b)) (ob : Obj) (l : List (Int × Value)) (hb : w.heap[b]? = some ob) (ho : MapBlk q l ob)
    (hK : wpList P ops Q rest (a.put o.dst (.int .i64 l.length)) w) : wpList P ops Q (o :: rest) a w := by
  refine wpList_plain hg fun K' hK' => ?_
  unfold Oper.wp
  simp [execOp, hop, resolve, invoke, builtin, hm, run_len_imap (P := P) ht hb ho o.type, Result.andThen]
  exact hK' _ _ hK
end
/-- A block of one cell that has just been laid, at whatever number the walk calls it. -/
theorem cell_one_at (X : World) {n : Nat} (u : Value) (T : TypeId) (hn : n = X.heap.size) : ∀ (j : Nat) (v : Value), [u][j]? = some v → (X.alloc (.cells #[u] T)).cell? ((⟨n, 0, none⟩ : Addr).add j) = some v := by
  subst hn; exact cell_one_new X u T
theorem cell_putObj {w : World} {b : Nat} (o : Obj) {p : Addr} (h : p.block ≠ b) : (w.putObj b o).cell? p = w.cell? p := World.cell?_of_block (w := w) (World.putObj_heap_other h)
theorem fro_putObj {w : World} {b : Nat} (o : Obj) {p : Addr} (h : p.block ≠ b) : (w.putObj b o).frozen? p = w.frozen? p := World.frozen?_of_block (w := w) (World.putObj_heap_other h)
end Go.Proofs.Ytemdhnolccnnfaa
