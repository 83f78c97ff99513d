/- Layer 15 (policy): who stands, whatever the kind. -/
import Derived.Test.YtgdlndpjfejmcaaGreatPolNew
namespace Go.Proofs.YtgdlndpjfejmcaaGreat
open Go.RowKit
set_option linter.unusedVariables false
set_option maxRecDepth 100000
def PK.who (k : PK) : List Int := flat k.L k.n
structure PK.Ok (k : PK) : Prop where
  nd : k.who.Nodup
  nil : ∀ r, k.n ≤ r → k.L r = []
  rng : ∀ x, x ∈ k.who → 0 ≤ x ∧ x ≤ 4194303
  th : ∀ s, k = .th s → Thr.Gd s
theorem pol_ok {w : World} {S : Nat → Prop} {p : Nat} {k : PK} {N M : Nat} (h : PolAt w S p k N M) : k.Ok := by
  obtain ⟨T, x, Si, h1, h2, h3, h4, h5⟩ := h
  obtain ⟨g, Sr, hR, _, _⟩ := h5.rows
  refine ⟨flat_nodup k.n (fun r hr => hR.nodup hr) (fun r s hr hs x h1 h2 => hR.disj hr hs h1 h2), fun r hr => hR.nil hr, fun x hx => ?_, fun s e => ?_⟩
  · obtain ⟨r, hr, hm⟩ := mem_flat.1 hx
    exact hR.range hr hm
  · subst e
    obtain ⟨_, q, _, h⟩ := h5
    have hi := h.2
    exact ⟨hi, fun r x hr hx => hR.range hr hx, hR.nodup (r := 0) (show 0 < 2 by decide), hR.nodup (r := 1) (show 1 < 2 by decide), fun x q0 q1 => by have := hR.disj (r := 0) (s := 1) (show 0 < 2 by decide) (show 1 < 2 by decide) q0 q1; omega⟩
theorem who_len {k : PK} (h : k.Ok) : k.len = k.who.length := by
  unfold PK.len PK.who
  have e3 : flat k.L 3 = k.L 0 ++ k.L 1 ++ k.L 2 := by rw [flat_succ, flat_succ, flat_succ, flat_zero, List.nil_append]
  cases k with
  | pl L => rw [h.nil 1 (show 1 ≤ 1 by decide), h.nil 2 (show 1 ≤ 2 by decide)]; rw [show (PK.pl L).n = 1 from rfl, flat_succ, flat_zero]; simp
  | sg L A => rw [show (PK.sg L A).n = 3 from rfl, e3]; simp [Nat.add_assoc]
  | ar s => rw [h.nil 2 (show 2 ≤ 2 by decide)]; rw [show (PK.ar s).n = 2 from rfl, flat_succ, flat_succ, flat_zero]; simp
  | th s => rw [h.nil 2 (show 2 ≤ 2 by decide)]; rw [show (PK.th s).n = 2 from rfl, flat_succ, flat_succ, flat_zero]; simp
def PK.Inv : PK → Prop
  | .ar s => 0 ≤ s.P ∧ s.P ≤ s.most ∧ s.most ≤ 1000000000000
  | _ => True
/-- X stands. -/
structure Std (k : PK) (X : List Int) : Prop where
  nd : X.Nodup
  mem : ∀ x, x ∈ X ↔ x ∈ k.who
  inv : k.Inv
theorem std_len {k : PK} {X : List Int} (h : Std k X) (ho : k.Ok) : k.len = X.length := by
  rw [who_len ho]
  exact (List.perm_ext_iff_of_nodup ho.nd h.nd).2 (fun x => (h.mem x).symm) |>.length_eq
theorem std_has {k : PK} {X : List Int} (h : Std k X) (id : Int) : k.hasB id = decide (id ∈ X) := by
  unfold PK.hasB
  exact decide_eq_decide.2 (Seg.rowOf_nonneg.trans (h.mem id).symm)
theorem neg_row {n : Nat} {L : Nat → List Int} {id : Int} : rowOf n L id < 0 ↔ id ∉ flat L n := by
  rw [← Seg.rowOf_nonneg]; omega
theorem may0 {n : Nat} (hn : 0 < n) {id : Int} (h : 0 ≤ id ∧ id ≤ 4194303) : mayIn n 0 id = true := decide_eq_true ⟨by omega, by omega, h⟩
theorem std_mk {k : PK} {X : List Int} (h : Std k X) {k' : PK} {id : Int} (hi : k'.Inv) (hm : ∀ x, x ∈ k'.who ↔ x = id ∨ x ∈ k.who) : Std k' (if id ∈ X then X else id :: X) := by
  refine ⟨?_, fun x => ?_, hi⟩
  · split
    · exact h.nd
    · rename_i q; exact List.nodup_cons.2 ⟨q, h.nd⟩
  · rw [hm x, ← h.mem x]
    split
    · rename_i q; exact ⟨Or.inr, fun r => r.elim (fun e => e ▸ q) (fun r => r)⟩
    · exact List.mem_cons
theorem front_mem {n : Nat} {L : Nat → List Int} {r id x : Int} (hr : 0 ≤ r ∧ r < n) (h : 0 ≤ id ∧ id ≤ 4194303) : x ∈ flat (frontL n L r id) n ↔ x = id ∨ x ∈ flat L n := by
  have e : r = (r.toNat : Int) := by omega
  rw [e]
  exact Seg.mem_front (by omega) h
theorem arc_insR (s : Arc.ArcS) (h : Int) : 0 ≤ Arc.insR s h ∧ Arc.insR s h < 2 := by
  unfold Arc.insR; split
  · omega
  · split <;> omega
theorem std_ins {k : PK} {X : List Int} (ho : k.Ok) (h : Std k X) {id : Int} (hh : Int) (hid : 0 ≤ id ∧ id ≤ 4194303) : k.insB id = decide (id ∉ X) ∧ Std (k.ins id hh) (if id ∈ X then X else id :: X) ∧ k.fit := by
  have hX : id ∉ X ↔ id ∉ k.who := not_congr (h.mem id)
  cases k with
  | pl L =>
    refine ⟨?_, std_mk h trivial fun x => ?_, trivial⟩
    · show (decide (rowOf 1 L id < 0) && mayIn 1 0 id) = _
      rw [may0 (by decide) hid, Bool.and_true]
      exact decide_eq_decide.2 (neg_row.trans hX.symm)
    · show x ∈ flat (insP L id) 1 ↔ _
      unfold insP
      split
      · exact front_mem (by decide) hid
      · rename_i q
        have q2 : id ∈ flat L 1 := Seg.rowOf_nonneg.1 (by omega)
        exact ⟨Or.inr, fun r => r.elim (fun e => e ▸ q2) (fun r => r)⟩
  | sg L A =>
    refine ⟨?_, std_mk h trivial fun x => Seg.ins_mem hid, trivial⟩
    show (decide (rowOf 3 L id < 0) && mayIn 3 0 id) = _
    rw [may0 (by decide) hid, Bool.and_true]
    exact decide_eq_decide.2 (neg_row.trans hX.symm)
  | ar s =>
    have hi := h.inv
    refine ⟨?_, std_mk h ?_ fun x => ?_, ⟨hi.1, Int.le_trans hi.2.1 hi.2.2⟩⟩
    · show decide (rowOf 2 s.L id < 0 ∧ 0 ≤ id ∧ id ≤ 4194303) = _
      exact decide_eq_decide.2 ⟨fun q => hX.2 (neg_row.1 q.1), fun q => ⟨neg_row.2 (hX.1 q), hid⟩⟩
    · show 0 ≤ (Arc.insA s id hh).P ∧ (Arc.insA s id hh).P ≤ (Arc.insA s id hh).most ∧ (Arc.insA s id hh).most ≤ 1000000000000
      obtain ⟨i1, i2, i3⟩ := hi
      unfold Arc.insA
      split
      · show 0 ≤ (Arc.insG s hh).P ∧ (Arc.insG s hh).P ≤ (Arc.insG s hh).most ∧ (Arc.insG s hh).most ≤ 1000000000000
        unfold Arc.insG
        split
        · show 0 ≤ min (max _ 0) s.most ∧ min (max _ 0) s.most ≤ s.most ∧ s.most ≤ 1000000000000
          omega
        · split
          · show 0 ≤ min (max _ 0) s.most ∧ min (max _ 0) s.most ≤ s.most ∧ s.most ≤ 1000000000000
            omega
          · exact ⟨i1, i2, i3⟩
      · exact ⟨i1, i2, i3⟩
    · show x ∈ flat (Arc.insA s id hh).L 2 ↔ _
      unfold Arc.insA
      split
      · exact front_mem (arc_insR s hh) hid
      · rename_i q
        have q2 : id ∈ flat s.L 2 := Seg.rowOf_nonneg.1 (by
          have q3 : ¬ (rowOf 2 s.L id < 0 ∧ 0 ≤ id ∧ id ≤ 4194303) := fun r => q (decide_eq_true r)
          omega)
        exact ⟨Or.inr, fun r => r.elim (fun e => e ▸ q2) (fun r => r)⟩
  | th s =>
    have hg := ho.th s rfl
    have hK : s.K id = none ↔ id ∉ flat s.L 2 := by
      rw [mem_flat]
      constructor
      · intro e q
        obtain ⟨r, hr, hm⟩ := q
        have := (hg.in_.in_ id).2 (by
          match r, hr, hm with
          | 0, _, hm => exact .inl hm
          | 1, _, hm => exact .inr hm)
        rw [e] at this; cases this
      · intro q
        rcases e : s.K id with _ | v
        · rfl
        · have := (hg.in_.in_ id).1 (by rw [e]; rfl)
          exact absurd (this.elim (fun m => ⟨0, by decide, m⟩) (fun m => ⟨1, by decide, m⟩)) q
    refine ⟨?_, std_mk h trivial fun x => ?_, trivial⟩
    · show decide (s.K id = none ∧ 0 ≤ id ∧ id ≤ 4194303) = _
      exact decide_eq_decide.2 ⟨fun q => hX.2 (hK.1 q.1), fun q => ⟨hK.2 (hX.1 q), hid⟩⟩
    · show x ∈ flat (Thr.inT s id hh).L 2 ↔ _
      unfold Thr.inT
      split
      · refine front_mem ?_ hid
        unfold Thr.inR
        split <;> omega
      · rename_i q
        have q2 : id ∈ flat s.L 2 := Classical.byContradiction fun r => q (decide_eq_true ⟨hK.2 r, hid⟩)
        exact ⟨Or.inr, fun r => r.elim (fun e => e ▸ q2) (fun r => r)⟩
theorem std_same {k k' : PK} {X : List Int} (h : Std k X) (hi : k'.Inv) (hm : ∀ x, x ∈ k'.who ↔ x ∈ k.who) : Std k' X := ⟨h.nd, fun x => (h.mem x).trans (hm x).symm, hi⟩
theorem std_cap {k : PK} {X : List Int} (h : Std k X) (n : Int) (hn : n ≤ 1000000000000) : Std (k.cap n) X := by
  cases k with
  | pl L => exact h
  | sg L A => exact h
  | ar s =>
    have hi := h.inv
    refine std_same h ?_ fun x => Iff.rfl
    obtain ⟨i1, i2, i3⟩ := hi
    show 0 ≤ min s.P (max 0 n) ∧ min s.P (max 0 n) ≤ max 0 n ∧ max 0 n ≤ 1000000000000
    omega
  | th s => exact std_same h trivial fun x => Iff.rfl
theorem front_same {n : Nat} {L : Nat → List Int} {r id : Int} (hr : 0 ≤ r ∧ r < n) (hid : 0 ≤ id ∧ id ≤ 4194303) (hin : id ∈ flat L n) (x : Int) : x ∈ flat (frontL n L r id) n ↔ x ∈ flat L n := by
  rw [front_mem hr hid]
  exact ⟨fun r => r.elim (fun e => e ▸ hin) (fun r => r), Or.inr⟩
theorem std_tou {k : PK} {X : List Int} (ho : k.Ok) (h : Std k X) (id : Int) : k.touB id = decide (id ∈ X) ∧ Std (k.tou id) X := by
  have hX := h.mem id
  cases k with
  | pl L =>
    by_cases q : 0 ≤ rowOf 1 L id
    · have q2 : id ∈ flat L 1 := Seg.rowOf_nonneg.1 q
      have hid := ho.rng id q2
      refine ⟨?_, std_same h trivial fun x => ?_⟩
      · show (decide (0 ≤ rowOf 1 L id) && mayIn 1 0 id) = _
        rw [may0 (by decide) hid, Bool.and_true]
        exact decide_eq_decide.2 (Seg.rowOf_nonneg.trans hX.symm)
      · show x ∈ flat (touP L id) 1 ↔ x ∈ flat L 1
        unfold touP
        rw [if_pos q]
        exact front_same (by decide) hid q2 x
    · refine ⟨?_, std_same h trivial fun x => ?_⟩
      · show (decide (0 ≤ rowOf 1 L id) && mayIn 1 0 id) = _
        rw [decide_eq_false q, Bool.false_and]
        exact (decide_eq_false fun r => q (Seg.rowOf_nonneg.2 (hX.1 r))).symm
      · show x ∈ flat (touP L id) 1 ↔ x ∈ flat L 1
        unfold touP
        rw [if_neg q]
  | sg L A => exact ⟨decide_eq_decide.2 (Seg.rowOf_nonneg.trans hX.symm), std_same h trivial fun x => Iff.rfl⟩
  | ar s =>
    refine ⟨decide_eq_decide.2 (Seg.rowOf_nonneg.trans hX.symm), std_same h ?_ fun x => ?_⟩
    · show 0 ≤ (Arc.touchA s id).P ∧ (Arc.touchA s id).P ≤ (Arc.touchA s id).most ∧ (Arc.touchA s id).most ≤ 1000000000000
      unfold Arc.touchA
      split <;> exact h.inv
    · show x ∈ flat (Arc.touchA s id).L 2 ↔ x ∈ flat s.L 2
      unfold Arc.touchA
      split
      · rename_i q
        have q2 := Seg.rowOf_nonneg.1 q
        exact front_same (by decide) (ho.rng id q2) q2 x
      · exact Iff.rfl
  | th s =>
    have hg := ho.th s rfl
    refine ⟨?_, std_same h trivial fun x => ?_⟩
    · show (s.K id).isSome = _
      have : (s.K id).isSome = true ↔ id ∈ X := by
        rw [hg.in_.in_ id, hX]
        show _ ↔ id ∈ flat s.L 2
        rw [mem_flat]
        exact ⟨fun q => q.elim (fun q => ⟨0, by decide, q⟩) (fun q => ⟨1, by decide, q⟩), fun ⟨r, hr, hm⟩ => by
          match r, hr, hm with
          | 0, _, hm => exact .inl hm
          | 1, _, hm => exact .inr hm⟩
      by_cases q : id ∈ X
      · rw [decide_eq_true q, this.2 q]
      · rw [decide_eq_false q]
        rcases e : (s.K id).isSome with _ | _
        · rfl
        · exact absurd (this.1 e) q
    · show x ∈ flat (Thr.touchT s id).L 2 ↔ x ∈ flat s.L 2
      unfold Thr.touchT
      split <;> exact Iff.rfl
theorem del_mem {n : Nat} {L : Nat → List Int} {id x : Int} : x ∈ flat (del L id) n ↔ x ∈ flat L n ∧ x ≠ id := by
  rw [mem_flat, mem_flat]
  constructor
  · rintro ⟨r, hr, hm⟩
    have := List.mem_filter.1 hm
    exact ⟨⟨r, hr, this.1⟩, by simpa using this.2⟩
  · rintro ⟨⟨r, hr, hm⟩, q⟩
    exact ⟨r, hr, List.mem_filter.2 ⟨hm, by simpa using q⟩⟩
theorem std_drop {k k' : PK} {X : List Int} (h : Std k X) {id : Int} (hi : k'.Inv) (hm : ∀ x, x ∈ k'.who ↔ x ∈ k.who ∧ x ≠ id) : Std k' (X.filter (· != id)) :=
  ⟨h.nd.filter _, fun x => by rw [List.mem_filter, hm x, h.mem x]; simp, hi⟩
theorem std_rem {k : PK} {X : List Int} (h : Std k X) (id : Int) : Std (k.rem id) (X.filter (· != id)) := by
  cases k with
  | pl L => exact std_drop h trivial fun x => del_mem
  | sg L A => exact std_drop h trivial fun x => del_mem
  | ar s => exact std_drop h h.inv fun x => del_mem
  | th s => exact std_drop h trivial fun x => del_mem
theorem std_evi {k : PK} {X : List Int} (h : Std k X) (id : Int) : Std (k.evi id) (X.filter (· != id)) := by
  cases k with
  | pl L => exact std_drop h trivial fun x => del_mem
  | sg L A => exact std_drop h trivial fun x => del_mem
  | ar s =>
    by_cases q : 0 ≤ rowOf 2 s.L id
    · have q2 := (rowOf2_nn s.L id).1 q
      by_cases q0 : id ∈ s.L 0
      · refine std_drop h ?_ fun x => ?_
        · show (PK.ar (Arc.evictA s id)).Inv
          rw [Arc.evictA_0 q0]; exact h.inv
        · show x ∈ flat (Arc.evictA s id).L 2 ↔ _
          rw [Arc.evictA_0 q0]; exact del_mem
      · have q1 := q2.resolve_left q0
        refine std_drop h ?_ fun x => ?_
        · show (PK.ar (Arc.evictA s id)).Inv
          rw [Arc.evictA_1 q0 q1]; exact h.inv
        · show x ∈ flat (Arc.evictA s id).L 2 ↔ _
          rw [Arc.evictA_1 q0 q1]; exact del_mem
    · have hn : id ∉ X := fun r => q (Seg.rowOf_nonneg.2 ((h.mem id).1 r))
      have e : Arc.evictA s id = s := by unfold Arc.evictA; rw [if_neg q]
      show Std (.ar (Arc.evictA s id)) _
      rw [e, filter_no hn]
      exact h
  | th s =>
    refine std_drop h trivial fun x => ?_
    show x ∈ flat (Thr.evT s id).L 2 ↔ _
    unfold Thr.evT Thr.remT
    split <;> exact del_mem
end Go.Proofs.YtgdlndpjfejmcaaGreat
