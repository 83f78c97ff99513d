/- Layer 15 (policy): who is to go stands, whatever the kind. -/
import Derived.Test.YtgdlndpjfejmcaaGreatPolWho
namespace Go.Proofs.YtgdlndpjfejmcaaGreat
open Go.RowKit
set_option linter.unusedVariables false
set_option maxRecDepth 100000
theorem stpN_mem : ∀ (n : Nat) (q : (Nat → List Int) × (Int → Bool)), (∀ x, x ∈ flat q.1 3 → 0 ≤ x ∧ x ≤ 4194303) → ∀ x, x ∈ flat (stpN n q).1 3 ↔ x ∈ flat q.1 3
  | 0, q, _, x => Iff.rfl
  | n + 1, q, h, x => by
    have hs : ∀ x, x ∈ flat (stpP q).1 3 ↔ x ∈ flat q.1 3 := fun x => Seg.step_mem h
    exact (stpN_mem n (stpP q) (fun x hx => h x ((hs x).1 hx)) x).trans (hs x)
theorem vict_mem {L : Nat → List Int} (hr : ∀ x, x ∈ flat L 3 → 0 ≤ x) : (flat L 3 = [] → Seg.vict L = -1) ∧ (flat L 3 ≠ [] → Seg.vict L ∈ flat L 3) := by
  have e3 : flat L 3 = L 0 ++ L 1 ++ L 2 := by rw [flat_succ, flat_succ, flat_succ, flat_zero, List.nil_append]
  have hm : ∀ r, r < 3 → ∀ x, x ∈ L r → x ∈ flat L 3 := fun r hr x hx => mem_flat.2 ⟨r, hr, hx⟩
  have hl : ∀ r, r < 3 → L r ≠ [] → 0 ≤ lastOf (L r) ∧ lastOf (L r) ∈ flat L 3 := fun r hr' hne => by
    have := hm r hr' _ (lastOf_mem hne)
    exact ⟨hr _ this, this⟩
  have hn : ∀ r, L r = [] → ¬ 0 ≤ lastOf (L r) := fun r e => by rw [e]; decide
  unfold Seg.vict
  constructor
  · intro e
    rw [e3] at e
    simp at e
    obtain ⟨e0, e1, e2⟩ := e
    rw [if_neg (hn 2 e2), if_neg (hn 1 e1), e0]; rfl
  · intro hne
    by_cases e2 : L 2 = []
    · rw [if_neg (hn 2 e2)]
      by_cases e1 : L 1 = []
      · rw [if_neg (hn 1 e1)]
        have e0 : L 0 ≠ [] := fun e0 => hne (by rw [e3, e0, e1, e2]; rfl)
        exact (hl 0 (by decide) e0).2
      · rw [if_pos (hl 1 (by decide) e1).1]; exact (hl 1 (by decide) e1).2
    · rw [if_pos (hl 2 (by decide) e2).1]; exact (hl 2 (by decide) e2).2
theorem in2_flat {L : Nat → List Int} {x : Int} : x ∈ flat L 2 ↔ (x ∈ L 0 ∨ x ∈ L 1) := by rw [flat_succ, flat_succ, flat_zero, List.nil_append, List.mem_append]
theorem vicF_mem : ∀ (n : Nat) (s : Thr.ThS), Thr.Gd s → ∀ x, x ∈ flat (Thr.vicF n s).1.L 2 ↔ x ∈ flat s.L 2
  | 0, s, _, x => Iff.rfl
  | n + 1, s, hg, x => by
    have key : ∀ id c', (id ∈ s.L 0 ∨ id ∈ s.L 1) → (0 ≤ c' ∧ c' ≤ 3) → (x ∈ flat (Thr.vicF n (Thr.moveT s id c')).1.L 2 ↔ x ∈ flat s.L 2) := fun id c' hm hc => by
      rw [vicF_mem n _ (hg.move hm hc).1 x]
      have hid : 0 ≤ id ∧ id ≤ 4194303 := hm.elim (hg.w 0 id (by decide)) (hg.w 1 id (by decide))
      show x ∈ flat (frontL 2 s.L 1 id) 2 ↔ _
      exact front_same (by decide) hid (in2_flat.2 hm) x
    rw [Thr.vicF]
    split
    · rename_i hb
      have h0 := (of_decide_eq_true hb).1
      have hx := Thr.last_in h0
      split
      · exact Iff.rfl
      · exact key _ _ (.inl hx) (by omega)
    · split
      · rename_i h1
        have hx := Thr.last_in h1
        split
        · exact Iff.rfl
        · have := Thr.countT_in hg.in_ (.inr hx)
          have := (Thr.countT_le hg.in_ (lastOf (s.L 1))).2
          rename_i hne _ _
          exact key _ _ (.inr hx) (by omega)
      · exact Iff.rfl
theorem nil_iff {k : PK} {X : List Int} (h : Std k X) : X = [] ↔ k.who = [] := by
  constructor
  · intro e
    exact List.eq_nil_iff_forall_not_mem.2 fun x hx => by have := (h.mem x).2 hx; rw [e] at this; cases this
  · intro e
    exact List.eq_nil_iff_forall_not_mem.2 fun x hx => by have := (h.mem x).1 hx; rw [e] at this; cases this
theorem std_vic {k : PK} {X : List Int} (ho : k.Ok) (h : Std k X) (hh : Int) : Std k.vicS X ∧ (X = [] → k.vicI hh = -1) ∧ (X ≠ [] → k.vicI hh ∈ X) ∧ k.cost ≤ 3 * X.length + 5 := by
  have hnil := nil_iff h
  have hm := h.mem
  cases k with
  | pl L =>
    have e1 : flat L 1 = L 0 := by rw [flat_succ, flat_zero, List.nil_append]
    have hw : (PK.pl L).who = L 0 := e1
    rw [hw] at hnil hm
    refine ⟨h, fun e => ?_, fun e => ?_, Nat.zero_le _⟩
    · show lastOf (L 0) = -1
      rw [hnil.1 e]; rfl
    · exact (hm _).2 (lastOf_mem fun q => e (hnil.2 q))
  | sg L A =>
    have hr := ho.rng
    have hs := stpN_mem 5 (L, A) hr
    obtain ⟨v1, v2⟩ := vict_mem (L := (stpN 5 (L, A)).1) (fun x hx => (hr x ((hs x).1 hx)).1)
    have hn : flat (stpN 5 (L, A)).1 3 = [] ↔ X = [] := by
      rw [hnil]
      show _ ↔ flat L 3 = []
      rw [List.eq_nil_iff_forall_not_mem, List.eq_nil_iff_forall_not_mem]
      exact forall_congr' fun x => not_congr (hs x)
    refine ⟨std_same h trivial fun x => hs x, fun e => v1 (hn.2 e), fun e => (hm _).2 ((hs _).1 (v2 fun q => e (hn.1 q))), by show 5 ≤ _; omega⟩
  | ar s =>
    have hi := h.inv.1
    have hf : ∀ x, x ∈ X ↔ (x ∈ s.L 0 ∨ x ∈ s.L 1) := fun x => (hm x).trans in2_flat
    have hl : ∀ {l : List Int}, 0 < l.length → lastOf l ∈ l := fun {l} q => lastOf_mem (fun e => by rw [e] at q; simp at q)
    refine ⟨h, fun e => ?_, fun e => ?_, Nat.zero_le _⟩
    · have e0 : s.L 0 = [] := List.eq_nil_iff_forall_not_mem.2 fun x hx => by have := (hf x).2 (.inl hx); rw [e] at this; cases this
      have e1 : s.L 1 = [] := List.eq_nil_iff_forall_not_mem.2 fun x hx => by have := (hf x).2 (.inr hx); rw [e] at this; cases this
      show Arc.victA s hh = -1
      unfold Arc.victA
      rw [e0, e1, if_neg (by simp; omega)]; rfl
    · show Arc.victA s hh ∈ X
      unfold Arc.victA
      by_cases c : s.P < (s.L 0).length ∨ (0 < (s.L 0).length ∧ ((s.L 1).length = 0 ∨ ((s.L 0).length = s.P ∧ hh ∈ s.B2)))
      · rw [if_pos c]
        exact (hf _).2 (.inl (hl (by rcases c with c | c <;> omega)))
      · rw [if_neg c]
        refine (hf _).2 (.inr (hl ?_))
        by_cases q : (s.L 1).length = 0
        · exfalso
          by_cases q0 : (s.L 0).length = 0
          · exact e (List.eq_nil_iff_forall_not_mem.2 fun x hx => by
              rcases (hf x).1 hx with r | r
              · rw [List.eq_nil_of_length_eq_zero q0] at r; cases r
              · rw [List.eq_nil_of_length_eq_zero q] at r; cases r)
          · exact c (Or.inr ⟨by omega, Or.inl q⟩)
        · omega
  | th s =>
    have hg := ho.th s rfl
    have ht := Thr.vicT_told hg
    have hs := vicF_mem (Thr.measT s + 1) s hg
    have hlen : X.length = Thr.totT s := by
      have := std_len h ho
      rw [← this]
      show (s.L 0).length + (s.L 1).length + (s.L 2).length = _
      rw [show s.L 2 = [] from ho.nil 2 (show 2 ≤ 2 by decide)]; rfl
    refine ⟨std_same h trivial fun x => hs x, fun e => ?_, fun e => ?_, ?_⟩
    · exact ht.none (by rw [← hlen, e]; rfl)
    · have h0 : 0 < Thr.totT s := by
        rw [← hlen]
        exact List.length_pos_iff.2 e
      exact (hm _).2 ((hs _).1 (in2_flat.2 (ht.there h0).1))
    · have := Thr.meas_le hg.in_
      show Thr.measT s ≤ _
      omega
end Go.Proofs.YtgdlndpjfejmcaaGreat
