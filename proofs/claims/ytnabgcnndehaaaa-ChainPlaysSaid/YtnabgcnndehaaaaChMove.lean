/- Layer 9 (chain): a bucket's entries go to the new ones: plain law and memory. -/
import Derived.Test.YtnabgcnndehaaaaChStore
namespace Go.Proofs.Ytnabgcnndehaaaa
open Go.RowKit
set_option linter.unusedVariables false
def moveR (p : Nat) : (Nat → List KN) → List KN → Nat → List KN
  | R, [] => R
  | R, e :: es => moveR p (upd R (hx e.1 p) (e :: R (hx e.1 p))) es
/-- Step, off memory. -/
def stepS (s : ChS) : ChS := if s.g then { s with m := s.m + 1, g := decide (s.m + 1 < 2 ^ (s.pw - 1)), O := upd s.O s.m [], R := moveR s.pw s.R (s.O s.m) } else s
theorem upd_same (L : Nat → List KN) (i : Nat) (l : List KN) : upd L i l i = l := if_pos rfl
theorem upd_ne {L : Nat → List KN} {i j : Nat} {l : List KN} (h : j ≠ i) : upd L i l j = L j := if_neg h
theorem moveR_mem {p : Nat} {k : ByteArray} : ∀ {es : List KN} {R : Nat → List KN} {i : Nat}, k ∈ ks (moveR p R es i) ↔ k ∈ ks (R i) ∨ (k ∈ ks es ∧ hx k p = i)
  | [], R, i => by simp [moveR, ks]
  | e :: es, R, i => by
    show k ∈ ks (moveR p (upd R (hx e.1 p) (e :: R (hx e.1 p))) es i) ↔ _
    rw [moveR_mem (es := es)]
    by_cases hi : i = hx e.1 p
    · subst hi
      rw [upd_same, ks_cons, ks_cons, List.mem_cons, List.mem_cons]
      constructor
      · rintro ((rfl | h) | h)
        · exact Or.inr ⟨Or.inl rfl, rfl⟩
        · exact Or.inl h
        · exact Or.inr ⟨Or.inr h.1, h.2⟩
      · rintro (h | ⟨rfl | h, h2⟩)
        · exact Or.inl (Or.inr h)
        · exact Or.inl (Or.inl rfl)
        · exact Or.inr ⟨h, h2⟩
    · rw [upd_ne hi, ks_cons, List.mem_cons]
      constructor
      · rintro (h | h)
        · exact Or.inl h
        · exact Or.inr ⟨Or.inr h.1, h.2⟩
      · rintro (h | ⟨rfl | h, h2⟩)
        · exact Or.inl h
        · exact absurd h2.symm hi
        · exact Or.inr ⟨h, h2⟩
structure MvI (p : Nat) (R : Nat → List KN) (es : List KN) : Prop where
  R1 : ∀ i, (ks (R i)).Nodup
  R2 : ∀ i k, k ∈ ks (R i) → hx k p = i
  en : (ks es).Nodup
  dj : ∀ k, k ∈ ks es → ∀ i, k ∉ ks (R i)
theorem MvI.next {p : Nat} {R : Nat → List KN} {e : KN} {es : List KN} (h : MvI p R (e :: es)) : MvI p (upd R (hx e.1 p) (e :: R (hx e.1 p))) es := by
  have hne := List.nodup_cons.1 h.en
  refine ⟨fun i => ?_, fun i k q => ?_, hne.2, fun k q i q2 => ?_⟩
  · by_cases hi : i = hx e.1 p
    · subst hi; rw [upd_same]; exact List.nodup_cons.2 ⟨h.dj e.1 (by rw [ks_cons]; simp) _, h.R1 _⟩
    · rw [upd_ne hi]; exact h.R1 i
  · by_cases hi : i = hx e.1 p
    · subst hi
      rw [upd_same, ks_cons] at q
      rcases List.mem_cons.1 q with q | q
      · rw [q]
      · exact h.R2 _ _ q
    · rw [upd_ne hi] at q; exact h.R2 i k q
  · by_cases hi : i = hx e.1 p
    · subst hi
      rw [upd_same, ks_cons] at q2
      rcases List.mem_cons.1 q2 with q2 | q2
      · exact hne.1 (show e.1 ∈ ks es from q2 ▸ q)
      · exact h.dj k (by rw [ks_cons]; exact List.mem_cons_of_mem _ q) _ q2
    · rw [upd_ne hi] at q2
      exact h.dj k (by rw [ks_cons]; exact List.mem_cons_of_mem _ q) _ q2
theorem moveR_nodup {p : Nat} : ∀ {es : List KN} {R : Nat → List KN}, MvI p R es → ∀ i, (ks (moveR p R es i)).Nodup
  | [], R, h, i => h.R1 i
  | e :: es, R, h, i => moveR_nodup h.next i
theorem mv_start {s : ChS} (h : ChW s) (hg : s.g = true) : MvI s.pw s.R (s.O s.m) :=
  ⟨h.R1, h.R2, h.O1 hg _, fun k q i q2 => by
    have a := h.O2 hg _ _ q
    have b := h.RG hg _ _ q2
    omega⟩
theorem step_w {s : ChS} (h : ChW s) : ChW (stepS s) := by
  unfold stepS
  by_cases hg : s.g = true
  · rw [if_pos hg]
    refine ⟨h.p2, h.p20, fun q => of_decide_eq_true q, moveR_nodup (mv_start h hg), fun i k q => ?_, fun _ i k q => ?_, fun _ i => ?_, fun _ i k q => ?_, fun _ i q => ?_⟩
    · rcases moveR_mem.1 q with q | q
      · exact h.R2 i k q
      · exact q.2
    · rcases moveR_mem.1 q with q | q
      · have := h.RG hg i k q; show hx k (s.pw - 1) < s.m + 1; omega
      · have := h.O2 hg _ _ q.1; show hx k (s.pw - 1) < s.m + 1; omega
    · show (ks (upd s.O s.m [] i)).Nodup
      by_cases hi : i = s.m
      · subst hi; rw [upd_same]; exact List.nodup_nil
      · rw [upd_ne hi]; exact h.O1 hg i
    · have q' : k ∈ ks (upd s.O s.m [] i) := q
      by_cases hi : i = s.m
      · subst hi; rw [upd_same] at q'; cases q'
      · rw [upd_ne hi] at q'; exact h.O2 hg i k q'
    · show upd s.O s.m [] i = []
      by_cases hi : i = s.m
      · subst hi; exact upd_same _ _ _
      · have q' : i < s.m + 1 := q
        rw [upd_ne hi]; exact h.OG hg i (by omega)
  · rw [if_neg hg]; exact h
/-- In the midst of a step. -/
structure StM (w : World) (S : Nat → Prop) (t : Nat) (s : ChS) (rb ob : Nat) (ys : List Value) (wr : World) (es : List KN) (v : Value) (R : Nat → List KN) (xs : List Value) : Prop where
  hr : wr.heap[rb]? = some (Obj.cells (List.toArray xs) 59 (0, 0))
  hxl : xs.length = 2 ^ s.pw
  hx : ∀ i v, xs[i]? = some v → Chn wr S v (R i)
  hes : Chn wr S v es
  hO : ∀ i v, i ≠ s.m → ys[i]? = some v → Chn wr S v (s.O i)
  ht : wr.heap[t]? = w.heap[t]?
  hob : wr.heap[ob]? = w.heap[ob]?
  hF : Fr S w wr
theorem StM.next {w : World} {S : Nat → Prop} {t : Nat} {s : ChS} {rb ob : Nat} {xs0 ys : List Value} {mvv : Int} {wr : World} {k0 : ByteArray} {n0 : Int} {es : List KN} {R : Nat → List KN} {xs : List Value} {b : Nat} {nx u : Value}
    (hW : ChW s) (h0 : ChO w S t s rb ob xs0 ys mvv) (hg : s.g = true) (h : StM w S t s rb ob ys wr ((k0, n0) :: es) (.pointer (some ⟨b, 0, none⟩)) R xs) (hi : MvI s.pw R ((k0, n0) :: es)) (hk0 : k0 ∈ ks (s.O s.m))
    (hb : wr.heap[b]? = some (entB k0 n0 nx)) (hS : S b) (hc : Chn wr S nx es) (hu : xs[Go.Proofs.Ytnabgcnndehaaaa.hx k0 s.pw]? = some u) :
    StM w S t s rb ob ys ((wr.setCell ⟨b, 3, none⟩ u).setCell ⟨rb, Go.Proofs.Ytnabgcnndehaaaa.hx k0 s.pw, none⟩ (.pointer (some ⟨b, 0, none⟩))) es nx (upd R (Go.Proofs.Ytnabgcnndehaaaa.hx k0 s.pw) ((k0, n0) :: R (Go.Proofs.Ytnabgcnndehaaaa.hx k0 s.pw))) (xs.set (Go.Proofs.Ytnabgcnndehaaaa.hx k0 s.pw) (.pointer (some ⟨b, 0, none⟩))) := by
  obtain ⟨j, hj⟩ : ∃ j, Go.Proofs.Ytnabgcnndehaaaa.hx k0 s.pw = j := ⟨_, rfl⟩
  rw [hj] at hu ⊢
  obtain ⟨g1, g2, g3, g4, g5, g6⟩ := h0.hg hg
  have hbr : b ≠ rb := fun e => by rw [e, h.hr] at hb; exact not_entB (by decide) (Option.some.inj hb)
  have hbt : t ≠ b := fun e => by have := h.ht; rw [h0.hp, e, hb] at this; exact not_entB (by decide) (Option.some.inj this).symm
  have hbo : ob ≠ b := fun e => by have := h.hob; rw [g4, e, hb] at this; exact not_entB (by decide) (Option.some.inj this).symm
  have htr : t ≠ rb := fun e => by have := h0.hp; rw [e, h0.hr] at this; simp at this
  have hkeep : ∀ b' k' n' nx', wr.heap[b']? = some (entB k' n' nx') → k' ≠ k0 → ((wr.setCell ⟨b, 3, none⟩ u).setCell ⟨rb, j, none⟩ (.pointer (some ⟨b, 0, none⟩))).heap[b']? = wr.heap[b']? := fun b' k' n' nx' e hne => by
    have h1 : b' ≠ rb := fun q => by rw [q, h.hr] at e; exact not_entB (by decide) (Option.some.inj e)
    have h2 : b' ≠ b := fun q => by rw [q, hb] at e; exact hne (entB_key (Option.some.inj e)).symm
    exact (heap_setCell_other (p := ⟨rb, j, none⟩) h1 _).trans (heap_setCell_other (p := ⟨b, 3, none⟩) h2 _)
  have hch : ∀ {es' : List KN} {v' : Value}, Chn wr S v' es' → k0 ∉ ks es' → Chn ((wr.setCell ⟨b, 3, none⟩ u).setCell ⟨rb, j, none⟩ (.pointer (some ⟨b, 0, none⟩))) S v' es' := fun hc' hno =>
    chn_keep hc' (fun b' k' n' nx' e _ q => hkeep b' k' n' nx' e (fun e2 => hno (e2 ▸ q))) (fun _ _ q => q)
  have hno : ∀ i, k0 ∉ ks (R i) := hi.dj k0 (by rw [ks_cons]; simp)
  refine ⟨(heap_setCell_same ((heap_setCell_other (p := ⟨b, 3, none⟩) (fun e => hbr e.symm) u).trans h.hr) j _).trans (by simp), by rw [List.length_set]; exact h.hxl, fun i v q => ?_, hch hc (List.nodup_cons.1 hi.en).1, fun i v hne q => hch (h.hO i v hne q) (fun q2 => ?_), ?_, ?_, ?_⟩
  · rcases set_get q with ⟨e1, e2⟩ | ⟨e1, e2⟩
    · rw [e1, e2, upd_same]
      exact ⟨b, u, rfl, hS, (heap_setCell_other (p := ⟨rb, j, none⟩) hbr _).trans ((heap_setCell_same hb 3 u).trans (by simp [entB])), hch (h.hx j u hu) (hno j)⟩
    · rw [upd_ne e1]; exact hch (h.hx i v e2) (hno i)
  · have a := hW.O2 hg _ _ q2
    have c := hW.O2 hg _ _ hk0
    omega
  · exact ((heap_setCell_other (p := ⟨rb, j, none⟩) htr _).trans (heap_setCell_other (p := ⟨b, 3, none⟩) hbt _)).trans h.ht
  · exact ((heap_setCell_other (p := ⟨rb, j, none⟩) g3 _).trans (heap_setCell_other (p := ⟨b, 3, none⟩) hbo _)).trans h.hob
  · exact (h.hF.setCell (p := ⟨b, 3, none⟩) (fun _ => hS) u).setCell (p := ⟨rb, j, none⟩) (fun _ => h0.hSr) _
end Go.Proofs.Ytnabgcnndehaaaa
