/- Rows as marks: where just one id is ever active, the others are alike. -/
import Derived.Test.YtldnacphfoagnacSegMore
namespace Go.Proofs.Ytldnacphfoagnac
set_option linter.unusedVariables false
/-- Hot, warm and cold as marks (is it the one?); is the one active? -/
abbrev Mk := List Bool × List Bool × List Bool × Bool
def putM (m : Bool) (h w c : List Bool) (a : Bool) : Mk := if m && a then (h, m :: w, c, false) else (h, w, m :: c, a)
def stepM (s : Mk) : Mk :=
  let n := s.1.length + s.2.1.length + s.2.2.1.length
  if 20 * n / 100 < s.1.length then putM (s.1.getLastD false) s.1.dropLast s.2.1 s.2.2.1 s.2.2.2
  else if 40 * n / 100 < s.2.1.length then putM (s.2.1.getLastD false) s.1 s.2.1.dropLast s.2.2.1 s.2.2.2
  else if (s.2.2.1.getLastD false && s.2.2.2) = true then putM true s.1 s.2.1 s.2.2.1.dropLast s.2.2.2
  else s
structure Ab (id : Int) (L : Nat → List Int) (A : Int → Bool) (s : Mk) : Prop where
  hot : (L 0).map (· == id) = s.1
  warm : (L 1).map (· == id) = s.2.1
  cold : (L 2).map (· == id) = s.2.2.1
  act : A id = s.2.2.2
  only : ∀ x, A x = true → x = id
/-- The rows' own laws. -/
structure Own3 (L : Nat → List Int) : Prop where
  nodup : ∀ r, r < 3 → (L r).Nodup
  disj : ∀ r s, r < 3 → s < 3 → ∀ x, x ∈ L r → x ∈ L s → s = r
  range : ∀ r x, r < 3 → x ∈ L r → 0 ≤ x ∧ x ≤ 4194303
theorem own3 {w0 w : World} {S : Nat → Prop} {p : Nat} {L : Nat → List Int} {A : Int → Bool} {N : Nat} (h : Sep (SG p L A N) w0 w S) : Own3 L := by
  obtain ⟨h1, h2, _, _, h5⟩ := sg_rows h
  exact ⟨h1, h2, h5⟩
theorem last_split' {l : List Int} (h : l ≠ []) : l = l.dropLast ++ [lastOf l] := by
  unfold lastOf
  rw [List.getLastD_eq_getLast?, List.getLast?_eq_some_getLast h]
  exact (List.dropLast_concat_getLast h).symm
theorem lastOf_mem' {l : List Int} (h : l ≠ []) : lastOf l ∈ l := by
  have := last_split' h
  rw [this]; simp [lastOf]
theorem del_last {L : Nat → List Int} (h : Own3 L) {r : Nat} (hr : r < 3) (hne : L r ≠ []) : del L (lastOf (L r)) r = (L r).dropLast ∧ ∀ s, s < 3 → s ≠ r → del L (lastOf (L r)) s = L s := by
  have hs := last_split' hne
  have hm := lastOf_mem' hne
  refine ⟨?_, fun s hs3 hsr => ?_⟩
  · show (L r).filter _ = _
    have hn := h.nodup r hr
    rw [hs] at hn
    have hx : ∀ y ∈ (L r).dropLast, y ≠ lastOf (L r) := fun y hy e => (List.nodup_append.1 hn).2.2 y hy _ (by simp) e
    conv => lhs; rw [hs]
    rw [List.filter_append]
    have e : (lastOf ((L r).dropLast ++ [lastOf (L r)])) = lastOf (L r) := by rw [← hs]
    rw [List.filter_eq_self.2 (fun y hy => by simpa [e] using hx y hy)]
    simp [e]
  · show (L s).filter _ = _
    rw [List.filter_eq_self]; intro y hy; simp only [bne_iff_ne, ne_eq]; intro e; subst e
    exact hsr (h.disj r s hr hs3 _ hm hy)
theorem mark_last {id : Int} {l : List Int} (h : l ≠ []) : (l.map (· == id)).getLastD false = (lastOf l == id) := by
  have hs := last_split' h
  conv => lhs; rw [hs]
  rw [List.map_append]
  simp [List.getLastD_eq_getLast?]
theorem act_of {id : Int} {A : Int → Bool} (ho : ∀ x, A x = true → x = id) (x : Int) : A x = ((x == id) && A id) := by
  by_cases e : x = id
  · subst e; simp
  · have : A x = false := by
      cases h : A x
      · rfl
      · exact absurd (ho x h) e
    rw [this]
    have : (x == id) = false := by simpa using e
    rw [this]; rfl
theorem only_off {id : Int} {A : Int → Bool} (ho : ∀ x, A x = true → x = id) (y : Int) : ∀ x, setB' A y false x = true → x = id := fun x hx => by
  unfold setB' at hx
  split at hx
  · cases hx
  · exact ho x hx
/-- Somebody goes from the end of a row to the front of warm or cold. -/
theorem move_ab {id : Int} {L : Nat → List Int} {A : Int → Bool} {s : Mk} (h : Ab id L A s) (hO : Own3 L) {r : Nat} (hr : r < 3) (hne : L r ≠ []) (hw : whoF L A = lastOf (L r)) :
    Ab id (stepL L A) (stepA L A) (putM (lastOf (L r) == id) (if r = 0 then s.1.dropLast else s.1) (if r = 1 then s.2.1.dropLast else s.2.1) (if r = 2 then s.2.2.1.dropLast else s.2.2.1) s.2.2.2) := by
  obtain ⟨hd1, hd2⟩ := del_last hO hr hne
  have hm := lastOf_mem' hne
  have hrg := hO.range r _ hr hm
  obtain ⟨x, hx⟩ : ∃ x, lastOf (L r) = x := ⟨_, rfl⟩
  rw [hx] at hd1 hd2 hm hrg hw ⊢
  have hnw : ¬ x < 0 := by omega
  have hA : A x = ((x == id) && s.2.2.2) := by rw [← h.act]; exact act_of h.only x
  have e0 : (del L x 0).map (· == id) = if r = 0 then s.1.dropLast else s.1 := by
    by_cases e : r = 0
    · subst e; rw [hd1, if_pos rfl, List.map_dropLast, h.hot]
    · rw [hd2 0 (by decide) (fun q => e q.symm), if_neg e, h.hot]
  have e1 : (del L x 1).map (· == id) = if r = 1 then s.2.1.dropLast else s.2.1 := by
    by_cases e : r = 1
    · subst e; rw [hd1, if_pos rfl, List.map_dropLast, h.warm]
    · rw [hd2 1 (by decide) (fun q => e q.symm), if_neg e, h.warm]
  have e2 : (del L x 2).map (· == id) = if r = 2 then s.2.2.1.dropLast else s.2.2.1 := by
    by_cases e : r = 2
    · subst e; rw [hd1, if_pos rfl, List.map_dropLast, h.cold]
    · rw [hd2 2 (by decide) (fun q => e q.symm), if_neg e, h.cold]
  unfold stepL stepA
  rw [hw, if_neg hnw, if_neg hnw, hA]
  unfold putM
  rcases hb : ((x == id) && s.2.2.2) with _ | _
  · rw [if_neg (by decide), if_neg (by decide)]
    have hm2 : mayIn 3 2 x = true := decide_eq_true ⟨by decide, by decide, hrg⟩
    unfold frontL
    rw [hm2, if_pos rfl]
    refine ⟨e0, e1, ?_, ?_, only_off h.only x⟩
    · show (x :: del L x 2).map _ = _
      rw [List.map_cons, e2]
    · unfold setB'
      by_cases e : id = x
      · rw [if_pos e]
        rw [e] at hb
        simp at hb
        exact hb.symm
      · rw [if_neg e, h.act]
  · rw [if_pos rfl, if_pos rfl]
    have hm2 : mayIn 3 1 x = true := decide_eq_true ⟨by decide, by decide, hrg⟩
    unfold frontL
    rw [hm2, if_pos rfl]
    have hxi : x = id := by simp at hb; exact hb.1
    refine ⟨e0, ?_, e2, ?_, only_off h.only x⟩
    · show (x :: del L x 1).map _ = _
      rw [List.map_cons, e1]
    · unfold setB'; rw [if_pos hxi.symm]
theorem step_ab {id : Int} {L : Nat → List Int} {A : Int → Bool} {s : Mk} (h : Ab id L A s) (hO : Own3 L) (hid : 0 ≤ id) : Ab id (stepL L A) (stepA L A) (stepM s) := by
  have l0 : (L 0).length = s.1.length := by rw [← h.hot]; simp
  have l1 : (L 1).length = s.2.1.length := by rw [← h.warm]; simp
  have l2 : (L 2).length = s.2.2.1.length := by rw [← h.cold]; simp
  have ht : tot L = s.1.length + s.2.1.length + s.2.2.1.length := by unfold tot; rw [l0, l1, l2]
  unfold stepM
  simp only []
  rw [← ht, ← l0, ← l1]
  by_cases c1 : 20 * tot L / 100 < (L 0).length
  · rw [if_pos c1]
    have hne : L 0 ≠ [] := fun e => by rw [e] at c1; simp at c1
    have hw : whoF L A = lastOf (L 0) := by unfold whoF; rw [if_pos c1]
    have := move_ab h hO (r := 0) (by decide) hne hw
    rw [← mark_last hne, h.hot] at this
    exact this
  · rw [if_neg c1]
    by_cases c2 : 40 * tot L / 100 < (L 1).length
    · rw [if_pos c2]
      have hne : L 1 ≠ [] := fun e => by rw [e] at c2; simp at c2
      have hw : whoF L A = lastOf (L 1) := by unfold whoF; rw [if_neg c1, if_pos c2]
      have := move_ab h hO (r := 1) (by decide) hne hw
      rw [← mark_last hne, h.warm] at this
      exact this
    · rw [if_neg c2]
      by_cases hne : L 2 = []
      · have hc : s.2.2.1 = [] := by rw [← h.cold, hne]; rfl
        have hA : A (lastOf (L 2)) = false := by
          rw [hne, act_of h.only]
          have : (lastOf [] == id) = false := by unfold lastOf; simp; omega
          rw [this]; rfl
        have hw : whoF L A = -1 := by unfold whoF; rw [if_neg c1, if_neg c2, hA, if_neg (by decide)]
        rw [hc, if_neg (by simp)]
        have hneg : whoF L A < 0 := by rw [hw]; decide
        unfold stepL stepA
        rw [if_pos hneg, if_pos hneg]
        exact h
      · have hml := mark_last (id := id) hne
        rw [h.cold] at hml
        have hA := act_of h.only (lastOf (L 2))
        rw [h.act, ← hml] at hA
        by_cases c3 : (s.2.2.1.getLastD false && s.2.2.2) = true
        · rw [if_pos c3]
          have hw : whoF L A = lastOf (L 2) := by unfold whoF; rw [if_neg c1, if_neg c2, hA, if_pos c3]
          have := move_ab h hO (r := 2) (by decide) hne hw
          rw [← hml] at this
          have hb : s.2.2.1.getLastD false = true := by
            cases hq : s.2.2.1.getLastD false
            · rw [hq] at c3; cases c3
            · rfl
          rw [hb] at this
          exact this
        · rw [if_neg c3]
          have hw : whoF L A = -1 := by unfold whoF; rw [if_neg c1, if_neg c2, hA, if_neg c3]
          have hneg : whoF L A < 0 := by rw [hw]; decide
          unfold stepL stepA
          rw [if_pos hneg, if_pos hneg]
          exact h
theorem ins_ab {id : Int} {L : Nat → List Int} {A : Int → Bool} {s : Mk} (h : Ab id L A s) {y : Int} (hy : y ∉ flat L 3) (hr : 0 ≤ y ∧ y ≤ 4194303) : Ab id (insL L y) A ((y == id) :: s.1, s.2.1, s.2.2.1, s.2.2.2) := by
  have hrow : rowOf 3 L y < 0 := by
    have : ¬ 0 ≤ rowOf 3 L y := fun q => hy (rowOf_nonneg.1 q)
    omega
  have hm : mayIn 3 0 y = true := decide_eq_true ⟨by decide, by decide, hr⟩
  have hd : ∀ s, s < 3 → del L y s = L s := fun s hs => by
    show (L s).filter _ = _
    rw [List.filter_eq_self]; intro z hz; simp only [bne_iff_ne, ne_eq]; intro e; subst e; exact hy (mem_flat.2 ⟨s, hs, hz⟩)
  unfold insL frontL
  rw [if_pos hrow, hm, if_pos rfl]
  refine ⟨?_, ?_, ?_, h.act, h.only⟩
  · show (y :: del L y 0).map _ = _
    rw [hd 0 (by decide), List.map_cons, h.hot]
  · show (del L y 1).map _ = _
    rw [hd 1 (by decide), h.warm]
  · show (del L y 2).map _ = _
    rw [hd 2 (by decide), h.cold]
/-- Who goes, in marks: the last of cold; where that is empty of warm; of hot. -/
def victM (s : Mk) : Option Bool × Mk :=
  if s.2.2.1 ≠ [] then (some (s.2.2.1.getLastD false), (s.1, s.2.1, s.2.2.1.dropLast, s.2.2.2))
  else if s.2.1 ≠ [] then (some (s.2.1.getLastD false), (s.1, s.2.1.dropLast, s.2.2.1, s.2.2.2))
  else if s.1 ≠ [] then (some (s.1.getLastD false), (s.1.dropLast, s.2.1, s.2.2.1, s.2.2.2))
  else (none, s)
theorem vict_ab {id : Int} {L : Nat → List Int} {A : Int → Bool} {s s' : Mk} (h : Ab id L A s) (hO : Own3 L) (hv : victM s = (some false, s')) :
    0 ≤ vict L ∧ vict L ≠ id ∧ vict L ∈ flat L 3 ∧ Ab id (del L (vict L)) (setB' A (vict L) false) s' := by
  have key : ∀ r : Nat, r < 3 → L r ≠ [] → (lastOf (L r) == id) = false → 0 ≤ lastOf (L r) ∧ lastOf (L r) ≠ id ∧ lastOf (L r) ∈ flat L 3 ∧
      Ab id (del L (lastOf (L r))) (setB' A (lastOf (L r)) false) (if r = 0 then s.1.dropLast else s.1, if r = 1 then s.2.1.dropLast else s.2.1, if r = 2 then s.2.2.1.dropLast else s.2.2.1, s.2.2.2) := fun r hr hne hm => by
    obtain ⟨hd1, hd2⟩ := del_last hO hr hne
    have hmem := lastOf_mem' hne
    have hne2 : lastOf (L r) ≠ id := by simpa using hm
    refine ⟨(hO.range r _ hr hmem).1, hne2, mem_flat.2 ⟨r, hr, hmem⟩, ?_, ?_, ?_, ?_, only_off h.only _⟩
    · by_cases e : r = 0
      · subst e; rw [hd1, List.map_dropLast, h.hot]; rfl
      · rw [hd2 0 (by decide) (fun q => e q.symm), h.hot]; simp [e]
    · by_cases e : r = 1
      · subst e; rw [hd1, List.map_dropLast, h.warm]; rfl
      · rw [hd2 1 (by decide) (fun q => e q.symm), h.warm]; simp [e]
    · by_cases e : r = 2
      · subst e; rw [hd1, List.map_dropLast, h.cold]; rfl
      · rw [hd2 2 (by decide) (fun q => e q.symm), h.cold]; simp [e]
    · unfold setB'; rw [if_neg (fun q => hne2 q.symm), h.act]
  have hge : ∀ r : Nat, r < 3 → L r ≠ [] → 0 ≤ lastOf (L r) := fun r hr hne => (hO.range r _ hr (lastOf_mem' hne)).1
  have hemp : ∀ l : List Int, l = [] → ¬ 0 ≤ lastOf l := fun l e => by rw [e]; decide
  unfold victM at hv
  by_cases c2 : L 2 = []
  · have d2 : s.2.2.1 = [] := by rw [← h.cold, c2]; rfl
    rw [if_neg (by simp [d2])] at hv
    by_cases c1 : L 1 = []
    · have d1 : s.2.1 = [] := by rw [← h.warm, c1]; rfl
      rw [if_neg (by simp [d1])] at hv
      by_cases c0 : L 0 = []
      · have d0 : s.1 = [] := by rw [← h.hot, c0]; rfl
        rw [if_neg (by simp [d0])] at hv
        simp at hv
      · have d0 : s.1 ≠ [] := by rw [← h.hot]; simp [c0]
        rw [if_pos d0] at hv
        simp only [Prod.mk.injEq, Option.some.injEq] at hv
        have hvv : vict L = lastOf (L 0) := by unfold vict; rw [if_neg (hemp _ c2), if_neg (hemp _ c1)]
        rw [hvv]
        have := key 0 (by decide) c0 (by rw [← mark_last c0, h.hot]; exact hv.1)
        obtain ⟨k1, k2, k3, k4⟩ := this
        exact ⟨k1, k2, k3, by rw [← Prod.eta s', ← hv.2] ; exact k4⟩
    · have d1 : s.2.1 ≠ [] := by rw [← h.warm]; simp [c1]
      rw [if_pos d1] at hv
      simp only [Prod.mk.injEq, Option.some.injEq] at hv
      have hvv : vict L = lastOf (L 1) := by unfold vict; rw [if_neg (hemp _ c2), if_pos (hge 1 (by decide) c1)]
      rw [hvv]
      obtain ⟨k1, k2, k3, k4⟩ := key 1 (by decide) c1 (by rw [← mark_last c1, h.warm]; exact hv.1)
      exact ⟨k1, k2, k3, by rw [← hv.2]; exact k4⟩
  · have d2 : s.2.2.1 ≠ [] := by rw [← h.cold]; simp [c2]
    rw [if_pos d2] at hv
    simp only [Prod.mk.injEq, Option.some.injEq] at hv
    have hvv : vict L = lastOf (L 2) := by unfold vict; rw [if_pos (hge 2 (by decide) c2)]
    rw [hvv]
    obtain ⟨k1, k2, k3, k4⟩ := key 2 (by decide) c2 (by rw [← mark_last c2, h.cold]; exact hv.1)
    exact ⟨k1, k2, k3, by rw [← hv.2]; exact k4⟩
theorem touch_ab {id : Int} {L : Nat → List Int} {A : Int → Bool} {s : Mk} (h : Ab id L A s) (hs : true ∈ s.1 ++ s.2.1 ++ s.2.2.1) : id ∈ flat L 3 ∧ Ab id L (touA L A id) (s.1, s.2.1, s.2.2.1, true) := by
  have hin : id ∈ flat L 3 := by
    rw [← h.hot, ← h.warm, ← h.cold] at hs
    simp only [List.mem_append, List.mem_map] at hs
    rcases hs with (⟨x, hx, e⟩ | ⟨x, hx, e⟩) | ⟨x, hx, e⟩
    · exact mem_flat.2 ⟨0, by decide, by have : x = id := by simpa using e
                                         rw [← this]; exact hx⟩
    · exact mem_flat.2 ⟨1, by decide, by have : x = id := by simpa using e
                                         rw [← this]; exact hx⟩
    · exact mem_flat.2 ⟨2, by decide, by have : x = id := by simpa using e
                                         rw [← this]; exact hx⟩
  refine ⟨hin, h.hot, h.warm, h.cold, ?_, ?_⟩
  · unfold touA setB'
    rw [if_pos (rowOf_nonneg.2 hin)]; simp
  · intro x hx
    unfold touA at hx
    rw [if_pos (rowOf_nonneg.2 hin)] at hx
    unfold setB' at hx
    split at hx
    · assumption
    · exact h.only x hx
/-- The states that come. -/
def sts : List Mk := [
  ([true, false, false, false, false, false, false, false, false, false], [], [], false),
  ([false, true, false, false, false, false, false], [], [false, false, false], true),
  ([false, false, true, false], [], [false, false, false, false, false, false], true),
  ([false, false], [true], [false, false, false, false, false, false, false], false),
  ([false, false], [true], [false, false, false, false, false, false, false], true)]
def four (s : Mk) : Mk := stepM (stepM (stepM (stepM (false :: s.1, s.2.1, s.2.2.1, true))))
theorem sts_round : ∀ s, s ∈ sts → true ∈ s.1 ++ s.2.1 ++ s.2.2.1 ∧ (victM (four s)).1 = some false ∧ (victM (four s)).2 ∈ sts := by decide
end Go.Proofs.Ytldnacphfoagnac
