/- Layer 14 (sthree): what looking for who is to go leaves. -/
import Derived.Test.YtlhiglhhnjljpaaThFacts
namespace Go.Proofs.Ytlhiglhhnjljpaa
open Go.RowKit
set_option linter.unusedVariables false
structure Gd (s : ThS) : Prop where
  in_ : ThIn s
  w : Wid s.L
  n0 : (s.L 0).Nodup
  n1 : (s.L 1).Nodup
  dj : ∀ x, x ∈ s.L 0 → x ∉ s.L 1
theorem th_gd {w0 w : World} {S : Nat → Prop} {p : Nat} {s : ThS} {N M : Nat} (h : Sep (TH p s N M) w0 w S) : Gd s := by
  obtain ⟨h1, h2, _, _, h5, h6⟩ := th_rows h
  exact ⟨h6, h5, h1 0 (by decide), h1 1 (by decide), fun x q0 q1 => by have := h2 0 1 (by decide) (by decide) x q0 q1; omega⟩
def totT (s : ThS) : Nat := (s.L 0).length + (s.L 1).length
theorem Gd.move {s : ThS} (h : Gd s) {id c' : Int} (hm : id ∈ s.L 0 ∨ id ∈ s.L 1) (hc : 0 ≤ c' ∧ c' ≤ 3) : Gd (moveT s id c') ∧ totT (moveT s id c') = totT s := by
  have hid : 0 ≤ id ∧ id ≤ 4194303 := hm.elim (h.w 0 id (by decide)) (h.w 1 id (by decide))
  obtain ⟨l0, l1⟩ := moveT_L (s := s) (id := id) (c' := c') hid.1 hid.2
  refine ⟨⟨moveT_in h.in_ hid.1 hid.2 hm hc, fun r x hr hx => ?_, ?_, ?_, ?_⟩, ?_⟩
  · match r, hr, hx with
    | 0, _, hx => rw [l0] at hx; exact h.w 0 x (by decide) (List.mem_filter.1 hx).1
    | 1, _, hx =>
      rw [l1] at hx
      rcases List.mem_cons.1 hx with q | q
      · rw [q]; exact hid
      · exact h.w 1 x (by decide) (List.mem_filter.1 q).1
  · rw [l0]; exact h.n0.filter _
  · rw [l1]; exact List.nodup_cons.2 ⟨fun q => by have := (List.mem_filter.1 q).2; simp at this, h.n1.filter _⟩
  · intro x q0 q1
    rw [l0] at q0
    rw [l1] at q1
    obtain ⟨m0, e0⟩ := List.mem_filter.1 q0
    rcases List.mem_cons.1 q1 with q | q
    · rw [q] at e0; simp at e0
    · exact h.dj x m0 (List.mem_filter.1 q).1
  · unfold totT
    rw [l0, l1, List.length_cons]
    by_cases m0 : id ∈ s.L 0
    · have := len_take h.n0 m0
      have := List.length_pos_of_mem m0
      rw [filter_no (h.dj id m0)]
      omega
    · have m1 := hm.resolve_left m0
      have := len_take h.n1 m1
      have := List.length_pos_of_mem m1
      rw [filter_no m0]
      omega
theorem sum_le {f : Int → Nat} {k : Nat} : ∀ {l : List Int}, (∀ x ∈ l, f x ≤ k) → (l.map f).sum ≤ k * l.length
  | [], _ => by simp
  | y :: l, h => by
    have h1 := h y (by simp)
    have h2 := sum_le (l := l) (fun x hx => h x (by simp [hx]))
    rw [List.map_cons, List.sum_cons, List.length_cons, Nat.mul_add]
    omega
theorem countT_le {s : ThS} (h : ThIn s) (x : Int) : -1 ≤ countT s x ∧ countT s x ≤ 3 := by
  unfold countT
  rcases e : s.K x with _ | ⟨hh, c⟩
  · simp
  · have := h.cnt x hh c e
    simp; omega
theorem countT_in {s : ThS} (h : ThIn s) {x : Int} (hx : x ∈ s.L 0 ∨ x ∈ s.L 1) : 0 ≤ countT s x := by
  have := (h.in_ x).2 hx
  unfold countT
  rcases e : s.K x with _ | ⟨hh, c⟩
  · rw [e] at this; cases this
  · have := h.cnt x hh c e
    simp; omega
theorem meas_le {s : ThS} (h : ThIn s) : measT s ≤ 3 * totT s := by
  unfold measT totT
  have := sum_le (f := fun x => (countT s x).toNat) (k := 3) (l := s.L 1) (fun x _ => by have := countT_le h x; show (countT s x).toNat ≤ 3; omega)
  omega
/-- Who is told is there, is told again, and is asked for no more than once. -/
structure Told (s : ThS) (r : ThS × Int) : Prop where
  gd : Gd r.1
  tot : totT r.1 = totT s
  none : totT s = 0 → r.2 = -1
  there : 0 < totT s → (r.2 ∈ r.1.L 0 ∨ r.2 ∈ r.1.L 1) ∧ (countT r.1 r.2 = 0 ∨ countT r.1 r.2 = 1)
  again : ∀ m, 0 < m → vicF m r.1 = r
theorem last_in {l : List Int} (h : 0 < l.length) : lastOf l ∈ l := lastOf_mem (fun e => by rw [e] at h; simp at h)
theorem vicF_told : ∀ (n : Nat) (s : ThS), Gd s → measT s < n → Told s (vicF n s)
  | 0, s, _, h => absurd h (Nat.not_lt_zero _)
  | n + 1, s, hg, hm => by
    rcases hb : smallB s with _ | _
    · by_cases h1 : 0 < (s.L 1).length
      · have hx := last_in h1
        by_cases hc : countT s (lastOf (s.L 1)) = 0
        · have e : ∀ m, 0 < m → vicF m s = (s, lastOf (s.L 1)) := fun m hm => by
            obtain ⟨k, rfl⟩ : ∃ k, m = k + 1 := ⟨m - 1, by omega⟩
            unfold vicF
            rw [if_neg (by rw [hb]; decide), if_pos h1, if_pos hc]
          rw [e _ (by omega)]
          exact ⟨hg, rfl, fun q => by unfold totT at q; omega, fun _ => ⟨.inr hx, .inl hc⟩, e⟩
        · have hp : 0 < countT s (lastOf (s.L 1)) := by have := countT_in hg.in_ (.inr hx); omega
          have hw := hg.w 1 _ (by decide) hx
          have h3 := (countT_le hg.in_ (lastOf (s.L 1))).2
          have hmv := hg.move (.inr hx) (c' := countT s (lastOf (s.L 1)) - 1) (by omega)
          have hme := meas_main hw.1 hw.2 hg.n1 hx (fun q => hg.dj _ q hx) hp
          have ih := vicF_told n _ hmv.1 (by omega)
          have e : vicF (n + 1) s = vicF n (moveT s (lastOf (s.L 1)) (countT s (lastOf (s.L 1)) - 1)) := by
            rw [vicF]
            rw [if_neg (by rw [hb]; decide), if_pos h1, if_neg hc]
          rw [e]
          exact ⟨ih.gd, ih.tot.trans hmv.2, fun q => ih.none (hmv.2.trans q), fun q => ih.there (by rw [hmv.2]; exact q), ih.again⟩
      · have h0 : (s.L 0).length = 0 := by
          have := of_decide_eq_false hb
          omega
        have e : ∀ m, 0 < m → vicF m s = (s, -1) := fun m hm => by
          obtain ⟨k, rfl⟩ : ∃ k, m = k + 1 := ⟨m - 1, by omega⟩
          unfold vicF
          rw [if_neg (by rw [hb]; decide), if_neg h1]
        rw [e _ (by omega)]
        exact ⟨hg, rfl, fun _ => rfl, fun q => by unfold totT at q; omega, e⟩
    · have h0 := (of_decide_eq_true hb).1
      have hx := last_in h0
      by_cases hc : countT s (lastOf (s.L 0)) < 2
      · have e : ∀ m, 0 < m → vicF m s = (s, lastOf (s.L 0)) := fun m hm => by
          obtain ⟨k, rfl⟩ : ∃ k, m = k + 1 := ⟨m - 1, by omega⟩
          unfold vicF
          rw [if_pos hb, if_pos hc]
        rw [e _ (by omega)]
        exact ⟨hg, rfl, fun q => by unfold totT at q; omega, fun _ => ⟨.inl hx, by have := countT_in hg.in_ (.inl hx); show countT s (lastOf (s.L 0)) = 0 ∨ countT s (lastOf (s.L 0)) = 1; omega⟩, e⟩
      · have hw := hg.w 0 _ (by decide) hx
        have hmv := hg.move (.inl hx) (c' := 0) (by omega)
        have hme := meas_small hw.1 hw.2 hg.n0 hx (hg.dj _ hx)
        have ih := vicF_told n _ hmv.1 (by omega)
        have e : vicF (n + 1) s = vicF n (moveT s (lastOf (s.L 0)) 0) := by
          rw [vicF]
          rw [if_pos hb, if_neg hc]
        rw [e]
        exact ⟨ih.gd, ih.tot.trans hmv.2, fun q => ih.none (hmv.2.trans q), fun q => ih.there (by rw [hmv.2]; exact q), ih.again⟩
theorem vicT_told {s : ThS} (h : Gd s) : Told s (vicT s) := vicF_told _ s h (Nat.lt_succ_self _)
theorem vicT_again {s : ThS} (h : Gd s) : vicT (vicT s).1 = vicT s := (vicT_told h).again _ (by omega)
theorem tot_in {s : ThS} (h : Gd s) {id : Int} (hh : Int) (hid : 0 ≤ id ∧ id ≤ 4194303) : totT (inT s id hh) = totT s + if inOk s id then 1 else 0 := by
  rcases ho : inOk s id with _ | _
  · rw [inT_no ho]; rfl
  · have hk := (of_decide_eq_true ho).1
    have hno : ¬ (id ∈ s.L 0 ∨ id ∈ s.L 1) := fun q => by have := (h.in_.in_ id).2 q; rw [hk] at this; cases this
    rw [inT_new hk hid]
    have e0 : (s.L 0).filter (· != id) = s.L 0 := filter_no fun q => hno (.inl q)
    have e1 : (s.L 1).filter (· != id) = s.L 1 := filter_no fun q => hno (.inr q)
    unfold totT
    show ((putF (del s.L id) (inR s hh).toNat id) 0).length + ((putF (del s.L id) (inR s hh).toNat id) 1).length = _
    by_cases q : hh ∈ s.B
    · rw [inR_yes q]
      show ((s.L 0).filter (· != id)).length + (id :: (s.L 1).filter (· != id)).length = _
      rw [e0, e1, List.length_cons]; simp; omega
    · rw [inR_no q]
      show (id :: (s.L 0).filter (· != id)).length + ((s.L 1).filter (· != id)).length = _
      rw [e0, e1, List.length_cons]; simp; omega
theorem tot_touch (s : ThS) (id : Int) : totT (touchT s id) = totT s := by
  unfold touchT; split <;> rfl
end Go.Proofs.Ytlhiglhhnjljpaa
