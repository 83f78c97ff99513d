/- Taking a place out of the rows, plainly. -/
import Derived.Test.YtemdhnolccnnfaaRowsGood
namespace Go.Proofs.Ytemdhnolccnnfaa
set_option linter.unusedVariables false
theorem path_fore {A B : Nat → Nat} : ∀ {a : Nat} {u : List Nat} {b x : Nat}, Path A B a u b → x ∈ a :: u → A x ∈ u ∨ A x = b
  | a, [], b, x, h, hx => by
    obtain rfl : x = a := by simpa using hx
    exact Or.inr h.1
  | a, p :: u, b, x, h, hx => by
    rcases List.mem_cons.1 hx with q | q
    · subst q; exact Or.inl (by rw [h.1]; simp)
    · rcases path_fore h.2.2 q with r | r
      · exact Or.inl (List.mem_cons_of_mem _ r)
      · exact Or.inr r
theorem path_back {A B : Nat → Nat} : ∀ {a : Nat} {u : List Nat} {b x : Nat}, Path A B a u b → (x ∈ u ∨ x = b) → B x ∈ a :: u
  | a, [], b, x, h, hx => by
    rcases hx with q | q
    · cases q
    · subst q; rw [h.2]; simp
  | a, p :: u, b, x, h, hx => by
    by_cases q : x = p
    · subst q; rw [h.2.1]; simp
    · have : B x ∈ p :: u := path_back h.2.2 (by
        rcases hx with r | r
        · rcases List.mem_cons.1 r with t | t
          · exact (q t).elim
          · exact Or.inl t
        · exact Or.inr r)
      exact List.mem_cons_of_mem _ this
theorem filter_out {u v : List Nat} {p : Nat} (hn : (u ++ p :: v).Nodup) : (u ++ p :: v).filter (· != p) = u ++ v := by
  have h1 : ∀ x ∈ u, x ≠ p := fun x hx e => (List.nodup_append.1 hn).2.2 x hx p (by simp) e
  have h2 : ∀ x ∈ v, x ≠ p := fun x hx e => by subst e; exact (List.nodup_cons.1 (List.nodup_append.1 hn).2.1).1 hx
  rw [List.filter_append, List.filter_cons]
  rw [List.filter_eq_self.2 (fun x hx => by simpa using h1 x hx), (List.filter_eq_self (l := v)).2 (fun x hx => by simpa using h2 x hx)]
  simp
/-- The links behind a Take. -/
def unlink (lk : List Lnk) (p : Nat) : List Lnk := setB (setA lk (lB lk p) (lA lk p)) (lA lk p) (lB lk p)
theorem Good.near {n : Nat} {lk : List Lnk} {free : List Nat} {l : List (Int × Value)} {Ps : Nat → List Nat} (h : Good n lk free l Ps) {r p : Nat} (hr : r < n) (hp : p ∈ r :: Ps r) :
    lA lk p < lk.length ∧ lB lk p < lk.length ∧ lA lk p ∈ r :: Ps r ∧ lB lk p ∈ r :: Ps r := by
  have hb : ∀ x, x ∈ r :: Ps r → x < lk.length := fun x hx => by
    rcases List.mem_cons.1 hx with q | q
    · subst q; exact Nat.lt_of_lt_of_le hr h.len
    · exact (h.place r hr x q).2.1
  have h1 : lA lk p ∈ r :: Ps r := by
    rcases path_fore (h.ring r hr) hp with q | q
    · exact List.mem_cons_of_mem _ q
    · rw [q]; simp
  have h2 : lB lk p ∈ r :: Ps r := path_back (h.ring r hr) (by
    rcases List.mem_cons.1 hp with q | q
    · exact Or.inr q
    · exact Or.inl q)
  exact ⟨hb _ h1, hb _ h2, h1, h2⟩
theorem Good.take {n : Nat} {lk : List Lnk} {free : List Nat} {l : List (Int × Value)} {Ps : Nat → List Nat} (h : Good n lk free l Ps) {r p : Nat} (hr : r < n) (hp : p ∈ Ps r) :
    Good n (unlink lk p) (free ++ [p]) (adel l (lI lk p)) (fun s => (Ps s).filter (· != p)) := by
  obtain ⟨ha, hb, ham, hbm⟩ := h.near hr (List.mem_cons_of_mem _ hp)
  have hI : ∀ j, lI (unlink lk p) j = lI lk j := fun j => ((l_setB _ _ _ j).2.1).trans (l_setA _ _ _ j).2.1
  have hR : ∀ j, lR (unlink lk p) j = lR lk j := fun j => ((l_setB _ _ _ j).2.2).trans (l_setA _ _ _ j).2.2
  have hA : ∀ j, lA (unlink lk p) j = if j = lB lk p then lA lk p else lA lk j := fun j => ((l_setB _ _ _ j).1).trans (lA_setA hb _ j)
  have hB : ∀ j, lB (unlink lk p) j = if j = lA lk p then lB lk p else lB lk j := fun j => (lB_setB (by rw [setA_len]; exact ha) _ j).trans (by rw [(l_setA _ _ _ j).1])
  have hlen : (unlink lk p).length = lk.length := by unfold unlink; rw [setB_len, setA_len]
  have hother : ∀ s, s < n → s ≠ r → ∀ x, x ∈ s :: Ps s → x ∉ r :: Ps r := fun s hs hne x hx hx2 => by
    rcases List.mem_cons.1 hx with q | q <;> rcases List.mem_cons.1 hx2 with q2 | q2
    · exact hne (q.symm.trans q2)
    · subst q; have := (h.place r hr x q2).1; omega
    · subst q2; have := (h.place s hs x q).1; omega
    · exact hne ((h.place s hs x q).2.2.1.symm.trans (h.place r hr x q2).2.2.1)
  refine ⟨by rw [hlen]; exact h.len, fun s hs => ?_, fun s hs => (h.nodup s hs).filter _, fun s hs x hx => ?_, fun s hs => by rw [hI]; exact h.head s hs, ?_, fun x hx => ?_, keys_adel h.keys _, fun id v hv => ?_, fun s hs => by simp [h.none_ s hs]⟩
  · by_cases e : s = r
    · subst e
      obtain ⟨u, v, huv⟩ := List.append_of_mem hp
      have hn := h.ringNodup hs
      have hg := h.ring s hs
      rw [huv] at hn hg
      show Path _ _ s ((Ps s).filter (· != p)) s
      rw [huv, filter_out (List.nodup_cons.1 hn).2]
      exact ring_drop hg hn (fun x hx => by rw [hA, if_neg hx]) (by rw [hA, if_pos rfl]) (fun x hx => by rw [hB, if_neg hx]) (by rw [hB, if_pos rfl])
    · have hp' : ∀ x ∈ Ps s, x ≠ p := fun x hx q => hother s hs e x (List.mem_cons_of_mem _ hx) (by subst q; exact List.mem_cons_of_mem _ hp)
      show Path _ _ s ((Ps s).filter (· != p)) s
      rw [List.filter_eq_self.2 (fun x hx => by simpa using hp' x hx)]
      have ho := hother s hs e
      exact path_congr (h.ring s hs) (fun x hx => by rw [hA, if_neg (fun q : x = lB lk p => ho x hx (by rw [q]; exact hbm))]) (fun x hx => by rw [hB, if_neg (fun q : x = lA lk p => ho x (List.mem_cons_of_mem _ hx) (by rw [q]; exact ham))]) (by rw [hB, if_neg (fun q : s = lA lk p => ho s (by simp) (by rw [q]; exact ham))])
  · obtain ⟨hx1, hx2⟩ := List.mem_filter.1 hx
    have hne : x ≠ p := by simpa using hx2
    obtain ⟨c1, c2, c3, c4, c5, c6, c7⟩ := h.place s hs x hx1
    refine ⟨c1, by rw [hlen]; exact c2, by rw [hR]; exact c3, by rw [hI]; exact c4, by rw [hI]; exact c5, by simp [c6, hne], ?_⟩
    rw [hI, aget_adel h.keys, if_neg (fun q => hne (h.same hs hr hx1 hp q).1)]
    exact c7
  · rw [List.nodup_append]
    refine ⟨h.fnodup, by simp, fun a ha' b hb' q => ?_⟩
    obtain rfl : b = p := by simpa using hb'
    subst q
    exact (h.place r hr a hp).2.2.2.2.2.1 ha'
  · rw [hlen]
    rcases List.mem_append.1 hx with q | q
    · exact h.fplace x q
    · obtain rfl : x = p := by simpa using q
      exact ⟨(h.place r hr x hp).1, (h.place r hr x hp).2.1⟩
  · rw [aget_adel h.keys] at hv
    by_cases e : id = lI lk p
    · rw [if_pos e] at hv; cases hv
    · rw [if_neg e] at hv
      obtain ⟨s, hs, x, hx, rfl, hxi⟩ := h.at_ id v hv
      exact ⟨s, hs, x, List.mem_filter.2 ⟨hx, by simp; exact fun q => e (by rw [← hxi, q])⟩, rfl, by rw [hI]; exact hxi⟩
end Go.Proofs.Ytemdhnolccnnfaa
