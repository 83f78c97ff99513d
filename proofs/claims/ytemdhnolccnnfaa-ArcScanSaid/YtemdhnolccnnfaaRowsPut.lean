/- Putting a place into a row, plainly. -/
import Derived.Test.YtemdhnolccnnfaaRowsTake
namespace Go.Proofs.Ytemdhnolccnnfaa
set_option linter.unusedVariables false
/-- One more place, that is free. -/
theorem Good.more {n : Nat} {lk : List Lnk} {free : List Nat} {l : List (Int × Value)} {Ps : Nat → List Nat} (h : Good n lk free l Ps) (z : Lnk) : Good n (lk ++ [z]) (free ++ [lk.length]) l Ps := by
  have hs : ∀ j, j < lk.length → (lk ++ [z])[j]? = lk[j]? := fun j hj => List.getElem?_append_left hj
  have hA : ∀ j, j < lk.length → lA (lk ++ [z]) j = lA lk j := fun j hj => by unfold lA; rw [hs j hj]
  have hB : ∀ j, j < lk.length → lB (lk ++ [z]) j = lB lk j := fun j hj => by unfold lB; rw [hs j hj]
  have hI : ∀ j, j < lk.length → lI (lk ++ [z]) j = lI lk j := fun j hj => by unfold lI; rw [hs j hj]
  have hR : ∀ j, j < lk.length → lR (lk ++ [z]) j = lR lk j := fun j hj => by unfold lR; rw [hs j hj]
  have hb : ∀ r, r < n → ∀ x, x ∈ r :: Ps r → x < lk.length := fun r hr x hx => by
    rcases List.mem_cons.1 hx with q | q
    · subst q; exact Nat.lt_of_lt_of_le hr h.len
    · exact (h.place r hr x q).2.1
  refine ⟨by simp; have := h.len; omega, fun r hr => path_congr (h.ring r hr) (fun x hx => hA x (hb r hr x hx)) (fun x hx => hB x (hb r hr x (List.mem_cons_of_mem _ hx))) (hB r (hb r hr r (by simp))), h.nodup, fun r hr p hp => ?_, fun r hr => ?_, ?_, fun p hp => ?_, h.keys, fun id v hv => ?_, h.none_⟩
  · obtain ⟨c1, c2, c3, c4, c5, c6, c7⟩ := h.place r hr p hp
    rw [hI p c2, hR p c2]
    exact ⟨c1, by simp; omega, c3, c4, c5, by simp [c6]; omega, c7⟩
  · rw [hI r (hb r hr r (by simp))]; exact h.head r hr
  · rw [List.nodup_append]
    refine ⟨h.fnodup, by simp, fun a ha b hb2 q => ?_⟩
    obtain rfl : b = lk.length := by simpa using hb2
    have := (h.fplace a ha).2
    omega
  · rcases List.mem_append.1 hp with q | q
    · have := h.fplace p q
      exact ⟨this.1, by simp; omega⟩
    · obtain rfl : p = lk.length := by simpa using q
      exact ⟨h.len, by simp⟩
  · obtain ⟨r, hr, p, hp, e1, e2⟩ := h.at_ id v hv
    exact ⟨r, hr, p, hp, e1, by rw [hI p (h.place r hr p hp).2.1]; exact e2⟩
/-- The links behind a put at place k. -/
def linkin (lk : List Lnk) (k : Nat) (x : Lnk) : List Lnk := setB (setA (lk.set k x) x.before k) x.after k
theorem Good.put {n : Nat} {lk : List Lnk} {free : List Nat} {k : Nat} {l : List (Int × Value)} {Ps : Nat → List Nat} (h : Good n lk (free ++ [k]) l Ps) {r : Nat} (hr : r < n) {u v : List Nat} (huv : Ps r = u ++ v)
    {id : Int} (hid : 0 ≤ id ∧ id ≤ 4194303) (hno : aget l id = none) :
    Good n (linkin lk k ⟨id, r, lastOr r u, lA lk (lastOr r u)⟩) free (aset l id (iv k)) (fun s => if s = r then u ++ k :: v else Ps s) := by
  obtain ⟨hkn, hkl⟩ := h.fplace k (by simp)
  have hxm : lastOr r u ∈ r :: Ps r := by
    rw [huv]
    rcases List.mem_cons.1 (lastOr_mem r u) with q | q
    · rw [q]; simp
    · exact List.mem_cons_of_mem _ (List.mem_append_left _ q)
  obtain ⟨hyl, _, hym, _⟩ := h.near hr hxm
  obtain ⟨x, hx⟩ : ∃ x, lastOr r u = x := ⟨_, rfl⟩
  rw [hx] at hxm hyl hym ⊢
  obtain ⟨y, hy⟩ : ∃ y, lA lk x = y := ⟨_, rfl⟩
  rw [hy] at hyl hym ⊢
  have hb : ∀ s, s < n → ∀ z, z ∈ s :: Ps s → z < lk.length ∧ z ≠ k := fun s hs z hz => by
    rcases List.mem_cons.1 hz with q | q
    · subst q; exact ⟨Nat.lt_of_lt_of_le hs h.len, by omega⟩
    · exact ⟨(h.place s hs z q).2.1, fun e => (h.place s hs z q).2.2.2.2.2.1 (by simp [e])⟩
  have hxl := hb r hr x hxm
  have hyk := hb r hr y hym
  have hset : ∀ j, (lk.set k ⟨id, r, x, y⟩)[j]? = if j = k then some ⟨id, r, x, y⟩ else lk[j]? := fun j => by
    by_cases e : j = k
    · subst e; rw [if_pos rfl, List.getElem?_set_self hkl]
    · rw [if_neg e, List.getElem?_set_ne (fun q => e q.symm)]
  have hA : ∀ j, lA (linkin lk k ⟨id, r, x, y⟩) j = if j = x then k else if j = k then y else lA lk j := fun j => by
    refine ((l_setB _ _ _ j).1).trans ((lA_setA (by simpa using hxl.1) _ j).trans ?_)
    by_cases e : j = x
    · simp [e]
    · rw [if_neg e, if_neg e]; unfold lA; rw [hset]; by_cases e2 : j = k <;> simp [e2]
  have hB : ∀ j, lB (linkin lk k ⟨id, r, x, y⟩) j = if j = y then k else if j = k then x else lB lk j := fun j => by
    refine (lB_setB (by rw [setA_len]; simpa using hyk.1) _ j).trans ?_
    by_cases e : j = y
    · simp [e]
    · rw [if_neg e, if_neg e, (l_setA _ _ _ j).1]; unfold lB; rw [hset]; by_cases e2 : j = k <;> simp [e2]
  have hI : ∀ j, lI (linkin lk k ⟨id, r, x, y⟩) j = if j = k then id else lI lk j := fun j => by
    refine ((l_setB _ _ _ j).2.1).trans (((l_setA _ _ _ j).2.1).trans ?_)
    unfold lI; rw [hset]; by_cases e2 : j = k <;> simp [e2]
  have hR : ∀ j, lR (linkin lk k ⟨id, r, x, y⟩) j = if j = k then r else lR lk j := fun j => by
    refine ((l_setB _ _ _ j).2.2).trans (((l_setA _ _ _ j).2.2).trans ?_)
    unfold lR; rw [hset]; by_cases e2 : j = k <;> simp [e2]
  have hlen : (linkin lk k ⟨id, r, x, y⟩).length = lk.length := by unfold linkin; rw [setB_len, setA_len]; simp
  obtain ⟨hf1, _, hf2⟩ := List.nodup_append.1 h.fnodup
  have hkr : ∀ s, s < n → k ∉ s :: Ps s := fun s hs q => (hb s hs k q).2 rfl
  have hother : ∀ s, s < n → s ≠ r → ∀ x, x ∈ s :: Ps s → x ∉ r :: Ps r := fun s hs hne x hx hx2 => by
    rcases List.mem_cons.1 hx with q | q <;> rcases List.mem_cons.1 hx2 with q2 | q2
    · exact hne (q.symm.trans q2)
    · subst q; have := (h.place r hr x q2).1; omega
    · subst q2; have := (h.place s hs x q).1; omega
    · exact hne ((h.place s hs x q).2.2.1.symm.trans (h.place r hr x q2).2.2.1)
  have hold : ∀ s, s < n → ∀ p, p ∈ Ps s → n ≤ p ∧ p < (linkin lk k ⟨id, r, x, y⟩).length ∧ lR (linkin lk k ⟨id, r, x, y⟩) p = s ∧ 0 ≤ lI (linkin lk k ⟨id, r, x, y⟩) p ∧ lI (linkin lk k ⟨id, r, x, y⟩) p ≤ 4194303 ∧ p ∉ free ∧ aget (aset l id (iv k)) (lI (linkin lk k ⟨id, r, x, y⟩) p) = some (iv p) := fun s hs p hp => by
    obtain ⟨c1, c2, c3, c4, c5, c6, c7⟩ := h.place s hs p hp
    have hpk := (hb s hs p (List.mem_cons_of_mem _ hp)).2
    rw [hI, hR, if_neg hpk, if_neg hpk, hlen, aget_aset h.keys, if_neg (fun q => by rw [q, hno] at c7; cases c7)]
    exact ⟨c1, c2, c3, c4, c5, fun q => c6 (List.mem_append_left _ q), c7⟩
  refine ⟨by rw [hlen]; exact h.len, fun s hs => ?_, fun s hs => ?_, fun s hs p hp => ?_, fun s hs => ?_, hf1, fun p hp => ?_, keys_aset h.keys _ _, fun i v2 hv => ?_, fun s hs => ?_⟩
  · by_cases e : s = r
    · subst e
      have hn := h.ringNodup hs
      have hg := h.ring s hs
      have hk := hkr s hs
      rw [huv] at hn hg hk
      simp only [if_pos]
      exact ring_put hg hn hk hx.symm hy.symm (fun z h1 h2 => by rw [hA, if_neg h1, if_neg h2]) (by rw [hA, if_pos rfl]) (by rw [hA, if_neg (fun q => hxl.2 q.symm), if_pos rfl])
        (fun z h1 h2 => by rw [hB, if_neg h1, if_neg h2]) (by rw [hB, if_pos rfl]) (by rw [hB, if_neg (fun q => hyk.2 q.symm), if_pos rfl])
    · simp only [if_neg e]
      have ho := hother s hs e
      exact path_congr (h.ring s hs) (fun z hz => by rw [hA, if_neg (fun q : z = x => ho z hz (by rw [q]; exact hxm)), if_neg (hb s hs z hz).2])
        (fun z hz => by rw [hB, if_neg (fun q : z = y => ho z (List.mem_cons_of_mem _ hz) (by rw [q]; exact hym)), if_neg (hb s hs z (List.mem_cons_of_mem _ hz)).2])
        (by rw [hB, if_neg (fun q : s = y => ho s (by simp) (by rw [q]; exact hym)), if_neg (hb s hs s (by simp)).2])
  · by_cases e : s = r
    · subst e
      have hn := h.nodup s hs
      have hk := hkr s hs
      rw [huv] at hn hk
      simp only [if_pos]
      have hk2 : k ∉ u ++ v := fun q => hk (List.mem_cons_of_mem _ q)
      exact (List.perm_middle.nodup_iff).2 (List.nodup_cons.2 ⟨hk2, hn⟩)
    · simp only [if_neg e]; exact h.nodup s hs
  · by_cases e : s = r
    · subst e
      simp only [if_pos] at hp
      by_cases q : p = k
      · subst q
        rw [hlen, hR, hI, if_pos rfl, if_pos rfl, aget_aset h.keys, if_pos rfl]
        exact ⟨hkn, hkl, rfl, hid.1, hid.2, fun t => hf2 p t p (by simp) rfl, rfl⟩
      · exact hold s hs p (by rw [huv]; simp at hp ⊢; exact hp.elim Or.inl (fun t => t.elim (fun t => (q t).elim) Or.inr))
    · simp only [if_neg e] at hp
      exact hold s hs p hp
  · rw [hI, if_neg (hb s hs s (by simp)).2]; exact h.head s hs
  · rw [hlen]; exact h.fplace p (List.mem_append_left _ hp)
  · rw [aget_aset h.keys] at hv
    by_cases e : i = id
    · rw [if_pos e] at hv
      refine ⟨r, hr, k, by simp, by simpa using hv.symm, by rw [hI, if_pos rfl, e]⟩
    · rw [if_neg e] at hv
      obtain ⟨s, hs, p, hp, e1, e2⟩ := h.at_ i v2 hv
      refine ⟨s, hs, p, ?_, e1, by rw [hI, if_neg (hb s hs p (List.mem_cons_of_mem _ hp)).2]; exact e2⟩
      by_cases q : s = r
      · subst q; rw [huv] at hp; simp at hp ⊢; exact hp.elim Or.inl (fun t => Or.inr (Or.inr t))
      · simp only [if_neg q]; exact hp
  · have : s ≠ r := by omega
    simp only [if_neg this]; exact h.none_ s hs
end Go.Proofs.Ytemdhnolccnnfaa
