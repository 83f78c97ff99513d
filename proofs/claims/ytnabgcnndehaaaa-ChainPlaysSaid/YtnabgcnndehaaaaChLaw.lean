/- Layer 9 (chain), off memory: what is told of a key. -/
import Derived.Test.YtnabgcnndehaaaaChMove
import Derived.Test.YtnabgcnndehaaaaCh2
namespace Go.Proofs.Ytnabgcnndehaaaa
open Go.RowKit
set_option linter.unusedVariables false
theorem getN_ne_cons {e : KN} {l : List KN} {k : ByteArray} (h : e.1 ≠ k) : getN (e :: l) k = getN l k := by show (if e.1 = k then _ else _) = _; rw [if_neg h]
theorem getN_eq_cons {e : KN} {l : List KN} {k : ByteArray} (h : e.1 = k) : getN (e :: l) k = some e.2 := by show (if e.1 = k then _ else _) = _; rw [if_pos h]
theorem getN_some {k : ByteArray} : ∀ {l : List KN}, (getN l k).isSome = true ↔ k ∈ ks l
  | [] => by simp [getN, ks]
  | e :: l => by
    by_cases h : e.1 = k
    · rw [getN_eq_cons h, ks_cons, h]; simp
    · rw [getN_ne_cons h, ks_cons, getN_some (l := l), List.mem_cons]
      exact ⟨Or.inr, fun q => q.elim (fun q => absurd q.symm h) (fun q => q)⟩
theorem getN_setL {k k' : ByteArray} {n : Int} : ∀ {l : List KN}, k ∈ ks l → getN (setL l k n) k' = if k' = k then some n else getN l k'
  | [], h => by simp [ks] at h
  | e :: l, h => by
    by_cases he : e.1 = k
    · show getN (if e.1 = k then (k, n) :: l else e :: setL l k n) k' = _
      rw [if_pos he]
      by_cases hk : k' = k
      · rw [if_pos hk, getN_eq_cons hk.symm]
      · rw [if_neg hk, getN_ne_cons (fun q => hk q.symm), getN_ne_cons (fun q => hk (q.symm.trans he))]
    · show getN (if e.1 = k then (k, n) :: l else e :: setL l k n) k' = _
      rw [if_neg he]
      have hm : k ∈ ks l := (List.mem_cons.1 h).elim (fun q => absurd q.symm he) (fun q => q)
      by_cases hek : e.1 = k'
      · rw [getN_eq_cons hek, if_neg (fun q => he (hek.trans q)), getN_eq_cons hek]
      · rw [getN_ne_cons hek, getN_setL hm, getN_ne_cons hek]
theorem getN_delL {k k' : ByteArray} : ∀ {l : List KN}, (ks l).Nodup → getN (delL l k) k' = if k' = k then none else getN l k'
  | [], h => by simp [delL, getN]
  | e :: l, h => by
    have hn := List.nodup_cons.1 h
    by_cases he : e.1 = k
    · show getN (if e.1 = k then l else e :: delL l k) k' = _
      rw [if_pos he]
      by_cases hk : k' = k
      · rw [if_pos hk]; exact getN_none (by rw [hk, ← he]; exact hn.1)
      · rw [if_neg hk, getN_ne_cons (fun q => hk (q.symm.trans he))]
    · show getN (if e.1 = k then l else e :: delL l k) k' = _
      rw [if_neg he]
      by_cases hek : e.1 = k'
      · rw [getN_eq_cons hek, if_neg (fun q => he (hek.trans q)), getN_eq_cons hek]
      · rw [getN_ne_cons hek, getN_delL hn.2, getN_ne_cons hek]
/-- Two keys' buckets are one. -/
def sameB (s : ChS) (k k' : ByteArray) : Prop := (inOld s k ∧ inOld s k' ∧ hx k (s.pw - 1) = hx k' (s.pw - 1)) ∨ (¬ inOld s k ∧ ¬ inOld s k' ∧ hx k s.pw = hx k' s.pw)
theorem inOld_put (s : ChS) (k k' : ByteArray) (l : List KN) : inOld (put s k l) k' ↔ inOld s k' := by
  obtain ⟨_, h2, h3, h4⟩ := put_g s k l
  unfold inOld; rw [h2, h3, h4]
theorem home_put (s : ChS) (k k' : ByteArray) (l : List KN) : (sameB s k k' → home (put s k l) k' = l) ∧ (¬ sameB s k k' → home (put s k l) k' = home s k') := by
  have hpw := (put_g s k l).2.2.1
  by_cases ho : inOld s k
  · have e : put s k l = { s with O := upd s.O (hx k (s.pw - 1)) l } := by unfold put; rw [if_pos ho]
    by_cases ho' : inOld s k'
    · have hh : home (put s k l) k' = upd s.O (hx k (s.pw - 1)) l (hx k' (s.pw - 1)) := by unfold home; rw [if_pos ((inOld_put s k k' l).2 ho'), hpw, e]
      have hh' : home s k' = s.O (hx k' (s.pw - 1)) := if_pos ho'
      rw [hh, hh']
      refine ⟨fun q => ?_, fun q => ?_⟩
      · rcases q with ⟨_, _, q⟩ | ⟨q, _⟩
        · rw [q, upd_same]
        · exact absurd ho q
      · exact upd_ne (fun e => q (Or.inl ⟨ho, ho', e.symm⟩))
    · have hh : home (put s k l) k' = s.R (hx k' s.pw) := by unfold home; rw [if_neg (fun q => ho' ((inOld_put s k k' l).1 q)), hpw, e]
      have hh' : home s k' = s.R (hx k' s.pw) := if_neg ho'
      rw [hh, hh']
      exact ⟨fun q => q.elim (fun q => absurd q.2.1 ho') (fun q => absurd ho q.1), fun _ => rfl⟩
  · have e : put s k l = { s with R := upd s.R (hx k s.pw) l } := by unfold put; rw [if_neg ho]
    by_cases ho' : inOld s k'
    · have hh : home (put s k l) k' = s.O (hx k' (s.pw - 1)) := by unfold home; rw [if_pos ((inOld_put s k k' l).2 ho'), hpw, e]
      have hh' : home s k' = s.O (hx k' (s.pw - 1)) := if_pos ho'
      rw [hh, hh']
      exact ⟨fun q => q.elim (fun q => absurd q.1 ho) (fun q => absurd ho' q.2.1), fun _ => rfl⟩
    · have hh : home (put s k l) k' = upd s.R (hx k s.pw) l (hx k' s.pw) := by unfold home; rw [if_neg (fun q => ho' ((inOld_put s k k' l).1 q)), hpw, e]
      have hh' : home s k' = s.R (hx k' s.pw) := if_neg ho'
      rw [hh, hh']
      refine ⟨fun q => ?_, fun q => ?_⟩
      · rcases q with ⟨q, _⟩ | ⟨_, _, q⟩
        · exact absurd q ho
        · rw [q, upd_same]
      · exact upd_ne (fun e => q (Or.inr ⟨ho, ho', e.symm⟩))
theorem sameB_refl (s : ChS) (k : ByteArray) : sameB s k k := by
  by_cases ho : inOld s k
  · exact Or.inl ⟨ho, ho, rfl⟩
  · exact Or.inr ⟨ho, ho, rfl⟩
theorem sameB_home {s : ChS} {k k' : ByteArray} (h : sameB s k k') : home s k' = home s k := by
  unfold home
  rcases h with ⟨a, b, c⟩ | ⟨a, b, c⟩
  · rw [if_pos a, if_pos b, c]
  · rw [if_neg a, if_neg b, c]
theorem look_put (s : ChS) (k k' : ByteArray) (l : List KN) (h : k' ≠ k → getN l k' = getN (home s k) k') : look (put s k l) k' = if k' = k then getN l k else look s k' := by
  unfold look
  by_cases hk : k' = k
  · rw [if_pos hk, hk, (home_put s k k l).1 (sameB_refl s k)]
  · rw [if_neg hk]
    by_cases hs : sameB s k k'
    · rw [(home_put s k k' l).1 hs, sameB_home hs]; exact h hk
    · rw [(home_put s k k' l).2 hs]
theorem look_n (s : ChS) (n : Int) (k : ByteArray) : look { s with n := n } k = look s k := rfl
theorem look_grow (s : ChS) (k : ByteArray) : look (growS s) k = look s k ∧ (growS s).n = s.n := by
  unfold growS
  split
  · rename_i h
    refine ⟨?_, rfl⟩
    unfold look
    have a : home ⟨s.pw + 1, true, 0, s.R, fun _ => [], s.n⟩ k = s.R (hx k s.pw) := if_pos ⟨rfl, Nat.zero_le _⟩
    have b : home s k = s.R (hx k s.pw) := if_neg (fun q => by have := q.1; rw [h.1] at this; cases this)
    rw [a, b]
  · exact ⟨rfl, rfl⟩
theorem look_set {s : ChS} (k k' : ByteArray) (n : Int) : look (setS s k n) k' = (if k' = k then some n else look s k') ∧ (setS s k n).n = if (look s k).isSome then s.n else s.n + 1 := by
  unfold setS
  by_cases h : (look s k).isSome = true
  · have hm : k ∈ ks (home s k) := getN_some.1 h
    rw [if_pos h, if_pos h]
    refine ⟨?_, (put_g _ _ _).1⟩
    rw [look_put s k k' _ (fun q => by rw [getN_setL hm, if_neg q]), getN_setL hm, if_pos rfl]
  · rw [if_neg h, if_neg h]
    refine ⟨?_, (look_grow _ k').2⟩
    rw [(look_grow _ k').1, look_n, look_put s k k' _ (fun q => getN_ne_cons (fun e => q e.symm)), getN_eq_cons rfl]
theorem look_del {s : ChS} (hW : ChW s) (k k' : ByteArray) : look (delS s k) k' = (if k' = k then none else look s k') ∧ (delS s k).n = if (look s k).isSome then s.n - 1 else s.n := by
  unfold delS
  have hn := home_nodup hW k
  by_cases h : (look s k).isSome = true
  · rw [if_pos h, if_pos h]
    refine ⟨?_, rfl⟩
    rw [look_n, look_put s k k' _ (fun q => by rw [getN_delL hn, if_neg q]), getN_delL hn, if_pos rfl]
  · rw [if_neg h, if_neg h]
    refine ⟨?_, rfl⟩
    by_cases hk : k' = k
    · rw [if_pos hk, hk]
      cases e : look s k with
      | none => rfl
      | some v => rw [e] at h; exact absurd rfl h
    · rw [if_neg hk]
theorem getN_moveR {p : Nat} {k : ByteArray} : ∀ {es : List KN} {R : Nat → List KN}, MvI p R es → (k ∈ ks es → getN (moveR p R es (hx k p)) k = getN es k) ∧ (k ∉ ks es → getN (moveR p R es (hx k p)) k = getN (R (hx k p)) k)
  | [], R, h => ⟨fun q => by simp [ks] at q, fun _ => rfl⟩
  | e :: es, R, h => by
    have hne := List.nodup_cons.1 h.en
    obtain ⟨ih1, ih2⟩ := getN_moveR (k := k) h.next
    show (_ → getN (moveR p (upd R (hx e.1 p) (e :: R (hx e.1 p))) es (hx k p)) k = _) ∧ (_ → getN (moveR p (upd R (hx e.1 p) (e :: R (hx e.1 p))) es (hx k p)) k = _)
    by_cases hk : e.1 = k
    · have hno : k ∉ ks es := by rw [← hk]; exact hne.1
      refine ⟨fun _ => ?_, fun q => absurd (by rw [ks_cons, hk]; simp) q⟩
      rw [ih2 hno, hk, upd_same, getN_eq_cons hk, getN_eq_cons hk]
    · have hiff : k ∈ ks (e :: es) ↔ k ∈ ks es := by rw [ks_cons, List.mem_cons]; exact ⟨fun q => q.elim (fun q => absurd q.symm hk) (fun q => q), Or.inr⟩
      refine ⟨fun q => by rw [ih1 (hiff.1 q), getN_ne_cons hk], fun q => ?_⟩
      rw [ih2 (fun a => q (hiff.2 a))]
      by_cases hj : hx k p = hx e.1 p
      · rw [hj, upd_same, getN_ne_cons hk]
      · rw [upd_ne hj]
theorem look_step {s : ChS} (hW : ChW s) (k : ByteArray) : look (stepS s) k = look s k ∧ (stepS s).n = s.n := by
  unfold stepS
  by_cases hg : s.g = true
  · rw [if_pos hg]
    refine ⟨?_, rfl⟩
    have hi := hx_lt k (s.pw - 1)
    have hmv := getN_moveR (k := k) (mv_start hW hg)
    unfold look
    by_cases ho : inOld s k
    · have h1 : home s k = s.O (hx k (s.pw - 1)) := if_pos ho
      have hm := ho.2
      rw [h1]
      by_cases he : hx k (s.pw - 1) = s.m
      · have h2 : home { s with m := s.m + 1, g := decide (s.m + 1 < 2 ^ (s.pw - 1)), O := upd s.O s.m [], R := moveR s.pw s.R (s.O s.m) } k = moveR s.pw s.R (s.O s.m) (hx k s.pw) := if_neg (fun q => by have q2 : s.m + 1 ≤ hx k (s.pw - 1) := q.2; omega)
        rw [h2, he]
        by_cases hk : k ∈ ks (s.O s.m)
        · exact hmv.1 hk
        · rw [hmv.2 hk, getN_none hk]
          refine getN_none (fun q => ?_)
          have := hW.RG hg _ _ q
          omega
      · have h2 : home { s with m := s.m + 1, g := decide (s.m + 1 < 2 ^ (s.pw - 1)), O := upd s.O s.m [], R := moveR s.pw s.R (s.O s.m) } k = upd s.O s.m [] (hx k (s.pw - 1)) := if_pos ⟨decide_eq_true (by show s.m + 1 < 2 ^ (s.pw - 1); omega), by show s.m + 1 ≤ hx k (s.pw - 1); omega⟩
        rw [h2, upd_ne he]
    · have h1 : home s k = s.R (hx k s.pw) := if_neg ho
      have hlt : hx k (s.pw - 1) < s.m := by
        by_cases q : s.m ≤ hx k (s.pw - 1)
        · exact absurd ⟨hg, q⟩ ho
        · omega
      have h2 : home { s with m := s.m + 1, g := decide (s.m + 1 < 2 ^ (s.pw - 1)), O := upd s.O s.m [], R := moveR s.pw s.R (s.O s.m) } k = moveR s.pw s.R (s.O s.m) (hx k s.pw) := if_neg (fun q => by have q2 : s.m + 1 ≤ hx k (s.pw - 1) := q.2; omega)
      rw [h1, h2]
      refine hmv.2 (fun q => ?_)
      have := hW.O2 hg _ _ q
      omega
  · rw [if_neg hg]; exact ⟨rfl, rfl⟩
end Go.Proofs.Ytnabgcnndehaaaa
