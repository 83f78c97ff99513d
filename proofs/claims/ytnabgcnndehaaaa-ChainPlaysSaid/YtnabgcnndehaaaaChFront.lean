/- Layer 9 (chain): Bucket, Keys beside a structure; how many keys there are; who stands at the front. -/
import Derived.Test.YtnabgcnndehaaaaChBucket
import Derived.Test.YtnabgcnndehaaaaChMeans
namespace Go.Proofs.Ytnabgcnndehaaaa
open Go.RowKit
set_option linter.unusedVariables false
theorem bucket_ct {w0 w : World} {S : Nat → Prop} {t : Nat} {s : ChS} (h : Sep (CT t s) w0 w S) (i : Int) (hlen : (bucketS s i).length ≤ 1000000) :
    Calls Try.prog 18 #[.pointer (some ⟨t, 0, none⟩), .int .i64 i] w fun e w' => ∃ v, e = .returned v ∧ Sep (CT t s) w0 w' S ∧ Held w0 w' S 9 1 v (bucketS s i).length (strs (bucketS s i)) ∧ Fr (fun b => w.heap.size ≤ b) w w' :=
  (ch_bucketK S t s i w h.at_ hlen).mono fun e w' ⟨v, he, hv, hB⟩ => ⟨v, he, sep_fr (ct_frm t s) h (Fr.of_below hB), Held.new h hv, Fr.of_below hB⟩
theorem keys_ct {w0 w : World} {S : Nat → Prop} {t : Nat} {s : ChS} (h : Sep (CT t s) w0 w S) (hlen : (keysS s).length ≤ 1000000) :
    Calls Try.prog 17 #[.pointer (some ⟨t, 0, none⟩)] w fun e w' => ∃ v, e = .returned v ∧ Sep (CT t s) w0 w' S ∧ Held w0 w' S 9 1 v (keysS s).length (strs (keysS s)) ∧ Fr (fun b => w.heap.size ≤ b) w w' :=
  (ch_keys S t s w h.at_ hlen).mono fun e w' ⟨v, he, hv, hB⟩ => ⟨v, he, sep_fr (ct_frm t s) h (Fr.of_below hB), Held.new h hv, Fr.of_below hB⟩
theorem keys_len_set {s : ChS} (hW : ChW s) (k : ByteArray) (n : Int) (hW2 : ChW (setS s k n)) : (keysS (setS s k n)).length ≤ (keysS s).length + 1 := by
  have := sub_len (l2 := k :: keysS s) (keysS_nodup hW2) (fun x q => by
    rw [keysS_mem hW2, (look_set k x n).1] at q
    by_cases e : x = k
    · rw [e]; simp
    · rw [if_neg e] at q; exact List.mem_cons_of_mem _ ((keysS_mem hW x).2 q))
  simpa using this
theorem keys_len_del {s : ChS} (hW : ChW s) (k : ByteArray) (hW2 : ChW (delS s k)) : (keysS (delS s k)).length ≤ (keysS s).length :=
  sub_len (keysS_nodup hW2) (fun x q => by
    rw [keysS_mem hW2, (look_del hW k x).1] at q
    by_cases e : x = k
    · rw [if_pos e] at q; cases q
    · rw [if_neg e] at q; exact (keysS_mem hW x).2 q)
theorem keys_len_step {s : ChS} (hW : ChW s) : (keysS (stepS s)).length ≤ (keysS s).length :=
  sub_len (keysS_nodup (step_w hW)) (fun x q => by
    rw [keysS_mem (step_w hW), (look_step hW x).1] at q; exact (keysS_mem hW x).2 q)
theorem bucket_len {s : ChS} (hW : ChW s) (i : Int) : (bucketS s i).length ≤ (keysS s).length := by
  unfold bucketS
  split
  · rename_i h
    exact sub_len (hW.R1 _) (fun x q => List.mem_append_right _ (rowsK_mem.2 ⟨i.toNat, by omega, q⟩))
  · exact Nat.zero_le _
/-- Few keys: it does not grow. -/
structure Few (k : Nat) (s : ChS) : Prop where
  p : s.pw = 2
  g : s.g = false
  n : 0 ≤ s.n ∧ s.n ≤ k
  l : (keysS s).length ≤ k
theorem few_start : Few 0 ch0 := ⟨rfl, rfl, by decide, by decide⟩
theorem Few.more {k : Nat} {s : ChS} (h : Few k s) : Few (k + 1) s := ⟨h.p, h.g, by have := h.n; omega, by have := h.l; omega⟩
theorem Few.at_home {k : Nat} {s : ChS} (h : Few k s) (x : ByteArray) : home s x = s.R (hx x 2) := by
  unfold home; rw [if_neg (fun q => by have := q.1; rw [h.g] at this; cases this), h.p]
theorem Few.put_ {k : Nat} {s : ChS} (h : Few k s) (hk : k < 6) (hW : ChW s) (x : ByteArray) (n : Int) (hW2 : ChW (setS s x n)) :
    Few (k + 1) (setS s x n) ∧ ∃ y l, bucketS (setS s x n) (hx x 2) = y :: l ∧ ((look s x).isSome = false → y = x) := by
  have hn := (look_set (s := s) x x n).2
  have hl := keys_len_set hW x n hW2
  obtain ⟨p1, p2, p3, p4⟩ := put_g s x (setL (home s x) x n)
  obtain ⟨q1, q2, q3, q4⟩ := put_g s x ((x, n) :: home s x)
  have hF : Few (k + 1) (setS s x n) := by
    have hpg : (setS s x n).pw = 2 ∧ (setS s x n).g = false := by
      unfold setS
      split
      · exact ⟨by rw [p3]; exact h.p, by rw [p2]; exact h.g⟩
      · unfold growS
        rw [if_neg (fun q => by
          have a := q.2.1
          have e1 : ({ put s x ((x, n) :: home s x) with n := s.n + 1 } : ChS).pw = 2 := by show (put s x _).pw = 2; rw [q3]; exact h.p
          rw [e1] at a
          have a' : (3 * 2 ^ 2 : Int) < 2 * (s.n + 1) := a
          have := h.n
          omega)]
        exact ⟨by show (put s x _).pw = 2; rw [q3]; exact h.p, by show (put s x _).g = false; rw [q2]; exact h.g⟩
    refine ⟨hpg.1, hpg.2, ?_, by have := h.l; omega⟩
    rw [hn]
    have := h.n
    split <;> omega
  refine ⟨hF, ?_⟩
  have hb : bucketS (setS s x n) (hx x 2) = ks (home (setS s x n) x) := by rw [bucketS_nat (by rw [hF.p]; exact hx_lt x 2), hF.at_home]
  rw [hb]
  cases hs : (look s x).isSome with
  | true =>
    have hm : x ∈ ks (home (setS s x n) x) := by
      rw [← getN_some]
      show (look (setS s x n) x).isSome = true
      rw [(look_set x x n).1, if_pos rfl]; rfl
    cases e : ks (home (setS s x n) x) with
    | nil => rw [e] at hm; cases hm
    | cons y l => exact ⟨y, l, rfl, fun q => by cases q⟩
  | false =>
    have e1 : setS s x n = { put s x ((x, n) :: home s x) with n := s.n + 1 } := by
      have e2 : setS s x n = growS { put s x ((x, n) :: home s x) with n := s.n + 1 } := by unfold setS; rw [if_neg (by rw [hs]; decide)]
      rw [e2]
      unfold growS
      rw [if_neg (fun q => by
          have a := q.2.1
          have e1 : ({ put s x ((x, n) :: home s x) with n := s.n + 1 } : ChS).pw = 2 := by show (put s x _).pw = 2; rw [q3]; exact h.p
          rw [e1] at a
          have a' : (3 * 2 ^ 2 : Int) < 2 * (s.n + 1) := a
          have := h.n
          omega)]
    have e2 : home (setS s x n) x = (x, n) :: home s x := by
      rw [e1]
      exact (home_put s x x ((x, n) :: home s x)).1 (sameB_refl s x)
    rw [e2]
    exact ⟨x, ks (home s x), rfl, fun _ => rfl⟩
theorem strs_len (l : List ByteArray) : (strs l).length = l.length := by simp [strs]
theorem strs_get {l : List ByteArray} {i : Nat} (h : i < l.length) : (strs l)[i]? = some (.string l[i]) := by simp [strs, h]
end Go.Proofs.Ytnabgcnndehaaaa
