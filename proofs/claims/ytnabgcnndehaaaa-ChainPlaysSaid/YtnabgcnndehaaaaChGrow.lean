/- Layer 9 (chain): keys in a row; how the table grows. -/
import Derived.Test.YtnabgcnndehaaaaChShown
import Derived.Laws.BytesArg
namespace Go.Proofs.Ytnabgcnndehaaaa
open Go.RowKit
set_option linter.unusedVariables false
theorem conv2 (a b : Int) (W : World) :
    (convert 26 9 (.slice (some ⟨W.heap.size, 0, none⟩) 2 2)).run Try.prog (W.alloc (.cells #[.int .u8 a, .int .u8 b] 5)) = .ok (.string (strOfNums [a, b])) (W.alloc (.cells #[.int .u8 a, .int .u8 b] 5)) :=
  run_convert_bytes_arg (P := Try.prog) _ 26 5 Try.underlying26 Try.underlying5 W.heap.size 0 2 2 [a, b] rfl
    (fun i hi => by
      rw [cell_of_heap (heap_alloc_new W _)]
      match i, hi with
      | 0, _ => rfl
      | 1, _ => rfl) 9 Try.underlying9
def key2 (c : UInt8) (a b : Nat) : ByteArray := ByteArray.mk #[c] ++ strOfNums [((97 + a : Nat) : Int), ((97 + b : Nat) : Int)]
theorem key2_list (c : UInt8) (a b : Nat) : (key2 c a b).data.toList = [c, UInt8.ofNat (97 + a), UInt8.ofNat (97 + b)] := by
  unfold key2; rw [ByteArray.data_append, Array.toList_append]; rfl
theorem key2_inj {c : UInt8} {a b a' b' : Nat} (h : key2 c a b = key2 c a' b') (ha : a < 100) (hb : b < 100) (ha' : a' < 100) (hb' : b' < 100) : a = a' ∧ b = b' := by
  have h1 := key2_list c a b
  rw [h, key2_list] at h1
  simp only [List.cons.injEq, and_true, true_and] at h1
  have e1 := congrArg UInt8.toNat h1.1
  have e2 := congrArg UInt8.toNat h1.2
  rw [UInt8.toNat_ofNat', UInt8.toNat_ofNat'] at e1 e2
  omega
theorem key2_size (c : UInt8) (a b : Nat) : (key2 c a b).size = 3 := by
  have := congrArg List.length (key2_list c a b)
  simpa using this
def keyG (i : Nat) : ByteArray := key2 107 (i / 26) (i % 26)
theorem keyG_inj {i j : Nat} (hi : i < 500) (hj : j < 500) (h : keyG i = keyG j) : i = j := by
  have := key2_inj h (by omega) (by omega) (by omega) (by omega)
  omega
/-- So many keys are set, a step behind each. -/
structure Gr (i : Nat) (s : ChS) : Prop where
  n : s.n = i
  has : ∀ k, (look s k).isSome = true → ∃ j, j < i ∧ k = keyG j
  stand : s.g = false → 2 * i ≤ 3 * 2 ^ s.pw
  grows : s.g = true → 2 * i ≤ 3 * 2 ^ (s.pw - 1) + 2 * s.m
theorem gr_start : Gr 0 ch0 := ⟨rfl, fun k h => absurd h (by show ¬ (look ch0 k).isSome = true; unfold look home; rw [if_neg (fun q => by have := q.1; cases this)]; simp [ch0, getN]), fun _ => by decide, fun h => absurd h (by decide)⟩
theorem Gr.new {i : Nat} {s : ChS} (h : Gr i s) (hi : i < 500) : look s (keyG i) = none := by
  cases e : look s (keyG i) with
  | none => rfl
  | some v =>
    obtain ⟨j, hj, hk⟩ := h.has (keyG i) (by rw [e]; rfl)
    have := keyG_inj hi (by omega) hk
    omega
theorem setS_new {s : ChS} {k : ByteArray} (n : Int) (h : look s k = none) : setS s k n = growS { put s k ((k, n) :: home s k) with n := s.n + 1 } := by unfold setS; rw [h]; rfl
theorem Gr.next {i : Nat} {s : ChS} (h : Gr i s) (hW : ChW s) (hi : i < 500) (hW2 : ChW (setS s (keyG i) i)) : Gr (i + 1) (stepS (setS s (keyG i) i)) := by
  have hnew := h.new hi
  have hl := look_set (s := s) (keyG i)
  have hn : (setS s (keyG i) i).n = i + 1 := by rw [(hl (keyG i) i).2, hnew, h.n]; rfl
  have hst := fun k => look_step hW2 k
  refine ⟨by rw [(hst (keyG i)).2, hn]; rfl, fun k q => ?_, ?_, ?_⟩
  · rw [(hst k).1, (hl k i).1] at q
    by_cases e : k = keyG i
    · exact ⟨i, by omega, e⟩
    · rw [if_neg e] at q
      obtain ⟨j, hj, hk⟩ := h.has k q
      exact ⟨j, by omega, hk⟩
  all_goals
    have e := setS_new i hnew
    obtain ⟨p1, p2, p3, p4⟩ := put_g s (keyG i) ((keyG i, (i : Int)) :: home s (keyG i))
    obtain ⟨s1, hs1⟩ : ∃ s1, ({ put s (keyG i) ((keyG i, (i : Int)) :: home s (keyG i)) with n := s.n + 1 } : ChS) = s1 := ⟨_, rfl⟩
    rw [hs1] at e
    have q1 : s1.n = i + 1 := by rw [← hs1, ← h.n]
    have q2 : s1.g = s.g := by rw [← hs1]; exact p2
    have q3 : s1.pw = s.pw := by rw [← hs1]; exact p3
    have q4 : s1.m = s.m := by rw [← hs1]; exact p4
    obtain ⟨a1, a2, a3, a4⟩ := two_pw hW.p2 hW.p20
    have hcast := pw_cast s.pw
    rw [e]
    unfold growS
    by_cases hg : s1.g = false ∧ (3 * 2 ^ s1.pw : Int) < 2 * s1.n ∧ s1.pw < 20
    · rw [if_pos hg]
      have hstand := h.stand (q2 ▸ hg.1)
      have hp : 2 ^ (s.pw + 1 - 1) = 2 ^ s.pw := rfl
      unfold stepS
      rw [if_pos rfl]
      intro hq
      first
        | (have hq' : decide (0 + 1 < 2 ^ (s1.pw + 1 - 1)) = false := hq
           have := of_decide_eq_false hq'
           rw [q3] at this
           omega)
        | (show 2 * (i + 1) ≤ 3 * 2 ^ (s1.pw + 1 - 1) + 2 * (0 + 1)
           rw [q3]
           omega)
    · rw [if_neg hg]
      by_cases hgs : s1.g = true
      · have hgr := h.grows (q2 ▸ hgs)
        have hm := hW.m (q2 ▸ hgs)
        unfold stepS
        rw [if_pos hgs]
        intro hq
        first
          | (have hq' : decide (s1.m + 1 < 2 ^ (s1.pw - 1)) = false := hq
             have := of_decide_eq_false hq'
             show 2 * (i + 1) ≤ 3 * 2 ^ s1.pw
             rw [q3, q4] at this
             rw [q3]
             omega)
          | (show 2 * (i + 1) ≤ 3 * 2 ^ (s1.pw - 1) + 2 * (s1.m + 1)
             rw [q3, q4]
             omega)
      · have hgf : s1.g = false := by cases hh : s1.g with | false => rfl | true => exact absurd hh hgs
        rw [stepS_no hgf]
        intro hq
        first
          | (rw [hgf] at hq; cases hq; done)
          | (rw [q3]
             have hstand := h.stand (q2 ▸ hgf)
             by_cases hp : s.pw < 20
             · have hno : ¬ (3 * 2 ^ s1.pw : Int) < 2 * s1.n := fun q => hg ⟨hgf, q, by rw [q3]; exact hp⟩
               rw [q3, q1] at hno
               omega
             · have : s.pw = 20 := by have := hW.p20; omega
               rw [this]
               omega)
theorem Gr.room {i : Nat} {s : ChS} (h : Gr i s) (hW : ChW s) : 2 * i ≤ 3 * 2 ^ s.pw := by
  obtain ⟨a1, a2, a3, a4⟩ := two_pw hW.p2 hW.p20
  cases hg : s.g with
  | false => exact h.stand hg
  | true => have := h.grows hg; have := hW.m hg; omega
/-- So many steps are done. -/
structure En (n : Int) (M j : Nat) (s : ChS) : Prop where
  n : s.n = n
  p : 2 ^ (s.pw - 1) = M
  m : s.g = true → j ≤ s.m
theorem stepS_pw (s : ChS) : (stepS s).pw = s.pw := by unfold stepS; split <;> rfl
theorem stepS_n (s : ChS) : (stepS s).n = s.n := by unfold stepS; split <;> rfl
theorem En.next {n : Int} {M j : Nat} {s : ChS} (h : En n M j s) (hg : s.g = true) : En n M (j + 1) (stepS s) :=
  ⟨(stepS_n s).trans h.n, by rw [stepS_pw]; exact h.p, fun _ => by have := h.m hg; unfold stepS; rw [if_pos hg]; show j + 1 ≤ s.m + 1; omega⟩
theorem En.done {n : Int} {M j : Nat} {s : ChS} (h : En n M j s) (hW : ChW s) (hj : M ≤ j) : s.g = false := by
  cases hg : s.g with
  | false => rfl
  | true => have a := h.m hg; have b := hW.m hg; rw [h.p] at b; omega
theorem movedS_no {s : ChS} (h : s.g = false) : movedS s = -1 := by unfold movedS; rw [h]; rfl
theorem movedS_yes {s : ChS} (h : s.g = true) : movedS s = s.m := by unfold movedS; rw [h]; rfl
end Go.Proofs.Ytnabgcnndehaaaa
