/- Layer 13 (arc): what each call does, three: Victim. -/
import Derived.Test.YtemdhnolccnnfaaArc2
import Derived.Deep.QuietTactic
import Derived.BigQuiet
namespace Go.Proofs.Ytemdhnolccnnfaa
open Go.RowKit
set_option linter.unusedVariables false
/-- Who goes for a number. -/
def victA (s : ArcS) (h : Int) : Int :=
  if s.P < (s.L 0).length ∨ (0 < (s.L 0).length ∧ ((s.L 1).length = 0 ∨ ((s.L 0).length = s.P ∧ h ∈ s.B2))) then lastOf (s.L 0) else lastOf (s.L 1)
set_option maxHeartbeats 3000000 in
theorem arc_victim (S : Nat → Prop) (p : Nat) (s : ArcS) (N M : Nat) (hh : Int) (w : World) (h : ArcAt w S p s N M) :
    Calls Try.prog 10 #[.pointer (some ⟨p, 0, none⟩), .int .u64 hh] w fun e w' => e = .returned (.int .i64 (victA s hh)) ∧ ∃ k, w' = w.drewN k := by
  obtain ⟨g, b1, b2, m, l, o, Sr, S1, S2, h⟩ := h
  have c0 := cell_of_heap h.hp 0
  have c2 := cell_of_heap h.hp 2
  have c4 := cell_of_heap h.hp 4
  simp at c0 c2 c4
  have l0 := rows_len Sr g 2 s.L N 0 w h.hR
  have l1 := rows_len Sr g 2 s.L N 1 w h.hR
  have t0 := rows_last Sr g 2 s.L N 0 w h.hR
  have t1 := rows_last Sr g 2 s.L N 1 w h.hR
  have hs := has_at S2 b2 s.m2 s.B2 M hh w h.hG2
  have hle := h.hR.len_le 0
  rw [rowL_0] at l0 t0
  rw [rowL_1] at l1 t1
  unfold victA
  obtain ⟨n0, hn0⟩ : ∃ n, (s.L 0).length = n := ⟨_, rfl⟩
  obtain ⟨n1, hn1⟩ : ∃ n, (s.L 1).length = n := ⟨_, rfl⟩
  obtain ⟨v0, hv0⟩ : ∃ v, lastOf (s.L 0) = v := ⟨_, rfl⟩
  obtain ⟨v1, hv1⟩ : ∃ v, lastOf (s.L 1) = v := ⟨_, rfl⟩
  obtain ⟨P, hP⟩ : ∃ P, s.P = P := ⟨_, rfl⟩
  rw [hn0] at l0
  rw [hn1] at l1
  rw [hv0] at t0
  rw [hv1] at t1
  rw [hn0, hn1, hv0, hv1, hP]
  rw [hP] at c4
  have HL := Lib.hid (And.intro l0 (And.intro l1 (And.intro t0 (And.intro t1 hs))))
  clear h l0 l1 t0 t1 hs hn0 hn1 hv0 hv1 hP
  by_cases h1 : P < (n0 : Int)
  · rw [if_pos (Or.inl h1)]
    clear hle
    go_enter Try.func10, Try.ntmps10
    go_wp2_with (first
      | (go_at_call 23; refine HL.out.1.mono ?_; rintro e w1 ⟨rfl, rfl⟩)
      | (go_at_call 24; refine HL.out.2.2.1.mono ?_; rintro e w1 ⟨rfl, k, rfl⟩))
    go_ret
    exact ⟨rfl, _, rfl⟩
  · by_cases h2 : 0 < n0
    · by_cases h3 : n1 = 0
      · rw [if_pos (Or.inr ⟨h2, Or.inl h3⟩)]
        subst h3
        have h2' : (0 : Int) < n0 := by omega
        have h1' : decide (P < (n0 : Int)) = false := decide_eq_false h1
        clear h1 hle
        go_enter Try.func10, Try.ntmps10
        go_wp2_with fail
        refine HL.out.1.mono ?_
        rintro e w1 ⟨rfl, rfl⟩
        go_wp2_with fail
        refine HL.out.2.1.mono ?_
        rintro e w1 ⟨rfl, rfl⟩
        go_wp2_with fail
        refine HL.out.2.2.1.mono ?_
        rintro e w1 ⟨rfl, k, rfl⟩
        go_wp2
        go_ret
        exact ⟨rfl, _, rfl⟩
      · by_cases h4 : (n0 : Int) = P
        · by_cases h5 : hh ∈ s.B2
          · rw [if_pos (Or.inr ⟨h2, Or.inr ⟨h4, h5⟩⟩)]
            have h2' : (0 : Int) < n0 := by omega
            have h3' : ((n1 : Int) == 0) = false := by simpa using h3
            have h1' : decide (P < (n0 : Int)) = false := decide_eq_false h1
            clear h1
            have hd : decide (hh ∈ s.B2) = true := decide_eq_true h5
            rw [hd] at HL
            subst h4
            clear hle h3 h5 hd
            go_enter Try.func10, Try.ntmps10
            go_wp2_with fail
            refine HL.out.1.mono ?_
            rintro e w1 ⟨rfl, rfl⟩
            go_wp2_with fail
            refine HL.out.2.1.mono ?_
            rintro e w1 ⟨rfl, rfl⟩
            go_wp2_with fail
            refine HL.out.2.2.2.2.mono ?_
            rintro e w1 ⟨rfl, rfl⟩
            go_wp2_with fail
            refine HL.out.2.2.1.mono ?_
            rintro e w1 ⟨rfl, k, rfl⟩
            go_wp2
            go_ret
            exact ⟨rfl, _, rfl⟩
          · rw [if_neg (fun q => q.elim (fun q => h1 q) (fun q => q.2.elim (fun q => h3 q) (fun q => h5 q.2)))]
            have h2' : (0 : Int) < n0 := by omega
            have h3' : ((n1 : Int) == 0) = false := by simpa using h3
            have h1' : decide (P < (n0 : Int)) = false := decide_eq_false h1
            clear h1
            have hd : decide (hh ∈ s.B2) = false := decide_eq_false h5
            rw [hd] at HL
            subst h4
            clear hle h3 h5 hd
            go_enter Try.func10, Try.ntmps10
            go_wp2_with fail
            refine HL.out.1.mono ?_
            rintro e w1 ⟨rfl, rfl⟩
            go_wp2_with fail
            refine HL.out.2.1.mono ?_
            rintro e w1 ⟨rfl, rfl⟩
            go_wp2_with fail
            refine HL.out.2.2.2.2.mono ?_
            rintro e w1 ⟨rfl, rfl⟩
            go_wp2_with fail
            refine HL.out.2.2.2.1.mono ?_
            rintro e w1 ⟨rfl, k, rfl⟩
            go_wp2
            go_ret
            exact ⟨rfl, _, rfl⟩
        · rw [if_neg (fun q => q.elim (fun q => h1 q) (fun q => q.2.elim (fun q => h3 q) (fun q => h4 q.1)))]
          have h2' : (0 : Int) < n0 := by omega
          have h3' : ((n1 : Int) == 0) = false := by simpa using h3
          have h4' : ((n0 : Int) == P) = false := by simpa using h4
          have h1' : decide (P < (n0 : Int)) = false := decide_eq_false h1
          clear h1 h4
          clear hle h3
          go_enter Try.func10, Try.ntmps10
          go_wp2_with fail
          refine HL.out.1.mono ?_
          rintro e w1 ⟨rfl, rfl⟩
          go_wp2_with fail
          refine HL.out.2.1.mono ?_
          rintro e w1 ⟨rfl, rfl⟩
          go_wp2_with fail
          refine HL.out.2.2.2.1.mono ?_
          rintro e w1 ⟨rfl, k, rfl⟩
          go_wp2
          go_ret
          exact ⟨rfl, _, rfl⟩
    · rw [if_neg (fun q => q.elim (fun q => h1 q) (fun q => h2 q.1))]
      obtain rfl : n0 = 0 := by omega
      have h1' : decide (P < (0 : Int)) = false := decide_eq_false (by simpa using h1)
      clear hle h2 h1
      go_enter Try.func10, Try.ntmps10
      go_wp2_with fail
      refine HL.out.1.mono ?_
      rintro e w1 ⟨rfl, rfl⟩
      go_wp2_with fail
      refine HL.out.2.2.2.1.mono ?_
      rintro e w1 ⟨rfl, k, rfl⟩
      go_wp2
      go_ret
      exact ⟨rfl, _, rfl⟩
end Go.Proofs.Ytemdhnolccnnfaa
