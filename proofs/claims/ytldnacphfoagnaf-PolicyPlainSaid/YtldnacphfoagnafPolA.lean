/- Layer 15 (policy): each call hands on to the kind. -/
import Derived.Test.YtldnacphfoagnafPlain
import Derived.Deep.RegionHeld3
import Derived.WalkSpells
import Derived.WalkLawsBesides
import Derived.Deep.QuietTactic
import Derived.BigQuiet
namespace Go.Proofs.Ytldnacphfoagnaf
open Go.RowKit
set_option linter.unusedVariables false
/-- A call of a method goes to a function. -/
def Goes (T : TypeId) (x : Value) (name : String) (F : FuncId) (recv : Value) (w : World) : Prop := (∀ D, (method (D + 1) T x name).run Try.prog w = .ok (F, recv) w) ∧ ∀ av, (callFunc F av).run Try.prog w = .ok (.enter F av) w
section
variable (p T F : Nat) (x recv : Value) (w : World) (Q : Ending → World → Prop) (hc : w.cell? ⟨p, 0, none⟩ = some (.iface T x))
include hc
theorem pol_insert (id hh : Int) (hm : Goes T x "Insert" F recv w) (hC : Calls Try.prog F #[recv, .int .i64 id, .int .u64 hh] w fun e w' => ∃ v, e = .returned v ∧ Q e w') :
    Calls Try.prog 10 #[.pointer (some ⟨p, 0, none⟩), .int .i64 id, .int .u64 hh] w Q := by
  obtain ⟨hm, hf⟩ := hm
  go_enter Try.func10, Try.ntmps10
  go_wp2_with fail
  refine hC.mono ?_
  rintro e w1 ⟨v, rfl, hQ⟩
  go_wp2
  exact hQ
theorem pol_touch (id : Int) (hm : Goes T x "Touch" F recv w) (hC : Calls Try.prog F #[recv, .int .i64 id] w fun e w' => ∃ v, e = .returned v ∧ Q e w') :
    Calls Try.prog 12 #[.pointer (some ⟨p, 0, none⟩), .int .i64 id] w Q := by
  obtain ⟨hm, hf⟩ := hm
  go_enter Try.func12, Try.ntmps12
  go_wp2_with fail
  refine hC.mono ?_
  rintro e w1 ⟨v, rfl, hQ⟩
  go_wp2
  exact hQ
theorem pol_remove (id : Int) (hm : Goes T x "Remove" F recv w) (hC : Calls Try.prog F #[recv, .int .i64 id] w fun e w' => ∃ v, e = .returned v ∧ Q e w') :
    Calls Try.prog 11 #[.pointer (some ⟨p, 0, none⟩), .int .i64 id] w Q := by
  obtain ⟨hm, hf⟩ := hm
  go_enter Try.func11, Try.ntmps11
  go_wp2_with fail
  refine hC.mono ?_
  rintro e w1 ⟨v, rfl, hQ⟩
  go_wp2
  exact hQ
theorem pol_evict (id : Int) (hm : Goes T x "Evict" F recv w) (hC : Calls Try.prog F #[recv, .int .i64 id] w fun e w' => ∃ v, e = .returned v ∧ Q e w') :
    Calls Try.prog 15 #[.pointer (some ⟨p, 0, none⟩), .int .i64 id] w Q := by
  obtain ⟨hm, hf⟩ := hm
  go_enter Try.func15, Try.ntmps15
  go_wp2_with fail
  refine hC.mono ?_
  rintro e w1 ⟨v, rfl, hQ⟩
  go_wp2
  exact hQ
theorem pol_victim (hh : Int) (hm : Goes T x "Victim" F recv w) (hC : Calls Try.prog F #[recv, .int .u64 hh] w fun e w' => ∃ v, e = .returned v ∧ Q e w') :
    Calls Try.prog 13 #[.pointer (some ⟨p, 0, none⟩), .int .u64 hh] w Q := by
  obtain ⟨hm, hf⟩ := hm
  go_enter Try.func13, Try.ntmps13
  go_wp2_with fail
  refine hC.mono ?_
  rintro e w1 ⟨v, rfl, hQ⟩
  go_wp2
  exact hQ
theorem pol_cap (n : Int) (hm : Goes T x "Cap" F recv w) (hC : Calls Try.prog F #[recv, .int .i64 n] w fun e w' => e = .returned (.tuple #[]) ∧ Q e w') :
    Calls Try.prog 9 #[.pointer (some ⟨p, 0, none⟩), .int .i64 n] w Q := by
  obtain ⟨hm, hf⟩ := hm
  go_enter Try.func9, Try.ntmps9
  go_wp2_with fail
  refine hC.mono ?_
  rintro e w1 ⟨rfl, hQ⟩
  go_wp2
  go_end0
  exact hQ
theorem pol_len (g : Nat) (hm : ∀ D k, (method (D + 1) T x "Len").run Try.prog (w.drewN k) = .ok (39, .pointer (some ⟨g, 0, none⟩)) (w.drewN k)) (f : Int → Nat) (hC : ∀ k row, Calls Try.prog 39 #[.pointer (some ⟨g, 0, none⟩), .int .i64 row] (w.drewN k) fun e w' => e = .returned (.int .i64 (f row)) ∧ w' = w.drewN k) (hn : f 0 + f 1 + f 2 ≤ 4000000) (hQ : ∀ k, Q (.returned (.int .i64 (f 0 + f 1 + f 2 : Nat))) (w.drewN k)) :
    Calls Try.prog 14 #[.pointer (some ⟨p, 0, none⟩)] w Q := by
  obtain ⟨n0, h0⟩ : ∃ n, f 0 = n := ⟨_, rfl⟩
  obtain ⟨n1, h1⟩ : ∃ n, f 1 = n := ⟨_, rfl⟩
  obtain ⟨n2, h2⟩ : ∃ n, f 2 = n := ⟨_, rfl⟩
  rw [h0, h1, h2] at hn hQ
  go_enter Try.func14, Try.ntmps14
  go_wp2_with fail
  go_quiet ((go_at_call 39; exact Calls.quiet_of_same (hC _ _)))
  rw [h0, h1, h2]
  go_wp2
  have := hQ nq
  rw [show ((n0 + n1 + n2 : Nat) : Int) = (n0 : Int) + n1 + n2 from by omega] at this
  exact this
theorem pol_has (g : Nat) (id r : Int) (hm : ∀ D k, (method (D + 1) T x "Row").run Try.prog (w.drewN k) = .ok (40, .pointer (some ⟨g, 0, none⟩)) (w.drewN k)) (hC : ∀ k, Calls Try.prog 40 #[.pointer (some ⟨g, 0, none⟩), .int .i64 id] (w.drewN k) fun e w' => e = .returned (.int .i64 r) ∧ w.drewN k = w') (hQ : ∀ k, Q (.returned (.bool (decide (0 ≤ r)))) (w.drewN k)) :
    Calls Try.prog 16 #[.pointer (some ⟨p, 0, none⟩), .int .i64 id] w Q := by
  have hm0 := fun D => hm D 0
  have hC0 := hC 0
  have hQ0 := hQ 0
  rw [World.drewN_zero] at hm0 hC0 hQ0
  go_enter Try.func16, Try.ntmps16
  go_wp2_with fail
  refine hC0.mono ?_
  rintro e w1 ⟨rfl, rfl⟩
  go_wp2
  exact hQ0
end
end Go.Proofs.Ytldnacphfoagnaf
