/- Layer 15 (policy): each call hands on to the kind. -/
import Derived.Test.YtgdlndpjfejmcaaGreatPlain
import Derived.Deep.RegionHeld3
import Derived.WalkSpells
import Derived.WalkLawsBesides
import Derived.Deep.QuietTactic
import Derived.BigQuiet
namespace Go.Proofs.YtgdlndpjfejmcaaGreat
open Go.RowKit
set_option linter.unusedVariables false
set_option maxRecDepth 100000
/-- A call of a method goes to a function. -/
def Goes (T : TypeId) (x : Value) (name : String) (F : FuncId) (recv : Value) (w : World) : Prop := (∀ D, (method (D + 1) T x name).run Tryz.prog w = .ok (F, recv) w) ∧ ∀ av, (callFunc F av).run Tryz.prog w = .ok (.enter F av) w
section
variable (p T F : Nat) (x recv : Value) (w : World) (Q : Ending → World → Prop) (hc : w.cell? ⟨p, 0, none⟩ = some (.iface T x))
include hc
theorem pol_insert (id hh : Int) (hm : Goes T x "Insert" F recv w) (hC : Calls Tryz.prog F #[recv, .int .i64 id, .int .u64 hh] w fun e w' => ∃ v, e = .returned v ∧ Q e w') :
    Calls Tryz.prog 7 #[.pointer (some ⟨p, 0, none⟩), .int .i64 id, .int .u64 hh] w Q := by
  obtain ⟨hm, hf⟩ := hm
  go_enter Tryz.func7, Tryz.ntmps7
  go_wp2_with fail
  refine hC.mono ?_
  rintro e w1 ⟨v, rfl, hQ⟩
  go_wp2
  exact hQ
theorem pol_touch (id : Int) (hm : Goes T x "Touch" F recv w) (hC : Calls Tryz.prog F #[recv, .int .i64 id] w fun e w' => ∃ v, e = .returned v ∧ Q e w') :
    Calls Tryz.prog 9 #[.pointer (some ⟨p, 0, none⟩), .int .i64 id] w Q := by
  obtain ⟨hm, hf⟩ := hm
  go_enter Tryz.func9, Tryz.ntmps9
  go_wp2_with fail
  refine hC.mono ?_
  rintro e w1 ⟨v, rfl, hQ⟩
  go_wp2
  exact hQ
theorem pol_remove (id : Int) (hm : Goes T x "Remove" F recv w) (hC : Calls Tryz.prog F #[recv, .int .i64 id] w fun e w' => ∃ v, e = .returned v ∧ Q e w') :
    Calls Tryz.prog 11 #[.pointer (some ⟨p, 0, none⟩), .int .i64 id] w Q := by
  obtain ⟨hm, hf⟩ := hm
  go_enter Tryz.func11, Tryz.ntmps11
  go_wp2_with fail
  refine hC.mono ?_
  rintro e w1 ⟨v, rfl, hQ⟩
  go_wp2
  exact hQ
theorem pol_evict (id : Int) (hm : Goes T x "Evict" F recv w) (hC : Calls Tryz.prog F #[recv, .int .i64 id] w fun e w' => ∃ v, e = .returned v ∧ Q e w') :
    Calls Tryz.prog 13 #[.pointer (some ⟨p, 0, none⟩), .int .i64 id] w Q := by
  obtain ⟨hm, hf⟩ := hm
  go_enter Tryz.func13, Tryz.ntmps13
  go_wp2_with fail
  refine hC.mono ?_
  rintro e w1 ⟨v, rfl, hQ⟩
  go_wp2
  exact hQ
theorem pol_victim (hh : Int) (hm : Goes T x "Victim" F recv w) (hC : Calls Tryz.prog F #[recv, .int .u64 hh] w fun e w' => ∃ v, e = .returned v ∧ Q e w') :
    Calls Tryz.prog 18 #[.pointer (some ⟨p, 0, none⟩), .int .u64 hh] w Q := by
  obtain ⟨hm, hf⟩ := hm
  go_enter Tryz.func18, Tryz.ntmps18
  go_wp2_with fail
  refine hC.mono ?_
  rintro e w1 ⟨v, rfl, hQ⟩
  go_wp2
  exact hQ
theorem pol_cap (n : Int) (hm : Goes T x "Cap" F recv w) (hC : Calls Tryz.prog F #[recv, .int .i64 n] w fun e w' => e = .returned (.tuple #[]) ∧ Q e w') :
    Calls Tryz.prog 15 #[.pointer (some ⟨p, 0, none⟩), .int .i64 n] w Q := by
  obtain ⟨hm, hf⟩ := hm
  go_enter Tryz.func15, Tryz.ntmps15
  go_wp2_with fail
  refine hC.mono ?_
  rintro e w1 ⟨rfl, hQ⟩
  go_wp2
  go_end0
  exact hQ
theorem pol_len (g : Nat) (hm : ∀ D k, (method (D + 1) T x "Len").run Tryz.prog (w.drewN k) = .ok (83, .pointer (some ⟨g, 0, none⟩)) (w.drewN k)) (f : Int → Nat) (hC : ∀ k row, Calls Tryz.prog 83 #[.pointer (some ⟨g, 0, none⟩), .int .i64 row] (w.drewN k) fun e w' => e = .returned (.int .i64 (f row)) ∧ w' = w.drewN k) (hn : f 0 + f 1 + f 2 ≤ 4000000) (hQ : ∀ k, Q (.returned (.int .i64 (f 0 + f 1 + f 2 : Nat))) (w.drewN k)) :
    Calls Tryz.prog 19 #[.pointer (some ⟨p, 0, none⟩)] w Q := by
  obtain ⟨n0, h0⟩ : ∃ n, f 0 = n := ⟨_, rfl⟩
  obtain ⟨n1, h1⟩ : ∃ n, f 1 = n := ⟨_, rfl⟩
  obtain ⟨n2, h2⟩ : ∃ n, f 2 = n := ⟨_, rfl⟩
  rw [h0, h1, h2] at hn hQ
  go_enter Tryz.func19, Tryz.ntmps19
  go_wp2_with fail
  go_quiet ((go_at_call 83; exact Calls.quiet_of_same (hC _ _)))
  rw [h0, h1, h2]
  go_wp2
  have := hQ nq
  rw [show ((n0 + n1 + n2 : Nat) : Int) = (n0 : Int) + n1 + n2 from by omega] at this
  exact this
theorem pol_has (g : Nat) (id r : Int) (hm : ∀ D k, (method (D + 1) T x "Row").run Tryz.prog (w.drewN k) = .ok (84, .pointer (some ⟨g, 0, none⟩)) (w.drewN k)) (hC : ∀ k, Calls Tryz.prog 84 #[.pointer (some ⟨g, 0, none⟩), .int .i64 id] (w.drewN k) fun e w' => e = .returned (.int .i64 r) ∧ w.drewN k = w') (hQ : ∀ k, Q (.returned (.bool (decide (0 ≤ r)))) (w.drewN k)) :
    Calls Tryz.prog 21 #[.pointer (some ⟨p, 0, none⟩), .int .i64 id] w Q := by
  have hm0 := fun D => hm D 0
  have hC0 := hC 0
  have hQ0 := hQ 0
  rw [World.drewN_zero] at hm0 hC0 hQ0
  go_enter Tryz.func21, Tryz.ntmps21
  go_wp2_with fail
  refine hC0.mono ?_
  rintro e w1 ⟨rfl, rfl⟩
  go_wp2
  exact hQ0
end
end Go.Proofs.YtgdlndpjfejmcaaGreat
