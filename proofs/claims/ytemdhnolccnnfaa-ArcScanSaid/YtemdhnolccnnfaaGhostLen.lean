/- Layer 11 (ghost): how many there are. -/
import Derived.Test.YtemdhnolccnnfaaRows
import Derived.Test.YtemdhnolccnnfaaSl
import Derived.Test.YtemdhnolccnnfaaGhostSpec
import Derived.Test.YtemdhnolccnnfaaQuiet
import Derived.Test.YtemdhnolccnnfaaGhost2
import Derived.WalkKit
import Derived.WalkSpells
import Derived.WalkLawsBesides
import Derived.StillTailTactics
import Derived.Deep.QuietTactic
import Derived.BigQuiet
import Derived.Deep.DeepCutAuto
namespace Go.Proofs.Ytemdhnolccnnfaa
open Go.RowKit
set_option linter.unusedVariables false

set_option maxHeartbeats 400000 in
theorem len_at (S : Nat → Prop) (g : Nat) (most : Int) (L : List Int) (N : Nat) (w : World) (hG : GhostAt w S g most L N) :
    Calls Try.prog 18 #[.pointer (some ⟨g, 0, none⟩)] w fun e w' => e = .returned (.int .i64 L.length) ∧ w = w' := by
  obtain ⟨l, row, first, ⟨m, rv, o, hSg, hSm, hg, hmo, hmb, hsl, hvs⟩, hT, hL, _⟩ := hG
  have hd := live_length hT
  rw [hL] at hd
  have HD := Lib.hid hd
  have c1 := cell_of_heap hg 1
  simp at c1
  clear hd hT hL hvs hsl
  go_enter Try.func18, Try.ntmps18
  go_wp2_with (first
    | (at_len; refine wpList_len_imap rfl _ 53 rfl 27 3 .u64 Try.underlying53 m rfl o l hmo hmb ?_))
  go_ret
  exact ⟨by rw [HD.out]; rfl, rfl⟩

end Go.Proofs.Ytemdhnolccnnfaa
