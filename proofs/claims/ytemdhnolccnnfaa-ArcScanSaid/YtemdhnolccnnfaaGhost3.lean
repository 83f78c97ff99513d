/- The functions of layer 11 (ghost), made new and listed. -/
import Derived.Test.YtemdhnolccnnfaaRows
import Derived.Test.YtemdhnolccnnfaaSl
import Derived.Test.YtemdhnolccnnfaaGhostSpec
import Derived.Test.YtemdhnolccnnfaaQuiet
import Derived.Test.YtemdhnolccnnfaaGhost
import Derived.Test.YtemdhnolccnnfaaGhost2
import Derived.WalkKit
import Derived.WalkSpells
import Derived.WalkLawsBesides
import Derived.StillTailTactics
import Derived.Deep.QuietTactic
import Derived.BigQuiet
import Derived.Deep.DeepCutAuto
namespace Go.Proofs.Ytemdhnolccnnfaa
open Go.RowKit
set_option linter.unusedVariables false

theorem live_snoc (l : List (Int × Value)) (h : Int) : ∀ (r : List Int) (f : Int), live l (r ++ [h]) f = live l r f ++ if turnIs (aget l h) (f + r.length) then [h] else []
  | [], f => by simp [live]
  | x :: r, f => by
    have ih := live_snoc l h r (f + 1)
    have e : f + ((x :: r).length : Int) = f + 1 + (r.length : Int) := by simp; omega
    rw [e]
    show live l (x :: (r ++ [h])) f = _
    unfold live
    rw [ih]
    split <;> rfl
theorem live_take (l : List (Int × Value)) (row : List Int) (f : Int) (k : Nat) (h : k < row.length) : live l (row.take (k + 1)) f = live l (row.take k) f ++ if turnIs (aget l row[k]) (f + k) then [row[k]] else [] := by
  rw [List.take_succ_eq_append_getElem h, live_snoc, List.length_take, Nat.min_eq_left (by omega)]

set_option maxHeartbeats 400000 in
theorem new_at (n : Int) (w : World) :
    Calls Try.prog 14 #[.int .i64 n] w fun e w' => ∃ g, e = .returned (.pointer (some ⟨g, 0, none⟩)) ∧ GhostAt w' (fun b => w.heap.size ≤ b ∧ b < w'.heap.size) g (max 0 n) [] 0 ∧ Fr (fun _ => False) w w' := by
  have hmm := @run_makeMap Try.prog
  have fin : ∀ (u : Int), u = max 0 n → GhostAt ((w.alloc (.map #[] 0)).alloc (.cells #[.int .i64 u, .map (some w.heap.size), .slice none 0 0, .int .i64 0] 56))
      (fun b => w.heap.size ≤ b ∧ b < ((w.alloc (.map #[] 0)).alloc (.cells #[.int .i64 u, .map (some w.heap.size), .slice none 0 0, .int .i64 0] 56)).heap.size) (w.heap.size + 1) (max 0 n) [] 0 := by
    intro u hu
    subst hu
    have h1 := heap_alloc_new (w.alloc (.map #[] 0)) (.cells #[.int .i64 (max 0 n), .map (some w.heap.size), .slice none 0 0, .int .i64 0] 56)
    rw [World.size_alloc] at h1
    refine ⟨[], [], 0, ⟨w.heap.size, .slice none 0 0, .map #[] 0, by simp, by simp <;> omega, h1, ?_, mapBlk_nil _, Sl.nil _ _ _ _, fun k v h => by cases h⟩, ⟨List.nodup_nil, fun h v hv => by cases hv⟩, rfl, by omega, by omega, by simp, by simp; omega⟩
    rw [heap_alloc_old _ (by simp), heap_alloc_new]
  have HF := Lib.hid fin
  clear fin
  rcases Int.lt_trichotomy n 0 with hn | hn | hn
  all_goals
    first | subst hn | skip
    go_enter Try.func14, Try.ntmps14
    go_wp2
    go_ret
    exact ⟨_, rfl, HF.out _ (by omega), ((Fr.refl _ w).alloc _).alloc _⟩

/-- Where the row of a ghost lies, and what its cells hold. -/
theorem all_row {w : World} {S : Nat → Prop} {T : TypeId} {v : Value} {row : List Int} (hsl : Sl w S T 1 v row.length (u64s row)) :
    ∃ a cap, v = .slice a row.length cap ∧ ∀ k (h : k < row.length), ∃ b off, a = some ⟨b, off, none⟩ ∧ b < w.heap.size ∧ w.cell? ⟨b, off + k, none⟩ = some (.int .u64 row[k]) := by
  obtain ⟨a, cap, rfl, _⟩ := hsl.shape
  refine ⟨a, cap, rfl, fun k h => ?_⟩
  obtain ⟨b, off, cap', hv, hS, hb, _, hx, _⟩ := hsl.pos (by omega)
  simp at hv
  exact ⟨b, off, hv.1, hb, by rw [hx k (by simpa [u64s] using h)]; simp [u64s, h]⟩

end Go.Proofs.Ytemdhnolccnnfaa
