/- TopPipes: a town of one connection. -/
import Derived.Test.YtejebgdikoehmaaGreatDoorPiL
namespace Go.Proofs.YtejebgdikoehmaaGreatDoor
open Go Go.RowKit
set_option linter.unusedVariables false
set_option linter.unusedSimpArgs false
def NAt (kind : Nat) (w0 : World) (sb : Nat) (w : World) : Prop := ∃ σ, WF σ (lookP (nP kind)) 1000 w ∧ σ 2 = some sb ∧ Fr (fun _ => False) w0 w ∧ ∀ b, owns σ (lookP (nP kind)) b → w0.heap.size ≤ b
theorem tP_look (kind : Nat) : lookP (tP kind) = pH 0 kind ⟨0, 0, 0⟩ := by
  funext i
  unfold tP pH
  rw [lookP_append]
  rfl
theorem works_fn : ∃ c, Tryz.f6.body = some c := ⟨_, rfl⟩
theorem new_fn : ∃ c, Tryz.f14.body = some c := ⟨_, rfl⟩
theorem open_fn : ∃ c, Tryz.f15.body = some c := ⟨_, rfl⟩
set_option maxRecDepth 100000 in
theorem works_call (w : World) : Calls Tryz.prog 6 #[] w fun e w' => e = .returned (.bool true) ∧ Fr (fun _ => False) w w' := by
  obtain ⟨c, hc⟩ := works_fn
  have := call1_sound (σ := rn0 undef) (H := lookP []) pip_works (wf0 _ w) (fun i o h => h) .nil
  refine (calls_of_upon Tryz.func6 hc (by kernel_rfl) this).mono ?_
  rintro e w' ⟨v, rfl, σ', h1, h2, h3, _⟩
  cases h2
  exact ⟨rfl, h3.mono fun b _ h => (owns0 h).elim⟩
set_option maxRecDepth 100000 in
theorem new_call (w : World) {m : Nat} (hm : m < 4) : Calls Tryz.prog 14 #[.agg #[.int .i64 1, .int .i64 512, .int .i64 200, .int .i64 m], .int .i64 4, .int .i64 4, .int .i64 5] w fun e w' => ∃ sb, e = .returned (.tuple #[.pointer (some ⟨sb, 0, none⟩), .int .i64 0]) ∧ NAt m w sb w' := by
  obtain ⟨c, hc⟩ := new_fn
  have hk : ∃ l, callOk2 14 [.agg ⟨[.int .i64 1, .int .i64 512, .int .i64 200, .int .i64 m]⟩, .int .i64 4, .int .i64 4, .int .i64 5] [] (.pointer (some ⟨2, 0, none⟩)) (.int .i64 0) (nP m) l = true := by
    rcases four hm with rfl | rfl | rfl | rfl
    · exact ⟨_, pip_new0⟩
    · exact ⟨_, pip_new1⟩
    · exact ⟨_, pip_new2⟩
    · exact ⟨_, pip_new3⟩
  obtain ⟨l, hk⟩ := hk
  have := call2_sound (σ := rn0 undef) (H := lookP []) hk (wf0 _ w) (fun i o h => h) (args' := [.agg #[.int .i64 1, .int .i64 512, .int .i64 200, .int .i64 m], .int .i64 4, .int .i64 4, .int .i64 5]) (.cons (VR.of_plain rfl) (.cons (.int _ _) (.cons (.int _ _) (.cons (.int _ _) .nil))))
  refine (calls_of_upon Tryz.func14 hc (by kernel_rfl) this).mono ?_
  rintro e w' ⟨v, rfl, σ', h1, ⟨v1, v2, rfl, h3, h4⟩, h5, h6, _⟩
  cases h4
  cases h3 with
  | ptr q =>
    refine ⟨_, rfl, σ', h1, q, h5.mono fun b _ h => (owns0 h).elim, fun b hb => ?_⟩
    rcases h6 b hb with h | h
    · exact (owns0 h).elim
    · exact h
set_option maxRecDepth 100000 in
theorem open_call {w0 W : World} {m sb : Nat} (hm : m < 4) (h : NAt m w0 sb W) : Calls Tryz.prog 15 #[.pointer (some ⟨sb, 0, none⟩)] W fun e W' => e = .returned (.int .i64 0) ∧ PAt 0 m w0 sb ⟨0, 0, 0⟩ W' := by
  obtain ⟨c, hc⟩ := open_fn
  obtain ⟨σ, h1, h2, h3, h4⟩ := h
  have hk : ∃ l, callOk1 15 [.pointer (some ⟨2, 0, none⟩)] (nP m) (.int .i64 0) (tP m) l = true ∧ 2 ∉ srcs l := by
    rcases four hm with rfl | rfl | rfl | rfl
    · exact ⟨_, pip_open0, by decide⟩
    · exact ⟨_, pip_open1, by decide⟩
    · exact ⟨_, pip_open2, by decide⟩
    · exact ⟨_, pip_open3, by decide⟩
  obtain ⟨l, hk, hl⟩ := hk
  have := call1_sound hk h1 (fun i o h => h) (args' := [.pointer (some ⟨sb, 0, none⟩)]) (.cons (.ptr (a := ⟨2, 0, none⟩) h2) .nil)
  refine (calls_of_upon Tryz.func15 hc (by kernel_rfl) this).mono ?_
  rintro e w' ⟨v, rfl, σ', g1, g2, g3, g4, g5⟩
  cases g2
  rw [tP_look] at g1 g4
  exact ⟨rfl, PAt.step h3 h4 g3 g1 g4 (g5 2 sb hl h2)⟩
theorem town_call (w : World) (kind : Int) : Calls Tryz.prog 7 #[.int .i64 4, .int .i64 1, .int .i64 1, .int .i64 kind] w fun e w' => ∃ sb m, m < 4 ∧ e = .returned (.pointer (some ⟨sb, 0, none⟩)) ∧ PAt 0 m w sb ⟨0, 0, 0⟩ w' := by
  obtain ⟨m, hm, hmb⟩ := and_mask kind 3 (by decide)
  have hm' : bits .and .i64 kind 3 = m := hm
  clear hm
  go_enter Tryz.func7, Tryz.ntmps7
  go_wp2_with fail
  refine (new_call w (m := m) (by omega)).mono ?_
  rintro e w1 ⟨sb, rfl, h⟩
  have H := Lib.hid h
  clear h
  go_wp2_with fail
  go_loopw [11] (fun i wr => (i = .int .i64 0 ∧ NAt m w sb wr) ∨ (i = .int .i64 1 ∧ PAt 0 m w sb ⟨0, 0, 0⟩ wr)) (fun i _ => 1 - (intOf i).toNat)
  case atStart => exact .inl ⟨rfl, H.out⟩
  case round =>
    rcases hrel with ⟨rfl, h⟩ | ⟨rfl, h⟩
    · have H1 := Lib.hid h
      clear h
      go_wp2_with fail
      refine (open_call (by omega) H1.out).mono ?_
      rintro e w2 ⟨rfl, h⟩
      have H2 := Lib.hid h
      clear h
      go_wp2_with fail
      go_roundw
      case rel => exact .inr ⟨rfl, H2.out⟩
      case measure => decide
    · have H1 := Lib.hid h
      clear h
      go_wp2
      go_ret
      exact ⟨sb, m, by omega, rfl, H1.out⟩
end Go.Proofs.YtejebgdikoehmaaGreatDoor
