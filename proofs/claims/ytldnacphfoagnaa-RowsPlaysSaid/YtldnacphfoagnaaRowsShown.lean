/- Layer 10: what must be in any case. -/
import Derived.Test.YtldnacphfoagnaaRowsOwn
namespace Go.Proofs.Ytldnacphfoagnaa
open Go.RowKit
set_option linter.unusedVariables false
set_option maxRecDepth 100000 in
set_option maxHeartbeats 2000000 in
theorem shown_any (w : World) :
    Calls Try.prog 8 #[] w fun e w' => e = .returned (.bool true) ∧ Fr (fun _ => False) w w' := by
  go_enter Try.func8, Try.ntmps8
  go_wp2_with fail
  refine (new_ro (w0 := w) 2 (by decide) (by decide) (Fr.refl _ _)).mono ?_
  rintro e w1 ⟨g, rfl, h⟩
  have H := Lib.hid h
  clear h
  go_wp2_with fail
  refine (front_ro H.out 0 5 (by decide)).mono ?_
  rintro e w1 ⟨rfl, h⟩
  have H1 := Lib.hid h
  clear h H
  rw [show mayIn 2 0 5 = true from rfl]
  go_wp2_with fail
  refine (front_ro H1.out 0 6 (by decide)).mono ?_
  rintro e w2 ⟨rfl, h⟩
  have H2 := Lib.hid h
  clear h H1
  rw [show mayIn 2 0 6 = true from rfl]
  go_wp2_with fail
  refine (back_ro H2.out 0 7 (by decide)).mono ?_
  rintro e w3 ⟨rfl, h⟩
  have H3 := Lib.hid h
  clear h H2
  rw [show mayIn 2 0 7 = true from rfl]
  go_wp2_with fail
  refine (front_ro H3.out 1 5 (by decide)).mono ?_
  rintro e w4 ⟨rfl, h⟩
  have H4 := Lib.hid h
  clear h H3
  rw [show mayIn 2 1 5 = true from rfl]
  go_wp2_with fail
  refine (all_ro H4.out 0 (by decide)).mono ?_
  rintro e w5 ⟨v, rfl, hs, h, _⟩
  have H5 := Lib.hid h
  have hl : rowL (frontL 2 (backL 2 (frontL 2 (frontL 2 (fun _ => []) 0 5) 0 6) 0 7) 1 5) 0 = [6, 7] := by decide
  have hrow : rowOf 2 (frontL 2 (backL 2 (frontL 2 (frontL 2 (fun _ => []) 0 5) 0 6) 0 7) 1 5) 5 = 1 := by decide
  have HR := Lib.hid hrow
  rw [hl] at hs
  obtain ⟨b, off, cap, rfl, c0, c1⟩ := hs.two
  clear h H4 hs hl hrow
  go_wp2_with fail
  refine (row_ro H5.out 5).mono ?_
  rintro e w6 ⟨rfl, rfl⟩
  rw [HR.out]
  go_wp2_with fail
  refine (take_ro H5.out 5 (by decide)).mono ?_
  rintro e w7 ⟨rfl, h⟩
  have H7 := Lib.hid h
  clear h
  rw [HR.out]
  have hrow : rowOf 2 (del (frontL 2 (backL 2 (frontL 2 (frontL 2 (fun _ => []) 0 5) 0 6) 0 7) 1 5) 5) 5 = -1 := by decide
  have HR7 := Lib.hid hrow
  clear hrow
  go_wp2_with fail
  refine (take_ro H7.out 5 (by decide)).mono ?_
  rintro e w8 ⟨rfl, h⟩
  have H8 := Lib.hid h
  clear h
  rw [HR7.out]
  go_wp2
  go_ret
  exact ⟨rfl, H8.out.fr.mono fun k hk q => by unfold From at q; omega⟩
end Go.Proofs.Ytldnacphfoagnaa
