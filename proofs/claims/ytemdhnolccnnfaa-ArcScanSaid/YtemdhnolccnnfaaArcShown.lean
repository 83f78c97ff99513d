/- Layer 13 (arc): laws on two rows; what must be in any case. -/
import Derived.Test.YtemdhnolccnnfaaArcSep
namespace Go.Proofs.Ytemdhnolccnnfaa
open Go.RowKit
set_option linter.unusedVariables false
def sh1 : ArcS := capA arc0 2
def sh2 : ArcS := insA sh1 1 11
def sh3 : ArcS := insA sh2 2 12
def sh4 : ArcS := evictA sh3 1
def sh5 : ArcS := insA sh4 3 11
set_option maxRecDepth 20000 in
theorem sh_facts : insOk sh1 1 = true ∧ insOk sh2 2 = true ∧ victA sh3 13 = 1 ∧ decide (0 ≤ rowOf 2 sh3.L 1) = true ∧ insOk sh4 3 = true ∧ sh5.P = 1 ∧ victA sh5 14 = 3 := by decide
set_option maxRecDepth 20000 in
theorem sh_P : sh1.P = 0 ∧ sh2.P = 0 ∧ sh4.P = 0 := by decide
set_option maxRecDepth 100000 in
set_option maxHeartbeats 2000000 in
theorem shown_any (w : World) :
    Calls Try.prog 4 #[] w fun e w' => e = .returned (.bool true) ∧ Fr (fun _ => False) w w' := by
  have HS := Lib.hid sh_facts
  have HP := Lib.hid sh_P
  go_enter Try.func4, Try.ntmps4
  go_wp2_with fail
  refine (new_ar (w0 := w) (Fr.refl _ _)).mono ?_
  rintro e w1 ⟨p, S, rfl, h, _, _⟩
  have H1 := Lib.hid h
  clear h
  go_wp2_with fail
  refine (cap_ar H1.out 2 (by omega)).mono ?_
  rintro e w2 ⟨rfl, h, _⟩
  have H2 := Lib.hid h
  clear h
  go_wp2_with fail
  refine (insert_ar (s := sh1) H2.out 1 11 (by omega) (by omega) (by rw [HP.out.1]; omega)).mono ?_
  rintro e w3 ⟨rfl, h, _⟩
  have H3 := Lib.hid h
  clear h
  rw [HS.out.1]
  go_wp2_with fail
  refine (insert_ar (s := sh2) H3.out 2 12 (by omega) (by omega) (by rw [HP.out.2.1]; omega)).mono ?_
  rintro e w4 ⟨rfl, h, _⟩
  have H4 := Lib.hid h
  clear h
  rw [HS.out.2.1]
  go_wp2_with fail
  refine (victim_ar (s := sh3) H4.out 13).mono ?_
  rintro e w5 ⟨q5, rfl, rfl, h⟩
  have H5 := Lib.hid h
  clear h
  rw [HS.out.2.2.1]
  go_wp2_with fail
  refine (evict_ar H5.out 1 (by omega) (by omega)).mono ?_
  rintro e w6 ⟨rfl, h, _⟩
  have H6 := Lib.hid h
  clear h
  rw [HS.out.2.2.2.1]
  go_wp2_with fail
  refine (insert_ar (s := sh4) H6.out 3 11 (by omega) (by omega) (by rw [HP.out.2.2]; omega)).mono ?_
  rintro e w7 ⟨rfl, h, _⟩
  have H7 := Lib.hid h
  clear h
  rw [HS.out.2.2.2.2.1]
  go_wp2_with fail
  refine (target_ar (s := sh5) H7.out).mono ?_
  rintro e w8 ⟨rfl, rfl⟩
  rw [HS.out.2.2.2.2.2.1]
  go_wp2_with fail
  refine (victim_ar (s := sh5) H7.out 14).mono ?_
  rintro e w9 ⟨q9, rfl, rfl, h⟩
  have H9 := Lib.hid h
  clear h
  rw [HS.out.2.2.2.2.2.2]
  go_wp2
  go_ret
  exact ⟨rfl, H9.out.fr.mono fun k hk q => by unfold From at q; omega⟩
end Go.Proofs.Ytemdhnolccnnfaa
