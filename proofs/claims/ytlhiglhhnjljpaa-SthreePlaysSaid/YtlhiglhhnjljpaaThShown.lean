/- Layer 14 (sthree): what must be in any case. -/
import Derived.Test.YtlhiglhhnjljpaaThSep
namespace Go.Proofs.Ytlhiglhhnjljpaa
open Go.RowKit
set_option linter.unusedVariables false
def st1 : ThS := capT th0 10
def st2 : ThS := inT st1 1 11
def st3 : ThS := inT st2 2 12
def st4 : ThS := inT st3 3 13
def st5 : ThS := touchT (touchT st4 1) 1
def st6 : ThS := evT (vicT st5).1 2
def st7 : ThS := inT (vicT st6).1 4 12
theorem st_v5 : (vicT st5).2 = 2 := by kernel_rfl
theorem st_m5 : measT st5 = 3 := by kernel_rfl
theorem st_v6 : (vicT st6).2 = 1 := by kernel_rfl
theorem st_m6 : measT st6 = 1 := by kernel_rfl
theorem st_r7 : rowL st7.L 1 = [4, 1] := by kernel_rfl
theorem st_c7 : countT st7 1 = 0 := by kernel_rfl
theorem st_d : decide (0 ≤ rowOf 2 (vicT st5).1.L 2) = true := by kernel_rfl
set_option maxRecDepth 100000 in
set_option maxHeartbeats 2000000 in
theorem shown_any (w : World) :
    Calls Try.prog 4 #[] w fun e w' => e = .returned (.bool true) ∧ Fr (fun _ => False) w w' := by
  go_enter Try.func4, Try.ntmps4
  go_wp2_with fail
  refine (new_th (w0 := w) (Fr.refl _ _)).mono ?_
  rintro e w1 ⟨p, S, rfl, h, _, _⟩
  have H1 := Lib.hid h
  clear h
  go_wp2_with fail
  refine (cap_th H1.out 10 (by omega)).mono ?_
  rintro e w2 ⟨rfl, h, _⟩
  have H2 := Lib.hid h
  clear h
  go_wp2_with fail
  refine (insert_th (s := st1) H2.out 1 11 (by omega) (by omega)).mono ?_
  rintro e w3 ⟨rfl, h, _⟩
  have H3 := Lib.hid h
  clear h
  go_wp2_with fail
  refine (insert_th (s := st2) H3.out 2 12 (by omega) (by omega)).mono ?_
  rintro e w4 ⟨rfl, h, _⟩
  have H4 := Lib.hid h
  clear h
  go_wp2_with fail
  refine (insert_th (s := st3) H4.out 3 13 (by omega) (by omega)).mono ?_
  rintro e w5 ⟨rfl, h, _⟩
  have H5 := Lib.hid h
  clear h
  go_wp2_with fail
  refine (touch_th (s := st4) H5.out 1).mono ?_
  rintro e w6 ⟨rfl, h, _⟩
  have H6 := Lib.hid h
  clear h
  go_wp2_with fail
  refine (touch_th (s := touchT st4 1) H6.out 1).mono ?_
  rintro e w7 ⟨rfl, h, _⟩
  have H7 := Lib.hid h
  clear h
  go_wp2_with fail
  refine (victim_th (s := st5) H7.out (by rw [st_m5]; omega)).mono ?_
  rintro e w8 ⟨rfl, h, _⟩
  rw [st_m5] at h
  have H8 := Lib.hid h
  clear h
  rw [st_v5]
  go_wp2_with fail
  refine (evict_th H8.out 2 (by omega) (by omega)).mono ?_
  rintro e w9 ⟨rfl, h, _⟩
  have H9 := Lib.hid h
  clear h
  go_wp2_with fail
  refine (victim_th (s := st6) H9.out (by rw [st_m6]; omega)).mono ?_
  rintro e w10 ⟨rfl, h, _⟩
  rw [st_m6] at h
  have H10 := Lib.hid h
  clear h
  rw [st_v6]
  go_wp2_with fail
  refine (insert_th H10.out 4 12 (by omega) (by omega)).mono ?_
  rintro e w11 ⟨rfl, h, _⟩
  have H11 := Lib.hid h
  clear h
  obtain ⟨g, hcg, hAll, _⟩ := all_th (s := st7) H11.out (by omega)
  have HA := Lib.hid hAll
  clear hAll
  go_wp2_with fail
  refine (HA.out 1).mono ?_
  rintro e w12 ⟨v, rfl, hV, h, _⟩
  rw [st_r7] at hV
  obtain ⟨b, off, cap, rfl, hx, hy⟩ := Sl.two (x := .int .i64 4) (y := .int .i64 1) hV
  have H12 := Lib.hid h
  clear h hV hy hcg
  go_wp2_with fail
  refine (count_th H12.out 1).mono ?_
  rintro e w13 ⟨rfl, rfl⟩
  rw [st_c7]
  go_wp2
  go_ret
  exact ⟨rfl, H12.out.fr.mono fun k hk q => by unfold From at q; omega⟩
end Go.Proofs.Ytlhiglhhnjljpaa
