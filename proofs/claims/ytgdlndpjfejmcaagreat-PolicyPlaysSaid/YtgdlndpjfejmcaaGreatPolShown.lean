/- Layer 15 (policy): what must be in any case. -/
import Derived.Test.YtgdlndpjfejmcaaGreatPolSep
import Derived.Deep.CutBlock
import Derived.Deep.DeepCutAuto
namespace Go.Proofs.YtgdlndpjfejmcaaGreat
open Go.RowKit
set_option linter.unusedVariables false
set_option maxRecDepth 100000
def shP (n : Nat) : Nat → PK
  | 0 => PK.new n
  | 1 => (PK.new n).ins 1 1
  | 2 => ((PK.new n).ins 1 1).ins 2 2
  | 3 => (((PK.new n).ins 1 1).ins 2 2).tou 1
  | _ => ((((PK.new n).ins 1 1).ins 2 2).tou 1).vicS
theorem shF (n : Nat) (hn : n < 2) : (shP n 0).insB 1 = true ∧ (shP n 1).insB 2 = true ∧ (shP n 2).touB 1 = true ∧ (shP n 3).vicI 3 = 2 ∧ (shP n 4).len = 2 ∧ (shP n 4).hasB 1 = true ∧ (shP n 3).cost ≤ 5 ∧ (shP n 0).fit ∧ (shP n 1).fit := by
  match n, hn with
  | 0, _ => exact ⟨by kernel_rfl, by kernel_rfl, by kernel_rfl, by kernel_rfl, by kernel_rfl, by kernel_rfl, by decide, trivial, trivial⟩
  | 1, _ => exact ⟨by kernel_rfl, by kernel_rfl, by kernel_rfl, by kernel_rfl, by kernel_rfl, by kernel_rfl, by decide, trivial, trivial⟩
theorem shown_any (w : World) :
    Calls Tryz.prog 4 #[] w fun e w' => e = .returned (.bool true) ∧ Below w.heap.size w w' := by
  go_enter Tryz.func4, Tryz.ntmps4
  go_wp2_with fail
  go_loopw [1, 2] (fun s _ wr => ∃ (n : Nat), n ≤ 2 ∧ s = .int .i64 n ∧ Fr (fun b => w.heap.size ≤ b) w wr) (fun s _ _ => 2 - (intOf s).toNat)
  case atStart => exact ⟨0, by omega, rfl, Fr.refl _ _⟩
  case round =>
    obtain ⟨n, hn, rfl, hF⟩ := hrel
    have HW := Lib.hid hF
    clear hF
    by_cases hlt : n < 2
    · obtain ⟨f1, f2, f3, f4, f5, f6, f7, f8, f9⟩ := shF n hlt
      have HS := Lib.hid (And.intro f1 (And.intro f2 (And.intro f3 (And.intro f4 (And.intro f5 (And.intro f6 (And.intro f7 (And.intro f8 f9))))))))
      clear f1 f2 f3 f4 f5 f6 f7 f8 f9
      go_wp2_with fail
      refine (new_pks (w0 := w) n (by omega) HW.out).mono ?_
      rintro e w1 ⟨p, S, rfl, h, _, _⟩
      have H0 := Lib.hid (show Sep (PKs p (shP n 0) 0 0) w w1 S from h)
      clear h
      go_wp2_with fail
      refine (insert_pks H0.out 1 1 (by omega) (by omega) HS.out.2.2.2.2.2.2.2.1).mono ?_
      rintro e w2 ⟨rfl, h, _⟩
      have H1 := Lib.hid (show Sep (PKs p (shP n 1) 1 0) w w2 (grow S w1 w2) from h)
      clear h
      rw [HS.out.1]
      go_wp2_with fail
      refine (insert_pks H1.out 2 2 (by omega) (by omega) HS.out.2.2.2.2.2.2.2.2).mono ?_
      rintro e w3 ⟨rfl, h, _⟩
      have H2 := Lib.hid (show Sep (PKs p (shP n 2) 2 0) w w3 _ from h)
      clear h
      rw [HS.out.2.1]
      go_wp2_with fail
      refine (touch_pks H2.out 1 (by omega)).mono ?_
      rintro e w4 ⟨rfl, h, _⟩
      have H3 := Lib.hid (show Sep (PKs p (shP n 3) 3 0) w w4 _ from h)
      clear h
      rw [HS.out.2.2.1]
      go_wp2_with fail
      refine (victim_pks H3.out 3 (by have := HS.out.2.2.2.2.2.2.1; omega)).mono ?_
      rintro e w5 ⟨rfl, h, _⟩
      have H4 := Lib.hid (show Sep (PKs p (shP n 4) (3 + (shP n 3).cost) 0) w w5 _ from h)
      clear h
      rw [HS.out.2.2.2.1]
      go_wp2_with fail
      refine (len_pks H4.out (by have := HS.out.2.2.2.2.2.2.1; omega)).mono ?_
      rintro e w6 ⟨rfl, j6, rfl, h⟩
      have H5 := Lib.hid h
      clear h
      rw [HS.out.2.2.2.2.1]
      go_wp2_with fail
      refine (has_pks H5.out 1).mono ?_
      rintro e w7 ⟨rfl, j7, rfl, h⟩
      have H6 := Lib.hid h
      clear h
      rw [HS.out.2.2.2.2.2.1]
      go_wp2_with fail
      go_roundw
      case rel => exact ⟨n + 1, by omega, by go_num, H4.out.fr.drewN _⟩
      case measure => simp [intOf]; omega
    · go_wp2_with fail
      refine (pol_new_no 4 (by omega) wr).mono ?_
      rintro e w1 ⟨rfl, rfl⟩
      go_wp2_with fail
      refine (pol_new_no (-1) (by omega) wr).mono ?_
      rintro e w1 ⟨rfl, rfl⟩
      go_wp2
      go_ret
      exact ⟨rfl, HW.out.below (Nat.le_refl _) fun b _ q => q⟩
end Go.Proofs.YtgdlndpjfejmcaaGreat
