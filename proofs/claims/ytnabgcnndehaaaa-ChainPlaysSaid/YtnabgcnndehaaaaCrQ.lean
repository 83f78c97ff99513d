/- The law's step: both do the same, and answer the same. -/
import Derived.Test.YtnabgcnndehaaaaCrP
import Derived.Deep.QuietTactic
import Derived.BigQuiet
import Derived.Deep.DeepCutAuto
import Derived.Deep.RegionHeld3
namespace Go.Proofs.Ytnabgcnndehaaaa
open Go.RowKit
set_option linter.unusedVariables false
/-- The step's own cells stay. -/
def Kc (ob : Nat) (x1 : Int) (x2 : ByteArray) (z : World) (S : Nat → Prop) : Prop := ob < z.heap.size ∧ ¬ S ob ∧ z.cell? ⟨ob, 1, none⟩ = some (.int .i64 x1) ∧ z.cell? ⟨ob, 2, none⟩ = some (.string x2)
theorem Kc.step {ob : Nat} {x1 : Int} {x2 : ByteArray} {z z' : World} {S : Nat → Prop} (h : Kc ob x1 x2 z S) (hF : Fr S z z') : Kc ob x1 x2 z' (grow S z z') :=
  ⟨Nat.lt_of_lt_of_le h.1 hF.size, fun q => q.elim h.2.1 (fun q => by have := h.1; have := q.1; omega), (hF.cell (p := ⟨ob, 1, none⟩) h.1 h.2.1).trans h.2.2.1, (hF.cell (p := ⟨ob, 2, none⟩) h.1 h.2.1).trans h.2.2.2⟩
set_option maxRecDepth 100000 in
set_option maxHeartbeats 8000000 in
theorem does_ok {w0 w : World} {S : Nat → Prop} {t u : Nat} {s : ChS} {k : Nat} (h : Sep (Bo t u s s) w0 w S) (hP : Pl k s) (hk : k ≤ 900) (x0 x1 : Int) (x2 : ByteArray) (hx : x2.size ≤ 300) :
    Calls Try.prog 22 #[.pointer (some ⟨t, 0, none⟩), .pointer (some ⟨u, 0, none⟩), .agg #[.int .i64 x0, .int .i64 x1, .string x2]] w fun e w' => e = .returned (.bool true) ∧ ∃ s' S', Sep (Bo t u s' s') w0 w' S' ∧ Pl (k + 1) s' := by
  have HS := Lib.hid (And.intro hP (show k ≤ 1000 by omega))
  have HX := Lib.hid hx
  have HH := Lib.hid h
  clear h hP hk hx
  go_enter Try.func22, Try.ntmps22
  go_upto_region 1 with fail
  obtain ⟨ob, hob⟩ : ∃ ob, w.heap.size = ob := ⟨_, rfl⟩
  have hB2 : Sep (Bo t u s s) w0 (w.alloc (.cells #[.int .i64 x0, .int .i64 x1, .string x2] 49)) S := sep_fr (bo_frm _ _ _ _) HH.out ((Fr.refl _ w).alloc _)
  have e0 : (w.alloc (.cells #[.int .i64 x0, .int .i64 x1, .string x2] 49)).cell? ⟨w.heap.size, 0, none⟩ = some (.int .i64 x0) := by simp
  have e1 : (w.alloc (.cells #[.int .i64 x0, .int .i64 x1, .string x2] 49)).cell? ⟨w.heap.size, 1, none⟩ = some (.int .i64 x1) := by simp
  have e2 : (w.alloc (.cells #[.int .i64 x0, .int .i64 x1, .string x2] 49)).cell? ⟨w.heap.size, 2, none⟩ = some (.string x2) := by simp
  have hsz : ob < (w.alloc (.cells #[.int .i64 x0, .int .i64 x1, .string x2] 49)).heap.size := by simp; omega
  have hnS : ¬ S ob := fun g => by have := HH.out.hi _ g; omega
  have hwob : w0.heap.size ≤ ob := by have := HH.out.fr.size; omega
  rw [hob] at e0 e1 e2 ⊢
  obtain ⟨wo, hwo⟩ : ∃ wo, w.alloc (.cells #[.int .i64 x0, .int .i64 x1, .string x2] 49) = wo := ⟨_, rfl⟩
  rw [hwo] at hB2 e0 e1 e2 hsz ⊢
  have HB := Lib.hid (And.intro hB2 (show Kc ob x1 x2 wo S from ⟨hsz, hnS, e1, e2⟩))
  have hP0 : wo.drew.cell? ⟨ob, 1, none⟩ = some (.int .i64 x1) ∧ wo.drew.cell? ⟨ob, 2, none⟩ = some (.string x2) := ⟨e1, e2⟩
  clear hB2 hsz hnS hwo hob HH
  by_cases h1 : x0 = 1
  · subst h1
    go_wp2_with fail
    refine (bo_set1 HB.out.1 x2 x1 HX.out HS.out.1 HS.out.2).mono ?_
    rintro e z1 ⟨rfl, h, hF⟩
    have hK := HB.out.2.step hF
    have f1 := hK.2.2.1
    have f2 := hK.2.2.2
    have Z1 := Lib.hid (And.intro h hK)
    clear h hF hK e1 e2 hP0
    go_wp2_with fail
    refine (bo_set2 Z1.out.1 x2 x1 HX.out HS.out.1 HS.out.2).mono ?_
    rintro e z2 ⟨rfl, h, hF⟩
    have Z2 := Lib.hid h
    clear h hF
    go_wp2_with fail
    go_ret
    exact ⟨rfl, _, _, Z2.out, HS.out.1.set (bo_w HB.out.1).1 HX.out x1 (bo_w Z2.out).1⟩
  · have h1b : (x0 == 1) = false := by simpa using h1
    clear h1
    by_cases h2 : x0 = 2
    · subst h2
      obtain ⟨lv, hlv⟩ : ∃ v, look s x2 = v := ⟨_, rfl⟩
      have HLV := Lib.hid hlv
      clear hlv
      go_wp2_with fail
      refine (bo_get1 HB.out.1 x2 HX.out).mono ?_
      rintro e z1 ⟨rfl, q1, rfl, h⟩
      rw [HLV.out]
      have Z1 := Lib.hid h
      have f2 : (wo.drewN q1).cell? ⟨ob, 2, none⟩ = some (.string x2) := e2
      clear h
      go_wp2_with fail
      refine (bo_get2 Z1.out x2 HX.out HS.out.1 HS.out.2).mono ?_
      rintro e z2 ⟨rfl, q2, rfl, h⟩
      rw [HLV.out]
      have Z2 := Lib.hid h
      clear h
      go_wp2_with fail
      go_ret
      exact ⟨by simp, _, _, sep_drewN (bo_frm _ _ _ _) HB.out.1 (q1 + q2), HS.out.1.more⟩
    · have h2b : (x0 == 2) = false := by simpa using h2
      clear h2
      by_cases h3 : x0 = 3
      · subst h3
        obtain ⟨bm, hbm⟩ : ∃ bm, (look s x2).isSome = bm := ⟨_, rfl⟩
        have HBM := Lib.hid hbm
        clear hbm
        go_wp2_with fail
        go_region_held3 (fun w' => w'.cell? ⟨ob, 1, none⟩ = some (.int .i64 x1) ∧ w'.cell? ⟨ob, 2, none⟩ = some (.string x2)) (first | exact hP0 | exact hP1 | exact hP2) (first
          | (go_at_call 31; refine (bo_del2 Z1.out.1 x2 HX.out HS.out.1 HS.out.2).mono ?_; rintro e z2 ⟨rfl, h, hF⟩; have hK := Z1.out.2.step hF; have hP2 := hK.2.2; rw [HBM.out]; have Z2 := Lib.hid h; clear h hF hK)
          | (go_at_call 15; refine (bo_del1 (sep_drew (bo_frm _ _ _ _) HB.out.1) x2 HX.out HS.out.1 HS.out.2).mono ?_; rintro e z1 ⟨rfl, h, hF⟩; have hK := Kc.step (z := wo.drew) HB.out.2 hF; have hP1 := hK.2.2; rw [HBM.out]; have Z1 := Lib.hid (And.intro h hK); clear h hF hK))
        clear hP0 hP1 hP2
        go_wp2_with fail
        go_ret
        exact ⟨by simp, _, _, Z2.out, HS.out.1.del (bo_w HB.out.1).1 x2 (bo_w Z2.out).1⟩
      · have h3b : (x0 == 3) = false := by simpa using h3
        clear h3
        by_cases h4 : x0 = 4
        · subst h4
          obtain ⟨bm, hbm⟩ : ∃ bm, (stepS s).g = bm := ⟨_, rfl⟩
          have HBM := Lib.hid hbm
          clear hbm
          go_wp2_with fail
          refine (bo_step1 HB.out.1).mono ?_
          rintro e z1 ⟨rfl, h, _⟩
          rw [HBM.out]
          have Z1 := Lib.hid h
          clear h
          go_wp2_with fail
          refine (bo_step2 Z1.out HS.out.1 HS.out.2).mono ?_
          rintro e z2 ⟨rfl, h, _⟩
          rw [HBM.out]
          have Z2 := Lib.hid h
          clear h
          go_wp2_with fail
          go_ret
          exact ⟨by simp, _, _, Z2.out, HS.out.1.step (bo_w HB.out.1).1⟩
        · have h4b : (x0 == 4) = false := by simpa using h4
          clear h4
          go_wp2_with fail
          refine (bo_bucket1 HB.out.1 x1 HS.out.1 HS.out.2).mono ?_
          rintro e z1 ⟨v1, rfl, h, hH, hF⟩
          have f1 : z1.cell? ⟨ob, 1, none⟩ = some (.int .i64 x1) := (hF.cell (p := ⟨ob, 1, none⟩) HB.out.2.1 (by have := HB.out.2.1; simp; omega)).trans e1
          obtain ⟨a1, c1, rfl, _⟩ := Sl.shape hH
          obtain ⟨L, hL⟩ : ∃ L, bucketS s x1 = L := ⟨_, rfl⟩
          have hLl : L.length ≤ 1000000 := by rw [← hL]; have := bucket_len (bo_w HB.out.1).1 x1; have := HS.out.1.l; have := HS.out.2; omega
          rw [hL] at hH ⊢
          obtain ⟨ln, hln⟩ : ∃ n, L.length = n := ⟨_, rfl⟩
          rw [hln] at hH ⊢
          have Z1 := Lib.hid (And.intro h (And.intro hH (And.intro hL (And.intro hLl hln))))
          clear h hH hF hL hLl hln e1 e2 hP0
          go_wp2_with fail
          refine (bo_bucket2 Z1.out.1 x1 HS.out.1 HS.out.2).mono ?_
          rintro e z2 ⟨v2, rfl, h, hH2, hF⟩
          have hH1 := Held.keep' Z1.out.1 Z1.out.2.1 hF
          obtain ⟨a2, c2, rfl, _⟩ := Sl.shape hH2
          rw [Z1.out.2.2.1, Z1.out.2.2.2.2] at hH2 ⊢
          have Z2 := Lib.hid (And.intro h (And.intro hH1 hH2))
          clear h hH1 hH2 hF f1
          go_wp2_with fail
          refine (same_any z2 _ _ _ _ L Z1.out.2.2.2.1 (by rw [Z1.out.2.2.2.2]; exact Z2.out.2.1) (by rw [Z1.out.2.2.2.2]; exact Z2.out.2.2)).mono ?_
          rintro e z3 ⟨rfl, q3, rfl⟩
          go_wp2_with fail
          go_loopw [13] (fun iv wr => ∃ (j : Nat) (xs : List Value), j ≤ ln ∧ iv = .int .i64 j ∧ Sep (Bo t u s s) w0 wr S ∧ Held w0 wr S 9 1 (.slice a1 ln c1) ln xs) (fun iv _ => ln - (intOf iv).toNat)
          case atStart => exact ⟨0, strs L, Nat.zero_le _, rfl, sep_drewN (bo_frm _ _ _ _) Z2.out.1 q3, Held.keep Z2.out.2.1 ((Fr.refl (fun _ => False) z2).drewN q3) (fun _ _ q => q)⟩
          case round =>
            obtain ⟨j, xs, hj, rfl, h, hH⟩ := hrel
            have hlb : ln ≤ 1000000 := by rw [← Z1.out.2.2.2.2]; exact Z1.out.2.2.2.1
            by_cases hlt : j < ln
            · obtain ⟨b4, o4, c4, hv4, hb4, hl4, hn4, hx4, hf4⟩ := Sl.pos hH (by omega)
              simp at hv4
              obtain ⟨rfl, rfl⟩ := hv4
              have hxl : j < xs.length := by have := hH.1; omega
              obtain ⟨y, hy⟩ : ∃ y, xs[j]? = some y := ⟨_, List.getElem?_eq_getElem hxl⟩
              have hc := (hx4 j hxl).trans hy
              have hf := hf4 (o4 + j)
              have hst := sep_held_set (bo_frm _ _ _ _) h hH hlt (.string (ByteArray.mk #[63]))
              have Z3 := Lib.hid hst
              have hj' : (j : Int) < ln := by omega
              have hj0 : (0 : Int) ≤ j := by omega
              clear h hH hst hx4 hf4 hb4 hn4 hy
              go_wp2_with fail
              go_roundw
              case rel => exact ⟨j + 1, _, by omega, by go_num, Z3.out.2, Z3.out.1⟩
              case measure => simp [intOf]; omega
            · have Z3 := Lib.hid h
              clear h hH
              go_wp2_with fail
              go_ret
              exact ⟨rfl, _, _, Z3.out, HS.out.1.more⟩
section
variable {w0 w : World} {S : Nat → Prop} {t u : Nat} {s s' : ChS} {v : Int}
theorem bo_len_q (h : Sep (Bo t u s s') w0 w S) (hv : s.n = v) (n : Nat) : Calls Try.prog 13 #[.pointer (some ⟨t, 0, none⟩)] (w.drewN n) fun e w' => e = .returned (.int .i64 v) ∧ w' = w.drewN n := by
  subst hv; exact (bo_len (sep_drewN (bo_frm _ _ _ _) h n)).mono fun e w' ⟨a, b⟩ => ⟨a, b.symm⟩
theorem bo_power_q (h : Sep (Bo t u s s') w0 w S) {v : Nat} (hv : s.pw = v) (n : Nat) : Calls Try.prog 12 #[.pointer (some ⟨t, 0, none⟩)] (w.drewN n) fun e w' => e = .returned (.int .i64 v) ∧ w' = w.drewN n := by
  subst hv; exact (bo_power (sep_drewN (bo_frm _ _ _ _) h n)).mono fun e w' ⟨a, b⟩ => ⟨a, b.symm⟩
theorem bo_moved1_q (h : Sep (Bo t u s s') w0 w S) (hv : movedS s = v) (n : Nat) : Calls Try.prog 14 #[.pointer (some ⟨t, 0, none⟩)] (w.drewN n) fun e w' => e = .returned (.int .i64 v) ∧ w' = w.drewN n := by
  subst hv; exact (bo_moved1 (sep_drewN (bo_frm _ _ _ _) h n)).mono fun e w' ⟨a, b⟩ => ⟨a, b.symm⟩
theorem bo_moved2_q (h : Sep (Bo t u s s') w0 w S) (hv : movedS s' = v) (n : Nat) : Calls Try.prog 23 #[.pointer (some ⟨u, 0, none⟩)] (w.drewN n) fun e w' => e = .returned (.int .i64 v) ∧ w' = w.drewN n := by
  subst hv; exact (bo_moved2 (sep_drewN (bo_frm _ _ _ _) h n)).mono fun e w' ⟨a, b⟩ => ⟨a, b.symm⟩
end
end Go.Proofs.Ytnabgcnndehaaaa
