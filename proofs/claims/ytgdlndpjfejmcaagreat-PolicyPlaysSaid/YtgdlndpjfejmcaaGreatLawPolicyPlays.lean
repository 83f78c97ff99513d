/- 'ambry/ambrylaw15.PolicyPlays' returns true, for every input, and leaves its arguments as they were. No condition. -/
import Derived.Test.YtgdlndpjfejmcaaGreatIn
import Derived.Test.YtgdlndpjfejmcaaGreatPrE
import Derived.Test.YtgdlndpjfejmcaaGreatPolShown
import Derived.Test.YtgdlndpjfejmcaaGreatIn
import Derived.Deep.QuietTactic
import Derived.BigQuiet
import Derived.Deep.DeepCutAuto
import Derived.Deep.CutBlock
import Derived.Deep.RegionHeld3
import Derived.Deep.CutBlock
import Derived.WalkKit
import Derived.ProofKit
import Derived.OpenShut
import Derived.ShutString
import Derived.ChangeOld
import Derived.Below
namespace Go.Proofs.YtgdlndpjfejmcaaGreat.policyPlays
open Go.ChangeShapes Go.WideShapes Go.ChangeAt Go.RowKit
open Go.ChangeMaps (open_string shut_string)
set_option linter.unusedVariables false

theorem own : ownKnob Tryz.prog.godebug = none := by kernel_rfl
theorem laidOut : laidOutB Tryz.prog = true := by kernel_rfl
def El30 : List Value → Prop := fun cs => ∃ (x0 : Int) (x1 : Int) (x2 : Int), cs = [.int .i64 x0, .int .i64 x1, .int .u64 x2] ∧ (Lit.int .i64 x0).wf = true ∧ (Lit.int .i64 x1).wf = true ∧ (Lit.int .u64 x2).wf = true
theorem cells30 : Tryz.prog.cellsOf 30 = 3 := by kernel_rfl
theorem one30_3 : Tryz.prog.cellsOf 3 = 1 := by kernel_rfl
theorem one30_28 : Tryz.prog.cellsOf 28 = 1 := by kernel_rfl
set_option maxRecDepth 100000 in
theorem el30 {H : Type} {enc : TypeId × Value → H} {w : World} {base : Nat} {spare : Nat → Bool} {held : Bool} (m : Nat) (cs : List Value) (x : DataW H × List MemPlace) (h : DataW.trod enc Tryz.prog w base spare held m 30 cs = some x) : El30 cs := by
  obtain ⟨xs, m', _, _, hlen, hl, hg⟩ := DataW.trod_struct Tryz.underlying30 h
  rw [cells30] at hlen
  match cs, hlen, xs, hl, hg with
  | [c0, c1, c2], _, [y0, y1, y2], _, hg =>
    have g0 := hg 0 _ rfl
    have g0 : DataW.trod enc Tryz.prog w base spare held m' 3 (([c0, c1, c2].drop 0).take (Tryz.prog.cellsOf 3)) = some y0 := g0
    rw [one30_3] at g0
    obtain ⟨x0, e0, _, w0⟩ := DataW.trod_int Tryz.underlying3 g0
    have g1 := hg 1 _ rfl
    have g1 : DataW.trod enc Tryz.prog w base spare held m' 3 (([c0, c1, c2].drop 1).take (Tryz.prog.cellsOf 3)) = some y1 := g1
    rw [one30_3] at g1
    obtain ⟨x1, e1, _, w1⟩ := DataW.trod_int Tryz.underlying3 g1
    have g2 := hg 2 _ rfl
    have g2 : DataW.trod enc Tryz.prog w base spare held m' 28 (([c0, c1, c2].drop 2).take (Tryz.prog.cellsOf 28)) = some y2 := g2
    rw [one30_28] at g2
    obtain ⟨x2, e2, _, w2⟩ := DataW.trod_int Tryz.underlying28 g2
    simp at e0 e1 e2
    subst e0 e1 e2
    exact ⟨x0, x1, x2, rfl, w0, w1, w2⟩

set_option maxRecDepth 100000 in
set_option maxHeartbeats 4000000 in
theorem walk (w : World) (a0 : Int) (w0 : (Lit.int .i64 a0).wf = true) (a1 : Option Addr) (n1 c1 : Nat) (w1 : n1 ≤ c1 ∧ ∀ i, i < n1 → InAt w a1 3 i (El30)) :
    Calls Tryz.prog 3 #[.int .i64 a0, .slice a1 n1 c1] w fun e w' => e = .returned (.bool true) ∧ Below w.heap.size w w' := by
  -- WALK
  go_enter Tryz.func3, Tryz.ntmps3
  go_wp2_with fail
  refine (shown_any _).mono ?_
  rintro e y1 ⟨rfl, hB⟩
  have HF := Lib.hid (Fr.of_below hB)
  clear hB
  by_cases hk : a0 < 0 ∨ 3 < a0
  · go_wp2_with fail
    refine (pol_new_no a0 hk y1).mono ?_
    rintro e y2 ⟨rfl, rfl⟩
    go_wp2_with fail
    refine (rk_new_no a0 hk y1).mono ?_
    rintro e y2 ⟨rfl, rfl⟩
    go_wp2
    go_ret
    exact ⟨rfl, HF.out.below (Nat.le_refl _) fun b _ q => q⟩
  · obtain ⟨kd, hk3, rfl⟩ : ∃ kd : Nat, kd ≤ 3 ∧ a0 = kd := ⟨a0.toNat, by omega, by omega⟩
    clear hk
    go_wp2_with fail
    refine (pol_new kd hk3 y1).mono ?_
    rintro e y2 ⟨p, rfl, hA, hF⟩
    have H2 := Lib.hid (And.intro hA hF)
    clear hA hF
    go_wp2_with fail
    refine (rk_new kd hk3 y2).mono ?_
    rintro e y3 ⟨q, rfl, hR, hF⟩
    have HP := Lib.hid (two_new (w := y1) (A := PKs p (PK.new kd) 0 0) (B := QR q (RK.new kd)) (pks_frm p (PK.new kd) 0 0) (HF.out.trans H2.out.2 (fun _ _ q => q.elim)) H2.out.1 HF.out.size H2.out.2.size hR hF)
    clear H2 hR hF HF
    go_wp2_with fail
    go_loopw [8] (fun i wr => ∃ (j : Nat) (k : PK) (r : RK) (S : Nat → Prop), j ≤ n1 ∧ j ≤ 200 ∧ i = .int .i64 j ∧ Sep (PP p q k r (j * 700) j) w wr S ∧ SynK j k r) (fun i _ => 200 - (intOf i).toNat)
    case atStart => exact ⟨0, _, _, _, by omega, by omega, rfl, HP.out, synk_new kd⟩
    case round =>
      clear HP
      obtain ⟨j, k, r, S, hj, hj2, rfl, h, hS⟩ := hrel
      have Hj := Lib.hid (And.intro h hS)
      clear h hS
      by_cases hlt : j < n1 ∧ j < 200
      · obtain ⟨hlt, hlt2⟩ := hlt
        obtain ⟨b, off, u, v, x, rfl, hbl, hEl, hc0, hc1, hc2⟩ := (w1.2 j hlt).three
        obtain ⟨x0, x1, x2, he, hw0, hw1, hw2⟩ := hEl
        simp at he
        obtain ⟨rfl, rfl, rfl⟩ := he
        have hd0 : wr.cell? ⟨b, off + j * 3, none⟩ = some (.int .i64 x0) := (Hj.out.1.fr.cell hbl (by unfold From; simp; omega)).trans hc0
        have hd1 : wr.cell? ⟨b, off + j * 3 + 1, none⟩ = some (.int .i64 x1) := (Hj.out.1.fr.cell hbl (by unfold From; simp; omega)).trans hc1
        have hd2 : wr.cell? ⟨b, off + j * 3 + 2, none⟩ = some (.int .u64 x2) := (Hj.out.1.fr.cell hbl (by unfold From; simp; omega)).trans hc2
        clear hc0 hc1 hc2 hw0 hw1 hw2
        have W1 := Lib.hid w1
        clear w1
        go_upto_block 2 with fail
        obtain ⟨ob, hob⟩ : ∃ ob, wr.heap.size = ob := ⟨_, rfl⟩
        have hB2 : Sep (PP p q k r (j * 700) j) w (wr.alloc (.cells #[.int .i64 x0, .int .i64 x1, .int .u64 x2] 30)) S := sep_fr (pp_frm _ _ _ _ _ _) Hj.out.1 ((Fr.refl _ wr).alloc _)
        have e0 : (wr.alloc (.cells #[.int .i64 x0, .int .i64 x1, .int .u64 x2] 30)).cell? ⟨wr.heap.size, 0, none⟩ = some (.int .i64 x0) := by simp
        have e1 : (wr.alloc (.cells #[.int .i64 x0, .int .i64 x1, .int .u64 x2] 30)).cell? ⟨wr.heap.size, 1, none⟩ = some (.int .i64 x1) := by simp
        have e2 : (wr.alloc (.cells #[.int .i64 x0, .int .i64 x1, .int .u64 x2] 30)).cell? ⟨wr.heap.size, 2, none⟩ = some (.int .u64 x2) := by simp
        have hsz : ob < (wr.alloc (.cells #[.int .i64 x0, .int .i64 x1, .int .u64 x2] 30)).heap.size := by simp; omega
        have hnS : ¬ S ob := fun g => by have := Hj.out.1.hi _ g; omega
        rw [hob] at e0 e1 e2 ⊢
        obtain ⟨wo, hwo⟩ : ∃ wo, wr.alloc (.cells #[.int .i64 x0, .int .i64 x1, .int .u64 x2] 30) = wo := ⟨_, rfl⟩
        rw [hwo] at hB2 e0 e1 e2 hsz ⊢
        have hL := Hj.out.2.lim (pp_num Hj.out.1).1 (by omega) (by omega) (by omega)
        have HS := Lib.hid (And.intro Hj.out.2 (And.intro hL (And.intro (pp_num Hj.out.1) (And.intro (Hj.out.2.fit (by omega)) (show k.cost ≤ 605 by have := Hj.out.2.cost (pp_num Hj.out.1).1; omega)))))
        have HB := Lib.hid (And.intro hB2 (show Kp ob x1 x2 wo S from ⟨hsz, hnS, e1, e2⟩))
        have hP0 : wo.drew.cell? ⟨ob, 1, none⟩ = some (.int .i64 x1) ∧ wo.drew.cell? ⟨ob, 2, none⟩ = some (.int .u64 x2) := ⟨e1, e2⟩
        have Hk := Lib.hid hj2
        clear hB2 hsz hnS hwo hob hL hd0 hd1 hd2 e0
        go_cut [10] (fun v wx => v = .bool true ∧ ∃ (k' : PK) (r' : RK) (S' : Nat → Prop), Sep (PP p q k' r' ((j + 1) * 700) (j + 1)) w wx S' ∧ SynK (j + 1) k' r' ∧ Kp ob x1 x2 wx S')
        case first =>
          by_cases h1 : x0 = 1
          · subst h1
            obtain ⟨bm, hbm⟩ : ∃ bm, k.insB x1 = bm := ⟨_, rfl⟩
            have hbr : r.insB x1 = bm := by rw [← hbm]; exact (HS.out.1.ins HS.out.2.2.1.1 (by have := Hk.out; omega) x1 x2).1
            have HBM := Lib.hid (And.intro hbm hbr)
            clear hbm hbr
            go_wp2_with fail
            go_region_held3 (fun w' => w'.cell? ⟨ob, 1, none⟩ = some (.int .i64 x1) ∧ w'.cell? ⟨ob, 2, none⟩ = some (.int .u64 x2)) (first | exact hP0 | exact hP1 | exact hP2) (first
                  | (go_at_call 8; refine (rinsert_pp Z1.out.1 x1 x2 HS.out.2.1).mono ?_; rintro e z2 ⟨rfl, h, hF⟩; have hK := Z1.out.2.step hF; have hP2 := hK.2.2; rw [HBM.out.2]; have Z2 := Lib.hid (And.intro h hK); clear h hF hK)
                  | (go_at_call 7; refine (insert_pp (pp_drew HB.out.1) x1 x2 (by have := Hk.out; omega) (by have := Hk.out; omega) HS.out.2.2.2.1).mono ?_; rintro e z1 ⟨rfl, h, hF⟩; have hK := Kp.step (z := wo.drew) HB.out.2 hF; have hP1 := hK.2.2; rw [HBM.out.1]; have Z1 := Lib.hid (And.intro h hK); clear h hF hK))
            have Z3 := Lib.hid Z2.out
            clear hP0 hP1 hP2
            go_wp2
            go_meet
            exact ⟨by simp, _, _, _, pp_more Z3.out.1 (by omega) (by omega), (HS.out.1.ins HS.out.2.2.1.1 (by have := Hk.out; omega) x1 x2).2, Z3.out.2⟩
          · have h1b : (x0 == 1) = false := by simpa using h1
            clear h1
            by_cases h2 : x0 = 2
            · subst h2
              obtain ⟨bm, hbm⟩ : ∃ bm, k.touB x1 = bm := ⟨_, rfl⟩
              have hbr : r.touB x1 = bm := by rw [← hbm]; exact (HS.out.1.tou HS.out.2.2.1.1 x1).1
              have HBM := Lib.hid (And.intro hbm hbr)
              clear hbm hbr
              go_wp2_with fail
              go_region_held3 (fun w' => w'.cell? ⟨ob, 1, none⟩ = some (.int .i64 x1) ∧ w'.cell? ⟨ob, 2, none⟩ = some (.int .u64 x2)) (first | exact hP0 | exact hP1 | exact hP2) (first
                    | (go_at_call 10; refine (rtouch_pp Z1.out.1 x1 HS.out.2.1).mono ?_; rintro e z2 ⟨rfl, h, hF⟩; have hK := Z1.out.2.step hF; have hP2 := hK.2.2; rw [HBM.out.2]; have Z2 := Lib.hid (And.intro h hK); clear h hF hK)
                    | (go_at_call 9; refine (touch_pp (pp_drew HB.out.1) x1 (by have := Hk.out; omega)).mono ?_; rintro e z1 ⟨rfl, h, hF⟩; have hK := Kp.step (z := wo.drew) HB.out.2 hF; have hP1 := hK.2.2; rw [HBM.out.1]; have Z1 := Lib.hid (And.intro h hK); clear h hF hK))
              have Z3 := Lib.hid Z2.out
              clear hP0 hP1 hP2
              go_wp2
              go_meet
              exact ⟨by simp, _, _, _, pp_more Z3.out.1 (by omega) (by omega), (HS.out.1.tou HS.out.2.2.1.1 x1).2, Z3.out.2⟩
            · have h2b : (x0 == 2) = false := by simpa using h2
              clear h2
              by_cases h3 : x0 = 3
              · subst h3
                obtain ⟨bm, hbm⟩ : ∃ bm, k.hasB x1 = bm := ⟨_, rfl⟩
                have hbr : r.hasB x1 = bm := by rw [← hbm]; exact HS.out.1.has x1
                have HBM := Lib.hid (And.intro hbm hbr)
                clear hbm hbr
                go_wp2_with fail
                go_region_held3 (fun w' => w'.cell? ⟨ob, 1, none⟩ = some (.int .i64 x1) ∧ w'.cell? ⟨ob, 2, none⟩ = some (.int .u64 x2)) (first | exact hP0 | exact hP1 | exact hP2) (first
                      | (go_at_call 12; refine (rremove_pp Z1.out.1 x1 HS.out.2.1).mono ?_; rintro e z2 ⟨rfl, h, hF⟩; have hK := Z1.out.2.step hF; have hP2 := hK.2.2; rw [HBM.out.2]; have Z2 := Lib.hid (And.intro h hK); clear h hF hK)
                      | (go_at_call 11; refine (remove_pp (pp_drew HB.out.1) x1 (by have := Hk.out; omega)).mono ?_; rintro e z1 ⟨rfl, h, hF⟩; have hK := Kp.step (z := wo.drew) HB.out.2 hF; have hP1 := hK.2.2; rw [HBM.out.1]; have Z1 := Lib.hid (And.intro h hK); clear h hF hK))
                have Z3 := Lib.hid Z2.out
                clear hP0 hP1 hP2
                go_wp2
                go_meet
                exact ⟨by simp, _, _, _, pp_more Z3.out.1 (by omega) (by omega), (HS.out.1.rem HS.out.2.2.1.1 x1).more, Z3.out.2⟩
              · have h3b : (x0 == 3) = false := by simpa using h3
                clear h3
                by_cases h4 : x0 = 4
                · subst h4
                  obtain ⟨bm, hbm⟩ : ∃ bm, k.hasB x1 = bm := ⟨_, rfl⟩
                  have hbr : r.hasB x1 = bm := by rw [← hbm]; exact HS.out.1.has x1
                  have HBM := Lib.hid (And.intro hbm hbr)
                  clear hbm hbr
                  go_wp2_with fail
                  go_region_held3 (fun w' => w'.cell? ⟨ob, 1, none⟩ = some (.int .i64 x1) ∧ w'.cell? ⟨ob, 2, none⟩ = some (.int .u64 x2)) (first | exact hP0 | exact hP1 | exact hP2) (first
                        | (go_at_call 14; refine (revict_pp Z1.out.1 x1 HS.out.2.1).mono ?_; rintro e z2 ⟨rfl, h, hF⟩; have hK := Z1.out.2.step hF; have hP2 := hK.2.2; rw [HBM.out.2]; have Z2 := Lib.hid (And.intro h hK); clear h hF hK)
                        | (go_at_call 13; refine (evict_pp (pp_drew HB.out.1) x1 (by have := Hk.out; omega) (by have := Hk.out; omega)).mono ?_; rintro e z1 ⟨rfl, h, hF⟩; have hK := Kp.step (z := wo.drew) HB.out.2 hF; have hP1 := hK.2.2; rw [HBM.out.1]; have Z1 := Lib.hid (And.intro h hK); clear h hF hK))
                  have Z3 := Lib.hid Z2.out
                  clear hP0 hP1 hP2
                  go_wp2
                  go_meet
                  exact ⟨by simp, _, _, _, pp_more Z3.out.1 (by omega) (by omega), (HS.out.1.evi HS.out.2.2.1.1 x1).more, Z3.out.2⟩
                · have h4b : (x0 == 4) = false := by simpa using h4
                  clear h4
                  by_cases h5 : x0 = 5
                  · subst h5
                    go_wp2_with fail
                    refine (cap_pp HB.out.1 x1 (by have := Hk.out; omega)).mono ?_
                    rintro e z1 ⟨rfl, h, hF⟩
                    have hK := HB.out.2.step hF
                    have hP1 := hK.2.2.1
                    have Z1 := Lib.hid (And.intro h hK)
                    clear h hF hK
                    go_wp2_with fail
                    refine (rcap_pp Z1.out.1 x1 HS.out.2.1).mono ?_
                    rintro e z2 ⟨rfl, h, hF⟩
                    have hK := Z1.out.2.step hF
                    have Z2 := Lib.hid (And.intro h hK)
                    clear h hF hK hP0 hP1
                    go_wp2
                    go_meet
                    exact ⟨rfl, _, _, _, pp_more Z2.out.1 (by omega) (by omega), HS.out.1.cap x1, Z2.out.2⟩
                  · have h5b : (x0 == 5) = false := by simpa using h5
                    clear h5
                    obtain ⟨v, hv⟩ : ∃ v, k.vicI x2 = v := ⟨_, rfl⟩
                    have HV := Lib.hid hv
                    clear hv
                    by_cases h6 : x0 = 6
                    · subst h6
                      go_wp2_with fail
                      refine (rvictim_pp HB.out.1 x2 HS.out.1 HS.out.2.2.1.1 HS.out.2.1 (by have := Hk.out; omega) (by have := Hk.out; omega) (by have := Hk.out; omega)).mono ?_
                      rintro e z1 ⟨rfl, r1, h, hF, hs1⟩
                      rw [HV.out]
                      have hK := HB.out.2.step hF
                      have hP1 := hK.2.2.2
                      have Z1 := Lib.hid (And.intro h (And.intro hs1 hK))
                      clear h hF hs1 hK
                      go_wp2_with fail
                      refine (victim_pp Z1.out.1 x2 (by have := Hk.out; have := HS.out.2.2.2.2; omega)).mono ?_
                      rintro e z2 ⟨rfl, h, hF⟩
                      rw [HV.out]
                      have hK := Z1.out.2.2.step hF
                      have hn2 := (pp_num h).1
                      have hl2 := Z1.out.2.1.lim hn2 (by have := Hk.out; omega) (by have := Hk.out; have := HS.out.2.2.2.2; omega) (by have := Hk.out; omega)
                      have Z2 := Lib.hid (And.intro h hK)
                      have HL2 := Lib.hid (And.intro hl2 hn2)
                      clear h hF hl2 hn2 hK
                      obtain ⟨bm, hbm⟩ : ∃ bm, k.vicS.hasB v = bm := ⟨_, rfl⟩
                      have hbr : r1.hasB v = bm := by rw [← hbm]; exact Z1.out.2.1.has v
                      have HBM := Lib.hid (And.intro hbm hbr)
                      clear hbm hbr
                      go_wp2_with fail
                      refine (evict_pp Z2.out.1 v (by have := Hk.out; have := HS.out.2.2.2.2; omega) (by have := Hk.out; omega)).mono ?_
                      rintro e z3 ⟨rfl, h, hF⟩
                      rw [HBM.out.1]
                      have hK := Z2.out.2.step hF
                      have Z3 := Lib.hid (And.intro h hK)
                      clear h hF hK
                      go_wp2_with fail
                      refine (revict_pp Z3.out.1 v HL2.out.1).mono ?_
                      rintro e z4 ⟨rfl, h, hF⟩
                      rw [HBM.out.2]
                      have hK := Z3.out.2.step hF
                      have Z4 := Lib.hid (And.intro h hK)
                      clear h hF hK hP0 hP1
                      go_wp2
                      go_meet
                      exact ⟨by simp, _, _, _, pp_more Z4.out.1 (by have := HS.out.2.2.2.2; omega) (by omega), (Z1.out.2.1.evi HL2.out.2 v).more, Z4.out.2⟩
                    · have h6b : (x0 == 6) = false := by simpa using h6
                      clear h6
                      go_wp2_with fail
                      go_region_held3 (fun w' => w'.cell? ⟨ob, 2, none⟩ = some (.int .u64 x2)) (first | exact hP0.2 | exact hP1 | exact hP2) (first
                        | (go_at_call 17; refine (rvictim_pp Z1.out.1 x2 HS.out.1 HS.out.2.2.1.1 HS.out.2.1 (by have := Hk.out; omega) (by have := Hk.out; omega) (by have := Hk.out; omega)).mono ?_; rintro e z2 ⟨rfl, r1, h, hF, hs1⟩; have hK := Z1.out.2.step hF; have hP2 := hK.2.2.2; rw [HV.out]; have Z2 := Lib.hid (And.intro h (And.intro hs1 hK)); clear h hF hs1 hK)
                        | (go_at_call 18; refine (victim_pp (pp_drew HB.out.1) x2 (by have := Hk.out; have := HS.out.2.2.2.2; omega)).mono ?_; rintro e z1 ⟨rfl, h, hF⟩; have hK := Kp.step (z := wo.drew) HB.out.2 hF; have hP1 := hK.2.2.2; rw [HV.out]; have Z1 := Lib.hid (And.intro h hK); clear h hF hK))
                      have Z3 := Lib.hid Z2.out
                      clear hP0 hP1 hP2
                      go_wp2
                      go_meet
                      exact ⟨by simp, _, _, _, pp_more Z3.out.1 (by have := HS.out.2.2.2.2; omega) (by omega), Z3.out.2.1.more, Z3.out.2.2⟩
        case rest =>
          obtain ⟨rfl, k1, r1, S1, h, hS, hK⟩ := hcut
          clear hP0 e1 e2
          have hn := pp_num h
          have hL := hS.lim hn.1 (by omega) (by omega) (by omega)
          have hl := hS.len hn.2
          have hh := hS.has x1
          obtain ⟨lv, hlv⟩ : ∃ lv, k1.len = lv := ⟨_, rfl⟩
          obtain ⟨hv, hhv⟩ : ∃ hv, k1.hasB x1 = hv := ⟨_, rfl⟩
          rw [hlv] at hl
          rw [hhv] at hh
          have Q := Lib.hid (And.intro h (And.intro hS (And.intro hK (And.intro hL (And.intro (And.intro hlv hl) (And.intro hhv hh))))))
          have hp1 := hK.2.2.1
          clear h hS hK hn hL hl hh hlv hhv
          have hP0 : wc.drew.cell? ⟨ob, 1, none⟩ = some (.int .i64 x1) := hp1
          clear hp1
          go_wp2_with fail
          go_region_held3 (fun w' => w'.cell? ⟨ob, 1, none⟩ = some (.int .i64 x1)) (first | exact hP0 | exact hP1 | exact hP2 | exact hP3 | exact hP4) (first
            | (go_at_call 22; refine (rhas_pp Z3.out.1 x1 Q.out.2.2.2.1).mono ?_; rintro e z4 ⟨rfl, rfl⟩; rw [Q.out.2.2.2.2.2.2])
            | (go_at_call 21; refine (has_pp Z2.out.1 x1).mono ?_; rintro e z3 ⟨rfl, n3, hn3, h⟩; have hK : Kp ob x1 x2 z3 S1 := hn3 ▸ Z2.out.2; have hP3 := hK.2.2.1; rw [Q.out.2.2.2.2.2.1]; have Z3 := Lib.hid (And.intro h hK); clear h hn3 hK)
            | (go_at_call 20; refine (rlen_pp Z1.out.1 Q.out.2.2.2.1).mono ?_; rintro e z2 ⟨rfl, n2, hn2, h⟩; have hK : Kp ob x1 x2 z2 S1 := hn2 ▸ Z1.out.2; have hP2 := hK.2.2.1; rw [Q.out.2.2.2.2.1.2]; have Z2 := Lib.hid (And.intro h hK); clear h hn2 hK)
            | (go_at_call 19; refine (len_pp (pp_drew Q.out.1) (by omega)).mono ?_; rintro e z1 ⟨rfl, n1', hn1, h⟩; have hK : Kp ob x1 x2 z1 S1 := hn1 ▸ Q.out.2.2.1; have hP1 := hK.2.2.1; rw [Q.out.2.2.2.2.1.1]; have Z1 := Lib.hid (And.intro h hK); clear h hn1 hK))
          have Z9 := Lib.hid Z3.out
          clear hP0 hP1 hP2 hP3
          go_wp2_with fail
          go_roundw
          case rel => exact ⟨j + 1, k1, r1, S1, by omega, by omega, by go_num, Z9.out.1, Q.out.2.1⟩
          case measure => simp [intOf]; omega
      · have hex : (j < n1 ∧ j = 200) ∨ n1 ≤ j := by omega
        clear hlt
        rcases hex with ⟨hlt, rfl⟩ | hge
        all_goals
          go_wp2
          go_ret
          exact ⟨rfl, Hj.out.1.below⟩

set_option maxRecDepth 100000 in
theorem lifted (os : Os) (started : os.Started) (H : Type) (enc : TypeId × Value → H) :
    ReturnsInHanded {} Tryz.checked os 3 .any (Rows.policyPlaysSpec.pre6 enc Tryz.prog Tryz.f3 Rows.policyPlaysRow.domain false) (Rows.policyPlaysSpec.post enc Tryz.prog Tryz.f3 false true false false) := by
  refine returnsInHanded_of_change (C := Tryz.checked) own started (by kernel_rfl) Tryz.func3
    (ChangeSpec.witness6 (enc := enc) (C := Tryz.checked) false ⟨#[], #[.int .i64 0, .slice none 0 0], []⟩ 8 (by kernel_rfl) (by kernel_rfl) (by kernel_rfl) (by kernel_rfl)) ?_
  intro W base args ds gs before hval0 hW hcnd _
  have hval : ∀ (j : Nat) t v, Tryz.f3.params[j]? = some t → args[j]? = some v → Value.okWide Tryz.prog W .any base t v := hval0
  have hW' := hW
  obtain ⟨p, q, hA0, hV, rfl, hfz, hnd⟩ := hW
  have hA : DataW.TrodAll enc Tryz.prog W 0 (fun _ => true) true Tryz.f3.params.toList args.toList ds p := hA0
  rw [Tryz.params3] at hA hval
  obtain ⟨v0, vs0, d0, ds0, p0, q0, hargs, rfl, rfl, h0, r0⟩ := trodAll_cons hA
  obtain ⟨v1, vs1, d1, ds1, p1, q1, rfl, rfl, rfl, h1, r1⟩ := trodAll_cons r0
  obtain ⟨rfl, rfl, rfl⟩ := trodAll_nil r1
  obtain rfl : args = #[v0, v1] := by cases args; simp_all
  obtain ⟨rfl, rfl⟩ := trodVars_none hV
  obtain ⟨a0, rfl, rfl, rfl, w0⟩ := open_int Tryz.underlying3 (hval 0 3 v0 rfl rfl) h0
  obtain ⟨a1, n1, c1, rfl⟩ := okWide_slice Tryz.underlying22 (hval 1 22 v1 rfl rfl)
  have k1 := h1
  have lt1 : ∀ x ∈ p1, x.block < W.heap.size := by obtain ⟨m, hm⟩ := k1; exact DataW.trod_lt m _ _ _ hm
  have w1 := open_in (C := El30) Tryz.underlying22 k1 3 (by kernel_rfl) (by decide) (el30)
  clear hA0 hval0
  refine (walk W a0 w0 a1 n1 c1 w1).mono fun e W' ⟨he, bel⟩ => ?_
  subst he
  exact ⟨_, rfl, _, _, _, [], _, [], hW', trodAll_mk1 (shut_bool Tryz.underlying4 _), (trodAll_cons_mk (shut_int Tryz.underlying3 w0) (trodAll_cons_mk (Below.trod laidOut (by kernel_rfl) (of_decide_eq_true (by kernel_rfl)) k1 bel lt1) trodAll_mk0)), rfl, bel.frame _, fun h => by cases h⟩

theorem over : Rows.policyPlaysRow.holds Tryz.pinned (OpenSpec.ofChange Rows.policyPlaysSpec) :=
  OpenClaim.holds_of_wide 3 Tryz.f3 rfl rfl rfl rfl rfl rfl rfl ⟨rfl, rfl, rfl, rfl, rfl⟩ rfl rfl rfl rfl rfl (by kernel_rfl) Tryz.func3 (by kernel_rfl)
    (of_decide_eq_true (by kernel_rfl)) (by unfold Func.isWrapper; first | (rw [if_pos (by decide +kernel)]; kernel_rfl) | (rw [if_neg (by decide +kernel)]; exact ⟨rfl, rfl⟩))
    (fun os started H enc _ => lifted os started H enc)

theorem proved : Rows.PolicyPlaysSaid := over
#print axioms proved
end Go.Proofs.YtgdlndpjfejmcaaGreat.policyPlays
