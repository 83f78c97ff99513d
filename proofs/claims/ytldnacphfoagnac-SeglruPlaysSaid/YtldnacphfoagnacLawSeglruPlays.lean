/- 'ambry/ambrylaw12.SeglruPlays' returns true, for every input, and leaves its arguments as they were. No condition. -/
import Derived.Test.YtldnacphfoagnacIn
import Derived.Test.YtldnacphfoagnacSfP
import Derived.Test.YtldnacphfoagnacIn
import Derived.Deep.QuietTactic
import Derived.BigQuiet
import Derived.Deep.DeepCutAuto
import Derived.Deep.CutBlock
import Derived.Deep.RegionHeld3
import Derived.WalkKit
import Derived.ProofKit
import Derived.OpenShut
import Derived.ShutString
import Derived.ChangeOld
import Derived.Below
namespace Go.Proofs.Ytldnacphfoagnac.seglruPlays
open Go.ChangeShapes Go.WideShapes Go.ChangeAt Go.RowKit
open Go.ChangeMaps (open_string shut_string)
set_option linter.unusedVariables false

theorem own : ownKnob Try.prog.godebug = none := by kernel_rfl
theorem laidOut : laidOutB Try.prog = true := by kernel_rfl
def El43 : List Value → Prop := fun cs => ∃ (x0 : Int) (x1 : Int), cs = [.int .i64 x0, .int .i64 x1] ∧ (Lit.int .i64 x0).wf = true ∧ (Lit.int .i64 x1).wf = true
theorem cells43 : Try.prog.cellsOf 43 = 2 := by kernel_rfl
theorem one43_3 : Try.prog.cellsOf 3 = 1 := by kernel_rfl
theorem el43 {H : Type} {enc : TypeId × Value → H} {w : World} {base : Nat} {spare : Nat → Bool} {held : Bool} (m : Nat) (cs : List Value) (x : DataW H × List MemPlace) (h : DataW.trod enc Try.prog w base spare held m 43 cs = some x) : El43 cs := by
  obtain ⟨xs, m', _, _, hlen, hl, hg⟩ := DataW.trod_struct Try.underlying43 h
  rw [cells43] at hlen
  match cs, hlen, xs, hl, hg with
  | [c0, c1], _, [y0, y1], _, hg =>
    have g0 := hg 0 _ rfl
    have g0 : DataW.trod enc Try.prog w base spare held m' 3 (([c0, c1].drop 0).take (Try.prog.cellsOf 3)) = some y0 := g0
    rw [one43_3] at g0
    obtain ⟨x0, e0, _, w0⟩ := DataW.trod_int Try.underlying3 g0
    have g1 := hg 1 _ rfl
    have g1 : DataW.trod enc Try.prog w base spare held m' 3 (([c0, c1].drop 1).take (Try.prog.cellsOf 3)) = some y1 := g1
    rw [one43_3] at g1
    obtain ⟨x1, e1, _, w1⟩ := DataW.trod_int Try.underlying3 g1
    simp at e0 e1
    subst e0 e1
    exact ⟨x0, x1, rfl, w0, w1⟩

theorem new_pair {w0 w w1 w2 : World} {p q : Nat} (hF0 : Fr (From w0.heap.size) w0 w1) (hA : SegAt w1 (fun b => w.heap.size ≤ b ∧ b < w1.heap.size) p (fun _ => []) (fun _ => false) 0) (hw0 : w0.heap.size ≤ w.heap.size) (hww : w.heap.size ≤ w1.heap.size) (hR : Sf w2 (fun b => w1.heap.size ≤ b ∧ b < w2.heap.size) q (fun _ => []) []) (hF2 : Fr (fun _ => False) w1 w2) :
    Sep (GP p q (fun _ => []) (actOf []) (fun _ => []) [] 0) w0 w2 (fun b => w.heap.size ≤ b ∧ b < w2.heap.size) := by
  have hz := hF2.size
  have ha : (fun _ => false : Int → Bool) = actOf [] := by funext x; simp [actOf]
  rw [ha] at hA
  exact ⟨⟨_, _, fun b q => ⟨q.1, by omega⟩, fun b q => ⟨Nat.le_trans hww q.1, q.2⟩, fun b q q2 => by omega, hA.frame fun b hb _ => hF2.block b hb (fun q => q), hR⟩, hF0.trans hF2 (fun _ _ q => q.elim), fun b q => Nat.le_trans hw0 q.1, fun b q => q.2⟩
set_option maxRecDepth 100000 in
set_option maxHeartbeats 4000000 in
theorem walk (w : World) (a0 : Option Addr) (n0 c0 : Nat) (w0 : n0 ≤ c0 ∧ ∀ i, i < n0 → InAt w a0 2 i (El43)) :
    Calls Try.prog 7 #[.slice a0 n0 c0] w fun e w' => e = .returned (.bool true) ∧ Below w.heap.size w w' := by
  go_enter Try.func7, Try.ntmps7
  go_wp2_with fail
  refine (shown_any _).mono ?_
  rintro e y1 ⟨rfl, hF⟩
  have HF := Lib.hid (hF.mono (T := From w.heap.size) (fun _ _ h => h.elim))
  clear hF
  go_wp2_with fail
  refine (seg_new y1).mono ?_
  rintro e y2 ⟨p, rfl, hA, hF⟩
  have H2 := Lib.hid (And.intro hA hF)
  clear hA hF
  go_wp2_with fail
  refine (sf_new y2).mono ?_
  rintro e y3 ⟨q, rfl, hR, hF⟩
  have HP := Lib.hid (new_pair (w := y1) (HF.out.trans H2.out.2 (fun _ _ q => q.elim)) H2.out.1 HF.out.size H2.out.2.size hR hF)
  clear H2 hR hF HF
  go_wp2_with fail
  go_loopw [6] (fun i wr => ∃ (k : Nat) (L : Nat → List Int) (Al : List Int) (S : Nat → Prop), k ≤ n0 ∧ k ≤ 200 ∧ i = .int .i64 k ∧ Al.length ≤ k ∧ Sep (GP p q L (actOf Al) L Al k) w wr S) (fun i _ => 200 - (intOf i).toNat)
  case atStart => exact ⟨0, _, [], _, by omega, by omega, rfl, by simp, HP.out⟩
  case round =>
    clear HP
    obtain ⟨k, L, Al, S, hk, hk2, rfl, hAl, h⟩ := hrel
    have Hk := Lib.hid h
    clear h
    by_cases hlt : k < n0 ∧ k < 200
    · obtain ⟨hlt, hlt2⟩ := hlt
      obtain ⟨b, off, u, v, rfl, hbl, hEl, hc0, hc1⟩ := (w0.2 k hlt).two
      obtain ⟨x0, x1, he, hw0, hw1⟩ := hEl
      simp at he
      obtain ⟨rfl, rfl⟩ := he
      have hd0 : wr.cell? ⟨b, off + k * 2, none⟩ = some (.int .i64 x0) := (Hk.out.fr.cell hbl (by unfold From; simp; omega)).trans hc0
      have hd1 : wr.cell? ⟨b, off + k * 2 + 1, none⟩ = some (.int .i64 x1) := (Hk.out.fr.cell hbl (by unfold From; simp; omega)).trans hc1
      clear hc0 hc1 hw0 hw1
      have W0 := Lib.hid w0
      clear w0
      go_upto_block 2 with fail
      obtain ⟨ob, hob⟩ : ∃ ob, wr.heap.size = ob := ⟨_, rfl⟩
      have hB2 : Sep (GP p q L (actOf Al) L Al k) w (wr.alloc (.cells #[.int .i64 x0, .int .i64 x1] 43)) S := gp_fr Hk.out ((Fr.refl _ wr).alloc _)
      have e0 : (wr.alloc (.cells #[.int .i64 x0, .int .i64 x1] 43)).cell? ⟨wr.heap.size, 0, none⟩ = some (.int .i64 x0) := by simp
      have e1 : (wr.alloc (.cells #[.int .i64 x0, .int .i64 x1] 43)).cell? ⟨wr.heap.size, 1, none⟩ = some (.int .i64 x1) := by simp
      have hsz : ob < (wr.alloc (.cells #[.int .i64 x0, .int .i64 x1] 43)).heap.size := by simp; omega
      have hnS : ¬ S ob := fun h => by have := Hk.out.hi _ h; omega
      rw [hob] at e0 e1 ⊢
      obtain ⟨wo, hwo⟩ : ∃ wo, wr.alloc (.cells #[.int .i64 x0, .int .i64 x1] 43) = wo := ⟨_, rfl⟩
      rw [hwo] at hB2 e0 e1 hsz ⊢
      obtain ⟨hdj, hln⟩ := gp_dsj hB2
      have HB := Lib.hid (And.intro hB2 (And.intro (And.intro hsz hnS) (And.intro hdj (fun q => Nat.le_trans (hln q) (show k ≤ 200 by omega)))))
      clear hB2 hsz hnS hwo hob hd0 hd1 hdj hln
      have HNk := Lib.hid (show k < 1000000 by omega)
      have HAl := Lib.hid (show Al.length ≤ 1000000 by omega)
      have HLn := Lib.hid (show ∀ q, (L q).length ≤ 1000000 from fun q => Nat.le_trans (HB.out.2.2.2 q) (by decide))
      have hP0 : wo.drew.cell? ⟨ob, 1, none⟩ = some (.int .i64 x1) := e1
      go_cut [8] (fun s wx => s = .bool true ∧ ∃ (L' : Nat → List Int) (Al' : List Int) (S' : Nat → Prop), Al'.length ≤ k + 1 ∧ Sep (GP p q L' (actOf Al') L' Al' (k + 1)) w wx S' ∧ wx.cell? ⟨ob, 1, none⟩ = some (.int .i64 x1) ∧ ob < wx.heap.size ∧ ¬ S' ob)
      case first =>
        by_cases h1 : x0 = 1
        · subst h1
          obtain ⟨bm, hbm⟩ : ∃ bm, (decide (rowOf 3 L x1 < 0) && mayIn 3 0 x1) = bm := ⟨_, rfl⟩
          have HBM := Lib.hid hbm
          clear hbm
          go_wp2_with fail
          go_region_held3 (fun w' => w'.cell? ⟨ob, 1, none⟩ = some (.int .i64 x1)) (first | exact hP0 | exact hP1 | exact hP2) (first
            | (go_at_call 18; refine (rinsert_gp Z1.out.1 x1 HLn.out HB.out.2.2.1).mono ?_; rintro e z2 ⟨rfl, h, hF⟩; have hP2 : z2.cell? ⟨ob, 1, none⟩ = some (.int .i64 x1) := (hF.cell (p := ⟨ob, 1, none⟩) Z1.out.2.1 Z1.out.2.2).trans hP1; rw [HBM.out]; have Z2 := Lib.hid (And.intro h (And.intro (Nat.lt_of_lt_of_le Z1.out.2.1 hF.size) (show ¬ grow (grow S wo.drew z1) z1 z2 ob from fun q => q.elim Z1.out.2.2 (fun q => by (have := Z1.out.2.1; have q1 := q.1; omega))))); clear h hF)
            | (go_at_call 10; refine (insert_gp (gp_drew HB.out.1) x1 HNk.out).mono ?_; rintro e z1 ⟨rfl, h, hF⟩; have hP1 : z1.cell? ⟨ob, 1, none⟩ = some (.int .i64 x1) := (hF.cell (p := ⟨ob, 1, none⟩) HB.out.2.1.1 HB.out.2.1.2).trans hP0; rw [HBM.out]; have Z1 := Lib.hid (And.intro h (And.intro (Nat.lt_of_lt_of_le HB.out.2.1.1 hF.size) (show ¬ grow S wo.drew z1 ob from fun q => q.elim HB.out.2.1.2 (fun q => by (have := HB.out.2.1.1; have q1 := q.1; have q2 : wo.drew.heap.size = wo.heap.size := rfl; omega))))); clear h hF))
          have Z3 := Lib.hid (And.intro Z2.out hP2)
          clear hP0 hP1 hP2
          go_wp2
          go_meet
          have hfin := Z3.out.1.1
          exact ⟨by simp, _, Al, _, by omega, hfin, Z3.out.2, Z3.out.1.2⟩
        · have h1b : (x0 == 1) = false := by simpa using h1
          clear h1
          by_cases h2 : x0 = 2
          · subst h2
            obtain ⟨bm, hbm⟩ : ∃ bm, (decide (0 ≤ rowOf 3 L x1)) = bm := ⟨_, rfl⟩
            have HBM := Lib.hid hbm
            clear hbm
            go_wp2_with fail
            go_region_held3 (fun w' => w'.cell? ⟨ob, 1, none⟩ = some (.int .i64 x1)) (first | exact hP0 | exact hP1 | exact hP2) (first
              | (go_at_call 19; refine (rtouch_gp Z1.out.1 x1 HLn.out HB.out.2.2.1 HAl.out).mono ?_; rintro e z2 ⟨rfl, h, hF⟩; have hP2 : z2.cell? ⟨ob, 1, none⟩ = some (.int .i64 x1) := (hF.cell (p := ⟨ob, 1, none⟩) Z1.out.2.1 Z1.out.2.2).trans hP1; rw [HBM.out]; have Z2 := Lib.hid (And.intro h (And.intro (Nat.lt_of_lt_of_le Z1.out.2.1 hF.size) (show ¬ grow (grow S wo.drew z1) z1 z2 ob from fun q => q.elim Z1.out.2.2 (fun q => by (have := Z1.out.2.1; have q1 := q.1; omega))))); clear h hF)
              | (go_at_call 11; refine (touch_gp (gp_drew HB.out.1) x1 ).mono ?_; rintro e z1 ⟨rfl, h, hF⟩; have hP1 : z1.cell? ⟨ob, 1, none⟩ = some (.int .i64 x1) := (hF.cell (p := ⟨ob, 1, none⟩) HB.out.2.1.1 HB.out.2.1.2).trans hP0; rw [HBM.out]; have Z1 := Lib.hid (And.intro h (And.intro (Nat.lt_of_lt_of_le HB.out.2.1.1 hF.size) (show ¬ grow S wo.drew z1 ob from fun q => q.elim HB.out.2.1.2 (fun q => by (have := HB.out.2.1.1; have q1 := q.1; have q2 : wo.drew.heap.size = wo.heap.size := rfl; omega))))); clear h hF))
            have Z3 := Lib.hid (And.intro Z2.out hP2)
            clear hP0 hP1 hP2
            go_wp2
            go_meet
            have hfin := Z3.out.1.1
            rw [act_in] at hfin
            exact ⟨by simp, _, if 0 ≤ rowOf 3 L x1 then Al.filter (· != x1) ++ [x1] else Al, _, by (split; (rw [List.length_append]; have := List.length_filter_le (· != x1) Al; simp; omega); omega), gp_more hfin (Nat.le_succ k), Z3.out.2, Z3.out.1.2⟩
          · have h2b : (x0 == 2) = false := by simpa using h2
            clear h2
            by_cases h3 : x0 = 3
            · subst h3
              obtain ⟨bm, hbm⟩ : ∃ bm, (decide (0 ≤ rowOf 3 L x1)) = bm := ⟨_, rfl⟩
              have HBM := Lib.hid hbm
              clear hbm
              go_wp2_with fail
              go_region_held3 (fun w' => w'.cell? ⟨ob, 1, none⟩ = some (.int .i64 x1)) (first | exact hP0 | exact hP1 | exact hP2) (first
                | (go_at_call 20; refine (rremove_gp Z1.out.1 x1 HLn.out HB.out.2.2.1 HAl.out).mono ?_; rintro e z2 ⟨rfl, h, hF⟩; have hP2 : z2.cell? ⟨ob, 1, none⟩ = some (.int .i64 x1) := (hF.cell (p := ⟨ob, 1, none⟩) Z1.out.2.1 Z1.out.2.2).trans hP1; rw [HBM.out]; have Z2 := Lib.hid (And.intro h (And.intro (Nat.lt_of_lt_of_le Z1.out.2.1 hF.size) (show ¬ grow (grow S wo.drew z1) z1 z2 ob from fun q => q.elim Z1.out.2.2 (fun q => by (have := Z1.out.2.1; have q1 := q.1; omega))))); clear h hF)
                | (go_at_call 14; refine (remove_gp (gp_drew HB.out.1) x1 (Nat.le_of_lt HNk.out)).mono ?_; rintro e z1 ⟨rfl, h, hF⟩; have hP1 : z1.cell? ⟨ob, 1, none⟩ = some (.int .i64 x1) := (hF.cell (p := ⟨ob, 1, none⟩) HB.out.2.1.1 HB.out.2.1.2).trans hP0; rw [HBM.out]; have Z1 := Lib.hid (And.intro h (And.intro (Nat.lt_of_lt_of_le HB.out.2.1.1 hF.size) (show ¬ grow S wo.drew z1 ob from fun q => q.elim HB.out.2.1.2 (fun q => by (have := HB.out.2.1.1; have q1 := q.1; have q2 : wo.drew.heap.size = wo.heap.size := rfl; omega))))); clear h hF))
              have Z3 := Lib.hid (And.intro Z2.out hP2)
              clear hP0 hP1 hP2
              go_wp2
              go_meet
              have hfin := Z3.out.1.1
              rw [act_out] at hfin
              exact ⟨by simp, _, Al.filter (· != x1), _, by (have := List.length_filter_le (· != x1) Al; omega), gp_more hfin (Nat.le_succ k), Z3.out.2, Z3.out.1.2⟩
            · have h3b : (x0 == 3) = false := by simpa using h3
              clear h3
              obtain ⟨bm, hbm⟩ : ∃ bm, decide (0 ≤ whoF L (actOf Al)) = bm := ⟨_, rfl⟩
              have HBM := Lib.hid hbm
              clear hbm
              go_wp2_with fail
              refine (step_gp HB.out.1 HNk.out).mono ?_
              rintro e z1 ⟨rfl, h, hF⟩
              have hP1 : z1.cell? ⟨ob, 1, none⟩ = some (.int .i64 x1) := (hF.cell (p := ⟨ob, 1, none⟩) HB.out.2.1.1 HB.out.2.1.2).trans hP0
              rw [HBM.out]
              have Z1 := Lib.hid (And.intro h (And.intro (Nat.lt_of_lt_of_le HB.out.2.1.1 hF.size) (show ¬ grow S wo z1 ob from fun q => q.elim HB.out.2.1.2 (fun q => by (have := HB.out.2.1.1; have q1 := q.1; omega)))))
              clear h hF
              go_wp2_with fail
              refine (rstep_gp Z1.out.1 HLn.out HB.out.2.2.1 HAl.out).mono ?_
              rintro e z2 ⟨rfl, h, hF⟩
              have hP2 : z2.cell? ⟨ob, 1, none⟩ = some (.int .i64 x1) := (hF.cell (p := ⟨ob, 1, none⟩) Z1.out.2.1 Z1.out.2.2).trans hP1
              rw [HBM.out]
              have Z2 := Lib.hid (And.intro h (And.intro (Nat.lt_of_lt_of_le Z1.out.2.1 hF.size) (show ¬ grow (grow S wo z1) z1 z2 ob from fun q => q.elim Z1.out.2.2 (fun q => by (have := Z1.out.2.1; have q1 := q.1; omega)))))
              clear h hF
              have Z3 := Lib.hid (And.intro Z2.out hP2)
              clear hP0 hP1 hP2
              go_wp2
              go_meet
              have hfin := Z3.out.1.1
              rw [act_step] at hfin
              exact ⟨by simp, _, if whoF L (actOf Al) < 0 then Al else Al.filter (· != whoF L (actOf Al)), _, by (split; omega; (have := List.length_filter_le (· != whoF L (actOf Al)) Al; omega)), hfin, Z3.out.2, Z3.out.1.2⟩
      case rest =>
        obtain ⟨rfl, L', Al', S', hAl', h, hc2, hsz, hnS⟩ := hcut
        obtain ⟨wz, rfl⟩ : ∃ wz : World, wz = wc := ⟨_, rfl⟩
        have Hq := Lib.hid h
        clear h hP0 e0 e1 HB HAl HLn HNk
        obtain ⟨rv, hrv⟩ : ∃ rv, vict L' = rv := ⟨_, rfl⟩
        obtain ⟨ra, hra⟩ : ∃ ra, decide (x1 ∈ Al') = ra := ⟨_, rfl⟩
        have hra' : actOf Al' x1 = ra := hra
        have HRV := Lib.hid (And.intro hrv (And.intro hra hra'))
        have hlen := (gp_dsj Hq.out).2
        have HLn2 := Lib.hid (And.intro (show ∀ q, (L' q).length ≤ 1000000 from fun q => Nat.le_trans (hlen q) (by omega)) (And.intro (show k + 1 ≤ 1000000 by omega) (And.intro (show Al'.length ≤ 1000000 by omega) hAl')))
        have hQ0 : wz.drew.cell? ⟨ob, 1, none⟩ = some (.int .i64 x1) := hc2
        clear hrv hra hra' hlen hAl'
        go_wp2_with fail
        go_region_held3 (fun w' => w'.cell? ⟨ob, 1, none⟩ = some (.int .i64 x1)) (first | exact hQ0 | exact hQ1) (first
          | (go_at_call 23; refine (ractive_gp Z1.out x1 HLn2.out.2.2.1).mono ?_; rintro e z4 ⟨rfl, rfl⟩; rw [HRV.out.2.1])
          | (go_at_call 16; refine (active_gp Z1.out x1).mono ?_; rintro e z3 ⟨rfl, rfl⟩; rw [HRV.out.2.2])
          | (go_at_call 22; refine (rvictim_gp Z1.out HLn2.out.1).mono ?_; rintro e z2 ⟨rfl, rfl⟩; rw [HRV.out.1])
          | (go_at_call 13; refine (victim_gp (gp_drew Hq.out)).mono ?_; rintro e z1 ⟨rfl, k1, hk1⟩; have hQ1 : z1.cell? ⟨ob, 1, none⟩ = some (.int .i64 x1) := hk1 ▸ hQ0; rw [HRV.out.1]; have Z1 := Lib.hid (show Sep (GP p q L' (actOf Al') L' Al' (k + 1)) w z1 S' from hk1 ▸ gp_drewN (gp_drew Hq.out) k1); clear hk1))
        go_wp2_with fail
        try obtain ⟨wOut, rfl⟩ : ∃ wo : World, wo = wr := ⟨_, rfl⟩
        go_loopw [9, 10, 11, 12] (fun s _ _ _ wr => ∃ (row : Int), -1 ≤ row ∧ row ≤ 4 ∧ s = .int .i64 row ∧ Sep (GP p q L' (actOf Al') L' Al' (k + 1)) w wr S') (fun s _ _ _ _ => ((4 : Int) - intOf s).toNat)
        case atStart => exact ⟨-1, by omega, by omega, rfl, Z1.out⟩
        case round =>
          clear hQ0 hQ1 hc2 Z1
          obtain ⟨row, hrow0, hrow1, rfl, h⟩ := hrel
          have Hr := Lib.hid h
          clear h
          by_cases hrn : row ≤ 3
          · obtain ⟨l, hl⟩ : ∃ l, rowL L' row = l := ⟨_, rfl⟩
            have hll : l.length ≤ 1000000 := by
              rw [← hl]
              unfold rowL
              split
              · simp
              · exact HLn2.out.1 _
            obtain ⟨g, hcg, hAll⟩ := all_gp Hr.out HLn2.out.2.1
            have HL := Lib.hid (And.intro hl (And.intro hll hAll))
            clear hl hAll
            go_wp2_with fail
            refine (HL.out.2.2 row).mono ?_
            rintro e z2 ⟨v, rfl, hV, h⟩
            rw [HL.out.1] at hV
            obtain ⟨a1, cap1, rfl, _⟩ := hV.shape
            have Z2 := Lib.hid (And.intro h hV)
            clear h hV
            obtain ⟨r, hcr, hRA⟩ := rall_gp Z2.out.1
            have HRA := Lib.hid hRA
            clear hRA
            go_wp2_with fail
            refine (HRA.out row).mono ?_
            rintro e z3 ⟨a2, cap2, S2, rfl, hs2, rfl⟩
            rw [HL.out.1] at hs2 ⊢
            have Z3 := Lib.hid hs2
            clear hs2
            go_wp2_with fail
            refine (same_ints _ _ _ _ l _ Z2.out.2 Z3.out HL.out.2.1).mono ?_
            rintro e z4 ⟨rfl, hF4⟩
            have Z4 := Lib.hid (And.intro (gp_keep Z2.out.1 hF4 (fun _ _ _ q => q) (fun _ _ q => q)) (Held.keep Z2.out.2 hF4 (fun _ _ q => q)))
            clear hF4
            go_wp2_with fail
            obtain ⟨wOu2, rfl⟩ : ∃ wo : World, wo = wr := ⟨_, rfl⟩
            have hll2 := HL.out.2.1
            go_loopw [12] (fun s wr => ∃ (j : Nat) (xs : List Value), j ≤ l.length ∧ s = .int .i64 j ∧ Sep (GP p q L' (actOf Al') L' Al' (k + 1)) w wr S' ∧ Held w wr S' 3 1 (.slice a1 l.length cap1) l.length xs) (fun s _ => l.length - (intOf s).toNat)
            case atStart => exact ⟨0, _, by omega, rfl, Z4.out.1, Z4.out.2⟩
            case round =>
              obtain ⟨j, xs, hj, rfl, h1, h2⟩ := hrel
              have Hj := Lib.hid (And.intro h1 h2)
              clear h1 h2
              by_cases hjl : j < l.length
              · have hxl : j < xs.length := by have := Hj.out.2.1; omega
                obtain ⟨b3, off3, cap3, hv3, _, _, _, htx, htf⟩ := Sl.pos Hj.out.2 (by omega)
                simp at hv3
                obtain ⟨rfl, rfl⟩ := hv3
                have hc3 := htx j hxl
                rw [List.getElem?_eq_getElem hxl] at hc3
                obtain ⟨ux, hux⟩ : ∃ u, xs[j] = u := ⟨_, rfl⟩
                rw [hux] at hc3
                have hf3 := htf (off3 + j)
                have hset := gp_held_set Hj.out.1 Hj.out.2 (i := j) hjl (.int .i64 (-9))
                have H4 := Lib.hid hset
                clear htx htf hset hux
                go_wp2_with fail
                go_roundw
                case rel => exact ⟨j + 1, _, by omega, by go_num, H4.out.2, H4.out.1⟩
                case measure => simp [intOf]; omega
              · go_wp2_with fail
                go_roundw
                case rel => exact ⟨row + 1, by omega, by omega, by go_num, Hj.out.1⟩
                case measure => simp [intOf]; omega
          · go_wp2_with fail
            go_roundw
            case rel => exact ⟨k + 1, L', Al', S', by omega, by omega, by go_num, HLn2.out.2.2.2, Hr.out⟩
            case measure => simp [intOf]; omega
    · have hex : (k < n0 ∧ k = 200) ∨ n0 ≤ k := by omega
      clear hlt
      rcases hex with ⟨hlt, rfl⟩ | hge
      all_goals
        go_wp2
        go_ret
        exact ⟨rfl, Hk.out.below⟩

set_option maxRecDepth 100000 in
theorem lifted (os : Os) (started : os.Started) (H : Type) (enc : TypeId × Value → H) :
    ReturnsInHanded {} Try.checked os 7 .any (Rows.seglruPlaysSpec.pre6 enc Try.prog Try.f7 Rows.seglruPlaysRow.domain false) (Rows.seglruPlaysSpec.post enc Try.prog Try.f7 false true false false) := by
  refine returnsInHanded_of_change (C := Try.checked) own started (by kernel_rfl) Try.func7
    (ChangeSpec.witness6 (enc := enc) (C := Try.checked) false ⟨#[], #[.slice none 0 0], []⟩ 8 (by kernel_rfl) (by kernel_rfl) (by kernel_rfl) (by kernel_rfl)) ?_
  intro W base args ds gs before hval0 hW hcnd _
  have hval : ∀ (j : Nat) t v, Try.f7.params[j]? = some t → args[j]? = some v → Value.okWide Try.prog W .any base t v := hval0
  have hW' := hW
  obtain ⟨p, q, hA0, hV, rfl, hfz, hnd⟩ := hW
  have hA : DataW.TrodAll enc Try.prog W 0 (fun _ => true) true Try.f7.params.toList args.toList ds p := hA0
  rw [Try.params7] at hA hval
  obtain ⟨v0, vs0, d0, ds0, p0, q0, hargs, rfl, rfl, h0, r0⟩ := trodAll_cons hA
  obtain ⟨rfl, rfl, rfl⟩ := trodAll_nil r0
  obtain rfl : args = #[v0] := by cases args; simp_all
  obtain ⟨rfl, rfl⟩ := trodVars_none hV
  obtain ⟨a0, n0, c0, rfl⟩ := okWide_slice Try.underlying39 (hval 0 39 v0 rfl rfl)
  have k0 := h0
  have lt0 : ∀ x ∈ p0, x.block < W.heap.size := by obtain ⟨m, hm⟩ := k0; exact DataW.trod_lt m _ _ _ hm
  have w0 := open_in (C := El43) Try.underlying39 k0 2 (by kernel_rfl) (by decide) (el43)
  clear hA0 hval0
  refine (walk W a0 n0 c0 w0).mono fun e W' ⟨he, bel⟩ => ?_
  subst he
  exact ⟨_, rfl, _, _, _, [], _, [], hW', trodAll_mk1 (shut_bool Try.underlying4 _), (trodAll_cons_mk (Below.trod laidOut (by kernel_rfl) (of_decide_eq_true (by kernel_rfl)) k0 bel lt0) trodAll_mk0), rfl, bel.frame _, fun h => by cases h⟩

theorem over : Rows.seglruPlaysRow.holds Try.pinned (OpenSpec.ofChange Rows.seglruPlaysSpec) :=
  OpenClaim.holds_of_wide 7 Try.f7 rfl rfl rfl rfl rfl rfl rfl ⟨rfl, rfl, rfl, rfl, rfl⟩ rfl rfl rfl rfl rfl (by kernel_rfl) Try.func7 (by kernel_rfl)
    (of_decide_eq_true (by kernel_rfl)) (by unfold Func.isWrapper; first | (rw [if_pos (by decide +kernel)]; kernel_rfl) | (rw [if_neg (by decide +kernel)]; exact ⟨rfl, rfl⟩))
    (fun os started H enc _ => lifted os started H enc)

theorem proved : Rows.SeglruPlaysSaid := over
#print axioms proved
end Go.Proofs.Ytldnacphfoagnac.seglruPlays
