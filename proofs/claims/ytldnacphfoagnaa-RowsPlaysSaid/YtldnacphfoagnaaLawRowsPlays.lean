/- 'ambry/ambrylaw10.RowsPlays' returns true, for every input, and leaves its arguments as they were. No condition. -/
import Derived.Test.YtldnacphfoagnaaIn
import Derived.Test.YtldnacphfoagnaaRfP
import Derived.Test.YtldnacphfoagnaaRowsShown
import Derived.Test.YtldnacphfoagnaaIn
import Derived.Deep.QuietTactic
import Derived.BigQuiet
import Derived.Deep.DeepCutAuto
import Derived.Deep.CutBlock
import Derived.Deep.RegionHeld3
import Derived.WalkKit
import Derived.ProofKit
import Derived.OpenShut
import Derived.ShutString
import Derived.ChangeOld
import Derived.Below
namespace Go.Proofs.Ytldnacphfoagnaa.rowsPlays
open Go.ChangeShapes Go.WideShapes Go.ChangeAt Go.RowKit
open Go.ChangeMaps (open_string shut_string)
set_option linter.unusedVariables false

theorem own : ownKnob Try.prog.godebug = none := by kernel_rfl
theorem laidOut : laidOutB Try.prog = true := by kernel_rfl
def El34 : List Value → Prop := fun cs => ∃ (x0 : Int) (x1 : Int) (x2 : Int), cs = [.int .i64 x0, .int .i64 x1, .int .i64 x2] ∧ (Lit.int .i64 x0).wf = true ∧ (Lit.int .i64 x1).wf = true ∧ (Lit.int .i64 x2).wf = true
theorem cells34 : Try.prog.cellsOf 34 = 3 := by kernel_rfl
theorem one34_3 : Try.prog.cellsOf 3 = 1 := by kernel_rfl
theorem el34 {H : Type} {enc : TypeId × Value → H} {w : World} {base : Nat} {spare : Nat → Bool} {held : Bool} (m : Nat) (cs : List Value) (x : DataW H × List MemPlace) (h : DataW.trod enc Try.prog w base spare held m 34 cs = some x) : El34 cs := by
  obtain ⟨xs, m', _, _, hlen, hl, hg⟩ := DataW.trod_struct Try.underlying34 h
  rw [cells34] at hlen
  match cs, hlen, xs, hl, hg with
  | [c0, c1, c2], _, [y0, y1, y2], _, hg =>
    have g0 := hg 0 _ rfl
    have g0 : DataW.trod enc Try.prog w base spare held m' 3 (([c0, c1, c2].drop 0).take (Try.prog.cellsOf 3)) = some y0 := g0
    rw [one34_3] at g0
    obtain ⟨x0, e0, _, w0⟩ := DataW.trod_int Try.underlying3 g0
    have g1 := hg 1 _ rfl
    have g1 : DataW.trod enc Try.prog w base spare held m' 3 (([c0, c1, c2].drop 1).take (Try.prog.cellsOf 3)) = some y1 := g1
    rw [one34_3] at g1
    obtain ⟨x1, e1, _, w1⟩ := DataW.trod_int Try.underlying3 g1
    have g2 := hg 2 _ rfl
    have g2 : DataW.trod enc Try.prog w base spare held m' 3 (([c0, c1, c2].drop 2).take (Try.prog.cellsOf 3)) = some y2 := g2
    rw [one34_3] at g2
    obtain ⟨x2, e2, _, w2⟩ := DataW.trod_int Try.underlying3 g2
    simp at e0 e1 e2
    subst e0 e1 e2
    exact ⟨x0, x1, x2, rfl, w0, w1, w2⟩

theorem new_pair {w0 w1 w2 : World} {g r n : Nat} (hF0 : Fr (From w0.heap.size) w0 w1) {w : World} (hA : RowsAt w1 (fun b => w.heap.size ≤ b ∧ b < w1.heap.size) g n (fun _ => []) 0) (hw0 : w0.heap.size ≤ w.heap.size) (hww : w.heap.size ≤ w1.heap.size) (hR : Rf w2 (fun b => w1.heap.size ≤ b ∧ b < w2.heap.size) r n (fun _ => [])) (hF2 : Fr (fun _ => False) w1 w2) :
    Sep (RP g r n (fun _ => []) (fun _ => []) 0) w0 w2 (fun b => w.heap.size ≤ b ∧ b < w2.heap.size) := by
  have hz := hF2.size
  have hz1 := hF0.size
  exact ⟨⟨_, _, fun b q => ⟨q.1, by omega⟩, fun b q => ⟨Nat.le_trans hww q.1, q.2⟩, fun b q q2 => by omega, hA.frame fun b hb _ => hF2.block b hb (fun q => q), hR⟩, hF0.trans hF2 (fun _ _ q => q.elim), fun b q => Nat.le_trans hw0 q.1, fun b q => q.2⟩
set_option maxRecDepth 100000 in
set_option maxHeartbeats 4000000 in
theorem walk (w : World) (a0 : Int) (w0 : (Lit.int .i64 a0).wf = true) (a1 : Option Addr) (n1 c1 : Nat) (w1 : n1 ≤ c1 ∧ ∀ i, i < n1 → InAt w a1 3 i (El34)) :
    Calls Try.prog 4 #[.int .i64 a0, .slice a1 n1 c1] w fun e w' => e = .returned (.bool true) ∧ Below w.heap.size w w' := by
  go_enter Try.func4, Try.ntmps4
  go_wp2_with fail
  refine (shown_any _).mono ?_
  rintro e y1 ⟨rfl, hF⟩
  have HF := Lib.hid (hF.mono (T := From w.heap.size) (fun _ _ h => h.elim))
  clear hF
  by_cases hn : 1 ≤ a0 ∧ a0 ≤ 8
  · obtain ⟨n, rfl⟩ : ∃ n : Nat, a0 = n := ⟨a0.toNat, by omega⟩
    have hn1 : 1 ≤ n := by omega
    have hn8 : n ≤ 8 := by omega
    clear hn w0
    go_wp2_with fail
    refine (rows_new n hn1 hn8 y1).mono ?_
    rintro e y2 ⟨g, rfl, hA, hF⟩
    have H2 := Lib.hid (And.intro hA hF)
    clear hA hF
    go_wp2_with fail
    refine (rf_new n hn1 hn8 y2).mono ?_
    rintro e y3 ⟨r, rfl, hR, hF⟩
    have HP := Lib.hid (new_pair (w := y1) (HF.out.trans H2.out.2 (fun _ _ q => q.elim)) H2.out.1 HF.out.size H2.out.2.size hR hF)
    clear H2 hR hF HF
    go_wp2_with fail
    go_loopw [8] (fun i wr => ∃ (k : Nat) (L : Nat → List Int) (S : Nat → Prop), k ≤ n1 ∧ k ≤ 200 ∧ i = .int .i64 k ∧ Sep (RP g r n L L k) w wr S) (fun i _ => 200 - (intOf i).toNat)
    case atStart => exact ⟨0, _, _, by omega, by omega, rfl, HP.out⟩
    case round =>
      clear HP
      obtain ⟨k, L, S, hk, hk2, rfl, h⟩ := hrel
      have Hk := Lib.hid h
      clear h
      by_cases hlt : k < n1 ∧ k < 200
      · obtain ⟨hlt, hlt2⟩ := hlt
        obtain ⟨b, off, u, v, x, rfl, hbl, hEl, hc0, hc1, hc2⟩ := (w1.2 k hlt).three
        obtain ⟨x0, x1, x2, he, hw0, hw1, hw2⟩ := hEl
        simp at he
        obtain ⟨rfl, rfl, rfl⟩ := he
        have hd0 : wr.cell? ⟨b, off + k * 3, none⟩ = some (.int .i64 x0) := (Hk.out.fr.cell hbl (by unfold From; simp; omega)).trans hc0
        have hd1 : wr.cell? ⟨b, off + k * 3 + 1, none⟩ = some (.int .i64 x1) := (Hk.out.fr.cell hbl (by unfold From; simp; omega)).trans hc1
        have hd2 : wr.cell? ⟨b, off + k * 3 + 2, none⟩ = some (.int .i64 x2) := (Hk.out.fr.cell hbl (by unfold From; simp; omega)).trans hc2
        clear hc0 hc1 hc2 hw0 hw1 hw2
        have W1 := Lib.hid w1
        clear w1
        go_upto_block 2 with fail
        obtain ⟨ob, hob⟩ : ∃ ob, wr.heap.size = ob := ⟨_, rfl⟩
        have hB2 : Sep (RP g r n L L k) w (wr.alloc (.cells #[.int .i64 x0, .int .i64 x1, .int .i64 x2] 34)) S := rp_fr Hk.out ((Fr.refl _ wr).alloc _)
        have e0 : (wr.alloc (.cells #[.int .i64 x0, .int .i64 x1, .int .i64 x2] 34)).cell? ⟨wr.heap.size, 0, none⟩ = some (.int .i64 x0) := by simp
        have e1 : (wr.alloc (.cells #[.int .i64 x0, .int .i64 x1, .int .i64 x2] 34)).cell? ⟨wr.heap.size, 1, none⟩ = some (.int .i64 x1) := by simp
        have e2 : (wr.alloc (.cells #[.int .i64 x0, .int .i64 x1, .int .i64 x2] 34)).cell? ⟨wr.heap.size, 2, none⟩ = some (.int .i64 x2) := by simp
        have hsz : ob < (wr.alloc (.cells #[.int .i64 x0, .int .i64 x1, .int .i64 x2] 34)).heap.size := by simp; omega
        have hnS : ¬ S ob := fun h => by have := Hk.out.hi _ h; omega
        have hobw : w.heap.size ≤ ob := by have := Hk.out.fr.size; omega
        rw [hob] at e0 e1 e2 ⊢
        obtain ⟨wo, hwo⟩ : ∃ wo, wr.alloc (.cells #[.int .i64 x0, .int .i64 x1, .int .i64 x2] 34) = wo := ⟨_, rfl⟩
        rw [hwo] at hB2 e0 e1 e2 hsz ⊢
        obtain ⟨hdj, hln⟩ := rp_dsj hB2
        have HB := Lib.hid (And.intro hB2 (And.intro (And.intro hsz hnS) (And.intro hdj (fun q => Nat.le_trans (hln q) (show k ≤ 200 by omega)))))
        clear hB2 hsz hnS hwo hob hd0 hd1 hd2 hdj hln
        have HNk := Lib.hid (show k < 1000000 by omega)
        have HLn := Lib.hid (show ∀ q, (L q).length ≤ 1000000 from fun q => Nat.le_trans (HB.out.2.2.2 q) (by decide))
        have hP0 : wo.drew.cell? ⟨ob, 1, none⟩ = some (.int .i64 x1) ∧ wo.drew.cell? ⟨ob, 2, none⟩ = some (.int .i64 x2) := ⟨e1, e2⟩
        go_cut [10] (fun s wx => s = .bool true ∧ ∃ (L' : Nat → List Int) (S' : Nat → Prop), Sep (RP g r n L' L' (k + 1)) w wx S' ∧ wx.cell? ⟨ob, 2, none⟩ = some (.int .i64 x2) ∧ ob < wx.heap.size ∧ ¬ S' ob)
        case first =>
          by_cases h1 : x0 = 1
          · subst h1
            obtain ⟨bm, hbm⟩ : ∃ bm, mayIn n x1 x2 = bm := ⟨_, rfl⟩
            have HBM := Lib.hid hbm
            clear hbm
            go_wp2_with fail
            go_region_held3 (fun w' => w'.cell? ⟨ob, 1, none⟩ = some (.int .i64 x1) ∧ w'.cell? ⟨ob, 2, none⟩ = some (.int .i64 x2)) (first | exact hP0 | exact hP1 | exact hP2) (first
              | (go_at_call 15; refine (rfront_rp Z1.out.1 x1 x2 HLn.out HB.out.2.2.1).mono ?_; rintro e z2 ⟨rfl, h, hF⟩; have hP2 : z2.cell? ⟨ob, 1, none⟩ = some (.int .i64 x1) ∧ z2.cell? ⟨ob, 2, none⟩ = some (.int .i64 x2) := ⟨(hF.cell (p := ⟨ob, 1, none⟩) Z1.out.2.1 Z1.out.2.2).trans hP1.1, (hF.cell (p := ⟨ob, 2, none⟩) Z1.out.2.1 Z1.out.2.2).trans hP1.2⟩; rw [HBM.out]; have Z2 := Lib.hid (And.intro h (And.intro (Nat.lt_of_lt_of_le Z1.out.2.1 hF.size) (show ¬ grow (grow S wo.drew z1) z1 z2 ob from fun q => q.elim Z1.out.2.2 (fun q => by (have := Z1.out.2.1; have q1 := q.1; omega))))); clear h hF)
              | (go_at_call 13; refine (front_rp (rp_drew HB.out.1) x1 x2 HNk.out).mono ?_; rintro e z1 ⟨rfl, h, hF⟩; have hP1 : z1.cell? ⟨ob, 1, none⟩ = some (.int .i64 x1) ∧ z1.cell? ⟨ob, 2, none⟩ = some (.int .i64 x2) := ⟨(hF.cell (p := ⟨ob, 1, none⟩) HB.out.2.1.1 HB.out.2.1.2).trans hP0.1, (hF.cell (p := ⟨ob, 2, none⟩) HB.out.2.1.1 HB.out.2.1.2).trans hP0.2⟩; rw [HBM.out]; have Z1 := Lib.hid (And.intro h (And.intro (Nat.lt_of_lt_of_le HB.out.2.1.1 hF.size) (show ¬ grow S wo.drew z1 ob from fun q => q.elim HB.out.2.1.2 (fun q => by (have := HB.out.2.1.1; have q1 := q.1; have q2 : wo.drew.heap.size = wo.heap.size := rfl; omega))))); clear h hF))
            have Z3 := Lib.hid (And.intro Z2.out hP2)
            clear hP0 hP1 hP2
            go_wp2
            go_meet
            exact ⟨by simp, frontL n L x1 x2, _, Z3.out.1.1, Z3.out.2.2, Z3.out.1.2⟩
          · have h1b : (x0 == 1) = false := by simpa using h1
            clear h1
            by_cases h2 : x0 = 2
            · subst h2
              obtain ⟨bm, hbm⟩ : ∃ bm, mayIn n x1 x2 = bm := ⟨_, rfl⟩
              have HBM := Lib.hid hbm
              clear hbm
              go_wp2_with fail
              go_region_held3 (fun w' => w'.cell? ⟨ob, 1, none⟩ = some (.int .i64 x1) ∧ w'.cell? ⟨ob, 2, none⟩ = some (.int .i64 x2)) (first | exact hP0 | exact hP1 | exact hP2) (first
                | (go_at_call 16; refine (rback_rp Z1.out.1 x1 x2 HLn.out HB.out.2.2.1).mono ?_; rintro e z2 ⟨rfl, h, hF⟩; have hP2 : z2.cell? ⟨ob, 1, none⟩ = some (.int .i64 x1) ∧ z2.cell? ⟨ob, 2, none⟩ = some (.int .i64 x2) := ⟨(hF.cell (p := ⟨ob, 1, none⟩) Z1.out.2.1 Z1.out.2.2).trans hP1.1, (hF.cell (p := ⟨ob, 2, none⟩) Z1.out.2.1 Z1.out.2.2).trans hP1.2⟩; rw [HBM.out]; have Z2 := Lib.hid (And.intro h (And.intro (Nat.lt_of_lt_of_le Z1.out.2.1 hF.size) (show ¬ grow (grow S wo.drew z1) z1 z2 ob from fun q => q.elim Z1.out.2.2 (fun q => by (have := Z1.out.2.1; have q1 := q.1; omega))))); clear h hF)
                | (go_at_call 10; refine (back_rp (rp_drew HB.out.1) x1 x2 HNk.out).mono ?_; rintro e z1 ⟨rfl, h, hF⟩; have hP1 : z1.cell? ⟨ob, 1, none⟩ = some (.int .i64 x1) ∧ z1.cell? ⟨ob, 2, none⟩ = some (.int .i64 x2) := ⟨(hF.cell (p := ⟨ob, 1, none⟩) HB.out.2.1.1 HB.out.2.1.2).trans hP0.1, (hF.cell (p := ⟨ob, 2, none⟩) HB.out.2.1.1 HB.out.2.1.2).trans hP0.2⟩; rw [HBM.out]; have Z1 := Lib.hid (And.intro h (And.intro (Nat.lt_of_lt_of_le HB.out.2.1.1 hF.size) (show ¬ grow S wo.drew z1 ob from fun q => q.elim HB.out.2.1.2 (fun q => by (have := HB.out.2.1.1; have q1 := q.1; have q2 : wo.drew.heap.size = wo.heap.size := rfl; omega))))); clear h hF))
              have Z3 := Lib.hid (And.intro Z2.out hP2)
              clear hP0 hP1 hP2
              go_wp2
              go_meet
              exact ⟨by simp, backL n L x1 x2, _, Z3.out.1.1, Z3.out.2.2, Z3.out.1.2⟩
            · have h2b : (x0 == 2) = false := by simpa using h2
              clear h2
              obtain ⟨bm, hbm⟩ : ∃ bm, decide (0 ≤ rowOf n L x2) = bm := ⟨_, rfl⟩
              have HBM := Lib.hid hbm
              clear hbm
              go_wp2_with fail
              go_region_held3 (fun w' => w'.cell? ⟨ob, 1, none⟩ = some (.int .i64 x1) ∧ w'.cell? ⟨ob, 2, none⟩ = some (.int .i64 x2)) (first | exact hP0 | exact hP1 | exact hP2) (first
                | (go_at_call 18; refine (rtake_rp Z1.out.1 x2 HLn.out HB.out.2.2.1).mono ?_; rintro e z2 ⟨rfl, h, hF⟩; have hP2 : z2.cell? ⟨ob, 1, none⟩ = some (.int .i64 x1) ∧ z2.cell? ⟨ob, 2, none⟩ = some (.int .i64 x2) := ⟨(hF.cell (p := ⟨ob, 1, none⟩) Z1.out.2.1 Z1.out.2.2).trans hP1.1, (hF.cell (p := ⟨ob, 2, none⟩) Z1.out.2.1 Z1.out.2.2).trans hP1.2⟩; rw [HBM.out]; have Z2 := Lib.hid (And.intro h (And.intro (Nat.lt_of_lt_of_le Z1.out.2.1 hF.size) (show ¬ grow (grow S wo.drew z1) z1 z2 ob from fun q => q.elim Z1.out.2.2 (fun q => by (have := Z1.out.2.1; have q1 := q.1; omega))))); clear h hF)
                | (go_at_call 17; refine (take_rp (rp_drew HB.out.1) x2 (Nat.le_of_lt HNk.out)).mono ?_; rintro e z1 ⟨rfl, h, hF⟩; have hP1 : z1.cell? ⟨ob, 1, none⟩ = some (.int .i64 x1) ∧ z1.cell? ⟨ob, 2, none⟩ = some (.int .i64 x2) := ⟨(hF.cell (p := ⟨ob, 1, none⟩) HB.out.2.1.1 HB.out.2.1.2).trans hP0.1, (hF.cell (p := ⟨ob, 2, none⟩) HB.out.2.1.1 HB.out.2.1.2).trans hP0.2⟩; rw [HBM.out]; have Z1 := Lib.hid (And.intro h (And.intro (Nat.lt_of_lt_of_le HB.out.2.1.1 hF.size) (show ¬ grow S wo.drew z1 ob from fun q => q.elim HB.out.2.1.2 (fun q => by (have := HB.out.2.1.1; have q1 := q.1; have q2 : wo.drew.heap.size = wo.heap.size := rfl; omega))))); clear h hF))
              have Z3 := Lib.hid (And.intro Z2.out hP2)
              clear hP0 hP1 hP2
              go_wp2
              go_meet
              exact ⟨by simp, del L x2, _, rp_more Z3.out.1.1 (Nat.le_succ k), Z3.out.2.2, Z3.out.1.2⟩
        case rest =>
          obtain ⟨rfl, L', S', h, hc2, hsz, hnS⟩ := hcut
          obtain ⟨wz, rfl⟩ : ∃ wz : World, wz = wc := ⟨_, rfl⟩
          have Hq := Lib.hid h
          clear h hP0 e0 e1 e2 HB hobw
          obtain ⟨rv, hrv⟩ : ∃ rv, rowOf n L' x2 = rv := ⟨_, rfl⟩
          have HRV := Lib.hid hrv
          have hlen := (rp_dsj Hq.out).2
          have HLn2 := Lib.hid (And.intro (show ∀ q, (L' q).length ≤ 1000000 from fun q => Nat.le_trans (hlen q) (by omega)) (show k + 1 ≤ 1000000 by omega))
          have hQ0 : wz.drew.cell? ⟨ob, 2, none⟩ = some (.int .i64 x2) := hc2
          clear hrv hlen
          go_wp2_with fail
          go_region_held3 (fun w' => w'.cell? ⟨ob, 2, none⟩ = some (.int .i64 x2)) (exact hQ0) (first
            | (go_at_call 20; refine (rrow_rp (rp_drew Hq.out) x2 HLn2.out.1).mono ?_; rintro e z2 ⟨rfl, rfl⟩; rw [HRV.out])
            | (go_at_call 19; refine (row_rp (rp_drew Hq.out) x2).mono ?_; rintro e z1 ⟨rfl, rfl⟩; rw [HRV.out]))
          go_wp2_with fail
          obtain ⟨wOut, rfl⟩ : ∃ wo : World, wo = wr := ⟨_, rfl⟩
          go_loopw [11, 12, 13, 14] (fun s _ _ _ wr => ∃ (row : Int), -1 ≤ row ∧ row ≤ (n : Int) + 1 ∧ s = .int .i64 row ∧ Sep (RP g r n L' L' (k + 1)) w wr S') (fun s _ _ _ _ => ((n : Int) + 1 - intOf s).toNat)
          case atStart => exact ⟨-1, by omega, by omega, rfl, rp_drew Hq.out⟩
          case round =>
            clear hQ0 hc2
            obtain ⟨row, hrow0, hrow1, rfl, h⟩ := hrel
            have Hr := Lib.hid h
            clear h
            by_cases hrn : row ≤ n
            · obtain ⟨l, hl⟩ : ∃ l, rowL L' row = l := ⟨_, rfl⟩
              have hll : l.length ≤ 1000000 := by
                rw [← hl]
                unfold rowL
                split
                · simp
                · exact HLn2.out.1 _
              obtain ⟨f1, hf1⟩ : ∃ f, firstOf l = f := ⟨_, rfl⟩
              obtain ⟨l1, hl1⟩ : ∃ f, lastOf l = f := ⟨_, rfl⟩
              have HL := Lib.hid (And.intro hl (And.intro hf1 (And.intro hl1 hll)))
              clear hl hf1 hl1
              go_wp2_with fail
              refine (all_rp Hr.out row HLn2.out.2).mono ?_
              rintro e z1 ⟨v, rfl, hV, h, _⟩
              rw [HL.out.1] at hV
              obtain ⟨a1, cap1, rfl, _⟩ := hV.shape
              have Z1 := Lib.hid (And.intro h hV)
              clear h hV
              go_wp2_with fail
              refine (rall_rp Z1.out.1 row).mono ?_
              rintro e z2 ⟨a2, cap2, S2, rfl, hs2, rfl⟩
              rw [HL.out.1] at hs2 ⊢
              have Z2 := Lib.hid hs2
              clear hs2
              go_wp2_with fail
              refine (same_ints _ _ _ _ l _ Z1.out.2 Z2.out HL.out.2.2.2).mono ?_
              rintro e z3 ⟨rfl, hF3⟩
              have Z3 := Lib.hid (And.intro (rp_keep Z1.out.1 hF3 (fun _ _ _ q => q) (fun _ _ q => q)) (Held.keep Z1.out.2 hF3 (fun _ _ q => q)))
              clear hF3
              go_wp2_with fail
              refine (len_rp Z3.out.1 row).mono ?_
              rintro e z4 ⟨rfl, rfl⟩
              rw [HL.out.1]
              go_wp2_with fail
              refine (rlen_rp Z3.out.1 row).mono ?_
              rintro e z4 ⟨rfl, rfl⟩
              rw [HL.out.1]
              go_wp2_with fail
              refine (first_rp Z3.out.1 row).mono ?_
              rintro e z4 ⟨rfl, j4, rfl⟩
              rw [HL.out.1, HL.out.2.1]
              have Z4 := Lib.hid (And.intro (rp_drewN Z3.out.1 j4) (Held.keep Z3.out.2 ((Fr.refl (fun _ => False) z3).drewN j4) (fun _ _ q => q)))
              go_wp2_with fail
              refine (rfirst_rp Z4.out.1 row (by rw [HL.out.1]; exact HL.out.2.2.2)).mono ?_
              rintro e z5 ⟨rfl, rfl⟩
              rw [HL.out.1, HL.out.2.1]
              go_wp2_with fail
              refine (last_rp Z4.out.1 row).mono ?_
              rintro e z5 ⟨rfl, j5, hj5⟩
              rw [HL.out.1, HL.out.2.2.1]
              have Z5 := Lib.hid (show Sep (RP g r n L' L' (k + 1)) w z5 S' ∧ Held w z5 S' 3 1 (.slice a1 l.length cap1) l.length (l.map (Value.int .i64)) from by
                rw [hj5]
                exact ⟨rp_drewN Z4.out.1 j5, Held.keep Z4.out.2 ((Fr.refl (fun _ => False) _).drewN j5) (fun _ _ q => q)⟩)
              clear hj5
              go_wp2_with fail
              refine (rlast_rp Z5.out.1 row (by rw [HL.out.1]; exact HL.out.2.2.2)).mono ?_
              rintro e z6 ⟨rfl, rfl⟩
              rw [HL.out.1, HL.out.2.2.1]
              go_wp2_with fail
              obtain ⟨wOu2, rfl⟩ : ∃ wo : World, wo = wr := ⟨_, rfl⟩
              have hll2 := HL.out.2.2.2
              go_loopw [14] (fun s wr => ∃ (j : Nat) (xs : List Value), j ≤ l.length ∧ s = .int .i64 j ∧ Sep (RP g r n L' L' (k + 1)) w wr S' ∧ Held w wr S' 3 1 (.slice a1 l.length cap1) l.length xs) (fun s _ => l.length - (intOf s).toNat)
              case atStart => exact ⟨0, _, by omega, rfl, Z5.out.1, Z5.out.2⟩
              case round =>
                obtain ⟨j, xs, hj, rfl, h1, h2⟩ := hrel
                have Hj := Lib.hid (And.intro h1 h2)
                clear h1 h2
                by_cases hjl : j < l.length
                · have hxl : j < xs.length := by have := Hj.out.2.1; omega
                  obtain ⟨b3, off3, cap3, hv3, _, _, _, htx, htf⟩ := Sl.pos Hj.out.2 (by omega)
                  simp at hv3
                  obtain ⟨rfl, rfl⟩ := hv3
                  have hc3 := htx j hxl
                  rw [List.getElem?_eq_getElem hxl] at hc3
                  obtain ⟨ux, hux⟩ : ∃ u, xs[j] = u := ⟨_, rfl⟩
                  rw [hux] at hc3
                  have hf3 := htf (off3 + j)
                  have hset := rp_held_set Hj.out.1 Hj.out.2 (i := j) hjl (.int .i64 (-9))
                  have H4 := Lib.hid hset
                  clear htx htf hset hux
                  go_wp2_with fail
                  go_roundw
                  case rel => exact ⟨j + 1, _, by omega, by go_num, H4.out.2, H4.out.1⟩
                  case measure => simp [intOf]; omega
                · go_wp2_with fail
                  go_roundw
                  case rel => exact ⟨row + 1, by omega, by omega, by go_num, Hj.out.1⟩
                  case measure => simp [intOf]; omega
            · go_wp2_with fail
              go_roundw
              case rel => exact ⟨k + 1, L', S', by omega, by omega, by go_num, Hr.out⟩
              case measure => simp [intOf]; omega
      · have hex : (k < n1 ∧ k = 200) ∨ n1 ≤ k := by omega
        clear hlt
        rcases hex with ⟨hlt, rfl⟩ | hge
        all_goals
          go_wp2
          go_ret
          exact ⟨rfl, Hk.out.below⟩
  · have hno : a0 < 1 ∨ 8 < a0 := by omega
    have HNO := Lib.hid hno
    clear hn hno
    go_wp2_with fail
    refine (rows_new_no a0 HNO.out y1).mono ?_
    rintro e y2 ⟨rfl, rfl⟩
    go_wp2_with fail
    refine (rf_new_no a0 HNO.out y1).mono ?_
    rintro e y3 ⟨rfl, rfl⟩
    go_wp2
    go_ret
    exact ⟨rfl, HF.out.below (Nat.le_refl _) fun b _ q => q⟩

set_option maxRecDepth 100000 in
theorem lifted (os : Os) (started : os.Started) (H : Type) (enc : TypeId × Value → H) :
    ReturnsInHanded {} Try.checked os 4 .any (Rows.rowsPlaysSpec.pre6 enc Try.prog Try.f4 Rows.rowsPlaysRow.domain false) (Rows.rowsPlaysSpec.post enc Try.prog Try.f4 false true false false) := by
  refine returnsInHanded_of_change (C := Try.checked) own started (by kernel_rfl) Try.func4
    (ChangeSpec.witness6 (enc := enc) (C := Try.checked) false ⟨#[], #[.int .i64 0, .slice none 0 0], []⟩ 8 (by kernel_rfl) (by kernel_rfl) (by kernel_rfl) (by kernel_rfl)) ?_
  intro W base args ds gs before hval0 hW hcnd _
  have hval : ∀ (j : Nat) t v, Try.f4.params[j]? = some t → args[j]? = some v → Value.okWide Try.prog W .any base t v := hval0
  have hW' := hW
  obtain ⟨p, q, hA0, hV, rfl, hfz, hnd⟩ := hW
  have hA : DataW.TrodAll enc Try.prog W 0 (fun _ => true) true Try.f4.params.toList args.toList ds p := hA0
  rw [Try.params4] at hA hval
  obtain ⟨v0, vs0, d0, ds0, p0, q0, hargs, rfl, rfl, h0, r0⟩ := trodAll_cons hA
  obtain ⟨v1, vs1, d1, ds1, p1, q1, rfl, rfl, rfl, h1, r1⟩ := trodAll_cons r0
  obtain ⟨rfl, rfl, rfl⟩ := trodAll_nil r1
  obtain rfl : args = #[v0, v1] := by cases args; simp_all
  obtain ⟨rfl, rfl⟩ := trodVars_none hV
  obtain ⟨a0, rfl, rfl, rfl, w0⟩ := open_int Try.underlying3 (hval 0 3 v0 rfl rfl) h0
  obtain ⟨a1, n1, c1, rfl⟩ := okWide_slice Try.underlying30 (hval 1 30 v1 rfl rfl)
  have k1 := h1
  have lt1 : ∀ x ∈ p1, x.block < W.heap.size := by obtain ⟨m, hm⟩ := k1; exact DataW.trod_lt m _ _ _ hm
  have w1 := open_in (C := El34) Try.underlying30 k1 3 (by kernel_rfl) (by decide) (el34)
  clear hA0 hval0
  refine (walk W a0 w0 a1 n1 c1 w1).mono fun e W' ⟨he, bel⟩ => ?_
  subst he
  exact ⟨_, rfl, _, _, _, [], _, [], hW', trodAll_mk1 (shut_bool Try.underlying4 _), (trodAll_cons_mk (shut_int Try.underlying3 w0) (trodAll_cons_mk (Below.trod laidOut (by kernel_rfl) (of_decide_eq_true (by kernel_rfl)) k1 bel lt1) trodAll_mk0)), rfl, bel.frame _, fun h => by cases h⟩

theorem over : Rows.rowsPlaysRow.holds Try.pinned (OpenSpec.ofChange Rows.rowsPlaysSpec) :=
  OpenClaim.holds_of_wide 4 Try.f4 rfl rfl rfl rfl rfl rfl rfl ⟨rfl, rfl, rfl, rfl, rfl⟩ rfl rfl rfl rfl rfl (by kernel_rfl) Try.func4 (by kernel_rfl)
    (of_decide_eq_true (by kernel_rfl)) (by unfold Func.isWrapper; first | (rw [if_pos (by decide +kernel)]; kernel_rfl) | (rw [if_neg (by decide +kernel)]; exact ⟨rfl, rfl⟩))
    (fun os started H enc _ => lifted os started H enc)

theorem proved : Rows.RowsPlaysSaid := over
#print axioms proved
end Go.Proofs.Ytldnacphfoagnaa.rowsPlays
