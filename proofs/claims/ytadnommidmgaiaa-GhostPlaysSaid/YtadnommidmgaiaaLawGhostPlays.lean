/- 'ambry/ambrylaw11.GhostPlays' returns true, for every input, and leaves its arguments as they were. No condition. -/
import Derived.Test.YtadnommidmgaiaaIn
import Derived.Test.YtadnommidmgaiaaRef11b
import Derived.Test.YtadnommidmgaiaaPair11
import Derived.Deep.QuietTactic
import Derived.BigQuiet
import Derived.Deep.DeepCutAuto
import Derived.Deep.RegionHeld3
import Derived.Deep.CutBlock
import Derived.WalkKit
import Derived.ProofKit
import Derived.OpenShut
import Derived.ShutString
import Derived.ChangeOld
import Derived.Below
namespace Go.Proofs.Ytadnommidmgaiaa.ghostPlays
open Go.ChangeShapes Go.WideShapes Go.ChangeAt Go.RowKit
open Go.ChangeMaps (open_string shut_string)
set_option linter.unusedVariables false

theorem own : ownKnob Try.prog.godebug = none := by kernel_rfl
theorem laidOut : laidOutB Try.prog = true := by kernel_rfl
def El38 : List Value → Prop := fun cs => ∃ (x0 : Int) (x1 : Int) (x2 : Int), cs = [.int .i64 x0, .int .i64 x1, .int .u64 x2] ∧ (Lit.int .i64 x0).wf = true ∧ (Lit.int .i64 x1).wf = true ∧ (Lit.int .u64 x2).wf = true
theorem cells38 : Try.prog.cellsOf 38 = 3 := by kernel_rfl
theorem one38_3 : Try.prog.cellsOf 3 = 1 := by kernel_rfl
theorem one38_22 : Try.prog.cellsOf 22 = 1 := by kernel_rfl
theorem el38 {H : Type} {enc : TypeId × Value → H} {w : World} {base : Nat} {spare : Nat → Bool} {held : Bool} (m : Nat) (cs : List Value) (x : DataW H × List MemPlace) (h : DataW.trod enc Try.prog w base spare held m 38 cs = some x) : El38 cs := by
  obtain ⟨xs, m', _, _, hlen, hl, hg⟩ := DataW.trod_struct Try.underlying38 h
  rw [cells38] at hlen
  match cs, hlen, xs, hl, hg with
  | [c0, c1, c2], _, [y0, y1, y2], _, hg =>
    have g0 := hg 0 _ rfl
    have g0 : DataW.trod enc Try.prog w base spare held m' 3 (([c0, c1, c2].drop 0).take (Try.prog.cellsOf 3)) = some y0 := g0
    rw [one38_3] at g0
    obtain ⟨x0, e0, _, w0⟩ := DataW.trod_int Try.underlying3 g0
    have g1 := hg 1 _ rfl
    have g1 : DataW.trod enc Try.prog w base spare held m' 3 (([c0, c1, c2].drop 1).take (Try.prog.cellsOf 3)) = some y1 := g1
    rw [one38_3] at g1
    obtain ⟨x1, e1, _, w1⟩ := DataW.trod_int Try.underlying3 g1
    have g2 := hg 2 _ rfl
    have g2 : DataW.trod enc Try.prog w base spare held m' 22 (([c0, c1, c2].drop 2).take (Try.prog.cellsOf 22)) = some y2 := g2
    rw [one38_22] at g2
    obtain ⟨x2, e2, _, w2⟩ := DataW.trod_int Try.underlying22 g2
    simp at e0 e1 e2
    subst e0 e1 e2
    exact ⟨x0, x1, x2, rfl, w0, w1, w2⟩

theorem hcut : CutSaid := rcut_said
theorem sl_put {w : World} {S : Nat → Prop} {T : TypeId} {b off cap n : Nat} {xs : List Value} (h : Sl w S T 1 (.slice (some ⟨b, off, none⟩) n cap) n xs) (j : Nat) (u : Value) :
    Sl (w.setCell ⟨b, off + j, none⟩ u) S T 1 (.slice (some ⟨b, off, none⟩) n cap) n (xs.set j u) := by
  obtain ⟨h1, h2⟩ := h
  refine ⟨by simpa using h1, Or.inr ?_⟩
  rcases h2 with ⟨h2, _⟩ | ⟨b', off', cap', c, hv, hS, hb, hc, hm, hs, hx⟩
  · cases h2
  · simp at hv
    obtain ⟨⟨rfl, rfl⟩, rfl⟩ := hv
    refine ⟨b, off, cap, c.setIfInBounds (off + j) u, rfl, hS, heap_setCell_same hb _ u, hc, hm, by simpa using hs, fun i hi => ?_⟩
    have hi' : i < xs.length := by simpa using hi
    have := hx i hi'
    by_cases e : j = i
    · subst e
      have hlt : off + j < c.size := by
        rcases Nat.lt_or_ge (off + j) c.size with q | q
        · exact q
        · rw [Array.getElem?_eq_none (by omega), List.getElem?_eq_getElem hi'] at this
          cases this
      rw [Array.getElem?_setIfInBounds_self_of_lt hlt, List.getElem?_set_self hi']
    · rw [Array.getElem?_setIfInBounds_ne (by omega), List.getElem?_set_ne e]
      exact this
theorem both_away {w0 w w' : World} {S1 S2 : Nat → Prop} {g p : Nat} {most : Int} {L : List Int} {N : Nat} (h : Both w0 w S1 S2 g p most L N) {F : Nat → Prop} (hF : Fr F w w')
    (h1 : ∀ b, F b → ¬ S1 b) (h2 : ∀ b, F b → ¬ S2 b) (h0 : ∀ b, F b → w0.heap.size ≤ b) : Both w0 w' S1 S2 g p most L N where
  one := h.one.fr hF (fun b _ hS q => h1 b q hS)
  two := h.two.fr hF (fun b _ hS q => h2 b q hS)
  apart := { lo1 := h.apart.lo1, hi1 := fun b hb => Nat.lt_of_lt_of_le (h.apart.hi1 b hb) hF.size, lo2 := h.apart.lo2, hi2 := fun b hb => Nat.lt_of_lt_of_le (h.apart.hi2 b hb) hF.size,
             dis := h.apart.dis, fr := h.apart.fr.trans hF (fun i _ q => h0 i q) }
set_option maxRecDepth 100000 in
set_option maxHeartbeats 4000000 in
theorem walk (w : World) (a0 : Int) (w0 : (Lit.int .i64 a0).wf = true) (a1 : Option Addr) (n1 c1 : Nat) (w1 : n1 ≤ c1 ∧ ∀ i, i < n1 → InAt w a1 3 i (El38)) :
    Calls Try.prog 5 #[.int .i64 a0, .slice a1 n1 c1] w fun e w' => e = .returned (.bool true) ∧ Below w.heap.size w w' := by
  have hb0 := bounds_i64 w0
  go_enter Try.func5, Try.ntmps5
  go_wp2_with fail
  refine (shown_any _).mono ?_
  rintro e q1 ⟨rfl, hF⟩
  have HF := Lib.hid (hF.mono (T := From w.heap.size) (fun _ _ h => h.elim))
  clear hF
  go_wp2_with fail
  refine (new_at a0 q1).mono ?_
  rintro e q2 ⟨g, rfl, hG, hF⟩
  have H1 := Lib.hid (And.intro hG hF)
  clear hG hF
  go_wp2_with fail
  refine (rnew_at a0 q2).mono ?_
  rintro e q3 ⟨p, rfl, hR, hF⟩
  have hB : Both w q3 (fun b => q1.heap.size ≤ b ∧ b < q2.heap.size) (fun b => q2.heap.size ≤ b ∧ b < q3.heap.size) g p (max 0 a0) [] 0 := by
    obtain ⟨hG, hF1⟩ := H1.out
    have s1 := HF.out.size
    have s2 := hF1.size
    have s3 := hF.size
    exact ⟨hG.fr hF (fun _ _ _ h => h), hR, ⟨fun b q => Nat.le_trans s1 q.1, fun b q => by omega, fun b q => by omega, fun b q => q.2, fun b q r => by omega, (HF.out.trans hF1 (fun _ _ h => h.elim)).trans hF (fun _ _ h => h.elim)⟩⟩
  have HB := Lib.hid hB
  clear hB hR hF H1 HF hb0
  go_wp2_with fail
  go_loopw [8] (fun i wr => ∃ (k : Nat) (S1 S2 : Nat → Prop) (most : Int) (L : List Int), k ≤ n1 ∧ k ≤ 300 ∧ i = .int .i64 k ∧ Both w wr S1 S2 g p most L k) (fun i _ => 300 - (intOf i).toNat)
  case atStart => exact ⟨0, _, _, _, _, by omega, by omega, rfl, HB.out⟩
  case round =>
    obtain ⟨k, S1, S2, most, L, hk, hk2, rfl, hB⟩ := hrel
    have HBk := Lib.hid hB
    clear hB
    by_cases hlt : k < n1 ∧ k < 300
    · obtain ⟨hlt, hlt2⟩ := hlt
      obtain ⟨b, off, u, v, x, rfl, hbl, hEl, hc0, hc1, hc2⟩ := (w1.2 k hlt).three
      obtain ⟨x0, x1, x2, he, hw0, hw1, hw2⟩ := hEl
      simp at he
      obtain ⟨rfl, rfl, rfl⟩ := he
      have hd0 : wr.cell? ⟨b, off + k * 3, none⟩ = some (.int .i64 x0) := (HBk.out.apart.fr.cell hbl (by unfold From; simp; omega)).trans hc0
      have hd1 : wr.cell? ⟨b, off + k * 3 + 1, none⟩ = some (.int .i64 x1) := (HBk.out.apart.fr.cell hbl (by unfold From; simp; omega)).trans hc1
      have hd2 : wr.cell? ⟨b, off + k * 3 + 2, none⟩ = some (.int .u64 x2) := (HBk.out.apart.fr.cell hbl (by unfold From; simp; omega)).trans hc2
      clear hc0 hc1 hc2 hw0 hw1 hw2
      have W1 := Lib.hid w1
      clear w1
      go_upto_block 2 with fail
      obtain ⟨ob, hob⟩ : ∃ ob, wr.heap.size = ob := ⟨_, rfl⟩
      have hB2 : Both w (wr.alloc (.cells #[.int .i64 x0, .int .i64 x1, .int .u64 x2] 38)) S1 S2 g p most L k := HBk.out.keep (F := fun _ => False) ((Fr.refl _ wr).alloc _) (fun _ _ h => h)
      have e0 : (wr.alloc (.cells #[.int .i64 x0, .int .i64 x1, .int .u64 x2] 38)).cell? ⟨wr.heap.size, 0, none⟩ = some (.int .i64 x0) := by simp
      have e1 : (wr.alloc (.cells #[.int .i64 x0, .int .i64 x1, .int .u64 x2] 38)).cell? ⟨wr.heap.size, 1, none⟩ = some (.int .i64 x1) := by simp
      have e2 : (wr.alloc (.cells #[.int .i64 x0, .int .i64 x1, .int .u64 x2] 38)).cell? ⟨wr.heap.size, 2, none⟩ = some (.int .u64 x2) := by simp
      have hsz : (wr.alloc (.cells #[.int .i64 x0, .int .i64 x1, .int .u64 x2] 38)).heap.size = ob + 1 := by simp; exact hob
      have hn1 : ¬ S1 ob := fun h => by have := HBk.out.apart.hi1 _ h; omega
      have hn2 : ¬ S2 ob := fun h => by have := HBk.out.apart.hi2 _ h; omega
      rw [hob] at e0 e1 e2 ⊢
      obtain ⟨wo, hwo⟩ : ∃ wo, wr.alloc (.cells #[.int .i64 x0, .int .i64 x1, .int .u64 x2] 38) = wo := ⟨_, rfl⟩
      rw [hwo] at hB2 e0 e1 e2 hsz ⊢
      have HB2 := Lib.hid (And.intro hB2 (And.intro hsz (And.intro hn1 hn2)))
      clear hB2 hsz hn1 hn2 hwo hob hd0 hd1 hd2
      go_cut [40] (fun s wx => ∃ (S1 S2 : Nat → Prop) (most : Int) (L : List Int), Both w wx S1 S2 g p most L (k + 1) ∧ wx.cell? ⟨ob, 2, none⟩ = some (.int .u64 x2) ∧ ob < wx.heap.size ∧ ¬ S1 ob ∧ ¬ S2 ob)
      case first =>
        have hon := HB2.out.2.1
        by_cases h1 : x0 = 1
        · subst h1
          go_wp2_with fail
          refine (add_at S1 g most L k x2 _ HB2.out.1.one (by omega)).mono ?_
          rintro e y1 ⟨rfl, hG, hF⟩
          have hc2 : y1.cell? ⟨ob, 2, none⟩ = some (.int .u64 x2) := (hF.cell (p := ⟨ob, 2, none⟩) (by simp; omega) HB2.out.2.2.1).trans e2
          have HG1 := Lib.hid (And.intro hG hF)
          clear hG hF
          go_wp2_with fail
          refine (radd_at hcut S2 p most L x2 _ (HB2.out.1.two.fr HG1.out.2 (fun b hb q r => HB2.out.1.apart.dis b r q)) HB2.out.1.len.2 (by have := HB2.out.1.len.1; omega)).mono ?_
          rintro e y2 ⟨rfl, hR, hF⟩
          have hs1 := HG1.out.2.size
          have hs2 := hF.size
          have HG2 := Lib.hid (And.intro (HB2.out.1.step HG1.out.1 HG1.out.2 hR hF) (And.intro ((hF.cell (p := ⟨ob, 2, none⟩) (by simp; omega) HB2.out.2.2.2).trans hc2) (And.intro hs1 hs2)))
          clear hR hF hs1 hs2
          go_wp2
          go_meet
          obtain ⟨hB3, hc3, hs1, hs2⟩ := HG2.out
          exact ⟨_, _, _, _, hB3, hc3, by omega, fun h => h.elim HB2.out.2.2.1 (fun q => by omega), fun h => h.elim HB2.out.2.2.2 (fun q => by omega)⟩
        · have h1b : (x0 == 1) = false := by simpa using h1
          clear h1
          by_cases h2 : x0 = 2
          · subst h2
            have hNk := HB2.out.1.len.1
            go_wp2_with fail
            go_region_held3 (fun w' => w'.cell? ⟨ob, 2, none⟩ = some (.int .u64 x2)) (go_keep) (first
              | (go_at_call 13; refine (remove_at S1 g most L k x2 _ (HB2.out.1.keep (F := fun _ => False) ((Fr.refl _ wo).drew) (fun _ _ h => h)).one (by omega)).mono ?_; rintro e y1 ⟨rfl, hG, hF⟩; have hc2 : y1.cell? ⟨ob, 2, none⟩ = some (.int .u64 x2) := (hF.cell (p := ⟨ob, 2, none⟩) (by simp; omega) HB2.out.2.2.1).trans e2; have HG1 := Lib.hid (And.intro hG (Fr.of_drew hF)); clear hG hF)
              | (go_at_call 16; refine (rremove_at S2 p most L x2 _ (HB2.out.1.two.fr HG1.out.2 (fun b hb q r => HB2.out.1.apart.dis b r q)) (by omega)).mono ?_; rintro e y2 ⟨rfl, hR, hF⟩; have hc3 : y2.cell? ⟨ob, 2, none⟩ = some (.int .u64 x2) := (hF.cell (p := ⟨ob, 2, none⟩) (by have := HG1.out.2.size; simp at this ⊢; omega) HB2.out.2.2.2).trans hc2; have HG2 := Lib.hid (And.intro hR hF); clear hR hF))
            go_wp2
            go_meet
            have hs1 := HG1.out.2.size
            have hs2 := HG2.out.2.size
            exact ⟨_, _, _, _, HB2.out.1.step ((HG1.out.1.mono (fun b _ h => Or.inl h)).more (Nat.le_succ k)) HG1.out.2 HG2.out.1 HG2.out.2, hc3, by omega, fun h => h.elim HB2.out.2.2.1 (fun q => by omega), fun h => h.elim HB2.out.2.2.2 (fun q => by omega)⟩
          · have h2b : (x0 == 2) = false := by simpa using h2
            clear h2
            by_cases h3 : x0 = 3
            · subst h3
              go_wp2_with fail
              refine (limit_at S1 g most L k x1 _ HB2.out.1.one (by omega)).mono ?_
              rintro e y1 ⟨rfl, hG, hF⟩
              have hc1 : y1.cell? ⟨ob, 1, none⟩ = some (.int .i64 x1) := (hF.cell (p := ⟨ob, 1, none⟩) (by simp; omega) HB2.out.2.2.1).trans e1
              have hc2 : y1.cell? ⟨ob, 2, none⟩ = some (.int .u64 x2) := (hF.cell (p := ⟨ob, 2, none⟩) (by simp; omega) HB2.out.2.2.1).trans e2
              have HG1 := Lib.hid (And.intro hG hF)
              clear hG hF
              go_wp2_with fail
              refine (rlimit_at hcut S2 p most L x1 _ (HB2.out.1.two.fr HG1.out.2 (fun b hb q r => HB2.out.1.apart.dis b r q)) (by have := HB2.out.1.len.1; omega)).mono ?_
              rintro e y2 ⟨rfl, hR, hF⟩
              have hs1 := HG1.out.2.size
              have hs2 := hF.size
              have HG2 := Lib.hid (And.intro (HB2.out.1.step ((HG1.out.1.mono (fun b _ h => Or.inl h)).more (Nat.le_succ k)) HG1.out.2 hR hF) (And.intro ((hF.cell (p := ⟨ob, 2, none⟩) (by simp; omega) HB2.out.2.2.2).trans hc2) (And.intro hs1 hs2)))
              clear hR hF hs1 hs2
              go_wp2
              go_meet
              obtain ⟨hB3, hc3, hs1, hs2⟩ := HG2.out
              exact ⟨_, _, _, _, hB3, hc3, by omega, fun h => h.elim HB2.out.2.2.1 (fun q => by omega), fun h => h.elim HB2.out.2.2.2 (fun q => by omega)⟩
            · have h3b : (x0 == 3) = false := by simpa using h3
              clear h3
              go_wp2
              go_meet
              exact ⟨_, _, _, _, ⟨HB2.out.1.one.more (Nat.le_succ k), HB2.out.1.two, HB2.out.1.apart⟩, e2, by omega, HB2.out.2.2.1, HB2.out.2.2.2⟩
      case rest =>
        obtain ⟨S1', S2', most', L', hB3, hc3, hob3, hn1, hn2⟩ := hcut
        obtain ⟨wz, rfl⟩ : ∃ wz : World, wz = wc := ⟨_, rfl⟩
        have HB3 := Lib.hid (And.intro hB3 (And.intro hc3 (And.intro hob3 (And.intro hn1 hn2))))
        have hNk := hB3.len.1
        clear hB3 hc3 hob3 hn1 hn2 e0 e1 e2
        go_wp2_with fail
        refine (all_at S1' g most' L' (k + 1) _ HB3.out.1.one (by omega)).mono ?_
        rintro e y4 ⟨v, rfl, hs4, hF4⟩
        have hB4 : Both w y4 S1' S2' g p most' L' (k + 1) := HB3.out.1.keep hF4 (fun b hb h => by omega)
        have hc4 : y4.cell? ⟨ob, 2, none⟩ = some (.int .u64 x2) := (hF4.cell (p := ⟨ob, 2, none⟩) HB3.out.2.2.1 (by have := HB3.out.2.2.1; simp; omega)).trans HB3.out.2.1
        obtain ⟨rv, hRp, hpp, hrs⟩ := hB4.two
        obtain ⟨va, vcap, hv, hvn, hvx⟩ := sl_intsS hs4
        subst hv
        have hpc := cell_of_heap hpp 1
        simp at hpc
        obtain ⟨ra, rcap, hrv, hrn, hrx⟩ := sl_intsS hrs
        subst hrv
        have HB4 := Lib.hid (And.intro hB4 (And.intro hs4 (And.intro hrs (And.intro hF4 (And.intro hvx hpp)))))
        clear hB4 hs4 hrs hF4 hvx hpp hrx
        go_wp2_with fail
        refine (same_at _ _ _ _ L' _ HB4.out.2.1 HB4.out.2.2.1 (by omega)).mono ?_
        rintro e y5 ⟨rfl, hF5⟩
        have hB5 : Both w y5 S1' S2' g p most' L' (k + 1) := HB4.out.1.keep hF5 (fun _ _ h => h)
        have hob4 : ob < y4.heap.size := Nat.lt_of_lt_of_le HB3.out.2.2.1 HB4.out.2.2.2.1.size
        have hc5 : y5.cell? ⟨ob, 2, none⟩ = some (.int .u64 x2) := (hF5.cell (p := ⟨ob, 2, none⟩) hob4 (fun h => h)).trans hc4
        have hpc5 : y5.cell? ⟨p, 1, none⟩ = _ := (hF5.cell (p := ⟨p, 1, none⟩) (lt_of_heap HB4.out.2.2.2.2.2) (fun h => h)).trans hpc
        have HB5 := Lib.hid (And.intro hB5 hF5)
        clear hB5 hF5 hc4 hpc
        go_wp2_with fail
        have hlen5 : ((L'.length : Int) != (L'.length : Int)) = false := by simp
        go_quiet ((first
          | (go_at_call 12; exact Calls.quiet_of_same (has_same _ _ _ _ _ _ _ (HB5.out.1.keep (F := fun _ => False) ((Fr.refl _ y5).drewN _) (fun _ _ h => h)).one))
          | (go_at_call 20; exact Calls.quiet_of_same (rhas_same _ _ _ _ _ _ (HB5.out.1.keep (F := fun _ => False) ((Fr.refl _ y5).drewN _) (fun _ _ h => h)).two (by omega)))
          | (go_at_call 11; exact Calls.quiet_of_same (len_same _ _ _ _ _ _ (HB5.out.1.keep (F := fun _ => False) ((Fr.refl _ y5).drewN _) (fun _ _ h => h)).one))))
        go_wp2
        have hs6 : ∃ xs, Sl (y5.drewN nq) (fun b => wz.heap.size ≤ b) 22 1 (.slice va L'.length vcap) L'.length xs := ⟨_, (HB4.out.2.1.fr HB5.out.2 (fun _ _ _ h => h)).fr ((Fr.refl (fun _ => False) y5).drewN nq) (fun _ _ _ h => h)⟩
        go_loopw [12] (fun i wr2 => ∃ j : Nat, j ≤ L'.length ∧ i = .int .i64 j ∧ (∃ xs, Sl wr2 (fun b => wz.heap.size ≤ b) 22 1 (.slice va L'.length vcap) L'.length xs) ∧ Fr (fun b => wz.heap.size ≤ b) y5 wr2) (fun i _ => L'.length - (intOf i).toNat)
        case atStart => exact ⟨0, by omega, rfl, hs6, (Fr.refl _ y5).drewN nq⟩
        case round =>
          clear hs6
          obtain ⟨j, hj, rfl, ⟨xs, hs⟩, hF⟩ := hrel
          by_cases hjl : j < L'.length
          · obtain ⟨b, off, cap', hv, hSb, hbs, hcap, hx, hfr⟩ := hs.pos (by omega)
            simp at hv
            obtain ⟨rfl, rfl⟩ := hv
            have hxl : j < xs.length := by have := hs.1; omega
            obtain ⟨x, hxj⟩ : ∃ x, xs[j]? = some x := ⟨_, List.getElem?_eq_getElem hxl⟩
            have hcj : wr.cell? ⟨b, off + j, none⟩ = some x := (hx j hxl).trans hxj
            have hfj := hfr (off + j)
            have HR := Lib.hid (And.intro hs (And.intro hF hSb))
            clear hs hF hSb hx hfr hxl hxj
            go_wp2
            go_roundw
            case rel => exact ⟨j + 1, by omega, by go_num, ⟨_, sl_put HR.out.1 j _⟩, HR.out.2.1.setCell (fun _ => HR.out.2.2) _⟩
            case measure => simp [intOf]; omega
          · have HR := Lib.hid hF
            clear hs hF
            go_wp2
            go_roundw
            case rel => exact ⟨k + 1, S1', S2', most', L', by omega, by omega, by go_num, both_away HB5.out.1 HR.out (fun b q h => by have := HB3.out.1.apart.hi1 b h; omega) (fun b q h => by have := HB3.out.1.apart.hi2 b h; omega) (fun b q => Nat.le_trans HB3.out.1.apart.fr.size q)⟩
            case measure => simp [intOf]; omega
    · rename_i hno
      by_cases hlt : k < n1
      · have hge : k = 300 := by omega
        subst hge
        go_wp2
        go_ret
        exact ⟨rfl, Fr.below HBk.out.apart.fr (Nat.le_refl _) (fun b hb h => h)⟩
      · go_wp2
        go_ret
        exact ⟨rfl, Fr.below HBk.out.apart.fr (Nat.le_refl _) (fun b hb h => h)⟩

set_option maxRecDepth 100000 in
theorem lifted (os : Os) (started : os.Started) (H : Type) (enc : TypeId × Value → H) :
    ReturnsInHanded {} Try.checked os 5 .any (Rows.ghostPlaysSpec.pre6 enc Try.prog Try.f5 Rows.ghostPlaysRow.domain false) (Rows.ghostPlaysSpec.post enc Try.prog Try.f5 false true false false) := by
  refine returnsInHanded_of_change (C := Try.checked) own started (by kernel_rfl) Try.func5
    (ChangeSpec.witness6 (enc := enc) (C := Try.checked) false ⟨#[], #[.int .i64 0, .slice none 0 0], []⟩ 8 (by kernel_rfl) (by kernel_rfl) (by kernel_rfl) (by kernel_rfl)) ?_
  intro W base args ds gs before hval0 hW hcnd _
  have hval : ∀ (j : Nat) t v, Try.f5.params[j]? = some t → args[j]? = some v → Value.okWide Try.prog W .any base t v := hval0
  have hW' := hW
  obtain ⟨p, q, hA0, hV, rfl, hfz, hnd⟩ := hW
  have hA : DataW.TrodAll enc Try.prog W 0 (fun _ => true) true Try.f5.params.toList args.toList ds p := hA0
  rw [Try.params5] at hA hval
  obtain ⟨v0, vs0, d0, ds0, p0, q0, hargs, rfl, rfl, h0, r0⟩ := trodAll_cons hA
  obtain ⟨v1, vs1, d1, ds1, p1, q1, rfl, rfl, rfl, h1, r1⟩ := trodAll_cons r0
  obtain ⟨rfl, rfl, rfl⟩ := trodAll_nil r1
  obtain rfl : args = #[v0, v1] := by cases args; simp_all
  obtain ⟨rfl, rfl⟩ := trodVars_none hV
  obtain ⟨a0, rfl, rfl, rfl, w0⟩ := open_int Try.underlying3 (hval 0 3 v0 rfl rfl) h0
  obtain ⟨a1, n1, c1, rfl⟩ := okWide_slice Try.underlying34 (hval 1 34 v1 rfl rfl)
  have k1 := h1
  have lt1 : ∀ x ∈ p1, x.block < W.heap.size := by obtain ⟨m, hm⟩ := k1; exact DataW.trod_lt m _ _ _ hm
  have w1 := open_in (C := El38) Try.underlying34 k1 3 (by kernel_rfl) (by decide) (el38)
  clear hA0 hval0
  refine (walk W a0 w0 a1 n1 c1 w1).mono fun e W' ⟨he, bel⟩ => ?_
  subst he
  exact ⟨_, rfl, _, _, _, [], _, [], hW', trodAll_mk1 (shut_bool Try.underlying4 _), (trodAll_cons_mk (shut_int Try.underlying3 w0) (trodAll_cons_mk (Below.trod laidOut (by kernel_rfl) (of_decide_eq_true (by kernel_rfl)) k1 bel lt1) trodAll_mk0)), rfl, bel.frame _, fun h => by cases h⟩

theorem over : Rows.ghostPlaysRow.holds Try.pinned (OpenSpec.ofChange Rows.ghostPlaysSpec) :=
  OpenClaim.holds_of_wide 5 Try.f5 rfl rfl rfl rfl rfl rfl rfl ⟨rfl, rfl, rfl, rfl, rfl⟩ rfl rfl rfl rfl rfl (by kernel_rfl) Try.func5 (by kernel_rfl)
    (of_decide_eq_true (by kernel_rfl)) (by unfold Func.isWrapper; first | (rw [if_pos (by decide +kernel)]; kernel_rfl) | (rw [if_neg (by decide +kernel)]; exact ⟨rfl, rfl⟩))
    (fun os started H enc _ => lifted os started H enc)

theorem proved : Rows.GhostPlaysSaid := over
#print axioms proved
end Go.Proofs.Ytadnommidmgaiaa.ghostPlays
