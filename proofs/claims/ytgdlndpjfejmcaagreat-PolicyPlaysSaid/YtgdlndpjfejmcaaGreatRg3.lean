/- The reference of layer 11: Add and Limit, out of cut. -/
import Derived.Test.YtgdlndpjfejmcaaGreatRg1
import Derived.Deep.QuietTactic
import Derived.BigQuiet
namespace Go.Proofs.YtgdlndpjfejmcaaGreat
open Go.RowKit
set_option linter.unusedVariables false
set_option maxRecDepth 100000
/-- What cut does. -/
def CutSaid : Prop := ∀ (S : Nat → Prop) (p : Nat) (most : Int) (L : List Int) (w : World), RefG w S p most L → 0 ≤ most → L.length ≤ 1000000 →
  Calls Tryz.prog 65 #[.pointer (some ⟨p, 0, none⟩)] w fun e w' => e = .returned (.tuple #[]) ∧ RefG w' (grow S w w') p most (cut most L) ∧ Fr S w w'

set_option maxHeartbeats 1000000 in
theorem rlimit_at (hcut : CutSaid) (S : Nat → Prop) (p : Nat) (most : Int) (L : List Int) (n : Int) (w : World) (hG : RefG w S p most L) (hN : L.length ≤ 1000000) :
    Calls Tryz.prog 62 #[.pointer (some ⟨p, 0, none⟩), .int .i64 n] w fun e w' => e = .returned (.tuple #[]) ∧ RefG w' (grow S w w') p (max 0 n) (cut (max 0 n) L) ∧ Fr S w w' := by
  obtain ⟨sv, hS, hp, hs⟩ := hG
  have c0 := cell_of_heap hp 0
  have f0 := fro_of_heap hp 0
  simp at c0
  have key : ∀ (u : Int), u = max 0 n → Calls Tryz.prog 65 #[.pointer (some ⟨p, 0, none⟩)] (w.setCell ⟨p, 0, none⟩ (.int .i64 u)) fun e w' => e = .returned (.tuple #[]) ∧ RefG w' (grow S w w') p (max 0 n) (cut (max 0 n) L) ∧ Fr S w w' := by
    intro u hu
    subst hu
    have hI : RefG (w.setCell ⟨p, 0, none⟩ (.int .i64 (max 0 n))) S p (max 0 n) L := ⟨sv, hS, (heap_setCell_same hp 0 _).trans (by simp), hs.setCell_other hp (by decide) _ _⟩
    have hF : Fr S w (w.setCell ⟨p, 0, none⟩ (.int .i64 (max 0 n))) := (Fr.refl S w).setCell (p := ⟨p, 0, none⟩) (fun _ => hS) _
    have hsz : (w.setCell ⟨p, 0, none⟩ (.int .i64 (max 0 n))).heap.size = w.heap.size := by simp [World.setCell]
    refine (hcut S p (max 0 n) L _ hI (by omega) hN).mono fun e w' ⟨he, hG', hF'⟩ => ⟨he, ?_, hF.trans hF' (fun _ _ h => h)⟩
    exact hG'.mono (fun b _ h => h.imp id (fun ⟨q1, q2⟩ => ⟨by omega, q2⟩))
  have HK := Lib.hid key
  clear key hp hs hcut
  rcases Int.lt_trichotomy n 0 with hn | hn | hn
  all_goals
    first | subst hn | skip
    go_enter Tryz.func62, Tryz.ntmps62
    go_wp2_with (go_at_call 65; refine (HK.out _ (by omega)).mono ?_; rintro e w' ⟨rfl, hG', hF'⟩; have HG := Lib.hid hG'; have HF := Lib.hid hF'; clear hG' hF')
    go_end0
    exact ⟨rfl, HG.out, HF.out⟩

set_option maxHeartbeats 1000000 in
theorem radd_at (hcut : CutSaid) (S : Nat → Prop) (p : Nat) (most : Int) (L : List Int) (h : Int) (w : World) (hG : RefG w S p most L) (hm : 0 ≤ most) (hN : L.length < 1000000) :
    Calls Tryz.prog 61 #[.pointer (some ⟨p, 0, none⟩), .int .u64 h] w fun e w' => e = .returned (.tuple #[]) ∧ RefG w' (grow S w w') p most (gadd most L h) ∧ Fr S w w' := by
  obtain ⟨i0, hi, hz0, hz1, hz2⟩ := info_parts info_u64
  have HG := Lib.hid hG
  have HCUT := Lib.hid hcut
  clear hG hcut
  go_enter Tryz.func61, Tryz.ntmps61
  go_wp2_with fail
  refine (rremove_at S p most L h w HG.out (by omega)).mono ?_
  rintro e w1 ⟨rfl, hG1, hF1⟩
  have hsz1 := hF1.size
  have hgl : (grem L h).length ≤ L.length := List.length_filter_le _ _
  obtain ⟨sv, hS, hp, hs⟩ := hG1
  have c1 := cell_of_heap hp 1
  have f1 := fro_of_heap hp 1
  simp at c1
  have HP := Lib.hid (And.intro hp (And.intro hs (And.intro hF1 hS)))
  obtain ⟨sa, scap, rfl, _⟩ := hs.shape
  clear hp hs hF1 hS
  go_wp2_with (first
    | (at_builtin; go_must (refine wpList_append_sl (S := grow S w w1) rfl _ _ 100 rfl 28 i0 (.int .u64 0) 1 8 Tryz.underlying100 hi hz0 hz1 hz2 rfl (by decide) _ _ _ rfl (HP.out.2.1.alloc _) ⟨_, 0, none⟩ 1 1 [.int .u64 h] rfl rfl (cell_one_at _ _ _ (by simp)) (ints_oneCell .u64 [h]) (by unfold maxLen; omega) (by omega) ?_); intro v1 w2 hs1 hf1; obtain ⟨a1, cap1, rfl, _⟩ := hs1.shape; have hg1 := hf1.other ((heap_alloc_old _ (lt_of_heap HP.out.1)).trans HP.out.1) (fun c hc => by cases hc); have e2 := cell_of_heap hg1 1; have e3 := fro_of_heap hg1 1; simp at e2; have HS1 := Lib.hid (And.intro hs1 (And.intro hf1 hg1)); clear hs1 hf1 hg1)
    | (go_at_call 65; fail))
  obtain ⟨hp, hs, hF1, hS⟩ := HP.out
  obtain ⟨hs1, hf1, hg1⟩ := HS1.out
  have hsz2 : w1.heap.size ≤ w2.heap.size := by have := hf1.size; simp at this; omega
  have hI : RefG (w2.setCell ⟨p, 1, none⟩ (.slice a1 ((grem L h).length + 1) cap1)) (grow S w w2) p most (grem L h ++ [h]) := by
    refine ⟨_, hS.imp id (fun ⟨q1, q2⟩ => ⟨q1, by omega⟩), (heap_setCell_same hg1 1 _).trans (by simp; rfl), ?_⟩
    have h2 := (hs1.mono (S' := grow S w w2) (fun b _ hb => hb.elim (fun h => h.imp id (fun ⟨q1, q2⟩ => ⟨q1, by omega⟩)) (fun ⟨q1, q2⟩ => Or.inr ⟨by simp at q1; omega, q2⟩))).setCell_other hg1 (by decide) 1 (.slice a1 ((grem L h).length + 1) cap1)
    simpa [u64s] using h2
  have hF2 : Fr S w (w2.setCell ⟨p, 1, none⟩ (.slice a1 ((grem L h).length + 1) cap1)) := by
    have hSp : p < w.heap.size → S p := fun hlt => hS.elim id (fun ⟨q1, _⟩ => absurd hlt (by omega))
    refine ((hF1.trans (((Fr.refl (grow S w w1) w1).alloc _).trans hf1.arr (fun _ _ h => h)) (fun i hi h => h.elim id (fun ⟨q1, _⟩ => absurd hi (by omega))))).setCell (p := ⟨p, 1, none⟩) hSp _
  refine (HCUT.out (grow S w w2) p most (grem L h ++ [h]) _ hI hm (by simp; omega)).mono ?_
  rintro e w' ⟨rfl, hG', hF'⟩
  have hsz3 : w2.heap.size ≤ w'.heap.size := by have := hF'.size; simpa [World.setCell] using this
  have HG2 := Lib.hid (hG'.mono (S' := grow S w w') (fun b _ h => h.elim (fun h => h.imp id (fun ⟨q1, q2⟩ => ⟨q1, by omega⟩)) (fun ⟨q1, q2⟩ => Or.inr ⟨by simp [World.setCell] at q1; omega, q2⟩)))
  have HF2 := Lib.hid (hF2.trans hF' (fun i hi h => h.elim id (fun ⟨q1, _⟩ => absurd hi (by omega))))
  clear hG' hF' hF2 hI hs hs1 hf1 hg1 hp hF1
  go_wp2
  go_end0
  exact ⟨rfl, HG2.out, HF2.out⟩
end Go.Proofs.YtgdlndpjfejmcaaGreat
