/- The functions of layer 11 (ghost), said of the numbers that are there. -/
import Derived.Test.YtemdhnolccnnfaaRows
import Derived.Test.YtemdhnolccnnfaaSl
import Derived.Test.YtemdhnolccnnfaaGhostSpec
import Derived.Test.YtemdhnolccnnfaaQuiet
import Derived.Test.YtemdhnolccnnfaaGhost
import Derived.WalkKit
import Derived.WalkSpells
import Derived.WalkLawsBesides
import Derived.StillTailTactics
import Derived.Deep.QuietTactic
import Derived.BigQuiet
import Derived.Deep.DeepCutAuto
namespace Go.Proofs.Ytemdhnolccnnfaa
open Go.RowKit
set_option linter.unusedVariables false

/-- A ghost: at most so many numbers; those of L, the oldest first; N: how often somebody came, at most. -/
def GhostAt (w : World) (S : Nat → Prop) (g : Nat) (most : Int) (L : List Int) (N : Nat) : Prop :=
  ∃ l row first, GhostIn w S g most l row first ∧ Turns l row first ∧ live l row first = L ∧ 0 ≤ most ∧ 0 ≤ first ∧ first + row.length ≤ N ∧ (L.length : Int) ≤ most

theorem live_le (l : List (Int × Value)) : ∀ (row : List Int) (f : Int), (live l row f).length ≤ row.length
  | [], _ => by simp [live]
  | h :: t, f => by
    unfold live
    have := live_le l t (f + 1)
    split <;> simp <;> omega

theorem GhostIn.frame {w w' : World} {S : Nat → Prop} {g : Nat} {most : Int} {l : List (Int × Value)} {row : List Int} {first : Int} (h : GhostIn w S g most l row first) (hf : ∀ b, b < w.heap.size → S b → w'.heap[b]? = w.heap[b]?) :
    GhostIn w' S g most l row first := by
  obtain ⟨m, rv, o, hSg, hSm, hg, hmo, hmb, hsl, hvs⟩ := h
  exact ⟨m, rv, o, hSg, hSm, (hf g (lt_of_heap hg) hSg).trans hg, (hf m (lt_of_heap hmo) hSm).trans hmo, hmb, hsl.frame hf, hvs⟩
theorem GhostIn.mono {w : World} {S S' : Nat → Prop} {g : Nat} {most : Int} {l : List (Int × Value)} {row : List Int} {first : Int} (h : GhostIn w S g most l row first) (hS : ∀ b, b < w.heap.size → S b → S' b) :
    GhostIn w S' g most l row first := by
  obtain ⟨m, rv, o, hSg, hSm, hg, hmo, hmb, hsl, hvs⟩ := h
  exact ⟨m, rv, o, hS g (lt_of_heap hg) hSg, hS m (lt_of_heap hmo) hSm, hg, hmo, hmb, hsl.mono hS, hvs⟩
theorem GhostAt.frame {w w' : World} {S : Nat → Prop} {g : Nat} {most : Int} {L : List Int} {N : Nat} (h : GhostAt w S g most L N) (hf : ∀ b, b < w.heap.size → S b → w'.heap[b]? = w.heap[b]?) : GhostAt w' S g most L N := by
  obtain ⟨l, row, first, hI, r⟩ := h
  exact ⟨l, row, first, hI.frame hf, r⟩
theorem GhostAt.fr {w w' : World} {S F : Nat → Prop} {g : Nat} {most : Int} {L : List Int} {N : Nat} (h : GhostAt w S g most L N) (hf : Fr F w w') (hd : ∀ b, b < w.heap.size → S b → ¬ F b) : GhostAt w' S g most L N :=
  h.frame fun b hb hS => hf.block b hb (hd b hb hS)
theorem GhostAt.mono {w : World} {S S' : Nat → Prop} {g : Nat} {most : Int} {L : List Int} {N : Nat} (h : GhostAt w S g most L N) (hS : ∀ b, b < w.heap.size → S b → S' b) : GhostAt w S' g most L N := by
  obtain ⟨l, row, first, hI, r⟩ := h
  exact ⟨l, row, first, hI.mono hS, r⟩
theorem GhostAt.more {w : World} {S : Nat → Prop} {g : Nat} {most : Int} {L : List Int} {N N' : Nat} (h : GhostAt w S g most L N) (hN : N ≤ N') : GhostAt w S g most L N' := by
  obtain ⟨l, row, first, hI, hT, hL, h0, h1, h2, h3⟩ := h
  exact ⟨l, row, first, hI, hT, hL, h0, h1, by omega, h3⟩

theorem pass_at (S : Nat → Prop) (g : Nat) (most : Int) (l : List (Int × Value)) (row : List Int) (first : Int) (w : World) (N : Nat) (h : GhostIn w S g most l row first) (hT : Turns l row first) (hm : 0 ≤ most) (hf : 0 ≤ first)
    (hb : first + row.length ≤ N) (hN : N ≤ 1000000) :
    Calls Try.prog 27 #[.pointer (some ⟨g, 0, none⟩)] w fun e w' => e = .returned (.tuple #[]) ∧ GhostAt w' S g most (cut most (live l row first)) N ∧ Fr S w w' := by
  have hlen := live_length hT
  have hle := live_le l row first
  refine (pass_in S g most l row first w h hm hf (by omega) (by omega)).mono fun e w' ⟨he, hI, hF⟩ => ⟨he, ?_, hF⟩
  obtain ⟨p1, p2, p3, p4⟩ := passF_ok most hm row l first hT
  exact ⟨_, _, _, hI, p1, p2, hm, by omega, by omega, (cut_length most _ hm).1⟩

set_option maxHeartbeats 400000 in
theorem has_at (S : Nat → Prop) (g : Nat) (most : Int) (L : List Int) (N : Nat) (h : Int) (w : World) (hG : GhostAt w S g most L N) :
    Calls Try.prog 17 #[.pointer (some ⟨g, 0, none⟩), .int .u64 h] w fun e w' => e = .returned (.bool (decide (h ∈ L))) ∧ w = w' := by
  obtain ⟨l, row, first, ⟨m, rv, o, hSg, hSm, hg, hmo, hmb, hsl, hvs⟩, hT, hL, _⟩ := hG
  have hd : (aget l h).isSome = decide (h ∈ L) := by
    rw [Bool.eq_iff_iff, decide_eq_true_iff, ← hL, mem_live hT]
  have HD := Lib.hid hd
  have c1 := cell_of_heap hg 1
  simp at c1
  clear hd hT hL hvs hsl
  go_enter Try.func17, Try.ntmps17
  go_wp2_with (first
    | (at_lookup; refine wpList_lookupOk_imap rfl _ _ 53 rfl 27 3 .u64 Try.underlying53 Try.underlying27 _ (zero_i64 _) m rfl o l hmo hmb h rfl ?_))
  go_ret
  exact ⟨by rw [← HD.out]; rfl, rfl⟩

set_option maxHeartbeats 400000 in
theorem remove_at (S : Nat → Prop) (g : Nat) (most : Int) (L : List Int) (N : Nat) (h : Int) (w : World) (hG : GhostAt w S g most L N) (hN : N ≤ 1000000) :
    Calls Try.prog 19 #[.pointer (some ⟨g, 0, none⟩), .int .u64 h] w fun e w' => e = .returned (.bool (decide (h ∈ L))) ∧ GhostAt w' S g most (grem L h) N ∧ Fr S w w' := by
  have hH := Lib.hid (has_at S g most L N h w hG)
  obtain ⟨l, row, first, ⟨m, rv, o, hSg, hSm, hg, hmo, hmb, hsl, hvs⟩, hT, hL, hm0, hf0, hfN, hLm⟩ := hG
  have c1 := cell_of_heap hg 1
  simp at c1
  have HH := Lib.hid (And.intro hT (And.intro hL (And.intro hvs (And.intro hsl hg))))
  clear hT hL hvs hsl hg
  go_enter Try.func19, Try.ntmps19
  go_wp2_with (first
    | (go_at_call 17; refine hH.out.mono ?_; rintro e w' ⟨rfl, rfl⟩)
    | (at_delete; refine wpList_delete_imap rfl _ _ 53 27 rfl 3 .u64 Try.underlying53 Try.underlying27 m rfl o l hmo hmb h rfl ?_; intro o1 ho1)
    | (go_at_call 27; fail))
  have hI : GhostIn (w.putObj m o1) S g most (adel l h) row first := by
    obtain ⟨hT, hL, hvs, hsl, hg⟩ := HH.out
    have hgm : g ≠ m := fun e => by subst e; obtain ⟨es, clk, rfl, _⟩ := hmb; rw [hg] at hmo; cases hmo
    refine ⟨m, rv, o1, hSg, hSm, (World.putObj_heap_other hgm).trans hg, World.putObj_heap_same (lt_of_heap hmo), ho1, hsl.putObj_map hmo hmb o1, fun k v hk => ?_⟩
    rw [aget_adel hmb.keys] at hk
    split at hk
    · cases hk
    · exact hvs k v hk
  refine (pass_at S g most (adel l h) row first _ N hI (turns_del HH.out.1 h) hm0 hf0 hfN hN).mono ?_
  rintro e w' ⟨rfl, hG', hF'⟩
  have hl2 : cut most (live (adel l h) row first) = grem L h := by
    rw [live_del HH.out.1.1, HH.out.2.1]
    exact cut_all (by have := List.length_filter_le (· != h) L; omega)
  rw [hl2] at hG'
  have HG := Lib.hid hG'
  have HF := Lib.hid ((Fr.refl S w).putObj (b := m) (fun _ => hSm) o1 |>.trans hF' (fun _ _ h => h))
  clear hG' hF' hI hl2
  go_wp2
  go_ret
  exact ⟨rfl, HG.out, HF.out⟩

set_option maxHeartbeats 400000 in
theorem limit_at (S : Nat → Prop) (g : Nat) (most : Int) (L : List Int) (N : Nat) (n : Int) (w : World) (hG : GhostAt w S g most L N) (hN : N ≤ 1000000) :
    Calls Try.prog 15 #[.pointer (some ⟨g, 0, none⟩), .int .i64 n] w fun e w' => e = .returned (.tuple #[]) ∧ GhostAt w' S g (max 0 n) (cut (max 0 n) L) N ∧ Fr S w w' := by
  obtain ⟨l, row, first, ⟨m, rv, o, hSg, hSm, hg, hmo, hmb, hsl, hvs⟩, hT, hL, hm0, hf0, hfN, hLm⟩ := hG
  have c0 := cell_of_heap hg 0
  have f0 := fro_of_heap hg 0
  simp at c0
  have HH := Lib.hid (And.intro hT (And.intro hL (And.intro hvs (And.intro hsl hg))))
  clear hT hL hvs hsl hg
  have key : ∀ (u : Int), u = max 0 n → Calls Try.prog 27 #[.pointer (some ⟨g, 0, none⟩)] (w.setCell ⟨g, 0, none⟩ (.int .i64 u)) fun e w' => e = .returned (.tuple #[]) ∧ GhostAt w' S g (max 0 n) (cut (max 0 n) L) N ∧ Fr S w w' := by
    intro u hu
    obtain ⟨hT, hL, hvs, hsl, hg⟩ := HH.out
    have hI : GhostIn (w.setCell ⟨g, 0, none⟩ (.int .i64 u)) S g u l row first := by
      have hgm : m ≠ g := fun e => by subst e; obtain ⟨es, clk, rfl, _⟩ := hmb; rw [hg] at hmo; cases hmo
      exact ⟨m, rv, o, hSg, hSm, (heap_setCell_same hg 0 _).trans (by simp), (heap_setCell_other hgm _).trans hmo, hmb, hsl.setCell_other hg (by decide) _ _, hvs⟩
    refine (pass_at S g u l row first _ N hI hT (by omega) hf0 hfN hN).mono fun e w' ⟨he, hG', hF'⟩ => ?_
    subst hu; rw [hL] at hG'
    exact ⟨he, hG', ((Fr.refl S w).setCell (p := ⟨g, 0, none⟩) (fun _ => hSg) _).trans hF' (fun _ _ h => h)⟩
  have HK := Lib.hid key
  clear key
  rcases Int.lt_trichotomy n 0 with hn | hn | hn
  all_goals
    first | subst hn | skip
    go_enter Try.func15, Try.ntmps15
    go_wp2_with (go_at_call 27; refine (HK.out _ (by omega)).mono ?_; rintro e w' ⟨rfl, hG', hF'⟩; have HG := Lib.hid hG'; have HF := Lib.hid hF'; clear hG' hF')
    go_end0
    exact ⟨rfl, HG.out, HF.out⟩

theorem info_u64 : (Try.prog.info? 27).map (fun i => (i.zero, i.size, i.bytes)) = some (some (.int .u64 0), 1, 8) := by kernel_rfl

set_option maxHeartbeats 1000000 in
theorem add_at (S : Nat → Prop) (g : Nat) (most : Int) (L : List Int) (N : Nat) (h : Int) (w : World) (hG : GhostAt w S g most L N) (hN : N < 1000000) :
    Calls Try.prog 25 #[.pointer (some ⟨g, 0, none⟩), .int .u64 h] w fun e w' => e = .returned (.tuple #[]) ∧ GhostAt w' (grow S w w') g most (gadd most L h) (N + 1) ∧ Fr S w w' := by
  obtain ⟨l, row, first, ⟨m, rv, o, hSg, hSm, hg, hmo, hmb, hsl, hvs⟩, hT, hL, hm0, hf0, hfN, hLm⟩ := hG
  obtain ⟨i0, hi, hz0, hz1, hz2⟩ := info_parts info_u64
  have hgm : g ≠ m := fun e => by subst e; obtain ⟨es, clk, rfl, _⟩ := hmb; rw [hg] at hmo; cases hmo
  have c1 := cell_of_heap hg 1
  have c2 := cell_of_heap hg 2
  have c3 := cell_of_heap hg 3
  simp at c1 c2 c3
  have HSL : ∀ (X : World) (o1 ob : Obj), X.heap = w.heap → Sl ((X.putObj m o1).alloc ob) S 27 1 rv row.length (u64s row) := fun X o1 ob hX =>
    ((hsl.frame (w' := X) (fun b _ _ => by rw [hX])).putObj_map (by rw [hX]; exact hmo) hmb o1).alloc ob
  have HGX : ∀ (X : World) (o1 ob : Obj), X.heap = w.heap → ((X.putObj m o1).alloc ob).heap[g]? = some (.cells #[.int .i64 most, .map (some m), rv, .int .i64 first] 56 (0, 0)) := fun X o1 ob hX => by
    rw [heap_alloc_old _ (by rw [World.putObj_size, hX]; exact lt_of_heap hg), World.putObj_heap_other hgm, hX]; exact hg
  have HMX : ∀ (X : World) (o1 ob : Obj), X.heap = w.heap → ((X.putObj m o1).alloc ob).heap[m]? = some o1 := fun X o1 ob hX => by
    rw [heap_alloc_old _ (by rw [World.putObj_size, hX]; exact lt_of_heap hmo), World.putObj_heap_same (by rw [hX]; exact lt_of_heap hmo)]
  have d2 : ∀ (X : World) (o' : Obj), (X.putObj m o').cell? ⟨g, 2, none⟩ = X.cell? ⟨g, 2, none⟩ := fun X o' => cell_putObj o' hgm
  have HH := Lib.hid (And.intro hT (And.intro hL (And.intro hvs (And.intro hsl hg))))
  have HX := Lib.hid (And.intro HSL (And.intro HGX HMX))
  have HN := Lib.hid (And.intro hN (And.intro hfN (And.intro hm0 hf0)))
  have hb0 : (row.length : Int) ≤ 1000000 := by omega
  have hb1 : first ≤ 1000000 := by omega
  have hb2 : row.length ≤ 1000000 := by omega
  obtain ⟨ra, rcap, rfl, _⟩ := hsl.shape
  clear hT hL hvs hsl hg HSL HGX HMX hgm hN hm0 hfN hLm
  go_enter Try.func25, Try.ntmps25
  go_wp2_with fail
  go_still_tail 15, (by kernel_rfl)
  go_wp2_with (first
    | (at_mapUpdate; refine wpList_update_imap rfl _ _ _ 53 rfl 27 3 .u64 Try.underlying53 Try.underlying27 m rfl o l hmo hmb h rfl _ rfl ?_; intro o1 ho1; have HO1 := Lib.hid ho1; clear ho1)
    | (at_builtin; go_must (refine wpList_append_sl (S := S) rfl _ _ 54 rfl 27 i0 (.int .u64 0) 1 8 Try.underlying54 hi hz0 hz1 hz2 rfl (by decide) _ row.length (u64s row) rfl (HX.out.1 _ _ _ rfl) ⟨_, 0, none⟩ 1 1 [.int .u64 h] rfl rfl (cell_one_at _ _ _ (by simp)) (ints_oneCell .u64 [h]) (by unfold maxLen; omega) (by omega) ?_); intro v1 w1 hs1 hf1; obtain ⟨a1, cap1, rfl, _⟩ := hs1.shape; have hg1 := hf1.other (HX.out.2.1 _ _ _ rfl) (fun c hc => by cases hc); have e2 := cell_of_heap hg1 2; have e3 := fro_of_heap hg1 2; simp at e2; have HS1 := Lib.hid (And.intro hs1 (And.intro hf1 hg1)); clear hs1 hf1 hg1)
    | (go_at_call 27; fail))
  obtain ⟨hT, hL, hvs, hsl, hg⟩ := HH.out
  obtain ⟨hs1, hf1, hg1⟩ := HS1.out
  have ho1 : MapBlk .u64 (aset l h (.int .i64 (IntKind.i64.wrap (first + ↑row.length)))) o1 := HO1.out
  rw [show IntKind.i64.wrap (first + (row.length : Int)) = first + row.length from by rw [IntKind.wrap_i64]; omega] at ho1
  obtain ⟨hN, hfN, hm0, hf0⟩ := HN.out
  have hm1 := hf1.other (HX.out.2.2 _ _ _ rfl) (fun c hc => by obtain ⟨es, clk, e, _⟩ := HO1.out; rw [e] at hc; cases hc)
  have hgm : m ≠ g := fun e => by subst e; obtain ⟨es, clk, rfl, _⟩ := hmb; rw [hg] at hmo; cases hmo
  have hsz : w.heap.size ≤ w1.heap.size := by have := hf1.size; simp at this; omega
  have hI : GhostIn (w1.setCell ⟨g, 2, none⟩ (.slice a1 (row.length + 1) cap1)) (grow S w w1) g most (aset l h (tv (first + row.length))) (row ++ [h]) first := by
    refine ⟨m, _, o1, Or.inl hSg, Or.inl hSm, (heap_setCell_same hg1 2 _).trans (by simp; rfl), (heap_setCell_other hgm _).trans hm1, ho1, ?_, fun k v hk => ?_⟩
    · have := (hs1.mono (S' := grow S w w1) (fun b _ hb => hb.imp id (fun ⟨q1, q2⟩ => ⟨by simp at q1; omega, q2⟩))).setCell_other hg1 (by decide) 2 (.slice a1 (row.length + 1) cap1)
      simpa [u64s] using this
    · rw [aget_aset hT.1] at hk
      split at hk
      · exact ⟨_, (Option.some.inj hk).symm⟩
      · exact hvs k v hk
  have hlive := live_set hT.1 h row first
  rw [hL] at hlive
  have hP := pass_at (grow S w w1) g most (aset l h (tv (first + row.length))) (row ++ [h]) first _ (N + 1) hI (turns_set hT h) hm0 hf0 (by simp; omega) (by omega)
  rw [hlive] at hP
  have hFr : Fr S w (w1.setCell ⟨g, 2, none⟩ (.slice a1 (row.length + 1) cap1)) :=
    ((((Fr.refl S w).drew.putObj (b := m) (fun _ => hSm) o1).alloc _).trans hf1.arr (fun _ _ h => h)).setCell (fun _ => hSg) _
  refine hP.mono ?_
  rintro e w' ⟨rfl, hG', hF'⟩
  have HF := Lib.hid (hFr.trans hF' (fun i hi h => h.elim id (fun h => by omega)))
  have HG := Lib.hid (hG'.mono (S' := grow S w w') (fun b hb h => h.imp id (fun ⟨q1, q2⟩ => ⟨q1, hb⟩)))
  clear hG' hF' hP hFr hI hlive
  go_wp2
  go_end0
  exact ⟨rfl, HG.out, HF.out⟩
end Go.Proofs.Ytemdhnolccnnfaa
