/- The functions of layer 11 (ghost): what each call does. -/
import Derived.Test.YtemdhnolccnnfaaRows
import Derived.Test.YtemdhnolccnnfaaSl
import Derived.Test.YtemdhnolccnnfaaGhostSpec
import Derived.Test.YtemdhnolccnnfaaQuiet
import Derived.Test.YtemdhnolccnnfaaZero
import Derived.WalkKit
import Derived.WalkSpells
import Derived.WalkLawsBesides
import Derived.StillTailTactics
import Derived.Deep.QuietTactic
import Derived.BigQuiet
import Derived.Deep.DeepCutAuto
namespace Go.Proofs.Ytemdhnolccnnfaa
open Go.RowKit
set_option linter.unusedVariables false

def u64s (l : List Int) : List Value := l.map (Value.int .u64)
/-- The struct, its map and its row, as they stand. -/
def GhostIn (w : World) (S : Nat → Prop) (g : Nat) (most : Int) (l : List (Int × Value)) (row : List Int) (first : Int) : Prop :=
  ∃ m rv o, S g ∧ S m ∧ w.heap[g]? = some (.cells #[.int .i64 most, .map (some m), rv, .int .i64 first] 56 (0, 0)) ∧ w.heap[m]? = some o ∧ MapBlk .u64 l o ∧
    Sl w S 27 1 rv row.length (u64s row) ∧ ∀ k v, aget l k = some v → ∃ n, v = tv n

/-- How long the row is, off the world. -/
def rowLen (g : Nat) (w : World) : Nat := match w.cell? ⟨g, 2, none⟩ with
  | some (.slice _ n _) => n
  | _ => 0

/-- Behind two stores into the struct. -/
theorem ghost_pop {W : World} {S : Nat → Prop} {g m : Nat} {a2 a3 v : Value} {o : Obj} {most first : Int} {l : List (Int × Value)} {row : List Int}
    (hSg : S g) (hSm : S m) (hg : W.heap[g]? = some (.cells #[.int .i64 most, .map (some m), a2, a3] 56 (0, 0))) (hmo : W.heap[m]? = some o) (hmb : MapBlk .u64 l o)
    (hsl : Sl W S 27 1 v row.length (u64s row)) (hvs : ∀ k v, aget l k = some v → ∃ n, v = tv n) :
    GhostIn ((W.setCell ⟨g, 2, none⟩ v).setCell ⟨g, 3, none⟩ (.int .i64 first)) S g most l row first := by
  have hgm : m ≠ g := fun e => by subst e; obtain ⟨es, clk, rfl, _⟩ := hmb; rw [hg] at hmo; cases hmo
  have h1 := heap_setCell_same hg 2 v
  have h2 := heap_setCell_same h1 3 (.int .i64 first)
  refine ⟨m, v, o, hSg, hSm, ?_, ?_, hmb, ?_, hvs⟩
  · rw [h2]; simp
  · rw [heap_setCell_other hgm, heap_setCell_other hgm, hmo]
  · exact (hsl.setCell_other hg (by decide) _ _).setCell_other h1 (by decide) _ _
theorem rowLen_pop {W : World} {g : Nat} {c : Array Value} {T : TypeId} {f : Nat × Nat} (hg : W.heap[g]? = some (.cells c T f)) (hc : 3 < c.size) {a : Option Addr} {n cap : Nat} (u : Value) :
    rowLen g ((W.setCell ⟨g, 2, none⟩ (.slice a n cap)).setCell ⟨g, 3, none⟩ u) = n := by
  have h1 := heap_setCell_same hg 2 (.slice a n cap)
  have h2 := heap_setCell_same h1 3 u
  unfold rowLen
  rw [cell_of_heap h2, Array.getElem?_setIfInBounds_ne (by omega), Array.getElem?_setIfInBounds_self_of_lt (by omega)]

set_option maxHeartbeats 1000000 in
theorem pass_in (S : Nat → Prop) (g : Nat) (most : Int) (l : List (Int × Value)) (row : List Int) (first : Int) (w : World) (h : GhostIn w S g most l row first) (hm : 0 ≤ most) (hf : 0 ≤ first) (hb : first + row.length ≤ 1000000) (hl : l.length ≤ 1000000) :
    Calls Try.prog 27 #[.pointer (some ⟨g, 0, none⟩)] w fun e w' => e = .returned (.tuple #[]) ∧
      GhostIn w' S g most (passF most l row first).1 (passF most l row first).2.1 (passF most l row first).2.2 ∧ Fr S w w' := by
  go_enter Try.func27, Try.ntmps27
  go_wp2
  go_loopw [2] (fun _ wr => ∃ l1 row1 f1, GhostIn wr S g most l1 row1 f1 ∧ passF most l1 row1 f1 = passF most l row first ∧ Fr S w wr ∧ 0 ≤ f1 ∧ f1 + row1.length ≤ 1000000 ∧ l1.length ≤ 1000000) (fun _ wr => rowLen g wr)
  case atStart => exact ⟨l, row, first, h, rfl, Fr.refl _ _, hf, hb, hl⟩
  case round =>
    obtain ⟨l1, row1, f1, hI, hp, hfr, hf1, hb1, hl1⟩ := hrel
    obtain ⟨m, rv, o, hSg, hSm, hg, hmo, hmb, hsl, hvs⟩ := hI
    have hgm : g ≠ m := fun e => by
      subst e; obtain ⟨es, clk, rfl, _⟩ := hmb; rw [hg] at hmo; cases hmo
    have c0 := cell_of_heap hg 0
    have c1 := cell_of_heap hg 1
    have c2 := cell_of_heap hg 2
    have c3 := cell_of_heap hg 3
    have f2 := fro_of_heap hg 2
    have f3 := fro_of_heap hg 3
    simp at c0 c1 c2 c3
    cases row1 with
    | nil =>
      obtain ⟨a, cap, rfl, _⟩ := hsl.shape
      have hnil : passF most l1 [] f1 = (l1, [], f1) := rfl
      rw [hnil] at hp
      have HP := Lib.hid hp; have HM := Lib.hid hmb; have HO := Lib.hid hmo; have HG := Lib.hid hg; have HV := Lib.hid hvs
      clear hp hmb hmo hg hvs
      simp only [List.length_nil] at c2 hsl
      go_wp2
      go_end0
      rw [← HP.out]
      exact ⟨rfl, ⟨m, _, o, hSg, hSm, HG.out, HO.out, HM.out, hsl, HV.out⟩, hfr⟩
    | cons h t =>
      obtain ⟨rb, off, cap, rfl, hSb, hbl, hcap, hcx, hfx⟩ := hsl.pos (by simp)
      have hc := hcx 0 (by simp [u64s])
      simp [u64s] at hc
      have HH := Lib.hid (And.intro hp (And.intro hmb (And.intro hmo (And.intro hg (And.intro hvs (And.intro hsl hcx))))))
      clear hp hg hvs hsl hcx
      simp only [List.length_cons] at c2 hcap hb1
      have hr0 : rowLen g wr = t.length + 1 := by unfold rowLen; rw [c2]
      have HR := Lib.hid hr0
      clear hr0
      rcases hag : aget l1 h with _ | v
      · go_wp2_with (first
          | (at_lookup; refine wpList_lookupOk_imap rfl _ _ 53 rfl 27 3 .u64 Try.underlying53 Try.underlying27 _ (zero_i64 _) m rfl o l1 hmo hmb h rfl ?_))
        go_quiet (fail)
        go_wp2
        obtain ⟨hp, hmb, hmo, hg, hvs, hsl, hcx⟩ := HH.out
        have hstep : passF most l1 (h :: t) f1 = passF most l1 t (f1 + 1) := by
          show (if turnIs (aget l1 h) f1 then _ else _) = _
          rw [hag]; rfl
        refine ⟨⟨l1, t, f1 + 1, ghost_pop (W := wr.drewN nq) hSg hSm hg hmo hmb (hsl.tail) hvs, hstep.symm.trans hp, ?_, by omega, by omega, hl1⟩, ?_⟩
        · exact ((hfr.drewN _).setCell (fun _ => hSg) _).setCell (fun _ => hSg) _
        · rw [HR.out, rowLen_pop (W := wr.drewN nq) hg (by simp)]; omega
      · obtain ⟨n, rfl⟩ := HH.out.2.2.2.2.1 h v hag
        by_cases hne : n = f1
        · subst hne
          have hstep : passF most l1 (h :: t) n = if (l1.length : Int) ≤ most then (l1, h :: t, n) else passF most (adel l1 h) t (n + 1) := by
            show (if turnIs (aget l1 h) n then _ else _) = _
            rw [hag, if_pos (turnIs_iff.2 rfl)]
          have HS := Lib.hid hstep
          clear hstep
          unfold tv at hag
          by_cases hle : (l1.length : Int) ≤ most
          · go_wp2_with (first
              | (at_lookup; refine wpList_lookupOk_imap rfl _ _ 53 rfl 27 3 .u64 Try.underlying53 Try.underlying27 _ (zero_i64 _) m rfl o l1 hmo hmb h rfl ?_))
            refine wp_region_quiet_lit (by kernel_rfl) (by kernel_rfl) ?_
            repeat (first | quiet_step (fail) | (refine wpQuiet_len_imap rfl _ 53 rfl _ _ .u64 Try.underlying53 m rfl o l1 (by rintro W ⟨n, rfl⟩; exact hmo) hmb ?_; go_simp))
            refine wpQuiet_nil ?_
            first | (intro _ hw'; obtain ⟨nq, hw''⟩ := hw'; subst hw'') | (intro nq; go_at_K)
            go_wp2
            refine bodyPost_ret (results_none rfl _ _ _) rfl ?_
            obtain ⟨hp, hmb, hmo, hg, hvs, hsl, hcx⟩ := HH.out
            rw [← hp, HS.out, if_pos hle]
            exact ⟨rfl, ⟨m, _, o, hSg, hSm, hg, hmo, hmb, hsl, hvs⟩, hfr.drewN _⟩
          · go_wp2_with (first
              | (at_lookup; refine wpList_lookupOk_imap rfl _ _ 53 rfl 27 3 .u64 Try.underlying53 Try.underlying27 _ (zero_i64 _) m rfl o l1 hmo hmb h rfl ?_))
            refine wp_region_quiet_lit (by kernel_rfl) (by kernel_rfl) ?_
            repeat (first | quiet_step (fail) | (refine wpQuiet_len_imap rfl _ 53 rfl _ _ .u64 Try.underlying53 m rfl o l1 (by rintro W ⟨n, rfl⟩; exact hmo) hmb ?_; go_simp))
            refine wpQuiet_nil ?_
            first | (intro _ hw'; obtain ⟨nq, hw''⟩ := hw'; subst hw'') | (intro nq; go_at_K)
            have d0 := fun o' : Obj => cell_putObj (w := wr.drewN nq) (b := m) o' (p := ⟨g, 2, none⟩) hgm
            have d1 := fun o' : Obj => cell_putObj (w := wr.drewN nq) (b := m) o' (p := ⟨g, 3, none⟩) hgm
            have d2 := fun o' : Obj => fro_putObj (w := wr.drewN nq) (b := m) o' (p := ⟨g, 2, none⟩) hgm
            have d3 := fun o' : Obj => fro_putObj (w := wr.drewN nq) (b := m) o' (p := ⟨g, 3, none⟩) hgm
            go_wp2_with (first
              | (at_delete; refine wpList_delete_imap rfl _ _ 53 27 rfl 3 .u64 Try.underlying53 Try.underlying27 m rfl o l1 hmo hmb h rfl ?_; intro o1 ho1))
            obtain ⟨hp, hmb', hmo', hg, hvs, hsl, hcx⟩ := HH.out
            have hg' : ((wr.drewN nq).putObj m o1).heap[g]? = some (.cells #[.int .i64 most, .map (some m), .slice (some ⟨rb, off, none⟩) (t.length + 1) cap, .int .i64 n] 56 (0, 0)) :=
              (World.putObj_heap_other hgm).trans hg
            have hm1 : ((wr.drewN nq).putObj m o1).heap[m]? = some o1 := World.putObj_heap_same (lt_of_heap hmo)
            have hs1 : Sl ((wr.drewN nq).putObj m o1) S 27 1 (.slice (some ⟨rb, off, none⟩) (t.length + 1) cap) (t.length + 1) (u64s (h :: t)) := Sl.putObj_map (w := wr.drewN nq) hsl hmo hmb o1
            have hl2 := length_adel hmb.keys h
            rw [hag] at hl2
            refine ⟨⟨adel l1 h, t, n + 1, ghost_pop hSg hSm hg' hm1 ho1 hs1.tail ?_, ?_, ?_, by omega, by omega, by simp at hl2; omega⟩, ?_⟩
            · intro k v hk
              rw [aget_adel hmb.keys] at hk
              split at hk
              · cases hk
              · exact hvs k v hk
            · rw [← hp, HS.out, if_neg (by omega)]
            · exact (((hfr.drewN _).putObj (fun _ => hSm) _).setCell (fun _ => hSg) _).setCell (fun _ => hSg) _
            · rw [HR.out, rowLen_pop hg' (by simp)]; omega
        · have hne2 : (n == f1) = false := by simpa using hne
          have hstep : passF most l1 (h :: t) f1 = passF most l1 t (f1 + 1) := by
            show (if turnIs (aget l1 h) f1 then _ else _) = _
            rw [hag, if_neg (by rw [turnIs_iff]; simp [tv]; exact hne)]
          have HS := Lib.hid hstep
          clear hstep hne
          unfold tv at hag
          go_wp2_with (first
            | (at_lookup; refine wpList_lookupOk_imap rfl _ _ 53 rfl 27 3 .u64 Try.underlying53 Try.underlying27 _ (zero_i64 _) m rfl o l1 hmo hmb h rfl ?_))
          go_quiet (fail)
          go_wp2
          obtain ⟨hp, hmb, hmo, hg, hvs, hsl, hcx⟩ := HH.out
          refine ⟨⟨l1, t, f1 + 1, ghost_pop (W := wr.drewN nq) hSg hSm hg hmo hmb (hsl.tail) hvs, HS.out.symm.trans hp, ?_, by omega, by omega, hl1⟩, ?_⟩
          · exact ((hfr.drewN _).setCell (fun _ => hSg) _).setCell (fun _ => hSg) _
          · rw [HR.out, rowLen_pop (W := wr.drewN nq) hg (by simp)]; omega

end Go.Proofs.Ytemdhnolccnnfaa
