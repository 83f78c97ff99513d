/- The ghost, plainly: what stands in its map and its row, and what of it is there. No program here. -/
import Derived.Test.YtgdlndpjfejmcaaGreatPA
import Derived.Test.YtgdlndpjfejmcaaGreatRows
import Derived.WalkKit
import Derived.WalkSpells
import Derived.WalkLawsBesides
import Derived.StillTailTactics
import Derived.Deep.QuietTactic
import Derived.BigQuiet
import Derived.Deep.DeepCutAuto
namespace Go.Proofs.YtgdlndpjfejmcaaGreat
open Go.RowKit
set_option linter.unusedVariables false
set_option maxRecDepth 100000

def tv (n : Int) : Value := .int .i64 n
def turnIs (o : Option Value) (f : Int) : Bool := match o with
  | some (.int .i64 n) => n == f
  | _ => false
theorem turnIs_iff {o : Option Value} {f : Int} : turnIs o f = true ↔ o = some (tv f) := by
  unfold turnIs tv
  split
  · simp
  · rename_i h
    constructor
    · intro h; cases h
    · intro e; exact absurd e (h f)
def live (l : List (Int × Value)) : List Int → Int → List Int
  | [], _ => []
  | h :: t, f => if turnIs (aget l h) f then h :: live l t (f + 1) else live l t (f + 1)
/-- Each number of the map stands in the row, at its turn. -/
def Turns (l : List (Int × Value)) (row : List Int) (f : Int) : Prop := Keys l ∧ ∀ h v, aget l h = some v → ∃ i : Nat, row[i]? = some h ∧ v = tv (f + i)
/-- The newest ones. -/
def cut (most : Int) (L : List Int) : List Int := L.drop (L.length - most.toNat)
def passF (most : Int) : List (Int × Value) → List Int → Int → List (Int × Value) × List Int × Int
  | l, [], f => (l, [], f)
  | l, h :: t, f => if turnIs (aget l h) f then (if (l.length : Int) ≤ most then (l, h :: t, f) else passF most (adel l h) t (f + 1)) else passF most l t (f + 1)

theorem tv_inj {a b : Int} : tv a = tv b ↔ a = b := by simp [tv]
theorem turns_tail_dead {l : List (Int × Value)} {h : Int} {t : List Int} {f : Int} (hT : Turns l (h :: t) f) (hd : aget l h ≠ some (tv f)) : Turns l t (f + 1) := by
  refine ⟨hT.1, fun k v hk => ?_⟩
  obtain ⟨i, hi, rfl⟩ := hT.2 k v hk
  cases i with
  | zero => simp at hi; subst hi; exact absurd (by simpa using hk) hd
  | succ i => exact ⟨i, by simpa using hi, by rw [tv_inj]; omega⟩
theorem turns_tail_live {l : List (Int × Value)} {h : Int} {t : List Int} {f : Int} (hT : Turns l (h :: t) f) : Turns (adel l h) t (f + 1) := by
  refine ⟨keys_adel hT.1 h, fun k v hk => ?_⟩
  rw [aget_adel hT.1] at hk
  split at hk
  · cases hk
  · rename_i hne
    obtain ⟨i, hi, rfl⟩ := hT.2 k v hk
    cases i with
    | zero => simp at hi; exact absurd hi.symm hne
    | succ i => exact ⟨i, by simpa using hi, by rw [tv_inj]; omega⟩
theorem live_congr {l l' : List (Int × Value)} : ∀ {row : List Int} {f : Int}, (∀ h ∈ row, aget l h = aget l' h) → live l row f = live l' row f
  | [], _, _ => rfl
  | h :: t, f, e => by
    unfold live
    rw [e h (.head _), live_congr (fun k hk => e k (.tail _ hk))]
theorem live_sub {l : List (Int × Value)} : ∀ {row : List Int} {f : Int} {k : Int}, k ∈ live l row f → ∃ i : Nat, row[i]? = some k ∧ aget l k = some (tv (f + i))
  | [], _, _, h => by simp [live] at h
  | x :: t, f, k, h => by
    unfold live at h
    split at h
    · rename_i hx
      have hx := turnIs_iff.1 hx
      rcases List.mem_cons.1 h with rfl | h
      · exact ⟨0, rfl, by simpa using hx⟩
      · obtain ⟨i, hi, ha⟩ := live_sub h
        exact ⟨i + 1, by simpa using hi, by rw [ha]; congr 2; omega⟩
    · obtain ⟨i, hi, ha⟩ := live_sub h
      exact ⟨i + 1, by simpa using hi, by rw [ha]; congr 2; omega⟩
theorem live_has {l : List (Int × Value)} : ∀ {row : List Int} {f : Int} {k : Int} {i : Nat}, row[i]? = some k → aget l k = some (tv (f + i)) → k ∈ live l row f
  | [], _, _, _, h, _ => by simp at h
  | x :: t, f, k, i, h, ha => by
    unfold live
    cases i with
    | zero =>
      simp at h; subst h
      rw [if_pos (turnIs_iff.2 (by simpa using ha))]; exact .head _
    | succ i =>
      have := live_has (l := l) (row := t) (f := f + 1) (k := k) (i := i) (by simpa using h) (by rw [ha]; congr 2; omega)
      split
      · exact .tail _ this
      · exact this
theorem mem_live {l : List (Int × Value)} {row : List Int} {f : Int} (hT : Turns l row f) (k : Int) : k ∈ live l row f ↔ (aget l k).isSome := by
  constructor
  · intro h; obtain ⟨i, _, ha⟩ := live_sub h; rw [ha]; rfl
  · intro h
    obtain ⟨v, hv⟩ := Option.isSome_iff_exists.1 h
    obtain ⟨i, hi, rfl⟩ := hT.2 k v hv
    exact live_has hi hv
theorem live_later {l : List (Int × Value)} {k : Int} {f g : Int} (ha : aget l k = some (tv g)) : ∀ {row : List Int}, g < f → k ∉ live l row f := by
  intro row hg hm
  obtain ⟨i, _, h⟩ := live_sub hm
  rw [ha] at h
  simp [tv] at h; omega
theorem live_nodup (l : List (Int × Value)) : ∀ (row : List Int) (f : Int), (live l row f).Nodup
  | [], _ => List.nodup_nil
  | h :: t, f => by
    unfold live
    split
    · rename_i hx
      have hx := turnIs_iff.1 hx
      exact List.nodup_cons.2 ⟨live_later hx (by omega), live_nodup l t (f + 1)⟩
    · exact live_nodup l t (f + 1)
theorem live_length {l : List (Int × Value)} {row : List Int} {f : Int} (hT : Turns l row f) : (live l row f).length = l.length := by
  have h1 : (l.map (·.1)).Nodup := hT.1
  have h2 := live_nodup l row f
  have : (live l row f).Perm (l.map (·.1)) := by
    rw [List.perm_ext_iff_of_nodup h2 h1]
    intro k
    rw [mem_live hT]
    constructor
    · intro h; obtain ⟨v, hv⟩ := Option.isSome_iff_exists.1 h; exact List.mem_map.2 ⟨_, mem_of_aget hv, rfl⟩
    · intro h; obtain ⟨p, hp, rfl⟩ := List.mem_map.1 h
      rw [(aget_iff hT.1).2 (show (p.1, p.2) ∈ l from hp)]; rfl
  simpa using this.length_eq
theorem live_del {l : List (Int × Value)} (hn : Keys l) (k : Int) : ∀ (row : List Int) (f : Int), live (adel l k) row f = (live l row f).filter (· != k)
  | [], _ => rfl
  | h :: t, f => by
    unfold live
    rw [aget_adel hn, live_del hn k t (f + 1)]
    by_cases e : h = k
    · subst e
      rw [if_pos rfl, if_neg (by simp [turnIs])]
      split
      · rw [List.filter_cons_of_neg (by simp)]
      · rfl
    · rw [if_neg e]
      split
      · rw [List.filter_cons_of_pos (by simpa using e)]
      · rfl
theorem live_set {l : List (Int × Value)} (hn : Keys l) (k : Int) : ∀ (row : List Int) (f : Int), live (aset l k (tv (f + row.length))) (row ++ [k]) f = (live l row f).filter (· != k) ++ [k]
  | [], f => by
    show live _ [k] f = _
    unfold live
    rw [aget_aset hn, if_pos rfl, if_pos (turnIs_iff.2 (by simp))]; rfl
  | h :: t, f => by
    have ih := live_set hn k t (f + 1)
    have e2 : f + ((h :: t).length : Int) = f + 1 + (t.length : Int) := by simp; omega
    rw [e2]
    show live _ (h :: (t ++ [k])) f = _
    unfold live
    rw [ih, aget_aset hn]
    by_cases e : h = k
    · subst e
      rw [if_pos rfl, if_neg (by rw [turnIs_iff]; simp [tv]; omega)]
      split
      · rw [List.filter_cons_of_neg (by simp)]
      · rfl
    · rw [if_neg e]
      split
      · rw [List.filter_cons_of_pos (by simpa using e)]; rfl
      · rfl
theorem turns_set {l : List (Int × Value)} {row : List Int} {f : Int} (hT : Turns l row f) (k : Int) : Turns (aset l k (tv (f + row.length))) (row ++ [k]) f := by
  refine ⟨keys_aset hT.1 _ _, fun h v hv => ?_⟩
  rw [aget_aset hT.1] at hv
  split at hv
  · rename_i e; subst e
    simp at hv; subst hv
    exact ⟨row.length, by simp, rfl⟩
  · obtain ⟨i, hi, rfl⟩ := hT.2 h v hv
    exact ⟨i, by rw [List.getElem?_append_left (List.getElem?_eq_some_iff.1 hi).1]; exact hi, rfl⟩
theorem turns_del {l : List (Int × Value)} {row : List Int} {f : Int} (hT : Turns l row f) (k : Int) : Turns (adel l k) row f := by
  refine ⟨keys_adel hT.1 _, fun h v hv => ?_⟩
  rw [aget_adel hT.1] at hv
  split at hv
  · cases hv
  · exact hT.2 h v hv
theorem passF_ok (most : Int) (hm : 0 ≤ most) : ∀ (row : List Int) (l : List (Int × Value)) (f : Int), Turns l row f →
    Turns (passF most l row f).1 (passF most l row f).2.1 (passF most l row f).2.2 ∧
    live (passF most l row f).1 (passF most l row f).2.1 (passF most l row f).2.2 = cut most (live l row f) ∧
    (passF most l row f).2.2 + (passF most l row f).2.1.length = f + row.length ∧ f ≤ (passF most l row f).2.2
  | [], l, f, hT => by
    refine ⟨hT, ?_, rfl, by simp [passF]⟩
    simp [passF, live, cut]
  | h :: t, l, f, hT => by
    unfold passF
    by_cases hx : aget l h = some (tv f)
    · have hb := turnIs_iff.2 hx
      rw [if_pos hb]
      by_cases hl : (l.length : Int) ≤ most
      · rw [if_pos hl]
        refine ⟨hT, ?_, rfl, by simp⟩
        have := live_length hT
        unfold cut
        rw [this, show l.length - most.toNat = 0 from by omega]; rfl
      · rw [if_neg hl]
        obtain ⟨h1, h2, h3, h4⟩ := passF_ok most hm t (adel l h) (f + 1) (turns_tail_live hT)
        refine ⟨h1, ?_, by rw [h3]; simp; omega, by omega⟩
        rw [h2, live_del hT.1]
        have hlen := live_length hT
        have e1 : live l (h :: t) f = h :: live l t (f + 1) := by rw [live, if_pos hb]
        have e2 : (live l t (f + 1)).filter (· != h) = live l t (f + 1) := by
          rw [List.filter_eq_self]; intro k hk
          simp only [bne_iff_ne, ne_eq]
          intro e; subst e
          exact live_later hx (by omega) hk
        rw [e1] at hlen ⊢
        rw [e2]
        unfold cut
        simp at hlen
        rw [show (h :: live l t (f + 1)).length - most.toNat = (live l t (f + 1)).length - most.toNat + 1 from by simp; omega]; rfl
    · have hb : ¬ turnIs (aget l h) f = true := fun h => hx (turnIs_iff.1 h)
      rw [if_neg hb]
      obtain ⟨h1, h2, h3, h4⟩ := passF_ok most hm t l (f + 1) (turns_tail_dead hT hx)
      refine ⟨h1, ?_, by rw [h3]; simp; omega, by omega⟩
      rw [h2, live, if_neg hb]

/-- Adding, removing and limiting, of the numbers that are there alone. -/
def gadd (most : Int) (L : List Int) (h : Int) : List Int := cut most (L.filter (· != h) ++ [h])
def grem (L : List Int) (h : Int) : List Int := L.filter (· != h)
theorem cut_all {most : Int} {L : List Int} (h : (L.length : Int) ≤ most) : cut most L = L := by
  unfold cut; rw [show L.length - most.toNat = 0 from by omega]; rfl
theorem cut_length (most : Int) (L : List Int) (h : 0 ≤ most) : ((cut most L).length : Int) ≤ most ∧ (cut most L).length ≤ L.length := by
  unfold cut; rw [List.length_drop]; omega
end Go.Proofs.YtgdlndpjfejmcaaGreat
/- The functions of layer 11 (ghost): what each call does. -/
namespace Go.Proofs.YtgdlndpjfejmcaaGreat
open Go.RowKit
set_option linter.unusedVariables false
set_option maxRecDepth 100000

def u64s (l : List Int) : List Value := l.map (Value.int .u64)
/-- The struct, its map and its row, as they stand. -/
def GhostIn (w : World) (S : Nat → Prop) (g : Nat) (most : Int) (l : List (Int × Value)) (row : List Int) (first : Int) : Prop :=
  ∃ m rv o, S g ∧ S m ∧ w.heap[g]? = some (.cells #[.int .i64 most, .map (some m), rv, .int .i64 first] 112 (0, 0)) ∧ w.heap[m]? = some o ∧ MapBlk .u64 l o ∧
    Sl w S 28 1 rv row.length (u64s row) ∧ ∀ k v, aget l k = some v → ∃ n, v = tv n

/-- How long the row is, off the world. -/
def rowLen (g : Nat) (w : World) : Nat := match w.cell? ⟨g, 2, none⟩ with
  | some (.slice _ n _) => n
  | _ => 0

/-- Behind two stores into the struct. -/
theorem ghost_pop {W : World} {S : Nat → Prop} {g m : Nat} {a2 a3 v : Value} {o : Obj} {most first : Int} {l : List (Int × Value)} {row : List Int}
    (hSg : S g) (hSm : S m) (hg : W.heap[g]? = some (.cells #[.int .i64 most, .map (some m), a2, a3] 112 (0, 0))) (hmo : W.heap[m]? = some o) (hmb : MapBlk .u64 l o)
    (hsl : Sl W S 28 1 v row.length (u64s row)) (hvs : ∀ k v, aget l k = some v → ∃ n, v = tv n) :
    GhostIn ((W.setCell ⟨g, 2, none⟩ v).setCell ⟨g, 3, none⟩ (.int .i64 first)) S g most l row first := by
  have hgm : m ≠ g := fun e => by subst e; obtain ⟨es, clk, rfl, _⟩ := hmb; rw [hg] at hmo; cases hmo
  have h1 := heap_setCell_same hg 2 v
  have h2 := heap_setCell_same h1 3 (.int .i64 first)
  refine ⟨m, v, o, hSg, hSm, ?_, ?_, hmb, ?_, hvs⟩
  · rw [h2]; simp
  · rw [heap_setCell_other hgm, heap_setCell_other hgm, hmo]
  · exact (hsl.setCell_other hg (by decide) _ _).setCell_other h1 (by decide) _ _
theorem rowLen_pop {W : World} {g : Nat} {c : Array Value} {T : TypeId} {f : Nat × Nat} (hg : W.heap[g]? = some (.cells c T f)) (hc : 3 < c.size) {a : Option Addr} {n cap : Nat} (u : Value) :
    rowLen g ((W.setCell ⟨g, 2, none⟩ (.slice a n cap)).setCell ⟨g, 3, none⟩ u) = n := by
  have h1 := heap_setCell_same hg 2 (.slice a n cap)
  have h2 := heap_setCell_same h1 3 u
  unfold rowLen
  rw [cell_of_heap h2, Array.getElem?_setIfInBounds_ne (by omega), Array.getElem?_setIfInBounds_self_of_lt (by omega)]

set_option maxHeartbeats 1000000 in
theorem pass_in (S : Nat → Prop) (g : Nat) (most : Int) (l : List (Int × Value)) (row : List Int) (first : Int) (w : World) (h : GhostIn w S g most l row first) (hm : 0 ≤ most) (hf : 0 ≤ first) (hb : first + row.length ≤ 1000000) (hl : l.length ≤ 1000000) :
    Calls Tryz.prog 117 #[.pointer (some ⟨g, 0, none⟩)] w fun e w' => e = .returned (.tuple #[]) ∧
      GhostIn w' S g most (passF most l row first).1 (passF most l row first).2.1 (passF most l row first).2.2 ∧ Fr S w w' := by
  go_enter Tryz.func117, Tryz.ntmps117
  go_wp2
  go_loopw [2] (fun _ wr => ∃ l1 row1 f1, GhostIn wr S g most l1 row1 f1 ∧ passF most l1 row1 f1 = passF most l row first ∧ Fr S w wr ∧ 0 ≤ f1 ∧ f1 + row1.length ≤ 1000000 ∧ l1.length ≤ 1000000) (fun _ wr => rowLen g wr)
  case atStart => exact ⟨l, row, first, h, rfl, Fr.refl _ _, hf, hb, hl⟩
  case round =>
    obtain ⟨l1, row1, f1, hI, hp, hfr, hf1, hb1, hl1⟩ := hrel
    obtain ⟨m, rv, o, hSg, hSm, hg, hmo, hmb, hsl, hvs⟩ := hI
    have hgm : g ≠ m := fun e => by
      subst e; obtain ⟨es, clk, rfl, _⟩ := hmb; rw [hg] at hmo; cases hmo
    have c0 := cell_of_heap hg 0
    have c1 := cell_of_heap hg 1
    have c2 := cell_of_heap hg 2
    have c3 := cell_of_heap hg 3
    have f2 := fro_of_heap hg 2
    have f3 := fro_of_heap hg 3
    simp at c0 c1 c2 c3
    cases row1 with
    | nil =>
      obtain ⟨a, cap, rfl, _⟩ := hsl.shape
      have hnil : passF most l1 [] f1 = (l1, [], f1) := rfl
      rw [hnil] at hp
      have HP := Lib.hid hp; have HM := Lib.hid hmb; have HO := Lib.hid hmo; have HG := Lib.hid hg; have HV := Lib.hid hvs
      clear hp hmb hmo hg hvs
      simp only [List.length_nil] at c2 hsl
      go_wp2
      go_end0
      rw [← HP.out]
      exact ⟨rfl, ⟨m, _, o, hSg, hSm, HG.out, HO.out, HM.out, hsl, HV.out⟩, hfr⟩
    | cons h t =>
      obtain ⟨rb, off, cap, rfl, hSb, hbl, hcap, hcx, hfx⟩ := hsl.pos (by simp)
      have hc := hcx 0 (by simp [u64s])
      simp [u64s] at hc
      have HH := Lib.hid (And.intro hp (And.intro hmb (And.intro hmo (And.intro hg (And.intro hvs (And.intro hsl hcx))))))
      clear hp hg hvs hsl hcx
      simp only [List.length_cons] at c2 hcap hb1
      have hr0 : rowLen g wr = t.length + 1 := by unfold rowLen; rw [c2]
      have HR := Lib.hid hr0
      clear hr0
      rcases hag : aget l1 h with _ | v
      · go_wp2_with (first
          | (at_lookup; refine wpList_lookupOk_imap rfl _ _ 110 rfl 28 3 .u64 Tryz.underlying110 Tryz.underlying28 _ (zero_i64 _) m rfl o l1 hmo hmb h rfl ?_))
        go_quiet (fail)
        go_wp2
        obtain ⟨hp, hmb, hmo, hg, hvs, hsl, hcx⟩ := HH.out
        have hstep : passF most l1 (h :: t) f1 = passF most l1 t (f1 + 1) := by
          show (if turnIs (aget l1 h) f1 then _ else _) = _
          rw [hag]; rfl
        refine ⟨⟨l1, t, f1 + 1, ghost_pop (W := wr.drewN nq) hSg hSm hg hmo hmb (hsl.tail) hvs, hstep.symm.trans hp, ?_, by omega, by omega, hl1⟩, ?_⟩
        · exact ((hfr.drewN _).setCell (fun _ => hSg) _).setCell (fun _ => hSg) _
        · rw [HR.out, rowLen_pop (W := wr.drewN nq) hg (by simp)]; omega
      · obtain ⟨n, rfl⟩ := HH.out.2.2.2.2.1 h v hag
        by_cases hne : n = f1
        · subst hne
          have hstep : passF most l1 (h :: t) n = if (l1.length : Int) ≤ most then (l1, h :: t, n) else passF most (adel l1 h) t (n + 1) := by
            show (if turnIs (aget l1 h) n then _ else _) = _
            rw [hag, if_pos (turnIs_iff.2 rfl)]
          have HS := Lib.hid hstep
          clear hstep
          unfold tv at hag
          by_cases hle : (l1.length : Int) ≤ most
          · go_wp2_with (first
              | (at_lookup; refine wpList_lookupOk_imap rfl _ _ 110 rfl 28 3 .u64 Tryz.underlying110 Tryz.underlying28 _ (zero_i64 _) m rfl o l1 hmo hmb h rfl ?_))
            refine wp_region_quiet_lit (by kernel_rfl) (by kernel_rfl) ?_
            repeat (first | quiet_step (fail) | (refine wpQuiet_len_imap rfl _ 110 rfl _ _ .u64 Tryz.underlying110 m rfl o l1 (by rintro W ⟨n, rfl⟩; exact hmo) hmb ?_; go_simp))
            refine wpQuiet_nil ?_
            first | (intro _ hw'; obtain ⟨nq, hw''⟩ := hw'; subst hw'') | (intro nq; go_at_K)
            go_wp2
            refine bodyPost_ret (results_none rfl _ _ _) rfl ?_
            obtain ⟨hp, hmb, hmo, hg, hvs, hsl, hcx⟩ := HH.out
            rw [← hp, HS.out, if_pos hle]
            exact ⟨rfl, ⟨m, _, o, hSg, hSm, hg, hmo, hmb, hsl, hvs⟩, hfr.drewN _⟩
          · go_wp2_with (first
              | (at_lookup; refine wpList_lookupOk_imap rfl _ _ 110 rfl 28 3 .u64 Tryz.underlying110 Tryz.underlying28 _ (zero_i64 _) m rfl o l1 hmo hmb h rfl ?_))
            refine wp_region_quiet_lit (by kernel_rfl) (by kernel_rfl) ?_
            repeat (first | quiet_step (fail) | (refine wpQuiet_len_imap rfl _ 110 rfl _ _ .u64 Tryz.underlying110 m rfl o l1 (by rintro W ⟨n, rfl⟩; exact hmo) hmb ?_; go_simp))
            refine wpQuiet_nil ?_
            first | (intro _ hw'; obtain ⟨nq, hw''⟩ := hw'; subst hw'') | (intro nq; go_at_K)
            have d0 := fun o' : Obj => cell_putObj (w := wr.drewN nq) (b := m) o' (p := ⟨g, 2, none⟩) hgm
            have d1 := fun o' : Obj => cell_putObj (w := wr.drewN nq) (b := m) o' (p := ⟨g, 3, none⟩) hgm
            have d2 := fun o' : Obj => fro_putObj (w := wr.drewN nq) (b := m) o' (p := ⟨g, 2, none⟩) hgm
            have d3 := fun o' : Obj => fro_putObj (w := wr.drewN nq) (b := m) o' (p := ⟨g, 3, none⟩) hgm
            go_wp2_with (first
              | (at_delete; refine wpList_delete_imap rfl _ _ 110 28 rfl 3 .u64 Tryz.underlying110 Tryz.underlying28 m rfl o l1 hmo hmb h rfl ?_; intro o1 ho1))
            obtain ⟨hp, hmb', hmo', hg, hvs, hsl, hcx⟩ := HH.out
            have hg' : ((wr.drewN nq).putObj m o1).heap[g]? = some (.cells #[.int .i64 most, .map (some m), .slice (some ⟨rb, off, none⟩) (t.length + 1) cap, .int .i64 n] 112 (0, 0)) :=
              (World.putObj_heap_other hgm).trans hg
            have hm1 : ((wr.drewN nq).putObj m o1).heap[m]? = some o1 := World.putObj_heap_same (lt_of_heap hmo)
            have hs1 : Sl ((wr.drewN nq).putObj m o1) S 28 1 (.slice (some ⟨rb, off, none⟩) (t.length + 1) cap) (t.length + 1) (u64s (h :: t)) := Sl.putObj_map (w := wr.drewN nq) hsl hmo hmb o1
            have hl2 := length_adel hmb.keys h
            rw [hag] at hl2
            refine ⟨⟨adel l1 h, t, n + 1, ghost_pop hSg hSm hg' hm1 ho1 hs1.tail ?_, ?_, ?_, by omega, by omega, by simp at hl2; omega⟩, ?_⟩
            · intro k v hk
              rw [aget_adel hmb.keys] at hk
              split at hk
              · cases hk
              · exact hvs k v hk
            · rw [← hp, HS.out, if_neg (by omega)]
            · exact (((hfr.drewN _).putObj (fun _ => hSm) _).setCell (fun _ => hSg) _).setCell (fun _ => hSg) _
            · rw [HR.out, rowLen_pop hg' (by simp)]; omega
        · have hne2 : (n == f1) = false := by simpa using hne
          have hstep : passF most l1 (h :: t) f1 = passF most l1 t (f1 + 1) := by
            show (if turnIs (aget l1 h) f1 then _ else _) = _
            rw [hag, if_neg (by rw [turnIs_iff]; simp [tv]; exact hne)]
          have HS := Lib.hid hstep
          clear hstep hne
          unfold tv at hag
          go_wp2_with (first
            | (at_lookup; refine wpList_lookupOk_imap rfl _ _ 110 rfl 28 3 .u64 Tryz.underlying110 Tryz.underlying28 _ (zero_i64 _) m rfl o l1 hmo hmb h rfl ?_))
          go_quiet (fail)
          go_wp2
          obtain ⟨hp, hmb, hmo, hg, hvs, hsl, hcx⟩ := HH.out
          refine ⟨⟨l1, t, f1 + 1, ghost_pop (W := wr.drewN nq) hSg hSm hg hmo hmb (hsl.tail) hvs, HS.out.symm.trans hp, ?_, by omega, by omega, hl1⟩, ?_⟩
          · exact ((hfr.drewN _).setCell (fun _ => hSg) _).setCell (fun _ => hSg) _
          · rw [HR.out, rowLen_pop (W := wr.drewN nq) hg (by simp)]; omega

end Go.Proofs.YtgdlndpjfejmcaaGreat
/- The functions of layer 11 (ghost), said of the numbers that are there. -/
namespace Go.Proofs.YtgdlndpjfejmcaaGreat
open Go.RowKit
set_option linter.unusedVariables false
set_option maxRecDepth 100000

/-- A ghost: at most so many numbers; those of L, the oldest first; N: how often somebody came, at most. -/
def GhostAt (w : World) (S : Nat → Prop) (g : Nat) (most : Int) (L : List Int) (N : Nat) : Prop :=
  ∃ l row first, GhostIn w S g most l row first ∧ Turns l row first ∧ live l row first = L ∧ 0 ≤ most ∧ 0 ≤ first ∧ first + row.length ≤ N ∧ (L.length : Int) ≤ most

theorem live_le (l : List (Int × Value)) : ∀ (row : List Int) (f : Int), (live l row f).length ≤ row.length
  | [], _ => by simp [live]
  | h :: t, f => by
    unfold live
    have := live_le l t (f + 1)
    split <;> simp <;> omega

theorem GhostIn.frame {w w' : World} {S : Nat → Prop} {g : Nat} {most : Int} {l : List (Int × Value)} {row : List Int} {first : Int} (h : GhostIn w S g most l row first) (hf : ∀ b, b < w.heap.size → S b → w'.heap[b]? = w.heap[b]?) :
    GhostIn w' S g most l row first := by
  obtain ⟨m, rv, o, hSg, hSm, hg, hmo, hmb, hsl, hvs⟩ := h
  exact ⟨m, rv, o, hSg, hSm, (hf g (lt_of_heap hg) hSg).trans hg, (hf m (lt_of_heap hmo) hSm).trans hmo, hmb, hsl.frame hf, hvs⟩
theorem GhostIn.mono {w : World} {S S' : Nat → Prop} {g : Nat} {most : Int} {l : List (Int × Value)} {row : List Int} {first : Int} (h : GhostIn w S g most l row first) (hS : ∀ b, b < w.heap.size → S b → S' b) :
    GhostIn w S' g most l row first := by
  obtain ⟨m, rv, o, hSg, hSm, hg, hmo, hmb, hsl, hvs⟩ := h
  exact ⟨m, rv, o, hS g (lt_of_heap hg) hSg, hS m (lt_of_heap hmo) hSm, hg, hmo, hmb, hsl.mono hS, hvs⟩
theorem GhostAt.frame {w w' : World} {S : Nat → Prop} {g : Nat} {most : Int} {L : List Int} {N : Nat} (h : GhostAt w S g most L N) (hf : ∀ b, b < w.heap.size → S b → w'.heap[b]? = w.heap[b]?) : GhostAt w' S g most L N := by
  obtain ⟨l, row, first, hI, r⟩ := h
  exact ⟨l, row, first, hI.frame hf, r⟩
theorem GhostAt.fr {w w' : World} {S F : Nat → Prop} {g : Nat} {most : Int} {L : List Int} {N : Nat} (h : GhostAt w S g most L N) (hf : Fr F w w') (hd : ∀ b, b < w.heap.size → S b → ¬ F b) : GhostAt w' S g most L N :=
  h.frame fun b hb hS => hf.block b hb (hd b hb hS)
theorem GhostAt.mono {w : World} {S S' : Nat → Prop} {g : Nat} {most : Int} {L : List Int} {N : Nat} (h : GhostAt w S g most L N) (hS : ∀ b, b < w.heap.size → S b → S' b) : GhostAt w S' g most L N := by
  obtain ⟨l, row, first, hI, r⟩ := h
  exact ⟨l, row, first, hI.mono hS, r⟩
theorem GhostAt.more {w : World} {S : Nat → Prop} {g : Nat} {most : Int} {L : List Int} {N N' : Nat} (h : GhostAt w S g most L N) (hN : N ≤ N') : GhostAt w S g most L N' := by
  obtain ⟨l, row, first, hI, hT, hL, h0, h1, h2, h3⟩ := h
  exact ⟨l, row, first, hI, hT, hL, h0, h1, by omega, h3⟩

theorem pass_at (S : Nat → Prop) (g : Nat) (most : Int) (l : List (Int × Value)) (row : List Int) (first : Int) (w : World) (N : Nat) (h : GhostIn w S g most l row first) (hT : Turns l row first) (hm : 0 ≤ most) (hf : 0 ≤ first)
    (hb : first + row.length ≤ N) (hN : N ≤ 1000000) :
    Calls Tryz.prog 117 #[.pointer (some ⟨g, 0, none⟩)] w fun e w' => e = .returned (.tuple #[]) ∧ GhostAt w' S g most (cut most (live l row first)) N ∧ Fr S w w' := by
  have hlen := live_length hT
  have hle := live_le l row first
  refine (pass_in S g most l row first w h hm hf (by omega) (by omega)).mono fun e w' ⟨he, hI, hF⟩ => ⟨he, ?_, hF⟩
  obtain ⟨p1, p2, p3, p4⟩ := passF_ok most hm row l first hT
  exact ⟨_, _, _, hI, p1, p2, hm, by omega, by omega, (cut_length most _ hm).1⟩

set_option maxHeartbeats 400000 in
theorem has_at (S : Nat → Prop) (g : Nat) (most : Int) (L : List Int) (N : Nat) (h : Int) (w : World) (hG : GhostAt w S g most L N) :
    Calls Tryz.prog 114 #[.pointer (some ⟨g, 0, none⟩), .int .u64 h] w fun e w' => e = .returned (.bool (decide (h ∈ L))) ∧ w = w' := by
  obtain ⟨l, row, first, ⟨m, rv, o, hSg, hSm, hg, hmo, hmb, hsl, hvs⟩, hT, hL, _⟩ := hG
  have hd : (aget l h).isSome = decide (h ∈ L) := by
    rw [Bool.eq_iff_iff, decide_eq_true_iff, ← hL, mem_live hT]
  have HD := Lib.hid hd
  have c1 := cell_of_heap hg 1
  simp at c1
  clear hd hT hL hvs hsl
  go_enter Tryz.func114, Tryz.ntmps114
  go_wp2_with (first
    | (at_lookup; refine wpList_lookupOk_imap rfl _ _ 110 rfl 28 3 .u64 Tryz.underlying110 Tryz.underlying28 _ (zero_i64 _) m rfl o l hmo hmb h rfl ?_))
  go_ret
  exact ⟨by rw [← HD.out]; rfl, rfl⟩

set_option maxHeartbeats 400000 in
theorem remove_at (S : Nat → Prop) (g : Nat) (most : Int) (L : List Int) (N : Nat) (h : Int) (w : World) (hG : GhostAt w S g most L N) (hN : N ≤ 1000000) :
    Calls Tryz.prog 116 #[.pointer (some ⟨g, 0, none⟩), .int .u64 h] w fun e w' => e = .returned (.bool (decide (h ∈ L))) ∧ GhostAt w' S g most (grem L h) N ∧ Fr S w w' := by
  have hH := Lib.hid (has_at S g most L N h w hG)
  obtain ⟨l, row, first, ⟨m, rv, o, hSg, hSm, hg, hmo, hmb, hsl, hvs⟩, hT, hL, hm0, hf0, hfN, hLm⟩ := hG
  have c1 := cell_of_heap hg 1
  simp at c1
  have HH := Lib.hid (And.intro hT (And.intro hL (And.intro hvs (And.intro hsl hg))))
  clear hT hL hvs hsl hg
  go_enter Tryz.func116, Tryz.ntmps116
  go_wp2_with (first
    | (go_at_call 114; refine hH.out.mono ?_; rintro e w' ⟨rfl, rfl⟩)
    | (at_delete; refine wpList_delete_imap rfl _ _ 110 28 rfl 3 .u64 Tryz.underlying110 Tryz.underlying28 m rfl o l hmo hmb h rfl ?_; intro o1 ho1)
    | (go_at_call 117; fail))
  have hI : GhostIn (w.putObj m o1) S g most (adel l h) row first := by
    obtain ⟨hT, hL, hvs, hsl, hg⟩ := HH.out
    have hgm : g ≠ m := fun e => by subst e; obtain ⟨es, clk, rfl, _⟩ := hmb; rw [hg] at hmo; cases hmo
    refine ⟨m, rv, o1, hSg, hSm, (World.putObj_heap_other hgm).trans hg, World.putObj_heap_same (lt_of_heap hmo), ho1, hsl.putObj_map hmo hmb o1, fun k v hk => ?_⟩
    rw [aget_adel hmb.keys] at hk
    split at hk
    · cases hk
    · exact hvs k v hk
  refine (pass_at S g most (adel l h) row first _ N hI (turns_del HH.out.1 h) hm0 hf0 hfN hN).mono ?_
  rintro e w' ⟨rfl, hG', hF'⟩
  have hl2 : cut most (live (adel l h) row first) = grem L h := by
    rw [live_del HH.out.1.1, HH.out.2.1]
    exact cut_all (by have := List.length_filter_le (· != h) L; omega)
  rw [hl2] at hG'
  have HG := Lib.hid hG'
  have HF := Lib.hid ((Fr.refl S w).putObj (b := m) (fun _ => hSm) o1 |>.trans hF' (fun _ _ h => h))
  clear hG' hF' hI hl2
  go_wp2
  go_ret
  exact ⟨rfl, HG.out, HF.out⟩

set_option maxHeartbeats 400000 in
theorem limit_at (S : Nat → Prop) (g : Nat) (most : Int) (L : List Int) (N : Nat) (n : Int) (w : World) (hG : GhostAt w S g most L N) (hN : N ≤ 1000000) :
    Calls Tryz.prog 112 #[.pointer (some ⟨g, 0, none⟩), .int .i64 n] w fun e w' => e = .returned (.tuple #[]) ∧ GhostAt w' S g (max 0 n) (cut (max 0 n) L) N ∧ Fr S w w' := by
  obtain ⟨l, row, first, ⟨m, rv, o, hSg, hSm, hg, hmo, hmb, hsl, hvs⟩, hT, hL, hm0, hf0, hfN, hLm⟩ := hG
  have c0 := cell_of_heap hg 0
  have f0 := fro_of_heap hg 0
  simp at c0
  have HH := Lib.hid (And.intro hT (And.intro hL (And.intro hvs (And.intro hsl hg))))
  clear hT hL hvs hsl hg
  have key : ∀ (u : Int), u = max 0 n → Calls Tryz.prog 117 #[.pointer (some ⟨g, 0, none⟩)] (w.setCell ⟨g, 0, none⟩ (.int .i64 u)) fun e w' => e = .returned (.tuple #[]) ∧ GhostAt w' S g (max 0 n) (cut (max 0 n) L) N ∧ Fr S w w' := by
    intro u hu
    obtain ⟨hT, hL, hvs, hsl, hg⟩ := HH.out
    have hI : GhostIn (w.setCell ⟨g, 0, none⟩ (.int .i64 u)) S g u l row first := by
      have hgm : m ≠ g := fun e => by subst e; obtain ⟨es, clk, rfl, _⟩ := hmb; rw [hg] at hmo; cases hmo
      exact ⟨m, rv, o, hSg, hSm, (heap_setCell_same hg 0 _).trans (by simp), (heap_setCell_other hgm _).trans hmo, hmb, hsl.setCell_other hg (by decide) _ _, hvs⟩
    refine (pass_at S g u l row first _ N hI hT (by omega) hf0 hfN hN).mono fun e w' ⟨he, hG', hF'⟩ => ?_
    subst hu; rw [hL] at hG'
    exact ⟨he, hG', ((Fr.refl S w).setCell (p := ⟨g, 0, none⟩) (fun _ => hSg) _).trans hF' (fun _ _ h => h)⟩
  have HK := Lib.hid key
  clear key
  rcases Int.lt_trichotomy n 0 with hn | hn | hn
  all_goals
    first | subst hn | skip
    go_enter Tryz.func112, Tryz.ntmps112
    go_wp2_with (go_at_call 117; refine (HK.out _ (by omega)).mono ?_; rintro e w' ⟨rfl, hG', hF'⟩; have HG := Lib.hid hG'; have HF := Lib.hid hF'; clear hG' hF')
    go_end0
    exact ⟨rfl, HG.out, HF.out⟩

theorem info_u64 : (Tryz.prog.info? 28).map (fun i => (i.zero, i.size, i.bytes)) = some (some (.int .u64 0), 1, 8) := by kernel_rfl

set_option maxHeartbeats 1000000 in
theorem add_at (S : Nat → Prop) (g : Nat) (most : Int) (L : List Int) (N : Nat) (h : Int) (w : World) (hG : GhostAt w S g most L N) (hN : N < 1000000) :
    Calls Tryz.prog 113 #[.pointer (some ⟨g, 0, none⟩), .int .u64 h] w fun e w' => e = .returned (.tuple #[]) ∧ GhostAt w' (grow S w w') g most (gadd most L h) (N + 1) ∧ Fr S w w' := by
  obtain ⟨l, row, first, ⟨m, rv, o, hSg, hSm, hg, hmo, hmb, hsl, hvs⟩, hT, hL, hm0, hf0, hfN, hLm⟩ := hG
  obtain ⟨i0, hi, hz0, hz1, hz2⟩ := info_parts info_u64
  have hgm : g ≠ m := fun e => by subst e; obtain ⟨es, clk, rfl, _⟩ := hmb; rw [hg] at hmo; cases hmo
  have c1 := cell_of_heap hg 1
  have c2 := cell_of_heap hg 2
  have c3 := cell_of_heap hg 3
  simp at c1 c2 c3
  have HSL : ∀ (X : World) (o1 ob : Obj), X.heap = w.heap → Sl ((X.putObj m o1).alloc ob) S 28 1 rv row.length (u64s row) := fun X o1 ob hX =>
    ((hsl.frame (w' := X) (fun b _ _ => by rw [hX])).putObj_map (by rw [hX]; exact hmo) hmb o1).alloc ob
  have HGX : ∀ (X : World) (o1 ob : Obj), X.heap = w.heap → ((X.putObj m o1).alloc ob).heap[g]? = some (.cells #[.int .i64 most, .map (some m), rv, .int .i64 first] 112 (0, 0)) := fun X o1 ob hX => by
    rw [heap_alloc_old _ (by rw [World.putObj_size, hX]; exact lt_of_heap hg), World.putObj_heap_other hgm, hX]; exact hg
  have HMX : ∀ (X : World) (o1 ob : Obj), X.heap = w.heap → ((X.putObj m o1).alloc ob).heap[m]? = some o1 := fun X o1 ob hX => by
    rw [heap_alloc_old _ (by rw [World.putObj_size, hX]; exact lt_of_heap hmo), World.putObj_heap_same (by rw [hX]; exact lt_of_heap hmo)]
  have d2 : ∀ (X : World) (o' : Obj), (X.putObj m o').cell? ⟨g, 2, none⟩ = X.cell? ⟨g, 2, none⟩ := fun X o' => cell_putObj o' hgm
  have HH := Lib.hid (And.intro hT (And.intro hL (And.intro hvs (And.intro hsl hg))))
  have HX := Lib.hid (And.intro HSL (And.intro HGX HMX))
  have HN := Lib.hid (And.intro hN (And.intro hfN (And.intro hm0 hf0)))
  have hb0 : (row.length : Int) ≤ 1000000 := by omega
  have hb1 : first ≤ 1000000 := by omega
  have hb2 : row.length ≤ 1000000 := by omega
  obtain ⟨ra, rcap, rfl, _⟩ := hsl.shape
  clear hT hL hvs hsl hg HSL HGX HMX hgm hN hm0 hfN hLm
  go_enter Tryz.func113, Tryz.ntmps113
  go_wp2_with fail
  go_still_tail 15, (by kernel_rfl)
  go_wp2_with (first
    | (at_mapUpdate; refine wpList_update_imap rfl _ _ _ 110 rfl 28 3 .u64 Tryz.underlying110 Tryz.underlying28 m rfl o l hmo hmb h rfl _ rfl ?_; intro o1 ho1; have HO1 := Lib.hid ho1; clear ho1)
    | (at_builtin; go_must (refine wpList_append_sl (S := S) rfl _ _ 100 rfl 28 i0 (.int .u64 0) 1 8 Tryz.underlying100 hi hz0 hz1 hz2 rfl (by decide) _ row.length (u64s row) rfl (HX.out.1 _ _ _ rfl) ⟨_, 0, none⟩ 1 1 [.int .u64 h] rfl rfl (cell_one_at _ _ _ (by simp)) (ints_oneCell .u64 [h]) (by unfold maxLen; omega) (by omega) ?_); intro v1 w1 hs1 hf1; obtain ⟨a1, cap1, rfl, _⟩ := hs1.shape; have hg1 := hf1.other (HX.out.2.1 _ _ _ rfl) (fun c hc => by cases hc); have e2 := cell_of_heap hg1 2; have e3 := fro_of_heap hg1 2; simp at e2; have HS1 := Lib.hid (And.intro hs1 (And.intro hf1 hg1)); clear hs1 hf1 hg1)
    | (go_at_call 117; fail))
  obtain ⟨hT, hL, hvs, hsl, hg⟩ := HH.out
  obtain ⟨hs1, hf1, hg1⟩ := HS1.out
  have ho1 : MapBlk .u64 (aset l h (.int .i64 (IntKind.i64.wrap (first + ↑row.length)))) o1 := HO1.out
  rw [show IntKind.i64.wrap (first + (row.length : Int)) = first + row.length from by rw [IntKind.wrap_i64]; omega] at ho1
  obtain ⟨hN, hfN, hm0, hf0⟩ := HN.out
  have hm1 := hf1.other (HX.out.2.2 _ _ _ rfl) (fun c hc => by obtain ⟨es, clk, e, _⟩ := HO1.out; rw [e] at hc; cases hc)
  have hgm : m ≠ g := fun e => by subst e; obtain ⟨es, clk, rfl, _⟩ := hmb; rw [hg] at hmo; cases hmo
  have hsz : w.heap.size ≤ w1.heap.size := by have := hf1.size; simp at this; omega
  have hI : GhostIn (w1.setCell ⟨g, 2, none⟩ (.slice a1 (row.length + 1) cap1)) (grow S w w1) g most (aset l h (tv (first + row.length))) (row ++ [h]) first := by
    refine ⟨m, _, o1, Or.inl hSg, Or.inl hSm, (heap_setCell_same hg1 2 _).trans (by simp; rfl), (heap_setCell_other hgm _).trans hm1, ho1, ?_, fun k v hk => ?_⟩
    · have := (hs1.mono (S' := grow S w w1) (fun b _ hb => hb.imp id (fun ⟨q1, q2⟩ => ⟨by simp at q1; omega, q2⟩))).setCell_other hg1 (by decide) 2 (.slice a1 (row.length + 1) cap1)
      simpa [u64s] using this
    · rw [aget_aset hT.1] at hk
      split at hk
      · exact ⟨_, (Option.some.inj hk).symm⟩
      · exact hvs k v hk
  have hlive := live_set hT.1 h row first
  rw [hL] at hlive
  have hP := pass_at (grow S w w1) g most (aset l h (tv (first + row.length))) (row ++ [h]) first _ (N + 1) hI (turns_set hT h) hm0 hf0 (by simp; omega) (by omega)
  rw [hlive] at hP
  have hFr : Fr S w (w1.setCell ⟨g, 2, none⟩ (.slice a1 (row.length + 1) cap1)) :=
    ((((Fr.refl S w).drew.putObj (b := m) (fun _ => hSm) o1).alloc _).trans hf1.arr (fun _ _ h => h)).setCell (fun _ => hSg) _
  refine hP.mono ?_
  rintro e w' ⟨rfl, hG', hF'⟩
  have HF := Lib.hid (hFr.trans hF' (fun i hi h => h.elim id (fun h => by omega)))
  have HG := Lib.hid (hG'.mono (S' := grow S w w') (fun b hb h => h.imp id (fun ⟨q1, q2⟩ => ⟨q1, hb⟩)))
  clear hG' hF' hP hFr hI hlive
  go_wp2
  go_end0
  exact ⟨rfl, HG.out, HF.out⟩
end Go.Proofs.YtgdlndpjfejmcaaGreat
/- The functions of layer 11 (ghost), made new and listed. -/
namespace Go.Proofs.YtgdlndpjfejmcaaGreat
open Go.RowKit
set_option linter.unusedVariables false
set_option maxRecDepth 100000

theorem live_snoc (l : List (Int × Value)) (h : Int) : ∀ (r : List Int) (f : Int), live l (r ++ [h]) f = live l r f ++ if turnIs (aget l h) (f + r.length) then [h] else []
  | [], f => by simp [live]
  | x :: r, f => by
    have ih := live_snoc l h r (f + 1)
    have e : f + ((x :: r).length : Int) = f + 1 + (r.length : Int) := by simp; omega
    rw [e]
    show live l (x :: (r ++ [h])) f = _
    unfold live
    rw [ih]
    split <;> rfl
theorem live_take (l : List (Int × Value)) (row : List Int) (f : Int) (k : Nat) (h : k < row.length) : live l (row.take (k + 1)) f = live l (row.take k) f ++ if turnIs (aget l row[k]) (f + k) then [row[k]] else [] := by
  rw [List.take_succ_eq_append_getElem h, live_snoc, List.length_take, Nat.min_eq_left (by omega)]

set_option maxHeartbeats 400000 in
theorem new_at (n : Int) (w : World) :
    Calls Tryz.prog 53 #[.int .i64 n] w fun e w' => ∃ g, e = .returned (.pointer (some ⟨g, 0, none⟩)) ∧ GhostAt w' (fun b => w.heap.size ≤ b ∧ b < w'.heap.size) g (max 0 n) [] 0 ∧ Fr (fun _ => False) w w' := by
  have hmm := @run_makeMap Tryz.prog
  have fin : ∀ (u : Int), u = max 0 n → GhostAt ((w.alloc (.map #[] 0)).alloc (.cells #[.int .i64 u, .map (some w.heap.size), .slice none 0 0, .int .i64 0] 112))
      (fun b => w.heap.size ≤ b ∧ b < ((w.alloc (.map #[] 0)).alloc (.cells #[.int .i64 u, .map (some w.heap.size), .slice none 0 0, .int .i64 0] 112)).heap.size) (w.heap.size + 1) (max 0 n) [] 0 := by
    intro u hu
    subst hu
    have h1 := heap_alloc_new (w.alloc (.map #[] 0)) (.cells #[.int .i64 (max 0 n), .map (some w.heap.size), .slice none 0 0, .int .i64 0] 112)
    rw [World.size_alloc] at h1
    refine ⟨[], [], 0, ⟨w.heap.size, .slice none 0 0, .map #[] 0, by simp, by simp <;> omega, h1, ?_, mapBlk_nil _, Sl.nil _ _ _ _, fun k v h => by cases h⟩, ⟨List.nodup_nil, fun h v hv => by cases hv⟩, rfl, by omega, by omega, by simp, by simp; omega⟩
    rw [heap_alloc_old _ (by simp), heap_alloc_new]
  have HF := Lib.hid fin
  clear fin
  rcases Int.lt_trichotomy n 0 with hn | hn | hn
  all_goals
    first | subst hn | skip
    go_enter Tryz.func53, Tryz.ntmps53
    go_wp2
    go_ret
    exact ⟨_, rfl, HF.out _ (by omega), ((Fr.refl _ w).alloc _).alloc _⟩

/-- Where the row of a ghost lies, and what its cells hold. -/
theorem all_row {w : World} {S : Nat → Prop} {T : TypeId} {v : Value} {row : List Int} (hsl : Sl w S T 1 v row.length (u64s row)) :
    ∃ a cap, v = .slice a row.length cap ∧ ∀ k (h : k < row.length), ∃ b off, a = some ⟨b, off, none⟩ ∧ b < w.heap.size ∧ w.cell? ⟨b, off + k, none⟩ = some (.int .u64 row[k]) := by
  obtain ⟨a, cap, rfl, _⟩ := hsl.shape
  refine ⟨a, cap, rfl, fun k h => ?_⟩
  obtain ⟨b, off, cap', hv, hS, hb, _, hx, _⟩ := hsl.pos (by omega)
  simp at hv
  exact ⟨b, off, hv.1, hb, by rw [hx k (by simpa [u64s] using h)]; simp [u64s, h]⟩

end Go.Proofs.YtgdlndpjfejmcaaGreat
/- Layer 11 (ghost): how many there are. -/
namespace Go.Proofs.YtgdlndpjfejmcaaGreat
open Go.RowKit
set_option linter.unusedVariables false
set_option maxRecDepth 100000

set_option maxHeartbeats 400000 in
theorem len_at (S : Nat → Prop) (g : Nat) (most : Int) (L : List Int) (N : Nat) (w : World) (hG : GhostAt w S g most L N) :
    Calls Tryz.prog 115 #[.pointer (some ⟨g, 0, none⟩)] w fun e w' => e = .returned (.int .i64 L.length) ∧ w = w' := by
  obtain ⟨l, row, first, ⟨m, rv, o, hSg, hSm, hg, hmo, hmb, hsl, hvs⟩, hT, hL, _⟩ := hG
  have hd := live_length hT
  rw [hL] at hd
  have HD := Lib.hid hd
  have c1 := cell_of_heap hg 1
  simp at c1
  clear hd hT hL hvs hsl
  go_enter Tryz.func115, Tryz.ntmps115
  go_wp2_with (first
    | (at_len; refine wpList_len_imap rfl _ 110 rfl 28 3 .u64 Tryz.underlying110 m rfl o l hmo hmb ?_))
  go_ret
  exact ⟨by rw [HD.out]; rfl, rfl⟩

end Go.Proofs.YtgdlndpjfejmcaaGreat
