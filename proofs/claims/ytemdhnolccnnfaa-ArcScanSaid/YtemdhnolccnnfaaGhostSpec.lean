/- The ghost, plainly: what stands in its map and its row, and what of it is there. No program here. -/
import Derived.Test.YtemdhnolccnnfaaMem
namespace Go.Proofs.Ytemdhnolccnnfaa
open Go.RowKit
set_option linter.unusedVariables false

def tv (n : Int) : Value := .int .i64 n
def turnIs (o : Option Value) (f : Int) : Bool := match o with
  | some (.int .i64 n) => n == f
  | _ => false
theorem turnIs_iff {o : Option Value} {f : Int} : turnIs o f = true ↔ o = some (tv f) := by
  unfold turnIs tv
  split
  · simp
  · rename_i h
    constructor
    · intro h; cases h
    · intro e; exact absurd e (h f)
def live (l : List (Int × Value)) : List Int → Int → List Int
  | [], _ => []
  | h :: t, f => if turnIs (aget l h) f then h :: live l t (f + 1) else live l t (f + 1)
/-- Each number of the map stands in the row, at its turn. -/
def Turns (l : List (Int × Value)) (row : List Int) (f : Int) : Prop := Keys l ∧ ∀ h v, aget l h = some v → ∃ i : Nat, row[i]? = some h ∧ v = tv (f + i)
/-- The newest ones. -/
def cut (most : Int) (L : List Int) : List Int := L.drop (L.length - most.toNat)
def passF (most : Int) : List (Int × Value) → List Int → Int → List (Int × Value) × List Int × Int
  | l, [], f => (l, [], f)
  | l, h :: t, f => if turnIs (aget l h) f then (if (l.length : Int) ≤ most then (l, h :: t, f) else passF most (adel l h) t (f + 1)) else passF most l t (f + 1)

theorem tv_inj {a b : Int} : tv a = tv b ↔ a = b := by simp [tv]
theorem turns_tail_dead {l : List (Int × Value)} {h : Int} {t : List Int} {f : Int} (hT : Turns l (h :: t) f) (hd : aget l h ≠ some (tv f)) : Turns l t (f + 1) := by
  refine ⟨hT.1, fun k v hk => ?_⟩
  obtain ⟨i, hi, rfl⟩ := hT.2 k v hk
  cases i with
  | zero => simp at hi; subst hi; exact absurd (by simpa using hk) hd
  | succ i => exact ⟨i, by simpa using hi, by rw [tv_inj]; omega⟩
theorem turns_tail_live {l : List (Int × Value)} {h : Int} {t : List Int} {f : Int} (hT : Turns l (h :: t) f) : Turns (adel l h) t (f + 1) := by
  refine ⟨keys_adel hT.1 h, fun k v hk => ?_⟩
  rw [aget_adel hT.1] at hk
  split at hk
  · cases hk
  · rename_i hne
    obtain ⟨i, hi, rfl⟩ := hT.2 k v hk
    cases i with
    | zero => simp at hi; exact absurd hi.symm hne
    | succ i => exact ⟨i, by simpa using hi, by rw [tv_inj]; omega⟩
theorem live_congr {l l' : List (Int × Value)} : ∀ {row : List Int} {f : Int}, (∀ h ∈ row, aget l h = aget l' h) → live l row f = live l' row f
  | [], _, _ => rfl
  | h :: t, f, e => by
    unfold live
    rw [e h (.head _), live_congr (fun k hk => e k (.tail _ hk))]
theorem live_sub {l : List (Int × Value)} : ∀ {row : List Int} {f : Int} {k : Int}, k ∈ live l row f → ∃ i : Nat, row[i]? = some k ∧ aget l k = some (tv (f + i))
  | [], _, _, h => by simp [live] at h
  | x :: t, f, k, h => by
    unfold live at h
    split at h
    · rename_i hx
      have hx := turnIs_iff.1 hx
      rcases List.mem_cons.1 h with rfl | h
      · exact ⟨0, rfl, by simpa using hx⟩
      · obtain ⟨i, hi, ha⟩ := live_sub h
        exact ⟨i + 1, by simpa using hi, by rw [ha]; congr 2; omega⟩
    · obtain ⟨i, hi, ha⟩ := live_sub h
      exact ⟨i + 1, by simpa using hi, by rw [ha]; congr 2; omega⟩
theorem live_has {l : List (Int × Value)} : ∀ {row : List Int} {f : Int} {k : Int} {i : Nat}, row[i]? = some k → aget l k = some (tv (f + i)) → k ∈ live l row f
  | [], _, _, _, h, _ => by simp at h
  | x :: t, f, k, i, h, ha => by
    unfold live
    cases i with
    | zero =>
      simp at h; subst h
      rw [if_pos (turnIs_iff.2 (by simpa using ha))]; exact .head _
    | succ i =>
      have := live_has (l := l) (row := t) (f := f + 1) (k := k) (i := i) (by simpa using h) (by rw [ha]; congr 2; omega)
      split
      · exact .tail _ this
      · exact this
theorem mem_live {l : List (Int × Value)} {row : List Int} {f : Int} (hT : Turns l row f) (k : Int) : k ∈ live l row f ↔ (aget l k).isSome := by
  constructor
  · intro h; obtain ⟨i, _, ha⟩ := live_sub h; rw [ha]; rfl
  · intro h
    obtain ⟨v, hv⟩ := Option.isSome_iff_exists.1 h
    obtain ⟨i, hi, rfl⟩ := hT.2 k v hv
    exact live_has hi hv
theorem live_later {l : List (Int × Value)} {k : Int} {f g : Int} (ha : aget l k = some (tv g)) : ∀ {row : List Int}, g < f → k ∉ live l row f := by
  intro row hg hm
  obtain ⟨i, _, h⟩ := live_sub hm
  rw [ha] at h
  simp [tv] at h; omega
theorem live_nodup (l : List (Int × Value)) : ∀ (row : List Int) (f : Int), (live l row f).Nodup
  | [], _ => List.nodup_nil
  | h :: t, f => by
    unfold live
    split
    · rename_i hx
      have hx := turnIs_iff.1 hx
      exact List.nodup_cons.2 ⟨live_later hx (by omega), live_nodup l t (f + 1)⟩
    · exact live_nodup l t (f + 1)
theorem live_length {l : List (Int × Value)} {row : List Int} {f : Int} (hT : Turns l row f) : (live l row f).length = l.length := by
  have h1 : (l.map (·.1)).Nodup := hT.1
  have h2 := live_nodup l row f
  have : (live l row f).Perm (l.map (·.1)) := by
    rw [List.perm_ext_iff_of_nodup h2 h1]
    intro k
    rw [mem_live hT]
    constructor
    · intro h; obtain ⟨v, hv⟩ := Option.isSome_iff_exists.1 h; exact List.mem_map.2 ⟨_, mem_of_aget hv, rfl⟩
    · intro h; obtain ⟨p, hp, rfl⟩ := List.mem_map.1 h
      rw [(aget_iff hT.1).2 (show (p.1, p.2) ∈ l from hp)]; rfl
  simpa using this.length_eq
theorem live_del {l : List (Int × Value)} (hn : Keys l) (k : Int) : ∀ (row : List Int) (f : Int), live (adel l k) row f = (live l row f).filter (· != k)
  | [], _ => rfl
  | h :: t, f => by
    unfold live
    rw [aget_adel hn, live_del hn k t (f + 1)]
    by_cases e : h = k
    · subst e
      rw [if_pos rfl, if_neg (by simp [turnIs])]
      split
      · rw [List.filter_cons_of_neg (by simp)]
      · rfl
    · rw [if_neg e]
      split
      · rw [List.filter_cons_of_pos (by simpa using e)]
      · rfl
theorem live_set {l : List (Int × Value)} (hn : Keys l) (k : Int) : ∀ (row : List Int) (f : Int), live (aset l k (tv (f + row.length))) (row ++ [k]) f = (live l row f).filter (· != k) ++ [k]
  | [], f => by
    show live _ [k] f = _
    unfold live
    rw [aget_aset hn, if_pos rfl, if_pos (turnIs_iff.2 (by simp))]; rfl
  | h :: t, f => by
    have ih := live_set hn k t (f + 1)
    have e2 : f + ((h :: t).length : Int) = f + 1 + (t.length : Int) := by simp; omega
    rw [e2]
    show live _ (h :: (t ++ [k])) f = _
    unfold live
    rw [ih, aget_aset hn]
    by_cases e : h = k
    · subst e
      rw [if_pos rfl, if_neg (by rw [turnIs_iff]; simp [tv]; omega)]
      split
      · rw [List.filter_cons_of_neg (by simp)]
      · rfl
    · rw [if_neg e]
      split
      · rw [List.filter_cons_of_pos (by simpa using e)]; rfl
      · rfl
theorem turns_set {l : List (Int × Value)} {row : List Int} {f : Int} (hT : Turns l row f) (k : Int) : Turns (aset l k (tv (f + row.length))) (row ++ [k]) f := by
  refine ⟨keys_aset hT.1 _ _, fun h v hv => ?_⟩
  rw [aget_aset hT.1] at hv
  split at hv
  · rename_i e; subst e
    simp at hv; subst hv
    exact ⟨row.length, by simp, rfl⟩
  · obtain ⟨i, hi, rfl⟩ := hT.2 h v hv
    exact ⟨i, by rw [List.getElem?_append_left (List.getElem?_eq_some_iff.1 hi).1]; exact hi, rfl⟩
theorem turns_del {l : List (Int × Value)} {row : List Int} {f : Int} (hT : Turns l row f) (k : Int) : Turns (adel l k) row f := by
  refine ⟨keys_adel hT.1 _, fun h v hv => ?_⟩
  rw [aget_adel hT.1] at hv
  split at hv
  · cases hv
  · exact hT.2 h v hv
theorem passF_ok (most : Int) (hm : 0 ≤ most) : ∀ (row : List Int) (l : List (Int × Value)) (f : Int), Turns l row f →
    Turns (passF most l row f).1 (passF most l row f).2.1 (passF most l row f).2.2 ∧
    live (passF most l row f).1 (passF most l row f).2.1 (passF most l row f).2.2 = cut most (live l row f) ∧
    (passF most l row f).2.2 + (passF most l row f).2.1.length = f + row.length ∧ f ≤ (passF most l row f).2.2
  | [], l, f, hT => by
    refine ⟨hT, ?_, rfl, by simp [passF]⟩
    simp [passF, live, cut]
  | h :: t, l, f, hT => by
    unfold passF
    by_cases hx : aget l h = some (tv f)
    · have hb := turnIs_iff.2 hx
      rw [if_pos hb]
      by_cases hl : (l.length : Int) ≤ most
      · rw [if_pos hl]
        refine ⟨hT, ?_, rfl, by simp⟩
        have := live_length hT
        unfold cut
        rw [this, show l.length - most.toNat = 0 from by omega]; rfl
      · rw [if_neg hl]
        obtain ⟨h1, h2, h3, h4⟩ := passF_ok most hm t (adel l h) (f + 1) (turns_tail_live hT)
        refine ⟨h1, ?_, by rw [h3]; simp; omega, by omega⟩
        rw [h2, live_del hT.1]
        have hlen := live_length hT
        have e1 : live l (h :: t) f = h :: live l t (f + 1) := by rw [live, if_pos hb]
        have e2 : (live l t (f + 1)).filter (· != h) = live l t (f + 1) := by
          rw [List.filter_eq_self]; intro k hk
          simp only [bne_iff_ne, ne_eq]
          intro e; subst e
          exact live_later hx (by omega) hk
        rw [e1] at hlen ⊢
        rw [e2]
        unfold cut
        simp at hlen
        rw [show (h :: live l t (f + 1)).length - most.toNat = (live l t (f + 1)).length - most.toNat + 1 from by simp; omega]; rfl
    · have hb : ¬ turnIs (aget l h) f = true := fun h => hx (turnIs_iff.1 h)
      rw [if_neg hb]
      obtain ⟨h1, h2, h3, h4⟩ := passF_ok most hm t l (f + 1) (turns_tail_dead hT hx)
      refine ⟨h1, ?_, by rw [h3]; simp; omega, by omega⟩
      rw [h2, live, if_neg hb]

/-- Adding, removing and limiting, of the numbers that are there alone. -/
def gadd (most : Int) (L : List Int) (h : Int) : List Int := cut most (L.filter (· != h) ++ [h])
def grem (L : List Int) (h : Int) : List Int := L.filter (· != h)
theorem cut_all {most : Int} {L : List Int} (h : (L.length : Int) ≤ most) : cut most L = L := by
  unfold cut; rw [show L.length - most.toNat = 0 from by omega]; rfl
theorem cut_length (most : Int) (L : List Int) (h : 0 ≤ most) : ((cut most L).length : Int) ≤ most ∧ (cut most L).length ≤ L.length := by
  unfold cut; rw [List.length_drop]; omega
end Go.Proofs.Ytemdhnolccnnfaa
