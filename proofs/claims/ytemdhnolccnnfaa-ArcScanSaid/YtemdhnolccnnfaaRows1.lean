/- The functions of layer 10 (rows) that read: what each call does. -/
import Derived.Test.YtemdhnolccnnfaaRows
import Derived.Test.YtemdhnolccnnfaaRowsMem
import Derived.Test.YtemdhnolccnnfaaQuiet
import Derived.Test.YtemdhnolccnnfaaZero
import Derived.WalkKit
import Derived.WalkSpells
import Derived.WalkLawsBesides
import Derived.StillTailTactics
import Derived.Deep.QuietTactic
import Derived.BigQuiet
import Derived.Deep.DeepCutAuto
namespace Go.Proofs.Ytemdhnolccnnfaa
open Go.RowKit
set_option linter.unusedVariables false
/-- A Rows of n rows, that hold Ls; no more than N links were ever made. -/
def RowsAt (w : World) (S : Nat → Prop) (g n : Nat) (L : Nat → List Int) (N : Nat) : Prop :=
  ∃ lk free l Ps cnt, RowsM w S g n lk free l cnt ∧ Good n lk free l Ps ∧ (∀ r, L r = Ls lk Ps r) ∧ (∀ r, r < n → cnt[r]? = some ((L r).length : Int)) ∧ lk.length ≤ n + N ∧ 0 < n ∧ n ≤ 8 ∧ (∀ r, (L r).length ≤ N)
theorem RowsAt.frame {w w' : World} {S : Nat → Prop} {g n : Nat} {L : Nat → List Int} {N : Nat} (h : RowsAt w S g n L N) (hf : ∀ b, b < w.heap.size → S b → w'.heap[b]? = w.heap[b]?) : RowsAt w' S g n L N := by
  obtain ⟨lk, free, l, Ps, cnt, h1, r⟩ := h
  exact ⟨lk, free, l, Ps, cnt, h1.frame hf, r⟩
/-- The row in which an id stands, or -1. -/
def rowOf (n : Nat) (L : Nat → List Int) (id : Int) : Int := match (List.range n).find? (fun r => decide (id ∈ L r)) with
  | some r => r
  | none => -1
theorem rowOf_none {n : Nat} {L : Nat → List Int} {id : Int} (h : ∀ r, r < n → id ∉ L r) : rowOf n L id = -1 := by
  unfold rowOf
  rw [List.find?_eq_none.2 (fun r hr => by simpa using h r (List.mem_range.1 hr))]
theorem rowOf_some {n : Nat} {L : Nat → List Int} {id : Int} {r : Nat} (hr : r < n) (h : id ∈ L r) (hd : ∀ s, s < n → id ∈ L s → s = r) : rowOf n L id = r := by
  unfold rowOf
  cases e : (List.range n).find? (fun r => decide (id ∈ L r)) with
  | none => exact absurd h (by simpa using List.find?_eq_none.1 e r (List.mem_range.2 hr))
  | some s =>
    have h1 := List.find?_some e
    have h2 := List.mem_of_find?_eq_some e
    rw [hd s (List.mem_range.1 h2) (by simpa using h1)]
theorem Ls_disj {n : Nat} {lk : List Lnk} {free : List Nat} {l : List (Int × Value)} {Ps : Nat → List Nat} (h : Good n lk free l Ps) {r s : Nat} (hr : r < n) (hs : s < n) {id : Int} (h1 : id ∈ Ls lk Ps r) (h2 : id ∈ Ls lk Ps s) : s = r := by
  obtain ⟨p, hp, e1⟩ := List.mem_map.1 h1
  obtain ⟨q, hq, e2⟩ := List.mem_map.1 h2
  exact (h.same hs hr hq hp (e2.trans e1.symm)).2
theorem Ls_nodup {n : Nat} {lk : List Lnk} {free : List Nat} {l : List (Int × Value)} {Ps : Nat → List Nat} (h : Good n lk free l Ps) {r : Nat} (hr : r < n) : (Ls lk Ps r).Nodup := by
  unfold Ls
  rw [List.Nodup, List.pairwise_map]
  exact List.Pairwise.imp_of_mem (fun ha hb hne e => hne (h.same hr hr ha hb e).1) (h.nodup r hr)
theorem Ls_range {n : Nat} {lk : List Lnk} {free : List Nat} {l : List (Int × Value)} {Ps : Nat → List Nat} (h : Good n lk free l Ps) {r : Nat} (hr : r < n) {id : Int} (h1 : id ∈ Ls lk Ps r) : 0 ≤ id ∧ id ≤ 4194303 := by
  obtain ⟨p, hp, e1⟩ := List.mem_map.1 h1
  have := h.place r hr p hp
  rw [← e1]; exact ⟨this.2.2.2.1, this.2.2.2.2.1⟩
theorem RowsAt.disj {w : World} {S : Nat → Prop} {g n : Nat} {L : Nat → List Int} {N : Nat} (h : RowsAt w S g n L N) {r s : Nat} (hr : r < n) (hs : s < n) {id : Int} (h1 : id ∈ L r) (h2 : id ∈ L s) : s = r := by
  obtain ⟨lk, free, l, Ps, cnt, _, hG, hL, _⟩ := h
  rw [hL] at h1 h2
  exact Ls_disj hG hr hs h1 h2
theorem RowsAt.nodup {w : World} {S : Nat → Prop} {g n : Nat} {L : Nat → List Int} {N : Nat} (h : RowsAt w S g n L N) {r : Nat} (hr : r < n) : (L r).Nodup := by
  obtain ⟨lk, free, l, Ps, cnt, _, hG, hL, _⟩ := h
  rw [hL]; exact Ls_nodup hG hr
theorem RowsAt.range {w : World} {S : Nat → Prop} {g n : Nat} {L : Nat → List Int} {N : Nat} (h : RowsAt w S g n L N) {r : Nat} (hr : r < n) {id : Int} (h1 : id ∈ L r) : 0 ≤ id ∧ id ≤ 4194303 := by
  obtain ⟨lk, free, l, Ps, cnt, _, hG, hL, _⟩ := h
  rw [hL] at h1; exact Ls_range hG hr h1
theorem RowsAt.nil {w : World} {S : Nat → Prop} {g n : Nat} {L : Nat → List Int} {N : Nat} (h : RowsAt w S g n L N) {r : Nat} (hr : n ≤ r) : L r = [] := by
  obtain ⟨lk, free, l, Ps, cnt, _, hG, hL, _⟩ := h
  rw [hL]; simp [Ls, hG.none_ r hr]
theorem rows_has (S : Nat → Prop) (g n : Nat) (L : Nat → List Int) (N : Nat) (row : Int) (w : World) (hG : RowsAt w S g n L N) :
    Calls Try.prog 21 #[.pointer (some ⟨g, 0, none⟩), .int .i64 row] w fun e w' => e = .returned (.bool (decide (0 ≤ row ∧ row < n))) ∧ w = w' := by
  obtain ⟨lk, free, l, Ps, cnt, ⟨m, nb, lv, fv, o, hSg, hSm, hSn, hcn, hg, hmo, hmb, hlk, hfr, hnb⟩, hG, hL, hcnt, hN, hn0, hn8, hLN⟩ := hG
  have c3 := cell_of_heap hg 3
  simp at c3
  clear hG hL hcnt hLN hlk hfr hnb hmo hmb
  go_enter Try.func21, Try.ntmps21
  rcases hd : decide (0 ≤ row ∧ row < (n : Int)) with _ | _
  all_goals have HD := Lib.hid hd
  all_goals simp only [decide_eq_true_eq, decide_eq_false_iff_not] at hd
  · by_cases h0 : 0 ≤ row
    · have h1 : decide (row < (n : Int)) = false := decide_eq_false (by omega)
      clear hd
      go_wp2
      go_ret
      exact ⟨rfl, rfl⟩
    · clear hd
      go_wp2
      go_ret
      exact ⟨rfl, rfl⟩
  · obtain ⟨h0, h1⟩ := hd
    go_wp2
    go_ret
    exact ⟨rfl, rfl⟩
theorem rows_row (S : Nat → Prop) (g n : Nat) (L : Nat → List Int) (N : Nat) (id : Int) (w : World) (hG : RowsAt w S g n L N) :
    Calls Try.prog 16 #[.pointer (some ⟨g, 0, none⟩), .int .i64 id] w fun e w' => e = .returned (.int .i64 (rowOf n L id)) ∧ w = w' := by
  obtain ⟨lk, free, l, Ps, cnt, ⟨m, nb, lv, fv, o, hSg, hSm, hSn, hcn, hg, hmo, hmb, hlk, hfr, hnb⟩, hG, hL, hcnt, hN, hn0, hn8, hLN⟩ := hG
  have c0 := cell_of_heap hg 0
  have c2 := cell_of_heap hg 2
  simp at c0 c2
  obtain ⟨b, off, cap, rfl, hSb, hb, hcap, hx, hf⟩ := links_at hlk (by have := hG.len; omega)
  cases ha : aget l id with
  | none =>
    have hno : ∀ r, r < n → id ∉ L r := fun r hr q => by
      rw [hL] at q
      obtain ⟨p, hp, e⟩ := List.mem_map.1 q
      have := (hG.place r hr p hp).2.2.2.2.2.2
      rw [e, ha] at this; cases this
    have HR := Lib.hid (rowOf_none hno)
    clear hno hG hL hcnt hLN hlk hfr hnb hx hf
    go_enter Try.func16, Try.ntmps16
    go_wp2_with (first
      | (at_lookup; refine wpList_lookupOk_imap rfl _ _ 47 rfl 3 3 .i64 Try.underlying47 Try.underlying3 _ (zero_i64 _) m rfl o l hmo hmb id rfl ?_; rw [ha]))
    go_ret
    exact ⟨by rw [HR.out]; rfl, rfl⟩
  | some v =>
    obtain ⟨r, hr, p, hp, rfl, he⟩ := hG.at_ id v ha
    have hpl := (hG.place r hr p hp)
    obtain ⟨_, hx1, _, _⟩ := hx p hpl.2.1
    rw [hpl.2.2.1] at hx1
    have hmem : id ∈ Ls lk Ps r := List.mem_map.2 ⟨p, hp, he⟩
    have HR := Lib.hid (rowOf_some (L := L) hr (by rw [hL]; exact hmem) (fun s hs q => Ls_disj hG hr hs hmem (by rw [← hL]; exact q)))
    have hp2 := hpl.2.1
    unfold iv at hx1
    clear hpl hmem hG hL hcnt hLN hlk hfr hnb hx hf hp he
    go_enter Try.func16, Try.ntmps16
    go_wp2_with (first
      | (at_lookup; refine wpList_lookupOk_imap rfl _ _ 47 rfl 3 3 .i64 Try.underlying47 Try.underlying3 _ (zero_i64 _) m rfl o l hmo hmb id rfl ?_; rw [ha]; unfold iv))
    go_ret
    exact ⟨by rw [HR.out]; rfl, rfl⟩
end Go.Proofs.Ytemdhnolccnnfaa
