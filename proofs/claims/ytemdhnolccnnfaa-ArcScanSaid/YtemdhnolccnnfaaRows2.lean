/- The functions of layer 10 (rows) that read, two: the ends and the lengths of rows. -/
import Derived.Test.YtemdhnolccnnfaaRows1
import Derived.Deep.RegionHeld3
namespace Go.Proofs.Ytemdhnolccnnfaa
open Go.RowKit
set_option linter.unusedVariables false
/-- Who stands at the front, who at the end; -1: nobody. -/
def firstOf (l : List Int) : Int := l.headD (-1)
def lastOf (l : List Int) : Int := l.getLastD (-1)
/-- A row's ids, whatever its number. -/
def rowL (L : Nat → List Int) (row : Int) : List Int := if row < 0 then [] else L row.toNat
theorem rowL_nat (L : Nat → List Int) (r : Nat) : rowL L (r : Int) = L r := by unfold rowL; rw [if_neg (by omega)]; rfl
theorem RowsAt.rowL_none {w : World} {S : Nat → Prop} {g n : Nat} {L : Nat → List Int} {N : Nat} (h : RowsAt w S g n L N) {row : Int} (hr : ¬ (0 ≤ row ∧ row < n)) : rowL L row = [] := by
  unfold rowL
  split
  · rfl
  · exact h.nil (by omega)
theorem lI_first {n : Nat} {lk : List Lnk} {free : List Nat} {l : List (Int × Value)} {Ps : Nat → List Nat} (h : Good n lk free l Ps) {r : Nat} (hr : r < n) : lI lk (lA lk r) = firstOf (Ls lk Ps r) := by
  unfold firstOf
  rw [path_first (h.ring r hr)]
  unfold Ls
  cases e : Ps r with
  | nil => simp [h.head r hr]
  | cons p q => simp
theorem lI_lastOr (lk : List Lnk) : ∀ (ps : List Nat) (r : Nat), lI lk (lastOr r ps) = (ps.map (lI lk)).getLastD (lI lk r)
  | [], r => rfl
  | p :: u, r => by
    show lI lk (lastOr p u) = _
    rw [lI_lastOr lk u p]
    cases u <;> simp [List.getLastD]
theorem lI_last {n : Nat} {lk : List Lnk} {free : List Nat} {l : List (Int × Value)} {Ps : Nat → List Nat} (h : Good n lk free l Ps) {r : Nat} (hr : r < n) : lI lk (lB lk r) = lastOf (Ls lk Ps r) := by
  unfold lastOf
  rw [(path_last (h.ring r hr)).1, lI_lastOr, h.head r hr]
  rfl
theorem has_dec {row : Int} {n : Nat} {b : Bool} (h : decide (0 ≤ row ∧ row < (n : Int)) = b) : (b = true → 0 ≤ row ∧ row < n) ∧ (b = false → ¬ (0 ≤ row ∧ row < n)) := by
  subst h
  exact ⟨fun h => of_decide_eq_true h, fun h => of_decide_eq_false h⟩
theorem rows_len (S : Nat → Prop) (g n : Nat) (L : Nat → List Int) (N : Nat) (row : Int) (w : World) (hG : RowsAt w S g n L N) :
    Calls Try.prog 23 #[.pointer (some ⟨g, 0, none⟩), .int .i64 row] w fun e w' => e = .returned (.int .i64 (rowL L row).length) ∧ w = w' := by
  have HC := Lib.hid (rows_has S g n L N row w hG)
  have HN := Lib.hid (fun h => hG.rowL_none (row := row) h)
  obtain ⟨lk, free, l, Ps, cnt, ⟨m, nb, lv, fv, o, hSg, hSm, hSn, hcn, hg, hmo, hmb, hlk, hfr, hnb⟩, hG, hL, hcnt, hN, hn0, hn8, hLN⟩ := hG
  have c3 := cell_of_heap hg 3
  simp at c3
  rcases hd : decide (0 ≤ row ∧ row < (n : Int)) with _ | _
  · have hz := HN.out ((has_dec hd).2 rfl)
    have HD := Lib.hid (And.intro hd hz)
    clear hd hz hG hL hcnt hlk hfr hnb hmo hmb hLN
    go_enter Try.func23, Try.ntmps23
    go_wp2_with (go_at_call 21; refine HC.out.mono ?_; rintro e w' ⟨rfl, rfl⟩; rw [HD.out.1])
    go_ret
    exact ⟨by rw [HD.out.2]; rfl, rfl⟩
  · obtain ⟨h0, h1⟩ := (has_dec hd).1 rfl
    obtain ⟨r, rfl⟩ : ∃ r : Nat, row = r := ⟨row.toNat, by omega⟩
    have hr1 : r < n := by omega
    have hcr : w.cell? ⟨nb, r, none⟩ = some (.int .i64 (L r).length) := by
      rw [cell_of_heap hnb]
      simp [iv, hcnt r hr1]
    have HD := Lib.hid hd
    clear hd hG hL hcnt hlk hfr hnb hmo hmb hLN
    go_enter Try.func23, Try.ntmps23
    go_wp2_with (go_at_call 21; refine HC.out.mono ?_; rintro e w' ⟨rfl, rfl⟩; rw [HD.out])
    go_ret
    exact ⟨by rw [rowL_nat]; rfl, rfl⟩
theorem rows_last (S : Nat → Prop) (g n : Nat) (L : Nat → List Int) (N : Nat) (row : Int) (w : World) (hG : RowsAt w S g n L N) :
    Calls Try.prog 24 #[.pointer (some ⟨g, 0, none⟩), .int .i64 row] w fun e w' => e = .returned (.int .i64 (lastOf (rowL L row))) ∧ ∃ k, w' = w.drewN k := by
  have HC := Lib.hid (rows_has S g n L N row w hG)
  have HN := Lib.hid (fun h => hG.rowL_none (row := row) h)
  obtain ⟨lk, free, l, Ps, cnt, ⟨m, nb, lv, fv, o, hSg, hSm, hSn, hcn, hg, hmo, hmb, hlk, hfr, hnb⟩, hG, hL, hcnt, hN, hn0, hn8, hLN⟩ := hG
  rcases hd : decide (0 ≤ row ∧ row < (n : Int)) with _ | _
  · have hz := HN.out ((has_dec hd).2 rfl)
    have HD := Lib.hid (And.intro hd hz)
    clear hd hz hG hL hcnt hlk hfr hnb hmo hmb hLN
    go_enter Try.func24, Try.ntmps24
    go_wp2_with (go_at_call 21; refine HC.out.mono ?_; rintro e w' ⟨rfl, rfl⟩; rw [HD.out.1])
    go_ret
    exact ⟨by rw [HD.out.2]; rfl, 0, rfl⟩
  · obtain ⟨h0, h1⟩ := (has_dec hd).1 rfl
    obtain ⟨r, rfl⟩ : ∃ r : Nat, row = r := ⟨row.toNat, by omega⟩
    have hr1 : r < n := by omega
    have c0 := cell_of_heap hg 0
    simp at c0
    obtain ⟨b, off, cap, rfl, hSb, hb, hcap, hx, hf⟩ := links_at hlk (by have := hG.len; omega)
    have hrl : r < lk.length := by have := hG.len; omega
    have hal := (hG.near hr1 (p := r) (by simp)).2.1
    obtain ⟨_, _, hx2, _⟩ := hx r hrl
    obtain ⟨hx0, _, _, _⟩ := hx _ hal
    have he := lI_last hG hr1
    rw [← hL r] at he
    rw [he] at hx0
    unfold iv at hx0 hx2
    obtain ⟨q, hq⟩ : ∃ q, lB lk r = q := ⟨_, rfl⟩
    rw [hq] at hx2 hx0 hal
    have HD := Lib.hid hd
    clear hd hG hL hcnt hlk hfr hnb hmo hmb hLN hx hf he hq
    go_enter Try.func24, Try.ntmps24
    go_wp2_with (go_at_call 21; refine HC.out.mono ?_; rintro e w' ⟨rfl, rfl⟩; rw [HD.out])
    go_quiet (fail)
    go_wp2
    go_ret
    exact ⟨by rw [rowL_nat]; rfl, _, rfl⟩
end Go.Proofs.Ytemdhnolccnnfaa
