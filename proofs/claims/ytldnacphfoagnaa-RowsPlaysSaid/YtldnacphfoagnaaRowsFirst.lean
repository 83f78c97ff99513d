/- Layer 10 (rows): First. -/
import Derived.Test.YtldnacphfoagnaaRows2
namespace Go.Proofs.Ytldnacphfoagnaa
open Go.RowKit
set_option linter.unusedVariables false
theorem rows_first (S : Nat → Prop) (g n : Nat) (L : Nat → List Int) (N : Nat) (row : Int) (w : World) (hG : RowsAt w S g n L N) :
    Calls Try.prog 25 #[.pointer (some ⟨g, 0, none⟩), .int .i64 row] w fun e w' => e = .returned (.int .i64 (firstOf (rowL L row))) ∧ ∃ k, w' = w.drewN k := by
  have HC := Lib.hid (rows_has S g n L N row w hG)
  have HN := Lib.hid (fun h => hG.rowL_none (row := row) h)
  obtain ⟨lk, free, l, Ps, cnt, ⟨m, nb, lv, fv, o, hSg, hSm, hSn, hcn, hg, hmo, hmb, hlk, hfr, hnb⟩, hG, hL, hcnt, hN, hn0, hn8, hLN⟩ := hG
  rcases hd : decide (0 ≤ row ∧ row < (n : Int)) with _ | _
  · have hz := HN.out ((has_dec hd).2 rfl)
    have HD := Lib.hid (And.intro hd hz)
    clear hd hz hG hL hcnt hlk hfr hnb hmo hmb hLN
    go_enter Try.func25, Try.ntmps25
    go_wp2_with (go_at_call 28; refine HC.out.mono ?_; rintro e w' ⟨rfl, rfl⟩; rw [HD.out.1])
    go_ret
    exact ⟨by rw [HD.out.2]; rfl, 0, rfl⟩
  · obtain ⟨h0, h1⟩ := (has_dec hd).1 rfl
    obtain ⟨r, rfl⟩ : ∃ r : Nat, row = r := ⟨row.toNat, by omega⟩
    have hr1 : r < n := by omega
    have c0 := cell_of_heap hg 0
    simp at c0
    obtain ⟨b, off, cap, rfl, hSb, hb, hcap, hx, hf⟩ := links_at hlk (by have := hG.len; omega)
    have hrl : r < lk.length := by have := hG.len; omega
    have hal := (hG.near hr1 (p := r) (by simp)).1
    obtain ⟨_, _, _, hx3⟩ := hx r hrl
    obtain ⟨hx0, _, _, _⟩ := hx _ hal
    have he := lI_first hG hr1
    rw [← hL r] at he
    rw [he] at hx0
    unfold iv at hx0 hx3
    obtain ⟨q, hq⟩ : ∃ q, lA lk r = q := ⟨_, rfl⟩
    rw [hq] at hx3 hx0 hal
    have HD := Lib.hid hd
    clear hd hG hL hcnt hlk hfr hnb hmo hmb hLN hx hf he hq
    go_enter Try.func25, Try.ntmps25
    go_wp2_with (go_at_call 28; refine HC.out.mono ?_; rintro e w' ⟨rfl, rfl⟩; rw [HD.out])
    go_quiet (fail)
    go_wp2
    go_ret
    exact ⟨by rw [rowL_nat]; rfl, _, rfl⟩
end Go.Proofs.Ytldnacphfoagnaa
