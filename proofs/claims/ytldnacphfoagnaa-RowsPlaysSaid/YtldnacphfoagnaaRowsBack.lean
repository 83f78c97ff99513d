/- Layer 10 (rows): Back. -/
import Derived.Test.YtldnacphfoagnaaRowsEnds
namespace Go.Proofs.Ytldnacphfoagnaa
open Go.RowKit
set_option linter.unusedVariables false
/-- put, at the end: and where the end is read. -/
theorem rows_putB (S : Nat → Prop) (g n : Nat) (L : Nat → List Int) (N : Nat) (r : Nat) (id : Int) (w : World) (hG : RowsAt w S g n L N) (hr : r < n) (hid : 0 ≤ id ∧ id ≤ 4194303) (hno : ∀ s, id ∉ L s) (hN1 : N < 1000000) :
    ∃ b off len cap k : Nat, w.cell? ⟨g, 0, none⟩ = some (.slice (some ⟨b, off, none⟩) len cap) ∧ (r : Int) < len ∧ w.cell? ⟨b, off + r * 4 + 2, none⟩ = some (.int .i64 k) ∧
    Calls Try.prog 29 #[.pointer (some ⟨g, 0, none⟩), .int .i64 r, .int .i64 id, .int .i64 k] w fun e w' => e = .returned (.tuple #[]) ∧ RowsAt w' (grow S w w') g n (putB L r id) (N + 1) ∧ Fr S w w' := by
  obtain ⟨lk, free, l, Ps, cnt, hM, hG, hL, hcnt, hN, hn0, hn8, hLN⟩ := hG
  obtain ⟨m, nb, lv, fv, o, hO⟩ := hM.opened
  have c0 := cell_of_heap hO.hg 0
  simp at c0
  obtain ⟨b, off, cap, rfl, _, _, _, hx, _⟩ := links_at hO.hlk (by have := hG.len; omega)
  have hrl : r < lk.length := by have := hG.len; omega
  obtain ⟨_, _, h2, _⟩ := hx r hrl
  refine ⟨b, off, _, cap, lB lk r, c0, by omega, h2, ?_⟩
  rw [(path_last (hG.ring r hr)).1]
  refine (rows_put S g n lk free l Ps cnt w hM hG (by omega) r hr (Ps r) [] (by simp) id hid (aget_no hG (fun s => by rw [← hL]; exact hno s)) _ (hcnt r hr) (by omega) (by have := hLN r; omega)).mono ?_
  rintro e w' ⟨he, ⟨lk', free', l', k, hM', hG', hLs, hlen⟩, hF⟩
  refine ⟨he, ?_, hF⟩
  have := put_at hG hL hcnt hLN hN hn0 hn8 hr (u := Ps r) (v := []) (by simp) hM' hG' hLs hlen
  have e : (fun s => if s = r then (Ps r).map (lI lk) ++ id :: [].map (lI lk) else L s) = putB L r id := by
    funext s
    unfold putB
    by_cases e : s = r
    · subst e; simp only [if_pos]; rw [hL]; rfl
    · simp only [if_neg e]
  rw [e] at this
  exact this
set_option maxHeartbeats 1000000 in
theorem rows_back_ok (S : Nat → Prop) (g n : Nat) (L : Nat → List Int) (N : Nat) (r : Nat) (id : Int) (w : World) (hG : RowsAt w S g n L N) (hr : r < n) (hid : 0 ≤ id ∧ id ≤ 4194303) (hN1 : N < 1000000) :
    Calls Try.prog 10 #[.pointer (some ⟨g, 0, none⟩), .int .i64 r, .int .i64 id] w fun e w' => e = .returned (.bool true) ∧ RowsAt w' (grow S w w') g n (putB (del L id) r id) (N + 1) ∧ Fr S w w' := by
  have hn8 : n ≤ 8 := by obtain ⟨_, _, _, _, _, _, _, _, _, _, _, h, _⟩ := hG; exact h
  have HC := Lib.hid (rows_has S g n L N r w hG)
  have HT := Lib.hid (rows_take S g n L N id w hG (by omega))
  have hd : decide (0 ≤ (r : Int) ∧ (r : Int) < (n : Int)) = true := decide_eq_true (by omega)
  have HD := Lib.hid hd
  have HG := Lib.hid hG
  obtain ⟨hid0, hid1⟩ := hid
  have hid2 : decide (4194303 < id) = false := decide_eq_false (by omega)
  have hid3 : decide (id < 0) = false := decide_eq_false (by omega)
  clear hd hG
  go_enter Try.func10, Try.ntmps10
  go_wp2_with (first
    | (go_at_call 28; refine HC.out.mono ?_; rintro e w' ⟨rfl, rfl⟩; rw [HD.out])
    | (go_at_call 17; refine HT.out.mono ?_; rintro e w1 ⟨rfl, hG1, hF1⟩; have H1 := Lib.hid (And.intro hG1 hF1); clear hG1 hF1; obtain ⟨b, off, len, cap, k, c0, hl, ck, hP⟩ := rows_putB _ g n _ N r id w1 H1.out.1 hr ⟨hid0, hid1⟩ (not_in_del L id) hN1; have HP := Lib.hid hP; clear hP)
    | (go_at_call 29; refine HP.out.mono ?_; rintro e w2 ⟨rfl, hG2, hF2⟩; have H2 := Lib.hid (And.intro hG2 hF2); clear hG2 hF2))
  go_ret
  refine ⟨rfl, H2.out.1.mono (fun b hb h => ?_), H1.out.2.trans H2.out.2 (fun i hi h => h.elim (fun h => h) (fun h => by omega))⟩
  rcases h with (h | h) | h
  · exact Or.inl h
  · exact Or.inr ⟨h.1, hb⟩
  · exact Or.inr ⟨Nat.le_trans H1.out.2.size h.1, hb⟩
end Go.Proofs.Ytldnacphfoagnaa
