/- Layer 13 (arc): what each call does, four: Cap. -/
import Derived.Test.YtemdhnolccnnfaaArc2
namespace Go.Proofs.Ytemdhnolccnnfaa
open Go.RowKit
set_option linter.unusedVariables false
/-- So many ghosts have their limit. -/
def capK (s : ArcS) (mx : Int) (k : Nat) : ArcS :=
  { s with most := mx, B1 := if 1 ≤ k then cut mx s.B1 else s.B1, m1 := if 1 ≤ k then mx else s.m1, B2 := if 2 ≤ k then cut mx s.B2 else s.B2, m2 := if 2 ≤ k then mx else s.m2 }
def capA (s : ArcS) (n : Int) : ArcS :=
  { s with most := max 0 n, B1 := cut (max 0 n) s.B1, m1 := max 0 n, B2 := cut (max 0 n) s.B2, m2 := max 0 n, P := min s.P (max 0 n) }
def CapR (S : Nat → Prop) (p : Nat) (s : ArcS) (mx : Int) (N M g b1 b2 m : Nat) (w wr : World) (k : Nat) : Prop :=
  ∃ l o Sr S1 S2, ArcO wr (grow S w wr) p (capK s mx k) N M g b1 b2 m l o Sr S1 S2 ∧ Fr S w wr
theorem CapR.one {S : Nat → Prop} {p : Nat} {s : ArcS} {mx : Int} {N M g b1 b2 m : Nat} {w wr : World} (h : CapR S p s mx N M g b1 b2 m w wr 0) (hmx : 0 ≤ mx) (hM : M ≤ 1000000) :
    Calls Try.prog 15 #[.pointer (some ⟨b1, 0, none⟩), .int .i64 mx] wr fun e w' => e = .returned (.tuple #[]) ∧ CapR S p s mx N M g b1 b2 m w w' 1 := by
  obtain ⟨l, o, Sr, S1, S2, h, hF⟩ := h
  refine (limit_at S1 b1 _ _ M mx wr h.hG1 hM).mono ?_
  rintro e w' ⟨rfl, hG, hF1⟩
  rw [Int.max_eq_right hmx] at hG
  have h1 := (h.one (hG.mono fun b _ q => Or.inl q) hF1 (Nat.le_refl _)).mono (S' := grow S w w') fun b _ q => grow_grow hF.size hF1.size q
  exact ⟨rfl, l, o, Sr, _, S2, h1, Fr.grown hF (hF1.mono fun b _ q => h.hS1 b q)⟩
theorem CapR.two {S : Nat → Prop} {p : Nat} {s : ArcS} {mx : Int} {N M g b1 b2 m : Nat} {w wr : World} (h : CapR S p s mx N M g b1 b2 m w wr 1) (hmx : 0 ≤ mx) (hM : M ≤ 1000000) :
    Calls Try.prog 15 #[.pointer (some ⟨b2, 0, none⟩), .int .i64 mx] wr fun e w' => e = .returned (.tuple #[]) ∧ CapR S p s mx N M g b1 b2 m w w' 2 := by
  obtain ⟨l, o, Sr, S1, S2, h, hF⟩ := h
  refine (limit_at S2 b2 _ _ M mx wr h.hG2 hM).mono ?_
  rintro e w' ⟨rfl, hG, hF1⟩
  rw [Int.max_eq_right hmx] at hG
  have h1 := (h.two (hG.mono fun b _ q => Or.inl q) hF1 (Nat.le_refl _)).mono (S' := grow S w w') fun b _ q => grow_grow hF.size hF1.size q
  exact ⟨rfl, l, o, Sr, S1, _, h1, Fr.grown hF (hF1.mono fun b _ q => h.hS2 b q)⟩
set_option maxHeartbeats 2000000 in
theorem arc_cap_in (S : Nat → Prop) (p : Nat) (s : ArcS) (N M : Nat) (n mx : Int) (hmx : mx = max 0 n) (w : World) (h : ArcAt w S p s N M) (hM : M ≤ 1000000) :
    Calls Try.prog 6 #[.pointer (some ⟨p, 0, none⟩), .int .i64 n] w fun e w' =>
      e = .returned (.tuple #[]) ∧ ArcAt w' (grow S w w') p { capK s mx 2 with P := min s.P mx } N M ∧ Fr S w w' := by
  obtain ⟨g, b1, b2, m, l, o, Sr, S1, S2, h⟩ := h
  have c1 := cell_of_heap h.hp 1
  have c2 := cell_of_heap h.hp 2
  have c3 := cell_of_heap h.hp 3
  have f3 := fro_of_heap h.hp 3
  simp at c1 c2 c3
  have hm0 : 0 ≤ mx := by omega
  have HM := Lib.hid (And.intro hm0 hM)
  have HH := Lib.hid h
  have HX := Lib.hid hmx
  clear h hmx hm0 hM
  have start : CapR S p s mx N M g b1 b2 m w (w.setCell ⟨p, 3, none⟩ (.int .i64 mx)) 0 := ⟨l, o, Sr, S1, S2, (HH.out.setMost mx).mono fun b _ q => Or.inl q, (Fr.refl S w).setCell (fun _ => HH.out.hSp) _⟩
  have HS := Lib.hid start
  clear start
  have HP := Lib.hid (show ∃ P, s.P = P from ⟨_, rfl⟩)
  go_enter Try.func6, Try.ntmps6
  go_upto_region 1 with fail
  go_cut [8, 14, 15] (fun t gs i wx => t = .int .i64 mx ∧ gs = .agg #[.pointer (some ⟨b1, 0, none⟩), .pointer (some ⟨b2, 0, none⟩)] ∧ i = .int .i64 0 ∧ wx = w.setCell ⟨p, 3, none⟩ (.int .i64 mx))
  case first =>
    rcases Int.lt_trichotomy n 0 with hn | hn | hn
    · obtain rfl : mx = 0 := by have := HX.out; omega
      go_wp2_with fail
      go_meet
      exact ⟨rfl, rfl, rfl, rfl⟩
    · obtain rfl : mx = 0 := by have := HX.out; omega
      subst hn
      go_wp2_with fail
      go_meet
      exact ⟨rfl, rfl, rfl, rfl⟩
    · obtain rfl : mx = n := by have := HX.out; omega
      go_wp2_with fail
      go_meet
      exact ⟨rfl, rfl, rfl, rfl⟩
  case rest =>
    obtain ⟨rfl, rfl, rfl, rfl⟩ := hcut
    have i0 : ∀ w, (Instr.index 33 (.agg #[.pointer (some ⟨b1, 0, none⟩), .pointer (some ⟨b2, 0, none⟩)]) (.int .i64 0)).run Try.prog w = .ok (.pointer (some ⟨b1, 0, none⟩)) w := fun _ => by kernel_rfl
    have i1 : ∀ w, (Instr.index 33 (.agg #[.pointer (some ⟨b1, 0, none⟩), .pointer (some ⟨b2, 0, none⟩)]) (.int .i64 1)).run Try.prog w = .ok (.pointer (some ⟨b2, 0, none⟩)) w := fun _ => by kernel_rfl
    go_wp2_with fail
    go_loopw [5, 15] (fun _ i wr => ∃ k : Nat, k ≤ 2 ∧ i = .int .i64 k ∧ CapR S p s mx N M g b1 b2 m w wr k) (fun _ i _ => 2 - (intOf i).toNat)
    case atStart => exact ⟨0, by omega, rfl, HS.out⟩
    case round =>
      obtain ⟨k, hk, rfl, hR⟩ := hrel
      have HR := Lib.hid hR
      clear hR
      have e3 : wr.cell? ⟨p, 3, none⟩ = some (.int .i64 mx) := by
        obtain ⟨l, o, Sr, S1, S2, h, _⟩ := HR.out
        rw [cell_of_heap h.hp]; rfl
      match k, hk with
      | 0, _ =>
        go_wp2_with fail
        refine (HR.out.one HM.out.1 HM.out.2).mono ?_
        rintro e w1 ⟨rfl, hA⟩
        have H1 := Lib.hid hA
        clear hA
        go_wp2
        go_roundw
        case rel => exact ⟨1, by omega, by go_num, H1.out⟩
        case measure => simp [intOf]
      | 1, _ =>
        go_wp2_with fail
        refine (HR.out.two HM.out.1 HM.out.2).mono ?_
        rintro e w1 ⟨rfl, hA⟩
        have H1 := Lib.hid hA
        clear hA
        go_wp2
        go_roundw
        case rel => exact ⟨2, by omega, by go_num, H1.out⟩
        case measure => simp [intOf]
      | 2, _ =>
        obtain ⟨l', o', Sr', S1', S2', hA, hF⟩ := HR.out
        have e4 : wr.cell? ⟨p, 4, none⟩ = some (.int .i64 s.P) := by rw [cell_of_heap hA.hp]; rfl
        have f4 := fro_of_heap hA.hp 4
        have hfin : ∀ v, v = min s.P mx → ArcAt (wr.setCell ⟨p, 4, none⟩ (.int .i64 v)).drew (grow S w (wr.setCell ⟨p, 4, none⟩ (.int .i64 v)).drew) p { capK s mx 2 with P := min s.P mx } N M ∧ Fr S w (wr.setCell ⟨p, 4, none⟩ (.int .i64 v)).drew := by
          intro v hv
          subst hv
          refine ⟨((hA.setP _).frame (w' := (wr.setCell ⟨p, 4, none⟩ (.int .i64 (min s.P mx))).drew) (Nat.le_refl _) fun _ _ _ => rfl).shut.mono fun b _ q => ?_, ?_⟩
          · exact q.imp id (fun q => by simpa [World.setCell, World.drew] using q)
          · exact (hF.setCell (fun _ => HH.out.hSp) _).drew
        have HA := Lib.hid (And.intro hA (And.intro hF hfin))
        clear hA hF hfin
        have hc : s.P < mx ∨ s.P = mx ∨ mx < s.P := Int.lt_trichotomy _ _
        obtain ⟨P, hP⟩ := HP.out
        rw [hP] at e4 hc
        have HQ := Lib.hid hP
        clear hP
        rcases hc with hc | hc | hc
        all_goals
          first | subst hc | skip
          go_wp2_with fail
          go_still_tail 12, (by kernel_rfl)
          go_wp2_with fail
          go_end0
          exact ⟨rfl, HA.out.2.2 _ (by rw [HQ.out]; omega)⟩
theorem arc_cap (S : Nat → Prop) (p : Nat) (s : ArcS) (N M : Nat) (n : Int) (w : World) (h : ArcAt w S p s N M) (hM : M ≤ 1000000) :
    Calls Try.prog 6 #[.pointer (some ⟨p, 0, none⟩), .int .i64 n] w fun e w' =>
      e = .returned (.tuple #[]) ∧ ArcAt w' (grow S w w') p (capA s n) N M ∧ Fr S w w' := arc_cap_in S p s N M n _ rfl w h hM
end Go.Proofs.Ytemdhnolccnnfaa
