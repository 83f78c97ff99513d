/- Layer 13 (arc): what each call does, five: Insert. -/
import Derived.Test.YtemdhnolccnnfaaArc2
import Derived.Deep.DeepCutAuto
namespace Go.Proofs.Ytemdhnolccnnfaa
open Go.RowKit
set_option linter.unusedVariables false
/-- What a number that comes back turns. -/
def insG (s : ArcS) (h : Int) : ArcS :=
  if h ∈ s.B1 then { s with P := min (max (s.P + max 1 ((s.B2.length : Int) / (s.B1.length : Int))) 0) s.most, B1 := grem s.B1 h }
  else if h ∈ s.B2 then { s with P := min (max (s.P + - max 1 ((s.B1.length : Int) / (s.B2.length : Int))) 0) s.most, B2 := grem s.B2 h }
  else s
def insR (s : ArcS) (h : Int) : Int := if h ∈ s.B1 then 1 else if h ∈ s.B2 then 1 else 0
def insOk (s : ArcS) (id : Int) : Bool := decide (rowOf 2 s.L id < 0 ∧ 0 ≤ id ∧ id ≤ 4194303)
def insA (s : ArcS) (id h : Int) : ArcS := if insOk s id then { insG s h with H := setH s.H id h, L := frontL 2 s.L (insR s h) id } else s
def InsR (S : Nat → Prop) (p : Nat) (s : ArcS) (h : Int) (N M g b1 b2 m : Nat) (l : List (Int × Value)) (o : Obj) (w wr : World) : Prop :=
  ∃ Sr S1 S2, ArcO wr (grow S w wr) p (insG s h) N M g b1 b2 m l o Sr S1 S2 ∧ Fr S w wr
theorem insG_L (s : ArcS) (h : Int) : (insG s h).L = s.L ∧ (insG s h).H = s.H ∧ (insG s h).most = s.most ∧ (insG s h).m1 = s.m1 ∧ (insG s h).m2 = s.m2 := by
  unfold insG; split
  · exact ⟨rfl, rfl, rfl, rfl, rfl⟩
  · split <;> exact ⟨rfl, rfl, rfl, rfl, rfl⟩
set_option maxHeartbeats 2000000 in
theorem arc_insert_no (S : Nat → Prop) (p : Nat) (s : ArcS) (N M : Nat) (id hh : Int) (w : World) (h : ArcAt w S p s N M) (hno : insOk s id = false) :
    Calls Try.prog 7 #[.pointer (some ⟨p, 0, none⟩), .int .i64 id, .int .u64 hh] w fun e w' => e = .returned (.bool false) ∧ w = w' := by
  obtain ⟨g, b1, b2, m, l, o, Sr, S1, S2, h⟩ := h
  have c0 := cell_of_heap h.hp 0
  simp at c0
  have HC := Lib.hid (rows_row Sr g 2 s.L N id w h.hR)
  have hc := of_decide_eq_false hno
  clear h hno
  obtain ⟨ro, hro⟩ : ∃ ro, rowOf 2 s.L id = ro := ⟨_, rfl⟩
  rw [hro] at HC hc
  clear hro
  by_cases h1 : 0 ≤ ro
  · have h1' : decide (0 ≤ ro) = true := decide_eq_true h1
    clear hc
    go_enter Try.func7, Try.ntmps7
    go_wp2_with fail
    refine HC.out.mono ?_
    rintro e w1 ⟨rfl, rfl⟩
    go_wp2
    go_ret
    exact ⟨rfl, rfl⟩
  · have h1' : decide (0 ≤ ro) = false := decide_eq_false h1
    by_cases h2 : id < 0
    · have h2' : decide (id < 0) = true := decide_eq_true h2
      clear hc h1 h2
      go_enter Try.func7, Try.ntmps7
      go_wp2_with fail
      refine HC.out.mono ?_
      rintro e w1 ⟨rfl, rfl⟩
      go_wp2
      go_ret
      exact ⟨rfl, rfl⟩
    · have h2' : decide (id < 0) = false := decide_eq_false h2
      have h3' : decide (4194303 < id) = true := decide_eq_true (by omega)
      clear hc h1 h2
      go_enter Try.func7, Try.ntmps7
      go_wp2_with fail
      refine HC.out.mono ?_
      rintro e w1 ⟨rfl, rfl⟩
      go_wp2
      go_ret
      exact ⟨rfl, rfl⟩
theorem GhostAt.len_le' {w : World} {S : Nat → Prop} {g : Nat} {most : Int} {L : List Int} {N : Nat} (h : GhostAt w S g most L N) : L.length ≤ N := by
  obtain ⟨l, row, first, hI, hT, hL, h0, h1, h2, h3⟩ := h
  have := live_le l row first
  rw [hL] at this
  omega
theorem wrap64_id {x : Int} (h1 : -9223372036854775808 ≤ x) (h2 : x ≤ 9223372036854775807) : wrap64 x = x := by
  have := IntKind.wrap_i64 x
  unfold wrap64
  omega
set_option maxHeartbeats 4000000 in
theorem arc_insert_ok (S : Nat → Prop) (p : Nat) (s : ArcS) (N M : Nat) (id hh : Int) (w : World) (h : ArcAt w S p s N M) (hok : insOk s id = true) (hN : N < 1000000) (hM : M ≤ 1000000) (hP : 0 ≤ s.P ∧ s.P ≤ 1000000000000) :
    Calls Try.prog 7 #[.pointer (some ⟨p, 0, none⟩), .int .i64 id, .int .u64 hh] w fun e w' => e = .returned (.bool true) ∧ ArcAt w' (grow S w w') p { insG s hh with H := setH s.H id hh, L := frontL 2 s.L (insR s hh) id } (N + 1) M ∧ Fr S w w' := by
  obtain ⟨g, b1, b2, m, l, o, Sr, S1, S2, h⟩ := h
  have c0 := cell_of_heap h.hp 0
  have c1 := cell_of_heap h.hp 1
  have c2 := cell_of_heap h.hp 2
  have c3 := cell_of_heap h.hp 3
  have c4 := cell_of_heap h.hp 4
  have f4 := fro_of_heap h.hp 4
  have c5 := cell_of_heap h.hp 5
  simp at c0 c1 c2 c3 c4 c5
  have HC := Lib.hid (rows_row Sr g 2 s.L N id w h.hR)
  have hc := of_decide_eq_true hok
  have hr : rowOf 2 s.L id = -1 := by rcases rowOf_two h.hR id with ⟨q, _⟩ | ⟨q, _⟩ | ⟨q, _⟩ <;> omega
  rw [hr] at HC
  have h2' : decide (id < 0) = false := decide_eq_false (by omega)
  have h3' : decide (4194303 < id) = false := decide_eq_false (by omega)
  have hs1 := has_at S1 b1 s.m1 s.B1 M hh w h.hG1
  have hs2 := has_at S2 b2 s.m2 s.B2 M hh w h.hG2
  have hl1 := len_at S1 b1 s.m1 s.B1 M w h.hG1
  have hl2 := len_at S2 b2 s.m2 s.B2 M w h.hG2
  have hg1 := h.hG1.len_le'
  have hg2 := h.hG2.len_le'
  obtain ⟨n1, hn1⟩ : ∃ n, s.B1.length = n := ⟨_, rfl⟩
  obtain ⟨n2, hn2⟩ : ∃ n, s.B2.length = n := ⟨_, rfl⟩
  rw [hn1] at hl1 hg1
  rw [hn2] at hl2 hg2
  have HN := Lib.hid (And.intro hn1 (And.intro hn2 (And.intro (show n1 ≤ 1000000 by omega) (show n2 ≤ 1000000 by omega))))
  have HK := Lib.hid (And.intro hs1 (And.intro hs2 (And.intro hl1 hl2)))
  have hmo := h.hmo
  have hmb := h.hmb
  have HH := Lib.hid (And.intro h (And.intro hN (And.intro hM (And.intro hP hok))))
  clear h hok hN hM hP hc hs1 hs2 hl1 hl2 hr hg1 hg2 hn1 hn2
  have i0 : ∀ w, (Instr.index 33 (.agg #[.pointer (some ⟨b1, 0, none⟩), .pointer (some ⟨b2, 0, none⟩)]) (.int .i64 0)).run Try.prog w = .ok (.pointer (some ⟨b1, 0, none⟩)) w := fun _ => by kernel_rfl
  have i1 : ∀ w, (Instr.index 33 (.agg #[.pointer (some ⟨b1, 0, none⟩), .pointer (some ⟨b2, 0, none⟩)]) (.int .i64 1)).run Try.prog w = .ok (.pointer (some ⟨b2, 0, none⟩)) w := fun _ => by kernel_rfl
  go_enter Try.func7, Try.ntmps7
  go_upto_block 0 with (go_at_call 16; refine HC.out.mono ?_; rintro e w1 ⟨rfl, rfl⟩)
  go_cut [7] (fun r wx => r = .int .i64 (insR s hh) ∧ InsR S p s hh N M g b1 b2 m l o w wx)
  case first =>
    go_wp2_with fail
    go_loopw [7, 8, 9, 10, 30] (fun r _ _ _ i wr => ∃ k : Nat, k ≤ 2 ∧ i = .int .i64 k ∧ r = .int .i64 0 ∧ (1 ≤ k → hh ∉ s.B1) ∧ (2 ≤ k → hh ∉ s.B2) ∧ wr = w) (fun _ _ _ _ i _ => 2 - (intOf i).toNat)
    case atStart => exact ⟨0, by omega, rfl, rfl, by omega, by omega, rfl⟩
    case round =>
      obtain ⟨k, hk, rfl, rfl, hk1, hk2, hw⟩ := hrel
      match k, hk with
      | 0, _ =>
        subst hw
        by_cases hm : hh ∈ s.B1
        · skip
          have hd : decide (hh ∈ s.B1) = true := decide_eq_true hm
          have HM := Lib.hid hm
          rw [hd] at HK
          have hn0 : ¬ n1 = 0 := by
            have h1 := List.length_pos_of_mem hm
            rw [HN.out.1] at h1
            omega
          obtain ⟨st, hst⟩ : ∃ st : Int, st = max 1 ((n2 : Int) / (n1 : Int)) := ⟨_, rfl⟩
          have hq : 0 ≤ (n2 : Int) / (n1 : Int) ∧ (n2 : Int) / (n1 : Int) ≤ 1000000 := by
            refine ⟨Int.ediv_nonneg (by omega) (by omega), Int.le_trans (Int.ediv_le_self _ (by omega)) (by have := HN.out.2.2; omega)⟩
          have HQ := Lib.hid (And.intro hst hq)
          clear hm hd hst hq hk1 hk2
          go_upto_region 8 with (go_at_call 17; refine HK.out.1.mono ?_; rintro e w1 ⟨rfl, rfl⟩)
          go_cut [10] (fun t wx => t = .int .i64 st ∧ wx = wr)
          case first =>
            go_wp2_with (first
              | (go_at_call 18; refine HK.out.2.2.1.mono ?_; rintro e w1 ⟨rfl, rfl⟩)
              | (go_at_call 18; refine HK.out.2.2.2.mono ?_; rintro e w1 ⟨rfl, rfl⟩))
            all_goals
              go_meet
              have hw : wrap64 ((n2 : Int) / (n1 : Int)) = (n2 : Int) / (n1 : Int) := by
                have := HQ.out.2
                exact wrap64_id (by omega) (by omega)
              have := HQ.out.1
              exact ⟨by congr 1; omega, rfl⟩
          case rest =>
            obtain ⟨rfl, rfl⟩ := hcut
            obtain ⟨wz, rfl⟩ : ∃ wz : World, wz = wc := ⟨_, rfl⟩
            have hst : 1 ≤ st ∧ st ≤ 1000000 := by have := HQ.out; omega
            have hP := HH.out.2.2.2.1
            have hwr : IntKind.i64.wrap (s.P + st) = s.P + st := by rw [IntKind.wrap_i64]; omega
            go_upto_region 11 with fail
            go_cut [10] (fun t wx => t = .int .i64 (st) ∧ wx = (wz.setCell ⟨p, 4, none⟩ (.int .i64 (min (max (s.P + st) 0) s.most))).drew)
            case first =>
              go_still_tail 15, (by kernel_rfl)
              go_wp2_with fail
              all_goals
                go_meet
                exact ⟨rfl, congrArg (fun x => (wz.setCell ⟨p, 4, none⟩ (.int .i64 x)).drew) (by omega)⟩
            case rest =>
              obtain ⟨rfl, rfl⟩ := hcut
              have hA1 := (HH.out.1.setP (min (max (s.P + st) 0) s.most)).frame (w' := (wz.setCell ⟨p, 4, none⟩ (.int .i64 (min (max (s.P + st) 0) s.most))).drew) (Nat.le_refl _) fun _ _ _ => rfl
              have HA1 := Lib.hid hA1
              have HRM := Lib.hid (remove_at S1 b1 s.m1 s.B1 M hh _ hA1.hG1 HH.out.2.2.1)
              clear hA1
              go_wp2_with fail
              refine HRM.out.mono ?_
              rintro e w1 ⟨rfl, hG, hF⟩
              have H1 := Lib.hid (And.intro (ArcO.one HA1.out (hG.mono fun b _ q => Or.inl q) hF (Nat.le_refl _)) hF)
              clear hG hF
              go_wp2
              go_meet
              have e1 : insG s hh = { s with P := min (max (s.P + st) 0) s.most, B1 := grem s.B1 hh } := by unfold insG; rw [if_pos HM.out]; rw [HN.out.1, HN.out.2.1, HQ.out.1]
              have e2 : insR s hh = 1 := by unfold insR; rw [if_pos HM.out]
              refine ⟨by rw [e2], _, _, _, by rw [e1]; exact H1.out.1.mono fun b _ q => q.imp (fun q => q) (fun q => by simpa [World.setCell, World.drew] using q), ?_⟩
              exact (((Fr.refl S wz).setCell (fun _ => HH.out.1.hSp) _).drew).trans H1.out.2 (fun b _ q => HH.out.1.hS1 b q)
        · skip
          have hd : decide (hh ∈ s.B1) = false := decide_eq_false hm
          have HM := Lib.hid hm
          rw [hd] at HK
          clear hm hd hk1 hk2
          go_wp2_with fail
          refine HK.out.1.mono ?_
          rintro e w1 ⟨rfl, rfl⟩
          go_wp2
          go_roundw
          case rel => exact ⟨1, by omega, by go_num, rfl, fun _ => HM.out, by omega, trivial⟩
          case measure => simp [intOf]
      | 1, _ =>
        subst hw
        by_cases hm : hh ∈ s.B2
        · skip
          have hm1 := hk1 (by omega)
          have hd : decide (hh ∈ s.B2) = true := decide_eq_true hm
          have HM := Lib.hid hm
          rw [hd] at HK
          have HM1 := Lib.hid hm1
          clear hm1
          have hn0 : ¬ n2 = 0 := by
            have h1 := List.length_pos_of_mem hm
            rw [HN.out.2.1] at h1
            omega
          obtain ⟨st, hst⟩ : ∃ st : Int, st = max 1 ((n1 : Int) / (n2 : Int)) := ⟨_, rfl⟩
          have hq : 0 ≤ (n1 : Int) / (n2 : Int) ∧ (n1 : Int) / (n2 : Int) ≤ 1000000 := by
            refine ⟨Int.ediv_nonneg (by omega) (by omega), Int.le_trans (Int.ediv_le_self _ (by omega)) (by have := HN.out.2.2; omega)⟩
          have HQ := Lib.hid (And.intro hst hq)
          clear hm hd hst hq hk1 hk2
          go_upto_region 8 with (go_at_call 17; refine HK.out.2.1.mono ?_; rintro e w1 ⟨rfl, rfl⟩)
          go_cut [10] (fun t wx => t = .int .i64 st ∧ wx = wr)
          case first =>
            go_wp2_with (first
              | (go_at_call 18; refine HK.out.2.2.1.mono ?_; rintro e w1 ⟨rfl, rfl⟩)
              | (go_at_call 18; refine HK.out.2.2.2.mono ?_; rintro e w1 ⟨rfl, rfl⟩))
            all_goals
              go_meet
              have hw : wrap64 ((n1 : Int) / (n2 : Int)) = (n1 : Int) / (n2 : Int) := by
                have := HQ.out.2
                exact wrap64_id (by omega) (by omega)
              have := HQ.out.1
              exact ⟨by congr 1; omega, rfl⟩
          case rest =>
            obtain ⟨rfl, rfl⟩ := hcut
            obtain ⟨wz, rfl⟩ : ∃ wz : World, wz = wc := ⟨_, rfl⟩
            have hst : 1 ≤ st ∧ st ≤ 1000000 := by have := HQ.out; omega
            have hP := HH.out.2.2.2.1
            have hwr : IntKind.i64.wrap (s.P + -st) = s.P + -st := by rw [IntKind.wrap_i64]; omega
            go_upto_region 11 with fail
            go_cut [10] (fun t wx => t = .int .i64 (-st) ∧ wx = (wz.setCell ⟨p, 4, none⟩ (.int .i64 (min (max (s.P + -st) 0) s.most))).drew)
            case first =>
              go_still_tail 15, (by kernel_rfl)
              go_wp2_with fail
              all_goals
                go_meet
                exact ⟨rfl, congrArg (fun x => (wz.setCell ⟨p, 4, none⟩ (.int .i64 x)).drew) (by omega)⟩
            case rest =>
              obtain ⟨rfl, rfl⟩ := hcut
              have hA1 := (HH.out.1.setP (min (max (s.P + -st) 0) s.most)).frame (w' := (wz.setCell ⟨p, 4, none⟩ (.int .i64 (min (max (s.P + -st) 0) s.most))).drew) (Nat.le_refl _) fun _ _ _ => rfl
              have HA1 := Lib.hid hA1
              have HRM := Lib.hid (remove_at S2 b2 s.m2 s.B2 M hh _ hA1.hG2 HH.out.2.2.1)
              clear hA1
              go_wp2_with fail
              refine HRM.out.mono ?_
              rintro e w1 ⟨rfl, hG, hF⟩
              have H1 := Lib.hid (And.intro (ArcO.two HA1.out (hG.mono fun b _ q => Or.inl q) hF (Nat.le_refl _)) hF)
              clear hG hF
              go_wp2
              go_meet
              have e1 : insG s hh = { s with P := min (max (s.P + -st) 0) s.most, B2 := grem s.B2 hh } := by unfold insG; rw [if_neg HM1.out, if_pos HM.out]; rw [HN.out.1, HN.out.2.1, HQ.out.1]
              have e2 : insR s hh = 1 := by unfold insR; rw [if_neg HM1.out, if_pos HM.out]
              refine ⟨by rw [e2], _, _, _, by rw [e1]; exact H1.out.1.mono fun b _ q => q.imp (fun q => q) (fun q => by simpa [World.setCell, World.drew] using q), ?_⟩
              exact (((Fr.refl S wz).setCell (fun _ => HH.out.1.hSp) _).drew).trans H1.out.2 (fun b _ q => HH.out.1.hS2 b q)
        · skip
          have HM1 := Lib.hid (hk1 (by omega))
          have hd : decide (hh ∈ s.B2) = false := decide_eq_false hm
          have HM := Lib.hid hm
          rw [hd] at HK
          clear hm hd hk1 hk2
          go_wp2_with fail
          refine HK.out.2.1.mono ?_
          rintro e w1 ⟨rfl, rfl⟩
          go_wp2
          go_roundw
          case rel => exact ⟨2, by omega, by go_num, rfl, fun _ => HM1.out, fun _ => HM.out, trivial⟩
          case measure => simp [intOf]
      | 2, _ =>
        subst hw
        have HM := Lib.hid (And.intro (hk1 (by omega)) (hk2 (by omega)))
        clear hk1 hk2
        go_wp2
        go_meet
        have e1 : insG s hh = s := by unfold insG; rw [if_neg HM.out.1, if_neg HM.out.2]
        have e2 : insR s hh = 0 := by unfold insR; rw [if_neg HM.out.1, if_neg HM.out.2]
        exact ⟨by rw [e2], Sr, S1, S2, by rw [e1]; exact HH.out.1.mono fun b _ q => Or.inl q, Fr.refl _ _⟩
  case rest =>
    obtain ⟨rfl, Sr', S1', S2', hA, hF⟩ := hcut
    obtain ⟨w1, rfl⟩ : ∃ w1 : World, w1 = wc := ⟨_, rfl⟩
    have e0 := cell_of_heap hA.hp 0
    have e5 := cell_of_heap hA.hp 5
    simp at e0 e5
    have hmo1 := hA.hmo
    have d0 := fun o' : Obj => cell_putObj (w := w1) (b := m) o' (p := ⟨p, 0, none⟩) hA.pm
    have HA := Lib.hid (And.intro hA hF)
    clear hA hF
    obtain ⟨r, hr⟩ : ∃ r, insR s hh = r := ⟨_, rfl⟩
    rw [hr]
    have HR := Lib.hid hr
    clear hr
    go_wp2_with (first
      | (at_mapUpdate; refine wpList_update_imap rfl _ _ _ 34 rfl 3 27 .i64 Try.underlying34 Try.underlying3 m rfl o l hmo1 hmb id rfl _ rfl ?_; intro o6 ho6; have HO := Lib.hid (HA.out.1.on id hh ho6); clear ho6)
      | (go_at_call 20; refine (rows_front _ g 2 _ N r id _ HO.out.hR HH.out.2.1).mono ?_; rintro e w2 ⟨rfl, hR, hF⟩; have H2 := Lib.hid (And.intro hR hF); clear hR hF))
    go_ret
    have hok := of_decide_eq_true HH.out.2.2.2.2
    have hmay : mayIn 2 r id = true := by
      have h01 : r = 0 ∨ r = 1 := by
        rw [← HR.out]; unfold insR; split
        · exact Or.inr rfl
        · split
          · exact Or.inr rfl
          · exact Or.inl rfl
      exact decide_eq_true (by omega)
    have hA := (HO.out.rows H2.out.1 H2.out.2).shut
    have hz : (w1.putObj m o6).heap.size = w1.heap.size := by simp
    have hs1 := HA.out.2.size
    have hs2 := H2.out.2.size
    have hL := (insG_L s hh).1
    have hH := (insG_L s hh).2.1
    have e : ({ insG s hh with H := setH s.H id hh, L := frontL 2 s.L (insR s hh) id } : ArcS) = { { insG s hh with H := setH (insG s hh).H id hh } with L := frontL 2 (insG s hh).L r id } := by rw [hL, hH, HR.out]
    refine ⟨by show Ending.returned (Value.bool (mayIn 2 r id)) = _; rw [hmay], ?_, ?_⟩
    · rw [e]
      exact hA.mono fun b _ q => grow_grow (a := w) (b := w1.putObj m o6) (by omega) hs2 (q.imp (fun q => q.imp (fun q => q) (fun q => by rw [hz]; exact q)) (fun q => q))
    · refine (HA.out.2.putObj (b := m) (fun _ => HH.out.1.hSm) o6).trans H2.out.2 (fun b hb q => ?_)
      exact (HO.out.hSr b q).elim (fun q => q) (fun q => by omega)
theorem arc_insert (S : Nat → Prop) (p : Nat) (s : ArcS) (N M : Nat) (id hh : Int) (w : World) (h : ArcAt w S p s N M) (hN : N < 1000000) (hM : M ≤ 1000000) (hP : 0 ≤ s.P ∧ s.P ≤ 1000000000000) :
    Calls Try.prog 7 #[.pointer (some ⟨p, 0, none⟩), .int .i64 id, .int .u64 hh] w fun e w' => e = .returned (.bool (insOk s id)) ∧ ArcAt w' (grow S w w') p (insA s id hh) (N + 1) M ∧ Fr S w w' := by
  unfold insA
  rcases hok : insOk s id with _ | _
  · rw [if_neg (by simp)]
    refine (arc_insert_no S p s N M id hh w h hok).mono fun e w' ⟨he, hw⟩ => ?_
    subst hw
    exact ⟨he, (h.mono fun b _ q => Or.inl q).more (Nat.le_succ _) (Nat.le_refl _), Fr.refl _ _⟩
  · rw [if_pos rfl]
    exact arc_insert_ok S p s N M id hh w h hok hN hM hP
end Go.Proofs.Ytemdhnolccnnfaa
