/- The reference of layer 9 (chain): what each call does, five: keys, Bucket, Keys, Same. -/
import Derived.Test.YtnabgcnndehaaaaCrF
namespace Go.Proofs.Ytnabgcnndehaaaa
open Go.RowKit
set_option linter.unusedVariables false
theorem strs_one : ∀ {l : List ByteArray}, ∀ y ∈ strs l, y.oneCell' = true
  | [], y, h => by cases h
  | e :: l, y, h => by
    rcases List.mem_cons.1 (show y ∈ Value.string e :: strs l from h) with rfl | h
    · rfl
    · exact strs_one y h
theorem strs_app (a b : List ByteArray) : strs (a ++ b) = strs a ++ strs b := by simp [strs]
set_option maxHeartbeats 1000000 in
theorem cr_keys1 (w : World) (S Q : Nat → Prop) (v lv : Value) (L : List ByteArray) (l : List KN) (hS : ∀ b, w.heap.size ≤ b → S b) (hQ : ∀ b, Q b → ¬ S b) (hv : Sl w S 9 1 v L.length (strs L)) (hl : Sl w Q 73 2 lv l.length (ents l)) (hb : L.length + l.length ≤ 1000000) :
    Calls Try.prog 34 #[v, lv] w fun e w' => ∃ v', e = .returned v' ∧ Sl w' S 9 1 v' (L ++ ks l).length (strs (L ++ ks l)) ∧ Fr S w w' := by
  obtain ⟨i0, hi, hz0, hz1, hz2⟩ := info_parts' info_string
  obtain ⟨a, cap, rfl, hcap, hc⟩ := ent_at hl
  obtain ⟨va, vc, rfl, hvc⟩ := Sl.shape hv
  have HL := Lib.hid (And.intro hl (And.intro hc (And.intro hv (And.intro hS hQ))))
  clear hl hc hv hS hQ
  go_enter Try.func34, Try.ntmps34
  go_wp2_with fail
  go_loopw [0, 5] (fun o i wr => ∃ (j : Nat), j ≤ l.length ∧ i = .int .i64 j ∧ Sl wr S 9 1 o (L ++ ks (l.take j)).length (strs (L ++ ks (l.take j))) ∧ Fr S w wr) (fun _ i _ => l.length - (intOf i).toNat)
  case atStart => exact ⟨0, Nat.zero_le _, rfl, by rw [show ks (l.take 0) = [] from rfl, List.append_nil]; exact HL.out.2.2.1, Fr.refl _ _⟩
  case round =>
    obtain ⟨j, hj, rfl, hs, hF⟩ := hrel
    obtain ⟨oa, oc, rfl, _⟩ := Sl.shape hs
    by_cases hlt : j < l.length
    · obtain ⟨e, he⟩ : ∃ e, l[j]? = some e := ⟨_, List.getElem?_eq_getElem hlt⟩
      obtain ⟨b, off, rfl, hbl, hQb, e0, _, _⟩ := HL.out.2.1 j e he
      have e0' : wr.cell? ⟨b, off + j * 2, none⟩ = some (.string e.1) := (hF.cell (p := ⟨b, off + j * 2, none⟩) hbl (HL.out.2.2.2.2 b hQb)).trans e0
      have htk : L ++ ks (l.take (j + 1)) = (L ++ ks (l.take j)) ++ [e.1] := by rw [List.take_add_one, he, ks_app]; simp [ks]
      have HT := Lib.hid (And.intro htk (And.intro hs hF))
      have hj' : (j : Int) < l.length := by omega
      have hj0 : (0 : Int) ≤ j := by omega
      have hpl : (L ++ ks (l.take j)).length ≤ 1000000 := by simp [ks, List.length_take]; omega
      obtain ⟨T, hT⟩ : ∃ T, L ++ ks (l.take j) = T := ⟨_, rfl⟩
      rw [hT] at HT hpl ⊢
      obtain ⟨tn, htn⟩ : ∃ tn, T.length = tn := ⟨_, rfl⟩
      rw [htn] at HT hpl ⊢
      obtain ⟨x, hx⟩ : ∃ x, e.1 = x := ⟨_, rfl⟩
      rw [hx] at e0' HT
      clear he e0 hF hs htk hT hx
      go_wp2_with (at_builtin; refine wpList_append_sl (S := S) rfl _ _ 30 rfl 9 i0 (.string ByteArray.empty) 1 16 Try.underlying30 hi hz0 hz1 hz2 rfl (by decide) _ _ _ rfl (HT.out.2.1.alloc _) ⟨_, 0, none⟩ 1 1 [.string x] rfl rfl (cell_one_at _ _ _ (by simp)) (by simp [Value.oneCell']) (by unfold maxLen; omega) (by omega) ?_; intro v1 q5 hs1 hf1; have HS1 := Lib.hid (And.intro hs1 hf1); clear hs1 hf1)
      go_roundw
      case rel =>
        obtain ⟨hs1, hf1⟩ := HS1.out
        have hz := HT.out.2.2.size
        refine ⟨j + 1, by omega, by go_num, ?_, (HT.out.2.2.alloc _).trans hf1.arr (fun _ _ q => q)⟩
        rw [HT.out.1, strs_app, List.length_append, htn]
        exact hs1.mono (fun b _ q => q.elim (fun q => q) (fun q => HL.out.2.2.2.1 b (by have := q.1; simp at this; omega)))
      case measure => simp [intOf]; omega
    · have hT : L ++ ks (l.take j) = L ++ ks l := by rw [List.take_of_length_le (by omega)]
      rw [hT] at hs ⊢
      have HS1 := Lib.hid (And.intro hs hF)
      clear hs hF hT
      go_wp2_with fail
      go_ret
      exact ⟨_, rfl, HS1.out.1, HS1.out.2⟩
/-- Two rows of texts that are the same. -/
theorem same_any (w : World) (S1 S2 : Nat → Prop) (v1 v2 : Value) (L : List ByteArray) (hL : L.length ≤ 1000000) (h1 : Sl w S1 9 1 v1 L.length (strs L)) (h2 : Sl w S2 9 1 v2 L.length (strs L)) :
    Calls Try.prog 24 #[v1, v2] w fun e w' => e = .returned (.bool true) ∧ ∃ q, w' = w.drewN q := by
  obtain ⟨a1, c1, rfl, _⟩ := Sl.shape h1
  obtain ⟨a2, c2, rfl, _⟩ := Sl.shape h2
  have HS := Lib.hid (And.intro h1 h2)
  clear h1 h2
  go_enter Try.func24, Try.ntmps24
  go_wp2_with fail
  go_loopw [5] (fun i wr => ∃ (j q : Nat), j ≤ L.length ∧ i = .int .i64 j ∧ wr = w.drewN q) (fun i _ => L.length - (intOf i).toNat)
  case atStart => exact ⟨0, 0, Nat.zero_le _, rfl, rfl⟩
  case round =>
    obtain ⟨j, q, hj, rfl, rfl⟩ := hrel
    by_cases hlt : j < L.length
    · obtain ⟨b1, o1, k1, e1, _, _, _, x1, _⟩ := Sl.pos HS.out.1 (by omega)
      obtain ⟨b2, o2, k2, e2, _, _, _, x2, _⟩ := Sl.pos HS.out.2 (by omega)
      simp at e1 e2
      obtain ⟨rfl, rfl⟩ := e1
      obtain ⟨rfl, rfl⟩ := e2
      have y1 := (x1 j (by rw [strs_len]; exact hlt)).trans (strs_get hlt)
      have y2 := (x2 j (by rw [strs_len]; exact hlt)).trans (strs_get hlt)
      obtain ⟨x, hx⟩ : ∃ x, L[j] = x := ⟨_, rfl⟩
      rw [hx] at y1 y2
      obtain ⟨wq, hwq⟩ : ∃ wq, w.drewN q = wq := ⟨_, rfl⟩
      have z1 : wq.cell? ⟨b1, o1 + j, none⟩ = some (.string x) := by rw [← hwq]; exact y1
      have z2 : wq.cell? ⟨b2, o2 + j, none⟩ = some (.string x) := by rw [← hwq]; exact y2
      have hj' : (j : Int) < L.length := by omega
      have hj0 : (0 : Int) ≤ j := by omega
      rw [hwq]
      have HWQ := Lib.hid hwq
      clear x1 x2 hx y1 y2 hwq
      go_wp2_with fail
      go_quiet (fail)
      go_wp2_with fail
      go_roundw
      case rel => exact ⟨j + 1, q + nq, by omega, by go_num, by rw [← HWQ.out, World.drewN_drewN]⟩
      case measure => simp [intOf]; omega
    · go_wp2_with fail
      go_ret
      exact ⟨rfl, _, rfl⟩
section
variable {w : World} {S : Nat → Prop} {u : Nat} {s : ChS}
set_option maxHeartbeats 1000000 in
theorem cr_bucket (h : CrAt w S u s) (i : Int) (hlen : (bucketS s i).length ≤ 1000000) :
    Calls Try.prog 33 #[.pointer (some ⟨u, 0, none⟩), .int .i64 i] w fun e w' => ∃ v, e = .returned v ∧ Sl w' (fun b => w.heap.size ≤ b) 9 1 v (bucketS s i).length (strs (bucketS s i)) ∧ Fr (fun b => w.heap.size ≤ b) w w' := by
  obtain ⟨hW, nb, ob, xs, ys, dv, o, h⟩ := h
  obtain ⟨_, _, _, _, c4, _, _, _⟩ := h.cells
  obtain ⟨a1, a2, a3, a4⟩ := two_pw hW.p2 hW.p20
  by_cases hi : 0 ≤ i ∧ i < ((2 ^ s.pw : Nat) : Int)
  · obtain ⟨r, rfl⟩ : ∃ r : Nat, i = r := ⟨i.toNat, by omega⟩
    have hr : r < 2 ^ s.pw := by omega
    rw [bucketS_nat hr] at hlen ⊢
    obtain ⟨v, hv⟩ : ∃ v, xs[r]? = some v := ⟨_, List.getElem?_eq_getElem (by rw [h.hxl]; exact hr)⟩
    have hrow := h.hxs r v hv
    obtain ⟨k1, k2⟩ := arr_cells h.hn hv
    obtain ⟨L, hL⟩ : ∃ L, s.R r = L := ⟨_, rfl⟩
    obtain ⟨N, hN⟩ : ∃ N, 2 ^ s.pw = N := ⟨_, rfl⟩
    rw [hN] at c4 hr
    rw [hL] at hrow hlen ⊢
    obtain ⟨va, vc, rfl, hvc⟩ := Sl.shape hrow
    have hri : (r : Int) < N := by omega
    have hri0 : (0 : Int) ≤ r := by omega
    have hd1 : decide ((r : Int) < 0) = false := decide_eq_false (by omega)
    have hd2 : decide ((N : Int) ≤ r) = false := decide_eq_false (by omega)
    have hkl : (ks L).length = L.length := by simp [ks]
    have HR := Lib.hid (And.intro hrow hkl)
    clear h hW hN hL a1 a2 a3 a4 k2 hv hrow
    go_enter Try.func33, Try.ntmps33
    go_wp2_with fail
    refine (cr_keys1 w (fun b => w.heap.size ≤ b) (fun b => b < w.heap.size) _ _ [] L (fun b q => q) (fun b q => by omega) (Sl.nil _ _ _ _) (HR.out.1.mono fun b hb _ => hb) (by have := HR.out.2; simp; omega)).mono ?_
    rintro e w1 ⟨v1, rfl, hs, hF⟩
    rw [List.nil_append] at hs
    have H1 := Lib.hid (And.intro hs hF)
    clear hs hF
    go_wp2_with fail
    go_ret
    exact ⟨_, rfl, H1.out.1, H1.out.2⟩
  · have e : bucketS s i = [] := if_neg hi
    rw [e]
    obtain ⟨N, hN⟩ : ∃ N, 2 ^ s.pw = N := ⟨_, rfl⟩
    rw [hN] at c4 hi
    clear h hW hN a1 a2 a3 a4 e hlen
    by_cases h0 : 0 ≤ i
    · have hd1 : decide (i < 0) = false := decide_eq_false (by omega)
      have hd2 : decide ((N : Int) ≤ i) = true := decide_eq_true (by omega)
      go_enter Try.func33, Try.ntmps33
      go_wp2_with fail
      go_ret
      exact ⟨_, rfl, Sl.nil _ _ _ _, Fr.refl _ _⟩
    · have hd1 : decide (i < 0) = true := decide_eq_true (by omega)
      go_enter Try.func33, Try.ntmps33
      go_wp2_with fail
      go_ret
      exact ⟨_, rfl, Sl.nil _ _ _ _, Fr.refl _ _⟩
set_option maxHeartbeats 1000000 in
theorem cr_keys (h : CrAt w S u s) (hlen : (keysS s).length ≤ 1000000) :
    Calls Try.prog 25 #[.pointer (some ⟨u, 0, none⟩)] w fun e w' => ∃ v, e = .returned v ∧ Sl w' (fun b => w.heap.size ≤ b) 9 1 v (keysS s).length (strs (keysS s)) ∧ Fr (fun b => w.heap.size ≤ b) w w' := by
  obtain ⟨hW, nb, ob, xs, ys, dv, o, h⟩ := h
  obtain ⟨_, _, _, c3, c4, _, _, hul⟩ := h.cells
  obtain ⟨a1, a2, a3, a4⟩ := two_pw hW.p2 hW.p20
  obtain ⟨ao, no, hao, hno, hold⟩ : ∃ ao no, (if s.g then Value.slice (some ⟨ob, 0, none⟩) (2 ^ (s.pw - 1)) (2 ^ (s.pw - 1)) else .slice none 0 0) = .slice ao no no ∧ no ≤ 1048576 ∧ ((no = 0 ∧ keysS s = rowsK s.O no ++ rowsK s.R (2 ^ s.pw)) ∨ (s.g = true ∧ no = 2 ^ (s.pw - 1) ∧ ao = some ⟨ob, 0, none⟩ ∧ keysS s = rowsK s.O no ++ rowsK s.R (2 ^ s.pw))) := by
    cases hg : s.g with
    | false => exact ⟨none, 0, rfl, by omega, Or.inl ⟨rfl, by unfold keysS; rw [hg]; rfl⟩⟩
    | true => exact ⟨_, _, rfl, by omega, Or.inr ⟨rfl, rfl, rfl, by unfold keysS; rw [hg]; rfl⟩⟩
  have hK : keysS s = rowsK s.O no ++ rowsK s.R (2 ^ s.pw) := hold.elim (fun q => q.2) (fun q => q.2.2.2)
  rw [hao] at c3
  rw [hK] at hlen ⊢
  obtain ⟨N, hN⟩ : ∃ N, 2 ^ s.pw = N := ⟨_, rfl⟩
  rw [hN] at c4 a1 a2 hlen ⊢
  have HH := Lib.hid (And.intro h (And.intro hN hold))
  clear h hW hold hao hK a3 a4 hN
  go_enter Try.func25, Try.ntmps25
  go_wp2_with fail
  go_loopw [3, 4] (fun ov iv wr => ∃ (j : Nat), j ≤ no ∧ iv = .int .i64 j ∧ Sl wr (fun b => w.heap.size ≤ b) 9 1 ov (rowsK s.O j).length (strs (rowsK s.O j)) ∧ Fr (fun b => w.heap.size ≤ b) w wr) (fun _ iv _ => no - (intOf iv).toNat)
  case atStart => exact ⟨0, Nat.zero_le _, rfl, Sl.nil _ _ _ _, Fr.refl _ _⟩
  case round =>
    obtain ⟨j, hj, rfl, hs, hF⟩ := hrel
    obtain ⟨oa, oc, rfl, _⟩ := Sl.shape hs
    have d3 : wr.cell? ⟨u, 3, none⟩ = some (.slice ao no no) := (hF.cell (p := ⟨u, 3, none⟩) hul (by simp; omega)).trans c3
    have d4 : wr.cell? ⟨u, 4, none⟩ = some (.slice (some ⟨nb, 0, none⟩) N N) := (hF.cell (p := ⟨u, 4, none⟩) hul (by simp; omega)).trans c4
    have Hj := Lib.hid (And.intro hs hF)
    clear hs hF
    by_cases hlt : j < no
    · rcases HH.out.2.2 with ⟨q, _⟩ | ⟨hg, e1, e2, _⟩
      · omega
      · subst e2
        obtain ⟨g1, g2, g3, g4, g5, g6⟩ := HH.out.1.hg hg
        obtain ⟨v, hv⟩ : ∃ v, ys[j]? = some v := ⟨_, List.getElem?_eq_getElem (by rw [g5, ← e1]; exact hlt)⟩
        have hrow := g6 j v hv
        obtain ⟨k1, k2⟩ := arr_cells g4 hv
        obtain ⟨va, vc, rfl, _⟩ := Sl.shape hrow
        have hob := lt_of_heap g4
        have dk : wr.cell? ⟨ob, j, none⟩ = some (.slice va (s.O j).length vc) := (Hj.out.2.cell (p := ⟨ob, j, none⟩) hob (by simp; omega)).trans k1
        have hjl : (j : Int) < no := by omega
        have hj0 : (0 : Int) ≤ j := by omega
        obtain ⟨r, hr⟩ := rowsK_pre s.O (i := j + 1) (m := no) (by omega)
        have hkl : (ks (s.O j)).length = (s.O j).length := by simp [ks]
        have hb : (rowsK s.O j).length + (s.O j).length ≤ 1000000 := by
          have h1 := congrArg List.length hr
          rw [List.length_append, show rowsK s.O (j + 1) = rowsK s.O j ++ ks (s.O j) from rfl, List.length_append] at h1
          rw [List.length_append] at hlen
          omega
        have HR := Lib.hid (And.intro ((hrow.mono (S' := fun b => b < w.heap.size) fun b hb _ => hb).fr Hj.out.2 (fun b hb _ => by omega)) hb)
        obtain ⟨ln, hln⟩ : ∃ n, (s.O j).length = n := ⟨_, rfl⟩
        obtain ⟨rn, hrn⟩ : ∃ n, (rowsK s.O j).length = n := ⟨_, rfl⟩
        have hsj := Hj.out.1
        rw [hln] at HR dk
        rw [hrn] at hsj HR ⊢
        have HLN := Lib.hid (And.intro hln (And.intro hrn hsj))
        clear g1 g2 g3 g4 g5 g6 hv hrow k1 k2 hr hkl hb hln hrn hsj e1 hg
        go_wp2_with fail
        refine (cr_keys1 wr (fun b => w.heap.size ≤ b) (fun b => b < w.heap.size) _ _ (rowsK s.O j) (s.O j) (fun b q => by have := Hj.out.2.size; omega) (fun b q => by omega) (by rw [HLN.out.2.1]; exact HLN.out.2.2) (by rw [HLN.out.1]; have := HR.out.1; exact this) (by rw [HLN.out.2.1, HLN.out.1]; exact HR.out.2)).mono ?_
        rintro e w1 ⟨v1, rfl, hs, hF⟩
        have H1 := Lib.hid (And.intro hs (Hj.out.2.trans hF (fun b _ q => q)))
        clear hs hF
        go_wp2_with fail
        go_roundw
        case rel => exact ⟨j + 1, by omega, by go_num, H1.out.1, H1.out.2⟩
        case measure => simp [intOf]; omega
    · obtain rfl : j = no := by omega
      obtain ⟨L0, hL0⟩ : ∃ L, rowsK s.O j = L := ⟨_, rfl⟩
      rw [hL0] at hlen Hj ⊢
      obtain ⟨wo, rfl⟩ : ∃ wo : World, wo = wr := ⟨_, rfl⟩
      have HL0 := Lib.hid hL0
      clear hL0 hlt
      go_wp2_with fail
      clear d3 d4
      go_loopw [3, 5] (fun ov iv wr => ∃ (i : Nat), i ≤ N ∧ iv = .int .i64 i ∧ Sl wr (fun b => w.heap.size ≤ b) 9 1 ov (L0 ++ rowsK s.R i).length (strs (L0 ++ rowsK s.R i)) ∧ Fr (fun b => w.heap.size ≤ b) w wr) (fun _ iv _ => N - (intOf iv).toNat)
      case atStart => exact ⟨0, Nat.zero_le _, rfl, by rw [show rowsK s.R 0 = [] from rfl, List.append_nil]; exact Hj.out.1, Hj.out.2⟩
      case round =>
        clear Hj
        obtain ⟨i, hi, rfl, hs, hF⟩ := hrel
        obtain ⟨oa, oc, rfl, _⟩ := Sl.shape hs
        have d4 : wr.cell? ⟨u, 4, none⟩ = some (.slice (some ⟨nb, 0, none⟩) N N) := (hF.cell (p := ⟨u, 4, none⟩) hul (by simp; omega)).trans c4
        have Hi := Lib.hid (And.intro hs hF)
        clear hs hF
        by_cases hlt : i < N
        · obtain ⟨v, hv⟩ : ∃ v, xs[i]? = some v := ⟨_, List.getElem?_eq_getElem (by rw [HH.out.1.hxl, HH.out.2.1]; exact hlt)⟩
          have hrow := HH.out.1.hxs i v hv
          obtain ⟨k1, k2⟩ := arr_cells HH.out.1.hn hv
          obtain ⟨va, vc, rfl, _⟩ := Sl.shape hrow
          have hnbl := lt_of_heap HH.out.1.hn
          have dk : wr.cell? ⟨nb, i, none⟩ = some (.slice va (s.R i).length vc) := (Hi.out.2.cell (p := ⟨nb, i, none⟩) hnbl (by simp; omega)).trans k1
          have hjl : (i : Int) < N := by omega
          have hj0 : (0 : Int) ≤ i := by omega
          obtain ⟨r, hr⟩ := rowsK_pre s.R (i := i + 1) (m := N) (by omega)
          have hkl : (ks (s.R i)).length = (s.R i).length := by simp [ks]
          have hb : (L0 ++ rowsK s.R i).length + (s.R i).length ≤ 1000000 := by
            have h1 := congrArg List.length hr
            rw [List.length_append, show rowsK s.R (i + 1) = rowsK s.R i ++ ks (s.R i) from rfl, List.length_append] at h1
            rw [List.length_append] at hlen ⊢
            omega
          have HR := Lib.hid (And.intro ((hrow.mono (S' := fun b => b < w.heap.size) fun b hb _ => hb).fr Hi.out.2 (fun b hb _ => by omega)) hb)
          obtain ⟨ln, hln⟩ : ∃ n, (s.R i).length = n := ⟨_, rfl⟩
          obtain ⟨rn, hrn⟩ : ∃ n, (L0 ++ rowsK s.R i).length = n := ⟨_, rfl⟩
          have hsj := Hi.out.1
          rw [hln] at HR dk
          rw [hrn] at hsj HR ⊢
          have HLN := Lib.hid (And.intro hln (And.intro hrn hsj))
          clear hv hrow k1 k2 hr hkl hb hln hrn hsj
          go_wp2_with fail
          refine (cr_keys1 wr (fun b => w.heap.size ≤ b) (fun b => b < w.heap.size) _ _ (L0 ++ rowsK s.R i) (s.R i) (fun b q => by have := Hi.out.2.size; omega) (fun b q => by omega) (by rw [HLN.out.2.1]; exact HLN.out.2.2) (by rw [HLN.out.1]; have := HR.out.1; exact this) (by rw [HLN.out.2.1, HLN.out.1]; exact HR.out.2)).mono ?_
          rintro e w1 ⟨v1, rfl, hs, hF⟩
          have H1 := Lib.hid (And.intro hs (Hi.out.2.trans hF (fun b _ q => q)))
          clear hs hF
          go_wp2_with fail
          go_roundw
          case rel => exact ⟨i + 1, by omega, by go_num, by rw [show rowsK s.R (i + 1) = rowsK s.R i ++ ks (s.R i) from rfl, ← List.append_assoc]; exact H1.out.1, H1.out.2⟩
          case measure => simp [intOf]; omega
        · obtain rfl : i = N := by omega
          go_wp2_with fail
          go_ret
          rw [HL0.out]
          exact ⟨_, rfl, Hi.out.1, Hi.out.2⟩
end
end Go.Proofs.Ytnabgcnndehaaaa
