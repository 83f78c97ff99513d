/- Layer 14 (sthree): Victim. -/
import Derived.Test.YtgdlndpjfejmcaaGreatPTa
import Derived.Deep.LoopGhost
import Derived.Deep.DeepCutAuto
import Derived.Test.YtgdlndpjfejmcaaGreatPB
namespace Go.Proofs.YtgdlndpjfejmcaaGreat.Thr
open Go.RowKit
set_option linter.unusedVariables false
set_option maxRecDepth 100000
/-- Is somebody of small to go? -/
def smallB (s : ThS) : Bool := decide (0 < (s.L 0).length ∧ (max 1 (wrap64 (s.most.tdiv 10)) < (s.L 0).length ∨ (s.L 1).length = 0))
/-- An id goes to the front of main, and its count turns. -/
def moveT (s : ThS) (id c' : Int) : ThS := { s with K := setK s.K id (some (numT s id, c')), L := frontL 2 s.L 1 id }
/-- Victim, off memory. -/
def vicF : Nat → ThS → ThS × Int
  | 0, s => (s, -1)
  | n + 1, s =>
    if smallB s then
      (if countT s (lastOf (s.L 0)) < 2 then (s, lastOf (s.L 0)) else vicF n (moveT s (lastOf (s.L 0)) 0))
    else if 0 < (s.L 1).length then
      (if countT s (lastOf (s.L 1)) = 0 then (s, lastOf (s.L 1)) else vicF n (moveT s (lastOf (s.L 1)) (countT s (lastOf (s.L 1)) - 1)))
    else (s, -1)
/-- So many looks at most. -/
def measT (s : ThS) : Nat := (s.L 0).length + ((s.L 1).map fun x => (countT s x).toNat).sum
def vicT (s : ThS) : ThS × Int := vicF (measT s + 1) s
theorem sum_filter (f : Int → Nat) {x : Int} : ∀ {l : List Int}, l.Nodup → x ∈ l → (l.map f).sum = f x + ((l.filter (· != x)).map f).sum
  | [], _, h => by cases h
  | y :: l, hn, h => by
    have hn' := List.nodup_cons.1 hn
    by_cases e : y = x
    · subst e
      rw [List.filter_cons_of_neg (by simp), filter_no hn'.1]
      simp
    · rw [List.filter_cons_of_pos (by simpa using e)]
      rcases List.mem_cons.1 h with q | q
      · exact absurd q.symm e
      · have := sum_filter f hn'.2 q
        simp at this ⊢; omega
theorem countT_move {s : ThS} {id c' : Int} (x : Int) : countT (moveT s id c') x = if x = id then c' else countT s x := by
  unfold countT moveT
  by_cases e : x = id
  · subst e; rw [if_pos rfl]; simp only [setK_same]
  · rw [if_neg e]; simp only [setK_ne e]
theorem moveT_L {s : ThS} {id c' : Int} (h0 : 0 ≤ id) (h1 : id ≤ 4194303) : (moveT s id c').L 0 = (s.L 0).filter (· != id) ∧ (moveT s id c').L 1 = id :: (s.L 1).filter (· != id) := by
  have e : (moveT s id c').L = putF (del s.L id) 1 id := front2 s.L 1 id (.inr rfl) h0 h1
  rw [e]
  exact ⟨rfl, rfl⟩
theorem meas_small {s : ThS} {id : Int} (h0 : 0 ≤ id) (h1 : id ≤ 4194303) (hn : (s.L 0).Nodup) (hm : id ∈ s.L 0) (hno : id ∉ s.L 1) : measT (moveT s id 0) + 1 = measT s := by
  unfold measT
  rw [(moveT_L h0 h1).1, (moveT_L h0 h1).2, filter_no hno, List.map_cons, List.sum_cons, countT_move, if_pos rfl]
  have hl := len_take hn hm
  have hp := List.length_pos_of_mem hm
  have e : ((s.L 1).map fun x => (countT (moveT s id 0) x).toNat) = ((s.L 1).map fun x => (countT s x).toNat) := by
    apply List.map_congr_left
    intro x hx
    rw [countT_move, if_neg (fun e : x = id => hno (by rw [← e]; exact hx))]
  rw [e]
  simp; omega
theorem meas_main {s : ThS} {id : Int} (h0 : 0 ≤ id) (h1 : id ≤ 4194303) (hn : (s.L 1).Nodup) (hm : id ∈ s.L 1) (hno : id ∉ s.L 0) (hc : 0 < countT s id) : measT (moveT s id (countT s id - 1)) + 1 = measT s := by
  unfold measT
  rw [(moveT_L h0 h1).1, (moveT_L h0 h1).2, filter_no hno, List.map_cons, List.sum_cons, countT_move, if_pos rfl, sum_filter _ hn hm]
  have e : (((s.L 1).filter (· != id)).map fun x => (countT (moveT s id (countT s id - 1)) x).toNat) = (((s.L 1).filter (· != id)).map fun x => (countT s x).toNat) := by
    apply List.map_congr_left
    intro x hx
    have := (List.mem_filter.1 hx).2
    rw [countT_move, if_neg (by simpa using this)]
  rw [e]
  omega
theorem moveT_in {s : ThS} {id c' : Int} (hi : ThIn s) (h0 : 0 ≤ id) (h1 : id ≤ 4194303) (hin : id ∈ s.L 0 ∨ id ∈ s.L 1) (hc : 0 ≤ c' ∧ c' ≤ 3) : ThIn (moveT s id c') := by
  refine ⟨fun k => ?_, fun k h c q => ?_⟩
  · show (setK s.K id _ k).isSome = true ↔ (k ∈ frontL 2 s.L 1 id 0 ∨ k ∈ frontL 2 s.L 1 id 1)
    rw [mem_front2 (.inr rfl) h0 h1 k, ← hi.in_ k]
    by_cases e : k = id
    · subst e; rw [setK_same]; simp
    · rw [setK_ne e]; simp [e]
  · have q' : setK s.K id (some (numT s id, c')) k = some (h, c) := q
    by_cases e : k = id
    · subst e; rw [setK_same] at q'; cases q'; exact hc
    · rw [setK_ne e] at q'; exact hi.cnt k h c q'
/-- The relation of the loop: so many looks are left. -/
def VicR (S : Nat → Prop) (p : Nat) (s : ThS) (N M : Nat) (w wr : World) (k : Nat) : Prop :=
  ∃ s' N', N' + k ≤ N + measT s ∧ measT s' ≤ k ∧ ThAt wr (grow S w wr) p s' N' M ∧ Fr S w wr ∧ vicF (k + 1) s' = vicT s ∧ wr.heap[p]? = w.heap[p]?
set_option maxRecDepth 100000 in
set_option maxHeartbeats 4000000 in
theorem th_victim (S : Nat → Prop) (p : Nat) (s : ThS) (N M : Nat) (w : World) (h : ThAt w S p s N M) (hN : N + measT s < 1000000) :
    Calls Tryz.prog 123 #[.pointer (some ⟨p, 0, none⟩)] w fun e w' => e = .returned (.int .i64 (vicT s).2) ∧ ThAt w' (grow S w w') p (vicT s).1 (N + measT s) M ∧ Fr S w w' ∧ w'.heap[p]? = w.heap[p]? := by
  have hs : VicR S p s N M w w (measT s) := ⟨s, N, Nat.le_refl _, Nat.le_refl _, h.mono fun b _ q => Or.inl q, Fr.refl _ _, rfl, rfl⟩
  have HS := Lib.hid (And.intro hs hN)
  clear h hs hN
  go_enter Tryz.func123, Tryz.ntmps123
  go_wp2_with fail
  go_step3
  go_wp2_with fail
  go_step3
  go_wp2_with fail
  go_loopg [3] (measT s) (fun k _ wr => VicR S p s N M w wr k)
  case atStart => exact HS.out.1
  case round =>
    obtain ⟨s', N', hN', hms, ⟨⟨g, b1, m, l, o, Sr, Sg, Sk, h⟩, hi⟩, hF, hv, hpp⟩ := hrel
    have c0 := cell_of_heap h.hp 0
    have c2 := cell_of_heap h.hp 2
    have c3 := cell_of_heap h.hp 3
    simp at c0 c2 c3
    have hmo := h.hmo
    have hmb := h.hmb
    have l0 := rows_len Sr g 2 s'.L N' 0 wr h.hR
    have l1 := rows_len Sr g 2 s'.L N' 1 wr h.hR
    have t0 := rows_last Sr g 2 s'.L N' 0 wr h.hR
    have t1 := rows_last Sr g 2 s'.L N' 1 wr h.hR
    rw [rowL_0] at l0 t0
    rw [rowL_1] at l1 t1
    obtain ⟨n0, hn0⟩ : ∃ n, (s'.L 0).length = n := ⟨_, rfl⟩
    obtain ⟨n1, hn1⟩ : ∃ n, (s'.L 1).length = n := ⟨_, rfl⟩
    obtain ⟨v0, hv0⟩ : ∃ v, lastOf (s'.L 0) = v := ⟨_, rfl⟩
    obtain ⟨v1, hv1⟩ : ∃ v, lastOf (s'.L 1) = v := ⟨_, rfl⟩
    obtain ⟨mo, hmo'⟩ : ∃ v, s'.most = v := ⟨_, rfl⟩
    have hle0 := h.hR.len_le 0
    have hle1 := h.hR.len_le 1
    rw [hn0] at l0 hle0
    rw [hn1] at l1 hle1
    rw [hv0] at t0
    rw [hv1] at t1
    rw [hmo'] at c2
    have hsb : smallB s' = decide (0 < n0 ∧ (max 1 (wrap64 (mo.tdiv 10)) < n0 ∨ n1 = 0)) := by unfold smallB; rw [hn0, hn1, hmo']
    obtain ⟨sb, hsb'⟩ : ∃ b, smallB s' = b := ⟨_, rfl⟩
    rw [hsb'] at hsb
    have HL := Lib.hid (And.intro l0 (And.intro l1 (And.intro t0 t1)))
    have HN := Lib.hid (And.intro hn0 (And.intro hn1 (And.intro hv0 (And.intro hv1 (And.intro hsb hsb')))))
    have HH := Lib.hid (And.intro h (And.intro hi (And.intro hF (And.intro hN' (And.intro hms (And.intro hv hpp))))))
    have hb0 : n0 ≤ 1000000 := by have := HS.out.2; omega
    have hb1 : n1 ≤ 1000000 := by have := HS.out.2; omega
    clear h hi hF hv hpp hN' hms l0 l1 t0 t1 hn0 hn1 hv0 hv1 hsb hsb' hmo' hle0 hle1
    go_upto_region 2 with (go_at_call 83; refine HL.out.1.mono ?_; rintro e w1 ⟨rfl, rfl⟩)
    go_cut [13] (fun c wx => c = .bool sb ∧ wx = wr)
    case first =>
      have HX := Lib.hid HN.out.2.2.2.2.1
      by_cases h0 : 0 < n0
      · by_cases h1 : n1 = 0
        · subst h1
          have h0' : (0 : Int) < n0 := by omega
          go_wp2_with (go_at_call 83; refine HL.out.2.1.mono ?_; rintro e w1 ⟨rfl, rfl⟩)
          all_goals
            go_meet
            exact ⟨congrArg Value.bool (by rw [HX.out]; first | exact (decide_eq_true (by omega)).symm | exact (decide_eq_false (by omega)).symm | exact decide_eq_decide.2 (by omega) | simp [h0]), rfl⟩
        · have h0' : (0 : Int) < n0 := by omega
          have h1' : ((n1 : Int) == 0) = false := by rw [beq_eq_false_iff_ne]; omega
          go_wp2_with (go_at_call 83; refine HL.out.2.1.mono ?_; rintro e w1 ⟨rfl, rfl⟩)
          all_goals
            go_meet
            exact ⟨congrArg Value.bool (by rw [HX.out]; first | exact (decide_eq_true (by omega)).symm | exact (decide_eq_false (by omega)).symm | exact decide_eq_decide.2 (by omega) | simp [h0]), rfl⟩
      · obtain rfl : n0 = 0 := by omega
        go_wp2_with fail
        go_meet
        exact ⟨by rw [HX.out]; simp, rfl⟩
    case rest =>
      obtain ⟨rfl, rfl⟩ := hcut
      obtain ⟨wz, rfl⟩ : ∃ wz : World, wz = wc := ⟨_, rfl⟩
      have hid : ∀ r x, r < 2 → x ∈ s'.L r → 0 ≤ x ∧ x ≤ 4194303 := fun r x hr hx => HH.out.1.hR.range hr hx
      rcases sb with _ | _
      · -- main
        have hsf : smallB s' = false := HN.out.2.2.2.2.2
        have HSF := Lib.hid hsf
        clear hsf
        by_cases h1 : 0 < n1
        · have h1' : (0 : Int) < n1 := by omega
          have hm : v1 ∈ s'.L 1 := by
            rw [← HN.out.2.2.2.1]
            exact lastOf_mem (fun e => by have := HN.out.2.1; rw [e] at this; simp at this; omega)
          have hno : v1 ∉ s'.L 0 := fun q => by have := HH.out.1.hR.disj (r := 1) (s := 0) (by decide) (by decide) hm q; omega
          have hw := hid 1 v1 (by decide) hm
          obtain ⟨b, hh, c, hk, hv, hb, hSk⟩ : ∃ b hh c, s'.K v1 = some (hh, c) ∧ aget l v1 = some (.pointer (some ⟨b, 0, none⟩)) ∧ wz.heap[b]? = some (knownB hh c) ∧ Sk b := by
            rcases HH.out.1.find v1 with ⟨q, _⟩ | q
            · have := (HH.out.2.1.in_ v1).2 (.inr hm)
              rw [q] at this; cases this
            · exact q
          have hcn : countT s' v1 = c := by unfold countT; rw [hk]
          have hcb := HH.out.2.1.cnt v1 hh c hk
          have hnum : numT s' v1 = hh := by unfold numT; rw [hk]
          have HM := Lib.hid (And.intro hm (And.intro hno (And.intro hw (And.intro hk (And.intro hcn (And.intro hnum hSk))))))
          clear hm hno hw hk hcn hnum hid hSk
          go_wp2_with (go_at_call 83; refine HL.out.2.1.mono ?_; rintro e w1 ⟨rfl, rfl⟩)
          refine HL.out.2.2.2.mono ?_
          rintro e w1 ⟨rfl, q1, hq1⟩
          have e0 : w1.cell? ⟨p, 0, none⟩ = some (.pointer (some ⟨g, 0, none⟩)) := by rw [hq1]; exact c0
          have e3 : w1.cell? ⟨p, 3, none⟩ = some (.map (some m)) := by rw [hq1]; exact c3
          have hb1 : w1.heap[b]? = some (knownB hh c) := by rw [hq1]; exact hb
          have hmo1 : w1.heap[m]? = some o := by rw [hq1]; exact hmo
          have d1 := cell_of_heap hb1 1
          have f1 := fro_of_heap hb1 1
          simp at d1
          have hO1 : ThO w1 (grow S w w1) p s' N' M g b1 m l o Sr Sg Sk := by rw [hq1]; exact HH.out.1.frame (Nat.le_refl _) fun _ _ _ => rfl
          have hF1 : Fr S w w1 := by rw [hq1]; exact HH.out.2.2.1.drewN _
          have hpp1 : w1.heap[p]? = w.heap[p]? := by rw [hq1]; exact HH.out.2.2.2.2.2.2
          have HO := Lib.hid (And.intro hO1 (And.intro hF1 hpp1))
          clear hO1 hF1 hpp1 hq1 hb hb1 hmo c0 c2 c3
          by_cases hc : c = 0
          · have hcd : (c == 0) = true := by simpa using hc
            go_wp2_with (at_lookup; refine wpList_lookup_imap rfl _ _ 92 rfl 3 133 .i64 Tryz.underlying92 Tryz.underlying3 _ (zero_known _) m rfl o l hmo1 hmb v1 rfl ?_; rw [hv, Option.getD_some])
            go_wp2
            try rw [Exit.noGoto_ret]
            go_ret
            have hvic : vicT s = (s', v1) := by
              rw [← HH.out.2.2.2.2.2.1]
              unfold vicF
              rw [if_neg (by rw [HSF.out]; decide), if_pos (by rw [HN.out.2.1]; exact h1), HN.out.2.2.2.1, HM.out.2.2.2.2.1, if_pos hc]
            rw [hvic]
            exact ⟨rfl, ThAt.more ⟨⟨_, _, _, _, _, _, _, _, HO.out.1⟩, HH.out.2.1⟩ (by have := HH.out.2.2.2.1; omega) (Nat.le_refl _), HO.out.2.1, HO.out.2.2⟩
          · have hcd : (c == 0) = false := by rw [beq_eq_false_iff_ne]; exact hc
            have hO2 := HO.out.1.count hv HM.out.2.2.2.1 (c - 1)
            have e0' : (w1.setCell ⟨b, 1, none⟩ (.int .i64 (c - 1))).cell? ⟨p, 0, none⟩ = some (.pointer (some ⟨g, 0, none⟩)) := by rw [cell_of_heap hO2.hp]; rfl
            have HO2 := Lib.hid hO2
            clear hO2
            go_wp2_with (at_lookup; refine wpList_lookup_imap rfl _ _ 92 rfl 3 133 .i64 Tryz.underlying92 Tryz.underlying3 _ (zero_known _) m rfl o l hmo1 hmb v1 rfl ?_; rw [hv, Option.getD_some])
            refine (rows_front Sr g 2 s'.L N' 1 v1 _ HO2.out.hR (by have := HH.out.2.2.2.1; have := HS.out.2; omega)).mono ?_
            rintro e w3 ⟨rfl, hR, hF3⟩
            have H3 := Lib.hid (And.intro hR hF3)
            clear hR hF3
            go_wp2
            have hme := meas_main HM.out.2.2.1.1 HM.out.2.2.1.2 (HH.out.1.hR.nodup (by decide)) HM.out.1 HM.out.2.1 (by rw [HM.out.2.2.2.2.1]; omega)
            rw [HM.out.2.2.2.2.1] at hme
            have hz1 : w.heap.size ≤ w1.heap.size := HO.out.2.1.size
            have hz2 : (w1.setCell ⟨b, 1, none⟩ (.int .i64 (c - 1))).heap.size = w1.heap.size := by simp [World.setCell]
            have hz3 := H3.out.2.size
            go_roundg (gk - 1)
            case measure => have := HH.out.2.2.2.2.1; omega
            case rel =>
              refine ⟨moveT s' v1 (c - 1), N' + 1, by have := HH.out.2.2.2.1; have := HH.out.2.2.2.2.1; omega, by have := HH.out.2.2.2.2.1; omega, ⟨⟨g, b1, m, l, o, grow Sr (w1.setCell ⟨b, 1, none⟩ (.int .i64 (c - 1))) w3, Sg, Sk, ?_⟩, moveT_in HH.out.2.1 HM.out.2.2.1.1 HM.out.2.2.1.2 (.inr HM.out.1) (by omega)⟩, ?_, ?_, ?_⟩
              · have e : moveT s' v1 (c - 1) = { { s' with K := setK s'.K v1 (some (hh, c - 1)) } with L := frontL 2 s'.L 1 v1 } := by unfold moveT; rw [HM.out.2.2.2.2.2.1]
                rw [e]
                exact (HO2.out.rows H3.out.1 H3.out.2).mono fun k _ q => grow_grow (a := w) (b := w1.setCell ⟨b, 1, none⟩ (.int .i64 (c - 1))) (by omega) hz3 (q.imp (fun q => q.imp (fun q => q) (fun q => by rw [hz2]; exact q)) (fun q => q))
              · refine (HO.out.2.1.setCell (p := ⟨b, 1, none⟩) (fun hb => ?_) _).trans H3.out.2 (fun k hk q => ?_)
                · exact (HO.out.1.hSk b HM.out.2.2.2.2.2.2).elim (fun q => q) (fun q => by have : b < w.heap.size := hb; omega)
                · exact (HO.out.1.hSr k q).elim (fun q => q) (fun q => by omega)
              · rw [← HH.out.2.2.2.2.2.1, show gk - 1 + 1 = gk from by have := HH.out.2.2.2.2.1; omega]
                conv => rhs; unfold vicF
                rw [if_neg (by rw [HSF.out]; decide), if_pos (by rw [HN.out.2.1]; exact h1), HN.out.2.2.2.1, HM.out.2.2.2.2.1, if_neg hc]
              · have hpb : p ≠ b := fun e => HO.out.1.dp.2.2 (by rw [e]; exact HM.out.2.2.2.2.2.2)
                exact (H3.out.2.block p (by rw [hz2]; exact lt_of_heap HO.out.1.hp) HO.out.1.dp.1).trans ((heap_setCell_other (p := ⟨b, 1, none⟩) hpb _).trans HO.out.2.2)
        · obtain rfl : n1 = 0 := by omega
          clear hid
          go_wp2_with (go_at_call 83; refine HL.out.2.1.mono ?_; rintro e w1 ⟨rfl, rfl⟩)
          try rw [Exit.noGoto_ret]
          go_ret
          have hvic : vicT s = (s', -1) := by
            rw [← HH.out.2.2.2.2.2.1]
            unfold vicF
            rw [if_neg (by rw [HSF.out]; decide), if_neg (by rw [HN.out.2.1]; decide)]
          rw [hvic]
          exact ⟨rfl, ThAt.more ⟨⟨_, _, _, _, _, _, _, _, HH.out.1⟩, HH.out.2.1⟩ (by have := HH.out.2.2.2.1; omega) (Nat.le_refl _), HH.out.2.2.1, HH.out.2.2.2.2.2.2⟩
      · -- small
        have hsf : smallB s' = true := HN.out.2.2.2.2.2
        have HSF := Lib.hid hsf
        have h00 : 0 < n0 := by
          have := HN.out.2.2.2.2.1
          exact (of_decide_eq_true this.symm).1
        clear hsf
        have hm : v0 ∈ s'.L 0 := by
          rw [← HN.out.2.2.1]
          exact lastOf_mem (fun e => by have := HN.out.1; rw [e] at this; simp at this; omega)
        have hno : v0 ∉ s'.L 1 := fun q => by have := HH.out.1.hR.disj (r := 0) (s := 1) (by decide) (by decide) hm q; omega
        have hw := hid 0 v0 (by decide) hm
        obtain ⟨b, hh, c, hk, hv, hb, hSk⟩ : ∃ b hh c, s'.K v0 = some (hh, c) ∧ aget l v0 = some (.pointer (some ⟨b, 0, none⟩)) ∧ wz.heap[b]? = some (knownB hh c) ∧ Sk b := by
          rcases HH.out.1.find v0 with ⟨q, _⟩ | q
          · have := (HH.out.2.1.in_ v0).2 (.inl hm)
            rw [q] at this; cases this
          · exact q
        have hcn : countT s' v0 = c := by unfold countT; rw [hk]
        have hcb := HH.out.2.1.cnt v0 hh c hk
        have hnum : numT s' v0 = hh := by unfold numT; rw [hk]
        have HM := Lib.hid (And.intro hm (And.intro hno (And.intro hw (And.intro hk (And.intro hcn (And.intro hnum hSk))))))
        clear hm hno hw hk hcn hnum hid hSk
        go_wp2_with fail
        refine HL.out.2.2.1.mono ?_
        rintro e w1 ⟨rfl, q1, hq1⟩
        have e0 : w1.cell? ⟨p, 0, none⟩ = some (.pointer (some ⟨g, 0, none⟩)) := by rw [hq1]; exact c0
        have e3 : w1.cell? ⟨p, 3, none⟩ = some (.map (some m)) := by rw [hq1]; exact c3
        have hb1 : w1.heap[b]? = some (knownB hh c) := by rw [hq1]; exact hb
        have hmo1 : w1.heap[m]? = some o := by rw [hq1]; exact hmo
        have d1 := cell_of_heap hb1 1
        have f1 := fro_of_heap hb1 1
        simp at d1
        have hO1 : ThO w1 (grow S w w1) p s' N' M g b1 m l o Sr Sg Sk := by rw [hq1]; exact HH.out.1.frame (Nat.le_refl _) fun _ _ _ => rfl
        have hF1 : Fr S w w1 := by rw [hq1]; exact HH.out.2.2.1.drewN _
        have hpp1 : w1.heap[p]? = w.heap[p]? := by rw [hq1]; exact HH.out.2.2.2.2.2.2
        have HO := Lib.hid (And.intro hO1 (And.intro hF1 hpp1))
        clear hO1 hF1 hpp1 hq1 hb hb1 hmo c0 c2 c3
        by_cases hc : c < 2
        · have hcd : decide (c < 2) = true := decide_eq_true hc
          go_wp2_with (at_lookup; refine wpList_lookup_imap rfl _ _ 92 rfl 3 133 .i64 Tryz.underlying92 Tryz.underlying3 _ (zero_known _) m rfl o l hmo1 hmb v0 rfl ?_; rw [hv, Option.getD_some])
          go_wp2
          try rw [Exit.noGoto_ret]
          go_ret
          have hvic : vicT s = (s', v0) := by
            rw [← HH.out.2.2.2.2.2.1]
            unfold vicF
            rw [if_pos HSF.out, HN.out.2.2.1, HM.out.2.2.2.2.1, if_pos hc]
          rw [hvic]
          exact ⟨rfl, ThAt.more ⟨⟨_, _, _, _, _, _, _, _, HO.out.1⟩, HH.out.2.1⟩ (by have := HH.out.2.2.2.1; omega) (Nat.le_refl _), HO.out.2.1, HO.out.2.2⟩
        · have hcd : decide (c < 2) = false := decide_eq_false hc
          have hO2 := HO.out.1.count hv HM.out.2.2.2.1 (0)
          have e0' : (w1.setCell ⟨b, 1, none⟩ (.int .i64 (0))).cell? ⟨p, 0, none⟩ = some (.pointer (some ⟨g, 0, none⟩)) := by rw [cell_of_heap hO2.hp]; rfl
          have HO2 := Lib.hid hO2
          clear hO2
          go_wp2_with (at_lookup; refine wpList_lookup_imap rfl _ _ 92 rfl 3 133 .i64 Tryz.underlying92 Tryz.underlying3 _ (zero_known _) m rfl o l hmo1 hmb v0 rfl ?_; rw [hv, Option.getD_some])
          refine (rows_front Sr g 2 s'.L N' 1 v0 _ HO2.out.hR (by have := HH.out.2.2.2.1; have := HS.out.2; omega)).mono ?_
          rintro e w3 ⟨rfl, hR, hF3⟩
          have H3 := Lib.hid (And.intro hR hF3)
          clear hR hF3
          go_wp2
          have hme := meas_small HM.out.2.2.1.1 HM.out.2.2.1.2 (HH.out.1.hR.nodup (by decide)) HM.out.1 HM.out.2.1
          have hz1 : w.heap.size ≤ w1.heap.size := HO.out.2.1.size
          have hz2 : (w1.setCell ⟨b, 1, none⟩ (.int .i64 (0))).heap.size = w1.heap.size := by simp [World.setCell]
          have hz3 := H3.out.2.size
          go_roundg (gk - 1)
          case measure => have := HH.out.2.2.2.2.1; omega
          case rel =>
            refine ⟨moveT s' v0 (0), N' + 1, by have := HH.out.2.2.2.1; have := HH.out.2.2.2.2.1; omega, by have := HH.out.2.2.2.2.1; omega, ⟨⟨g, b1, m, l, o, grow Sr (w1.setCell ⟨b, 1, none⟩ (.int .i64 0)) w3, Sg, Sk, ?_⟩, moveT_in HH.out.2.1 HM.out.2.2.1.1 HM.out.2.2.1.2 (.inl HM.out.1) (by omega)⟩, ?_, ?_, ?_⟩
            · have e : moveT s' v0 (0) = { { s' with K := setK s'.K v0 (some (hh, 0)) } with L := frontL 2 s'.L 1 v0 } := by unfold moveT; rw [HM.out.2.2.2.2.2.1]
              rw [e]
              exact (HO2.out.rows H3.out.1 H3.out.2).mono fun k _ q => grow_grow (a := w) (b := w1.setCell ⟨b, 1, none⟩ (.int .i64 (0))) (by omega) hz3 (q.imp (fun q => q.imp (fun q => q) (fun q => by rw [hz2]; exact q)) (fun q => q))
            · refine (HO.out.2.1.setCell (p := ⟨b, 1, none⟩) (fun hb => ?_) _).trans H3.out.2 (fun k hk q => ?_)
              · exact (HO.out.1.hSk b HM.out.2.2.2.2.2.2).elim (fun q => q) (fun q => by have : b < w.heap.size := hb; omega)
              · exact (HO.out.1.hSr k q).elim (fun q => q) (fun q => by omega)
            · rw [← HH.out.2.2.2.2.2.1, show gk - 1 + 1 = gk from by have := HH.out.2.2.2.2.1; omega]
              conv => rhs; unfold vicF
              rw [if_pos HSF.out, HN.out.2.2.1, HM.out.2.2.2.2.1, if_neg (show ¬ c < 2 by omega)]
            · have hpb : p ≠ b := fun e => HO.out.1.dp.2.2 (by rw [e]; exact HM.out.2.2.2.2.2.2)
              exact (H3.out.2.block p (by rw [hz2]; exact lt_of_heap HO.out.1.hp) HO.out.1.dp.1).trans ((heap_setCell_other (p := ⟨b, 1, none⟩) hpb _).trans HO.out.2.2)
end Go.Proofs.YtgdlndpjfejmcaaGreat.Thr
/- Layer 14 (sthree) in blocks of its own: what each call does, to be taken one by one. -/
namespace Go.Proofs.YtgdlndpjfejmcaaGreat.Thr
open Go.RowKit
set_option linter.unusedVariables false
set_option maxRecDepth 100000
def TH (p : Nat) (s : ThS) (N M : Nat) (w : World) (S : Nat → Prop) : Prop := ThAt w S p s N M
section
variable {w0 w w' : World} {S : Nat → Prop} {p : Nat} {s : ThS} {N N' M M' : Nat}
theorem th_drewN (h : Sep (TH p s N M) w0 w S) (k : Nat) : Sep (TH p s N M) w0 (w.drewN k) S := ⟨ThAt.frame h.at_ (Nat.le_refl _) fun _ _ _ => rfl, h.fr.drewN k, h.lo, h.hi⟩
theorem th_drew (h : Sep (TH p s N M) w0 w S) : Sep (TH p s N M) w0 w.drew S := ⟨ThAt.frame h.at_ (Nat.le_refl _) fun _ _ _ => rfl, h.fr.drew, h.lo, h.hi⟩
theorem th_keep (h : Sep (TH p s N M) w0 w S) {F : Nat → Prop} (hF : Fr F w w') (hd : ∀ b, b < w.heap.size → S b → ¬ F b) (h0 : ∀ b, b < w0.heap.size → ¬ F b) : Sep (TH p s N M) w0 w' S :=
  h.keep hF hd h0 (fun hA hf => ThAt.frame hA hF.size hf)
theorem th_below (h : Sep (TH p s N M) w0 w S) (hB : Below w.heap.size w w') : Sep (TH p s N M) w0 w' S :=
  th_keep h (Fr.of_below hB) (fun b hb _ => by omega) (fun b hb => by have := h.fr.size; omega)
theorem th_alloc (h : Sep (TH p s N M) w0 w S) (o : Obj) : Sep (TH p s N M) w0 (w.alloc o) S := th_below h (((Fr.refl (fun _ => False) w).alloc o).belowAll)
theorem th_more (h : Sep (TH p s N M) w0 w S) (hN : N ≤ N') (hM : M ≤ M') : Sep (TH p s N' M') w0 w S := h.as (fun hA => ThAt.more hA hN hM)
theorem new_th (hF : Fr (From w0.heap.size) w0 w) :
    Calls Tryz.prog 26 #[] w fun e w' => ∃ p S, e = .returned (.pointer (some ⟨p, 0, none⟩)) ∧ Sep (TH p th0 0 0) w0 w' S ∧ (∀ b, S b → w.heap.size ≤ b) ∧ Fr (fun _ => False) w w' :=
  (th_new w).mono fun e w' ⟨p, he, hA, hG⟩ => ⟨p, _, he, Sep.new hF hA (fun b q => q) hG, fun b q => q.1, hG⟩
theorem cap_th (h : Sep (TH p s N M) w0 w S) (n : Int) (hM : M ≤ 1000000) :
    Calls Tryz.prog 118 #[.pointer (some ⟨p, 0, none⟩), .int .i64 n] w fun e w' => e = .returned (.tuple #[]) ∧ Sep (TH p (capT s n) N M) w0 w' (grow S w w') ∧ Fr S w w' :=
  (Go.Proofs.YtgdlndpjfejmcaaGreat.Thr.th_cap S p s N M n w h.at_ hM).mono fun e w' ⟨he, hA, hF⟩ => ⟨he, h.next hA hF, hF⟩
theorem insert_th (h : Sep (TH p s N M) w0 w S) (id hh : Int) (hN : N < 1000000) (hM : M ≤ 1000000) :
    Calls Tryz.prog 120 #[.pointer (some ⟨p, 0, none⟩), .int .i64 id, .int .u64 hh] w fun e w' => e = .returned (.bool (inOk s id)) ∧ Sep (TH p (inT s id hh) (N + 1) M) w0 w' (grow S w w') ∧ Fr S w w' :=
  (th_insert S p s N M id hh w h.at_ hN hM).mono fun e w' ⟨he, hA, hF⟩ => ⟨he, h.next hA hF, hF⟩
theorem touch_th (h : Sep (TH p s N M) w0 w S) (id : Int) :
    Calls Tryz.prog 122 #[.pointer (some ⟨p, 0, none⟩), .int .i64 id] w fun e w' => e = .returned (.bool (s.K id).isSome) ∧ Sep (TH p (touchT s id) N M) w0 w' (grow S w w') ∧ Fr S w w' :=
  (th_touch S p s N M id w h.at_).mono fun e w' ⟨he, hA, hF, _⟩ => ⟨he, h.next (ThAt.mono hA fun b _ q => Or.inl q) hF, hF⟩
theorem remove_th (h : Sep (TH p s N M) w0 w S) (id : Int) (hN : N ≤ 1000000) :
    Calls Tryz.prog 121 #[.pointer (some ⟨p, 0, none⟩), .int .i64 id] w fun e w' => e = .returned (.bool (decide (0 ≤ rowOf 2 s.L id))) ∧ Sep (TH p (remT s id) N M) w0 w' (grow S w w') ∧ Fr S w w' :=
  (th_remove S p s N M id w h.at_ hN).mono fun e w' ⟨he, hA, hF⟩ => ⟨he, h.next hA hF, hF⟩
theorem evict_th (h : Sep (TH p s N M) w0 w S) (id : Int) (hN : N ≤ 1000000) (hM : M < 1000000) :
    Calls Tryz.prog 119 #[.pointer (some ⟨p, 0, none⟩), .int .i64 id] w fun e w' => e = .returned (.bool (decide (0 ≤ rowOf 2 s.L id))) ∧ Sep (TH p (evT s id) N (M + 1)) w0 w' (grow S w w') ∧ Fr S w w' :=
  (th_evict S p s N M id w h.at_ hN hM).mono fun e w' ⟨he, hA, hF⟩ => ⟨he, h.next hA hF, hF⟩
theorem victim_th (h : Sep (TH p s N M) w0 w S) (hN : N + measT s < 1000000) :
    Calls Tryz.prog 123 #[.pointer (some ⟨p, 0, none⟩)] w fun e w' => e = .returned (.int .i64 (vicT s).2) ∧ Sep (TH p (vicT s).1 (N + measT s) M) w0 w' (grow S w w') ∧ Fr S w w' :=
  (th_victim S p s N M w h.at_ hN).mono fun e w' ⟨he, hA, hF, _⟩ => ⟨he, h.next hA hF, hF⟩
theorem victim_th' (h : Sep (TH p s N M) w0 w S) (hN : N + measT s < 1000000) :
    Calls Tryz.prog 123 #[.pointer (some ⟨p, 0, none⟩)] w fun e w' => e = .returned (.int .i64 (vicT s).2) ∧ Sep (TH p (vicT s).1 (N + measT s) M) w0 w' (grow S w w') ∧ Fr S w w' ∧ w'.cell? ⟨p, 0, none⟩ = w.cell? ⟨p, 0, none⟩ :=
  (th_victim S p s N M w h.at_ hN).mono fun e w' ⟨he, hA, hF, hp⟩ => ⟨he, h.next hA hF, hF, World.cell?_of_block (w := w) hp⟩
theorem th_rows (h : Sep (TH p s N M) w0 w S) : (∀ r, r < 2 → (s.L r).Nodup) ∧ (∀ r q, r < 2 → q < 2 → ∀ x, x ∈ s.L r → x ∈ s.L q → q = r) ∧ (∀ r, (s.L r).length ≤ N) ∧ (∀ r, 2 ≤ r → s.L r = []) ∧ (∀ r x, r < 2 → x ∈ s.L r → 0 ≤ x ∧ x ≤ 4194303) ∧ ThIn s := by
  obtain ⟨⟨g, b1, m, l, o, Sr, Sg, Sk, hO⟩, hi⟩ := h.at_
  have hR := hO.hR
  exact ⟨fun r hr => hR.nodup hr, fun r s hr hs x h1 h2 => hR.disj hr hs h1 h2, hR.len_le, fun r hr => hR.nil hr, fun r x hr hx => hR.range hr hx, hi⟩
end
end Go.Proofs.YtgdlndpjfejmcaaGreat.Thr
/- Layer 14 (sthree): what each call turns, case by case. -/
namespace Go.Proofs.YtgdlndpjfejmcaaGreat.Thr
open Go.RowKit
set_option linter.unusedVariables false
set_option maxRecDepth 100000
theorem inOk_new {s : ThS} {id : Int} (hk : s.K id = none) (hid : 0 ≤ id ∧ id ≤ 4194303) : inOk s id = true := decide_eq_true ⟨hk, hid⟩
theorem inOk_old {s : ThS} {id : Int} (hk : s.K id ≠ none) : inOk s id = false := decide_eq_false (fun q => hk q.1)
theorem inT_no {s : ThS} {id h : Int} (hn : inOk s id = false) : inT s id h = s := by unfold inT; rw [if_neg (by rw [hn]; decide)]
theorem inT_new {s : ThS} {id : Int} (hk : s.K id = none) (hid : 0 ≤ id ∧ id ≤ 4194303) (h : Int) : inT s id h = { s with B := grem s.B h, K := setK s.K id (some (h, 0)), L := putF (del s.L id) (inR s h).toNat id } := by
  unfold inT
  rw [if_pos (inOk_new hk hid), front2 _ _ _ (by unfold inR; split <;> simp) hid.1 hid.2]
theorem inR_no {s : ThS} {h : Int} (hn : h ∉ s.B) : inR s h = 0 := if_neg hn
theorem inR_yes {s : ThS} {h : Int} (hn : h ∈ s.B) : inR s h = 1 := if_pos hn
theorem evT_0 {s : ThS} {id : Int} (h0 : id ∈ s.L 0) : evT s id = { s with B := gadd s.mB s.B (numT s id), L := del s.L id, K := setK s.K id none } := by
  unfold evT remT
  rw [if_pos (by rw [rowOf2, if_pos h0])]
theorem evT_1 {s : ThS} {id : Int} (h0 : id ∉ s.L 0) : evT s id = { s with L := del s.L id, K := setK s.K id none } := by
  unfold evT remT
  rw [if_neg (by rw [rowOf2, if_neg h0]; split <;> simp)]
theorem touchT_some {s : ThS} {id h c : Int} (hk : s.K id = some (h, c)) : touchT s id = { s with K := setK s.K id (some (h, min (c + 1) 3)) } := by unfold touchT; rw [hk]
theorem touchT_none {s : ThS} {id : Int} (hk : s.K id = none) : touchT s id = s := by unfold touchT; rw [hk]
theorem countT_some {s : ThS} {id h c : Int} (hk : s.K id = some (h, c)) : countT s id = c := by unfold countT; rw [hk]
theorem countT_none {s : ThS} {id : Int} (hk : s.K id = none) : countT s id = -1 := by unfold countT; rw [hk]
theorem numT_some {s : ThS} {id h c : Int} (hk : s.K id = some (h, c)) : numT s id = h := by unfold numT; rw [hk]
theorem vic_small {s : ThS} (hb : smallB s = true) (hc : countT s (lastOf (s.L 0)) < 2) : vicT s = (s, lastOf (s.L 0)) := by
  unfold vicT vicF
  rw [if_pos hb, if_pos hc]
theorem vic_main {s : ThS} (hb : smallB s = false) (h1 : 0 < (s.L 1).length) (hc : countT s (lastOf (s.L 1)) = 0) : vicT s = (s, lastOf (s.L 1)) := by
  unfold vicT vicF
  rw [if_neg (by rw [hb]; decide), if_pos h1, if_pos hc]
theorem vic_none {s : ThS} (h0 : s.L 0 = []) (h1 : s.L 1 = []) : vicT s = (s, -1) := by
  unfold vicT vicF
  rw [if_neg (by unfold smallB; rw [h0]; simp), if_neg (by rw [h1]; simp)]
end Go.Proofs.YtgdlndpjfejmcaaGreat.Thr
/- Layer 14 (sthree): what looking for who is to go leaves. -/
namespace Go.Proofs.YtgdlndpjfejmcaaGreat.Thr
open Go.RowKit
set_option linter.unusedVariables false
set_option maxRecDepth 100000
structure Gd (s : ThS) : Prop where
  in_ : ThIn s
  w : Wid s.L
  n0 : (s.L 0).Nodup
  n1 : (s.L 1).Nodup
  dj : ∀ x, x ∈ s.L 0 → x ∉ s.L 1
theorem th_gd {w0 w : World} {S : Nat → Prop} {p : Nat} {s : ThS} {N M : Nat} (h : Sep (TH p s N M) w0 w S) : Gd s := by
  obtain ⟨h1, h2, _, _, h5, h6⟩ := th_rows h
  exact ⟨h6, h5, h1 0 (by decide), h1 1 (by decide), fun x q0 q1 => by have := h2 0 1 (by decide) (by decide) x q0 q1; omega⟩
def totT (s : ThS) : Nat := (s.L 0).length + (s.L 1).length
theorem Gd.move {s : ThS} (h : Gd s) {id c' : Int} (hm : id ∈ s.L 0 ∨ id ∈ s.L 1) (hc : 0 ≤ c' ∧ c' ≤ 3) : Gd (moveT s id c') ∧ totT (moveT s id c') = totT s := by
  have hid : 0 ≤ id ∧ id ≤ 4194303 := hm.elim (h.w 0 id (by decide)) (h.w 1 id (by decide))
  obtain ⟨l0, l1⟩ := moveT_L (s := s) (id := id) (c' := c') hid.1 hid.2
  refine ⟨⟨moveT_in h.in_ hid.1 hid.2 hm hc, fun r x hr hx => ?_, ?_, ?_, ?_⟩, ?_⟩
  · match r, hr, hx with
    | 0, _, hx => rw [l0] at hx; exact h.w 0 x (by decide) (List.mem_filter.1 hx).1
    | 1, _, hx =>
      rw [l1] at hx
      rcases List.mem_cons.1 hx with q | q
      · rw [q]; exact hid
      · exact h.w 1 x (by decide) (List.mem_filter.1 q).1
  · rw [l0]; exact h.n0.filter _
  · rw [l1]; exact List.nodup_cons.2 ⟨fun q => by have := (List.mem_filter.1 q).2; simp at this, h.n1.filter _⟩
  · intro x q0 q1
    rw [l0] at q0
    rw [l1] at q1
    obtain ⟨m0, e0⟩ := List.mem_filter.1 q0
    rcases List.mem_cons.1 q1 with q | q
    · rw [q] at e0; simp at e0
    · exact h.dj x m0 (List.mem_filter.1 q).1
  · unfold totT
    rw [l0, l1, List.length_cons]
    by_cases m0 : id ∈ s.L 0
    · have := len_take h.n0 m0
      have := List.length_pos_of_mem m0
      rw [filter_no (h.dj id m0)]
      omega
    · have m1 := hm.resolve_left m0
      have := len_take h.n1 m1
      have := List.length_pos_of_mem m1
      rw [filter_no m0]
      omega
theorem sum_le {f : Int → Nat} {k : Nat} : ∀ {l : List Int}, (∀ x ∈ l, f x ≤ k) → (l.map f).sum ≤ k * l.length
  | [], _ => by simp
  | y :: l, h => by
    have h1 := h y (by simp)
    have h2 := sum_le (l := l) (fun x hx => h x (by simp [hx]))
    rw [List.map_cons, List.sum_cons, List.length_cons, Nat.mul_add]
    omega
theorem countT_le {s : ThS} (h : ThIn s) (x : Int) : -1 ≤ countT s x ∧ countT s x ≤ 3 := by
  unfold countT
  rcases e : s.K x with _ | ⟨hh, c⟩
  · simp
  · have := h.cnt x hh c e
    simp; omega
theorem countT_in {s : ThS} (h : ThIn s) {x : Int} (hx : x ∈ s.L 0 ∨ x ∈ s.L 1) : 0 ≤ countT s x := by
  have := (h.in_ x).2 hx
  unfold countT
  rcases e : s.K x with _ | ⟨hh, c⟩
  · rw [e] at this; cases this
  · have := h.cnt x hh c e
    simp; omega
theorem meas_le {s : ThS} (h : ThIn s) : measT s ≤ 3 * totT s := by
  unfold measT totT
  have := sum_le (f := fun x => (countT s x).toNat) (k := 3) (l := s.L 1) (fun x _ => by have := countT_le h x; show (countT s x).toNat ≤ 3; omega)
  omega
/-- Who is told is there, is told again, and is asked for no more than once. -/
structure Told (s : ThS) (r : ThS × Int) : Prop where
  gd : Gd r.1
  tot : totT r.1 = totT s
  none : totT s = 0 → r.2 = -1
  there : 0 < totT s → (r.2 ∈ r.1.L 0 ∨ r.2 ∈ r.1.L 1) ∧ (countT r.1 r.2 = 0 ∨ countT r.1 r.2 = 1)
  again : ∀ m, 0 < m → vicF m r.1 = r
theorem last_in {l : List Int} (h : 0 < l.length) : lastOf l ∈ l := lastOf_mem (fun e => by rw [e] at h; simp at h)
theorem vicF_told : ∀ (n : Nat) (s : ThS), Gd s → measT s < n → Told s (vicF n s)
  | 0, s, _, h => absurd h (Nat.not_lt_zero _)
  | n + 1, s, hg, hm => by
    rcases hb : smallB s with _ | _
    · by_cases h1 : 0 < (s.L 1).length
      · have hx := last_in h1
        by_cases hc : countT s (lastOf (s.L 1)) = 0
        · have e : ∀ m, 0 < m → vicF m s = (s, lastOf (s.L 1)) := fun m hm => by
            obtain ⟨k, rfl⟩ : ∃ k, m = k + 1 := ⟨m - 1, by omega⟩
            unfold vicF
            rw [if_neg (by rw [hb]; decide), if_pos h1, if_pos hc]
          rw [e _ (by omega)]
          exact ⟨hg, rfl, fun q => by unfold totT at q; omega, fun _ => ⟨.inr hx, .inl hc⟩, e⟩
        · have hp : 0 < countT s (lastOf (s.L 1)) := by have := countT_in hg.in_ (.inr hx); omega
          have hw := hg.w 1 _ (by decide) hx
          have h3 := (countT_le hg.in_ (lastOf (s.L 1))).2
          have hmv := hg.move (.inr hx) (c' := countT s (lastOf (s.L 1)) - 1) (by omega)
          have hme := meas_main hw.1 hw.2 hg.n1 hx (fun q => hg.dj _ q hx) hp
          have ih := vicF_told n _ hmv.1 (by omega)
          have e : vicF (n + 1) s = vicF n (moveT s (lastOf (s.L 1)) (countT s (lastOf (s.L 1)) - 1)) := by
            rw [vicF]
            rw [if_neg (by rw [hb]; decide), if_pos h1, if_neg hc]
          rw [e]
          exact ⟨ih.gd, ih.tot.trans hmv.2, fun q => ih.none (hmv.2.trans q), fun q => ih.there (by rw [hmv.2]; exact q), ih.again⟩
      · have h0 : (s.L 0).length = 0 := by
          have := of_decide_eq_false hb
          omega
        have e : ∀ m, 0 < m → vicF m s = (s, -1) := fun m hm => by
          obtain ⟨k, rfl⟩ : ∃ k, m = k + 1 := ⟨m - 1, by omega⟩
          unfold vicF
          rw [if_neg (by rw [hb]; decide), if_neg h1]
        rw [e _ (by omega)]
        exact ⟨hg, rfl, fun _ => rfl, fun q => by unfold totT at q; omega, e⟩
    · have h0 := (of_decide_eq_true hb).1
      have hx := last_in h0
      by_cases hc : countT s (lastOf (s.L 0)) < 2
      · have e : ∀ m, 0 < m → vicF m s = (s, lastOf (s.L 0)) := fun m hm => by
          obtain ⟨k, rfl⟩ : ∃ k, m = k + 1 := ⟨m - 1, by omega⟩
          unfold vicF
          rw [if_pos hb, if_pos hc]
        rw [e _ (by omega)]
        exact ⟨hg, rfl, fun q => by unfold totT at q; omega, fun _ => ⟨.inl hx, by have := countT_in hg.in_ (.inl hx); show countT s (lastOf (s.L 0)) = 0 ∨ countT s (lastOf (s.L 0)) = 1; omega⟩, e⟩
      · have hw := hg.w 0 _ (by decide) hx
        have hmv := hg.move (.inl hx) (c' := 0) (by omega)
        have hme := meas_small hw.1 hw.2 hg.n0 hx (hg.dj _ hx)
        have ih := vicF_told n _ hmv.1 (by omega)
        have e : vicF (n + 1) s = vicF n (moveT s (lastOf (s.L 0)) 0) := by
          rw [vicF]
          rw [if_pos hb, if_neg hc]
        rw [e]
        exact ⟨ih.gd, ih.tot.trans hmv.2, fun q => ih.none (hmv.2.trans q), fun q => ih.there (by rw [hmv.2]; exact q), ih.again⟩
theorem vicT_told {s : ThS} (h : Gd s) : Told s (vicT s) := vicF_told _ s h (Nat.lt_succ_self _)
theorem vicT_again {s : ThS} (h : Gd s) : vicT (vicT s).1 = vicT s := (vicT_told h).again _ (by omega)
theorem tot_in {s : ThS} (h : Gd s) {id : Int} (hh : Int) (hid : 0 ≤ id ∧ id ≤ 4194303) : totT (inT s id hh) = totT s + if inOk s id then 1 else 0 := by
  rcases ho : inOk s id with _ | _
  · rw [inT_no ho]; rfl
  · have hk := (of_decide_eq_true ho).1
    have hno : ¬ (id ∈ s.L 0 ∨ id ∈ s.L 1) := fun q => by have := (h.in_.in_ id).2 q; rw [hk] at this; cases this
    rw [inT_new hk hid]
    have e0 : (s.L 0).filter (· != id) = s.L 0 := filter_no fun q => hno (.inl q)
    have e1 : (s.L 1).filter (· != id) = s.L 1 := filter_no fun q => hno (.inr q)
    unfold totT
    show ((putF (del s.L id) (inR s hh).toNat id) 0).length + ((putF (del s.L id) (inR s hh).toNat id) 1).length = _
    by_cases q : hh ∈ s.B
    · rw [inR_yes q]
      show ((s.L 0).filter (· != id)).length + (id :: (s.L 1).filter (· != id)).length = _
      rw [e0, e1, List.length_cons]; simp; omega
    · rw [inR_no q]
      show (id :: (s.L 0).filter (· != id)).length + ((s.L 1).filter (· != id)).length = _
      rw [e0, e1, List.length_cons]; simp; omega
theorem tot_touch (s : ThS) (id : Int) : totT (touchT s id) = totT s := by
  unfold touchT; split <;> rfl
end Go.Proofs.YtgdlndpjfejmcaaGreat.Thr
