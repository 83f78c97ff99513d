/- Layer 14 (sthree): Victim. -/
import Derived.Test.YtlhiglhhnjljpaaTh3
import Derived.Deep.LoopGhost
import Derived.Deep.DeepCutAuto
namespace Go.Proofs.Ytlhiglhhnjljpaa
open Go.RowKit
set_option linter.unusedVariables false
/-- Is somebody of small to go? -/
def smallB (s : ThS) : Bool := decide (0 < (s.L 0).length ∧ (max 1 (wrap64 (s.most.tdiv 10)) < (s.L 0).length ∨ (s.L 1).length = 0))
/-- An id goes to the front of main, and its count turns. -/
def moveT (s : ThS) (id c' : Int) : ThS := { s with K := setK s.K id (some (numT s id, c')), L := frontL 2 s.L 1 id }
/-- Victim, off memory. -/
def vicF : Nat → ThS → ThS × Int
  | 0, s => (s, -1)
  | n + 1, s =>
    if smallB s then
      (if countT s (lastOf (s.L 0)) < 2 then (s, lastOf (s.L 0)) else vicF n (moveT s (lastOf (s.L 0)) 0))
    else if 0 < (s.L 1).length then
      (if countT s (lastOf (s.L 1)) = 0 then (s, lastOf (s.L 1)) else vicF n (moveT s (lastOf (s.L 1)) (countT s (lastOf (s.L 1)) - 1)))
    else (s, -1)
/-- So many looks at most. -/
def measT (s : ThS) : Nat := (s.L 0).length + ((s.L 1).map fun x => (countT s x).toNat).sum
def vicT (s : ThS) : ThS × Int := vicF (measT s + 1) s
theorem sum_filter (f : Int → Nat) {x : Int} : ∀ {l : List Int}, l.Nodup → x ∈ l → (l.map f).sum = f x + ((l.filter (· != x)).map f).sum
  | [], _, h => by cases h
  | y :: l, hn, h => by
    have hn' := List.nodup_cons.1 hn
    by_cases e : y = x
    · subst e
      rw [List.filter_cons_of_neg (by simp), filter_no hn'.1]
      simp
    · rw [List.filter_cons_of_pos (by simpa using e)]
      rcases List.mem_cons.1 h with q | q
      · exact absurd q.symm e
      · have := sum_filter f hn'.2 q
        simp at this ⊢; omega
theorem countT_move {s : ThS} {id c' : Int} (x : Int) : countT (moveT s id c') x = if x = id then c' else countT s x := by
  unfold countT moveT
  by_cases e : x = id
  · subst e; rw [if_pos rfl]; simp only [setK_same]
  · rw [if_neg e]; simp only [setK_ne e]
theorem moveT_L {s : ThS} {id c' : Int} (h0 : 0 ≤ id) (h1 : id ≤ 4194303) : (moveT s id c').L 0 = (s.L 0).filter (· != id) ∧ (moveT s id c').L 1 = id :: (s.L 1).filter (· != id) := by
  have e : (moveT s id c').L = putF (del s.L id) 1 id := front2 s.L 1 id (.inr rfl) h0 h1
  rw [e]
  exact ⟨rfl, rfl⟩
theorem meas_small {s : ThS} {id : Int} (h0 : 0 ≤ id) (h1 : id ≤ 4194303) (hn : (s.L 0).Nodup) (hm : id ∈ s.L 0) (hno : id ∉ s.L 1) : measT (moveT s id 0) + 1 = measT s := by
  unfold measT
  rw [(moveT_L h0 h1).1, (moveT_L h0 h1).2, filter_no hno, List.map_cons, List.sum_cons, countT_move, if_pos rfl]
  have hl := len_take hn hm
  have hp := List.length_pos_of_mem hm
  have e : ((s.L 1).map fun x => (countT (moveT s id 0) x).toNat) = ((s.L 1).map fun x => (countT s x).toNat) := by
    apply List.map_congr_left
    intro x hx
    rw [countT_move, if_neg (fun e : x = id => hno (by rw [← e]; exact hx))]
  rw [e]
  simp; omega
theorem meas_main {s : ThS} {id : Int} (h0 : 0 ≤ id) (h1 : id ≤ 4194303) (hn : (s.L 1).Nodup) (hm : id ∈ s.L 1) (hno : id ∉ s.L 0) (hc : 0 < countT s id) : measT (moveT s id (countT s id - 1)) + 1 = measT s := by
  unfold measT
  rw [(moveT_L h0 h1).1, (moveT_L h0 h1).2, filter_no hno, List.map_cons, List.sum_cons, countT_move, if_pos rfl, sum_filter _ hn hm]
  have e : (((s.L 1).filter (· != id)).map fun x => (countT (moveT s id (countT s id - 1)) x).toNat) = (((s.L 1).filter (· != id)).map fun x => (countT s x).toNat) := by
    apply List.map_congr_left
    intro x hx
    have := (List.mem_filter.1 hx).2
    rw [countT_move, if_neg (by simpa using this)]
  rw [e]
  omega
theorem moveT_in {s : ThS} {id c' : Int} (hi : ThIn s) (h0 : 0 ≤ id) (h1 : id ≤ 4194303) (hin : id ∈ s.L 0 ∨ id ∈ s.L 1) (hc : 0 ≤ c' ∧ c' ≤ 3) : ThIn (moveT s id c') := by
  refine ⟨fun k => ?_, fun k h c q => ?_⟩
  · show (setK s.K id _ k).isSome = true ↔ (k ∈ frontL 2 s.L 1 id 0 ∨ k ∈ frontL 2 s.L 1 id 1)
    rw [mem_front2 (.inr rfl) h0 h1 k, ← hi.in_ k]
    by_cases e : k = id
    · subst e; rw [setK_same]; simp
    · rw [setK_ne e]; simp [e]
  · have q' : setK s.K id (some (numT s id, c')) k = some (h, c) := q
    by_cases e : k = id
    · subst e; rw [setK_same] at q'; cases q'; exact hc
    · rw [setK_ne e] at q'; exact hi.cnt k h c q'
/-- The relation of the loop: so many looks are left. -/
def VicR (S : Nat → Prop) (p : Nat) (s : ThS) (N M : Nat) (w wr : World) (k : Nat) : Prop :=
  ∃ s' N', N' + k ≤ N + measT s ∧ measT s' ≤ k ∧ ThAt wr (grow S w wr) p s' N' M ∧ Fr S w wr ∧ vicF (k + 1) s' = vicT s ∧ wr.heap[p]? = w.heap[p]?
set_option maxRecDepth 100000 in
set_option maxHeartbeats 4000000 in
theorem th_victim (S : Nat → Prop) (p : Nat) (s : ThS) (N M : Nat) (w : World) (h : ThAt w S p s N M) (hN : N + measT s < 1000000) :
    Calls Try.prog 18 #[.pointer (some ⟨p, 0, none⟩)] w fun e w' => e = .returned (.int .i64 (vicT s).2) ∧ ThAt w' (grow S w w') p (vicT s).1 (N + measT s) M ∧ Fr S w w' ∧ w'.heap[p]? = w.heap[p]? := by
  have hs : VicR S p s N M w w (measT s) := ⟨s, N, Nat.le_refl _, Nat.le_refl _, h.mono fun b _ q => Or.inl q, Fr.refl _ _, rfl, rfl⟩
  have HS := Lib.hid (And.intro hs hN)
  clear h hs hN
  go_enter Try.func18, Try.ntmps18
  go_wp2_with fail
  go_step3
  go_wp2_with fail
  go_step3
  go_wp2_with fail
  go_loopg [3] (measT s) (fun k _ wr => VicR S p s N M w wr k)
  case atStart => exact HS.out.1
  case round =>
    obtain ⟨s', N', hN', hms, ⟨⟨g, b1, m, l, o, Sr, Sg, Sk, h⟩, hi⟩, hF, hv, hpp⟩ := hrel
    have c0 := cell_of_heap h.hp 0
    have c2 := cell_of_heap h.hp 2
    have c3 := cell_of_heap h.hp 3
    simp at c0 c2 c3
    have hmo := h.hmo
    have hmb := h.hmb
    have l0 := rows_len Sr g 2 s'.L N' 0 wr h.hR
    have l1 := rows_len Sr g 2 s'.L N' 1 wr h.hR
    have t0 := rows_last Sr g 2 s'.L N' 0 wr h.hR
    have t1 := rows_last Sr g 2 s'.L N' 1 wr h.hR
    rw [rowL_0] at l0 t0
    rw [rowL_1] at l1 t1
    obtain ⟨n0, hn0⟩ : ∃ n, (s'.L 0).length = n := ⟨_, rfl⟩
    obtain ⟨n1, hn1⟩ : ∃ n, (s'.L 1).length = n := ⟨_, rfl⟩
    obtain ⟨v0, hv0⟩ : ∃ v, lastOf (s'.L 0) = v := ⟨_, rfl⟩
    obtain ⟨v1, hv1⟩ : ∃ v, lastOf (s'.L 1) = v := ⟨_, rfl⟩
    obtain ⟨mo, hmo'⟩ : ∃ v, s'.most = v := ⟨_, rfl⟩
    have hle0 := h.hR.len_le 0
    have hle1 := h.hR.len_le 1
    rw [hn0] at l0 hle0
    rw [hn1] at l1 hle1
    rw [hv0] at t0
    rw [hv1] at t1
    rw [hmo'] at c2
    have hsb : smallB s' = decide (0 < n0 ∧ (max 1 (wrap64 (mo.tdiv 10)) < n0 ∨ n1 = 0)) := by unfold smallB; rw [hn0, hn1, hmo']
    obtain ⟨sb, hsb'⟩ : ∃ b, smallB s' = b := ⟨_, rfl⟩
    rw [hsb'] at hsb
    have HL := Lib.hid (And.intro l0 (And.intro l1 (And.intro t0 t1)))
    have HN := Lib.hid (And.intro hn0 (And.intro hn1 (And.intro hv0 (And.intro hv1 (And.intro hsb hsb')))))
    have HH := Lib.hid (And.intro h (And.intro hi (And.intro hF (And.intro hN' (And.intro hms (And.intro hv hpp))))))
    have hb0 : n0 ≤ 1000000 := by have := HS.out.2; omega
    have hb1 : n1 ≤ 1000000 := by have := HS.out.2; omega
    clear h hi hF hv hpp hN' hms l0 l1 t0 t1 hn0 hn1 hv0 hv1 hsb hsb' hmo' hle0 hle1
    go_upto_region 2 with (go_at_call 38; refine HL.out.1.mono ?_; rintro e w1 ⟨rfl, rfl⟩)
    go_cut [13] (fun c wx => c = .bool sb ∧ wx = wr)
    case first =>
      have HX := Lib.hid HN.out.2.2.2.2.1
      by_cases h0 : 0 < n0
      · by_cases h1 : n1 = 0
        · subst h1
          have h0' : (0 : Int) < n0 := by omega
          go_wp2_with (go_at_call 38; refine HL.out.2.1.mono ?_; rintro e w1 ⟨rfl, rfl⟩)
          all_goals
            go_meet
            exact ⟨congrArg Value.bool (by rw [HX.out]; first | exact (decide_eq_true (by omega)).symm | exact (decide_eq_false (by omega)).symm | exact decide_eq_decide.2 (by omega) | simp [h0]), rfl⟩
        · have h0' : (0 : Int) < n0 := by omega
          have h1' : ((n1 : Int) == 0) = false := by rw [beq_eq_false_iff_ne]; omega
          go_wp2_with (go_at_call 38; refine HL.out.2.1.mono ?_; rintro e w1 ⟨rfl, rfl⟩)
          all_goals
            go_meet
            exact ⟨congrArg Value.bool (by rw [HX.out]; first | exact (decide_eq_true (by omega)).symm | exact (decide_eq_false (by omega)).symm | exact decide_eq_decide.2 (by omega) | simp [h0]), rfl⟩
      · obtain rfl : n0 = 0 := by omega
        go_wp2_with fail
        go_meet
        exact ⟨by rw [HX.out]; simp, rfl⟩
    case rest =>
      obtain ⟨rfl, rfl⟩ := hcut
      obtain ⟨wz, rfl⟩ : ∃ wz : World, wz = wc := ⟨_, rfl⟩
      have hid : ∀ r x, r < 2 → x ∈ s'.L r → 0 ≤ x ∧ x ≤ 4194303 := fun r x hr hx => HH.out.1.hR.range hr hx
      rcases sb with _ | _
      · -- main
        have hsf : smallB s' = false := HN.out.2.2.2.2.2
        have HSF := Lib.hid hsf
        clear hsf
        by_cases h1 : 0 < n1
        · have h1' : (0 : Int) < n1 := by omega
          have hm : v1 ∈ s'.L 1 := by
            rw [← HN.out.2.2.2.1]
            exact lastOf_mem (fun e => by have := HN.out.2.1; rw [e] at this; simp at this; omega)
          have hno : v1 ∉ s'.L 0 := fun q => by have := HH.out.1.hR.disj (r := 1) (s := 0) (by decide) (by decide) hm q; omega
          have hw := hid 1 v1 (by decide) hm
          obtain ⟨b, hh, c, hk, hv, hb, hSk⟩ : ∃ b hh c, s'.K v1 = some (hh, c) ∧ aget l v1 = some (.pointer (some ⟨b, 0, none⟩)) ∧ wz.heap[b]? = some (knownB hh c) ∧ Sk b := by
            rcases HH.out.1.find v1 with ⟨q, _⟩ | q
            · have := (HH.out.2.1.in_ v1).2 (.inr hm)
              rw [q] at this; cases this
            · exact q
          have hcn : countT s' v1 = c := by unfold countT; rw [hk]
          have hcb := HH.out.2.1.cnt v1 hh c hk
          have hnum : numT s' v1 = hh := by unfold numT; rw [hk]
          have HM := Lib.hid (And.intro hm (And.intro hno (And.intro hw (And.intro hk (And.intro hcn (And.intro hnum hSk))))))
          clear hm hno hw hk hcn hnum hid hSk
          go_wp2_with (go_at_call 38; refine HL.out.2.1.mono ?_; rintro e w1 ⟨rfl, rfl⟩)
          refine HL.out.2.2.2.mono ?_
          rintro e w1 ⟨rfl, q1, hq1⟩
          have e0 : w1.cell? ⟨p, 0, none⟩ = some (.pointer (some ⟨g, 0, none⟩)) := by rw [hq1]; exact c0
          have e3 : w1.cell? ⟨p, 3, none⟩ = some (.map (some m)) := by rw [hq1]; exact c3
          have hb1 : w1.heap[b]? = some (knownB hh c) := by rw [hq1]; exact hb
          have hmo1 : w1.heap[m]? = some o := by rw [hq1]; exact hmo
          have d1 := cell_of_heap hb1 1
          have f1 := fro_of_heap hb1 1
          simp at d1
          have hO1 : ThO w1 (grow S w w1) p s' N' M g b1 m l o Sr Sg Sk := by rw [hq1]; exact HH.out.1.frame (Nat.le_refl _) fun _ _ _ => rfl
          have hF1 : Fr S w w1 := by rw [hq1]; exact HH.out.2.2.1.drewN _
          have hpp1 : w1.heap[p]? = w.heap[p]? := by rw [hq1]; exact HH.out.2.2.2.2.2.2
          have HO := Lib.hid (And.intro hO1 (And.intro hF1 hpp1))
          clear hO1 hF1 hpp1 hq1 hb hb1 hmo c0 c2 c3
          by_cases hc : c = 0
          · have hcd : (c == 0) = true := by simpa using hc
            go_wp2_with (at_lookup; refine wpList_lookup_imap rfl _ _ 47 rfl 3 60 .i64 Try.underlying47 Try.underlying3 _ (zero_known _) m rfl o l hmo1 hmb v1 rfl ?_; rw [hv, Option.getD_some])
            go_wp2
            try rw [Exit.noGoto_ret]
            go_ret
            have hvic : vicT s = (s', v1) := by
              rw [← HH.out.2.2.2.2.2.1]
              unfold vicF
              rw [if_neg (by rw [HSF.out]; decide), if_pos (by rw [HN.out.2.1]; exact h1), HN.out.2.2.2.1, HM.out.2.2.2.2.1, if_pos hc]
            rw [hvic]
            exact ⟨rfl, ThAt.more ⟨⟨_, _, _, _, _, _, _, _, HO.out.1⟩, HH.out.2.1⟩ (by have := HH.out.2.2.2.1; omega) (Nat.le_refl _), HO.out.2.1, HO.out.2.2⟩
          · have hcd : (c == 0) = false := by rw [beq_eq_false_iff_ne]; exact hc
            have hO2 := HO.out.1.count hv HM.out.2.2.2.1 (c - 1)
            have e0' : (w1.setCell ⟨b, 1, none⟩ (.int .i64 (c - 1))).cell? ⟨p, 0, none⟩ = some (.pointer (some ⟨g, 0, none⟩)) := by rw [cell_of_heap hO2.hp]; rfl
            have HO2 := Lib.hid hO2
            clear hO2
            go_wp2_with (at_lookup; refine wpList_lookup_imap rfl _ _ 47 rfl 3 60 .i64 Try.underlying47 Try.underlying3 _ (zero_known _) m rfl o l hmo1 hmb v1 rfl ?_; rw [hv, Option.getD_some])
            refine (rows_front Sr g 2 s'.L N' 1 v1 _ HO2.out.hR (by have := HH.out.2.2.2.1; have := HS.out.2; omega)).mono ?_
            rintro e w3 ⟨rfl, hR, hF3⟩
            have H3 := Lib.hid (And.intro hR hF3)
            clear hR hF3
            go_wp2
            have hme := meas_main HM.out.2.2.1.1 HM.out.2.2.1.2 (HH.out.1.hR.nodup (by decide)) HM.out.1 HM.out.2.1 (by rw [HM.out.2.2.2.2.1]; omega)
            rw [HM.out.2.2.2.2.1] at hme
            have hz1 : w.heap.size ≤ w1.heap.size := HO.out.2.1.size
            have hz2 : (w1.setCell ⟨b, 1, none⟩ (.int .i64 (c - 1))).heap.size = w1.heap.size := by simp [World.setCell]
            have hz3 := H3.out.2.size
            go_roundg (gk - 1)
            case measure => have := HH.out.2.2.2.2.1; omega
            case rel =>
              refine ⟨moveT s' v1 (c - 1), N' + 1, by have := HH.out.2.2.2.1; have := HH.out.2.2.2.2.1; omega, by have := HH.out.2.2.2.2.1; omega, ⟨⟨g, b1, m, l, o, grow Sr (w1.setCell ⟨b, 1, none⟩ (.int .i64 (c - 1))) w3, Sg, Sk, ?_⟩, moveT_in HH.out.2.1 HM.out.2.2.1.1 HM.out.2.2.1.2 (.inr HM.out.1) (by omega)⟩, ?_, ?_, ?_⟩
              · have e : moveT s' v1 (c - 1) = { { s' with K := setK s'.K v1 (some (hh, c - 1)) } with L := frontL 2 s'.L 1 v1 } := by unfold moveT; rw [HM.out.2.2.2.2.2.1]
                rw [e]
                exact (HO2.out.rows H3.out.1 H3.out.2).mono fun k _ q => grow_grow (a := w) (b := w1.setCell ⟨b, 1, none⟩ (.int .i64 (c - 1))) (by omega) hz3 (q.imp (fun q => q.imp (fun q => q) (fun q => by rw [hz2]; exact q)) (fun q => q))
              · refine (HO.out.2.1.setCell (p := ⟨b, 1, none⟩) (fun hb => ?_) _).trans H3.out.2 (fun k hk q => ?_)
                · exact (HO.out.1.hSk b HM.out.2.2.2.2.2.2).elim (fun q => q) (fun q => by have : b < w.heap.size := hb; omega)
                · exact (HO.out.1.hSr k q).elim (fun q => q) (fun q => by omega)
              · rw [← HH.out.2.2.2.2.2.1, show gk - 1 + 1 = gk from by have := HH.out.2.2.2.2.1; omega]
                conv => rhs; unfold vicF
                rw [if_neg (by rw [HSF.out]; decide), if_pos (by rw [HN.out.2.1]; exact h1), HN.out.2.2.2.1, HM.out.2.2.2.2.1, if_neg hc]
              · have hpb : p ≠ b := fun e => HO.out.1.dp.2.2 (by rw [e]; exact HM.out.2.2.2.2.2.2)
                exact (H3.out.2.block p (by rw [hz2]; exact lt_of_heap HO.out.1.hp) HO.out.1.dp.1).trans ((heap_setCell_other (p := ⟨b, 1, none⟩) hpb _).trans HO.out.2.2)
        · obtain rfl : n1 = 0 := by omega
          clear hid
          go_wp2_with (go_at_call 38; refine HL.out.2.1.mono ?_; rintro e w1 ⟨rfl, rfl⟩)
          try rw [Exit.noGoto_ret]
          go_ret
          have hvic : vicT s = (s', -1) := by
            rw [← HH.out.2.2.2.2.2.1]
            unfold vicF
            rw [if_neg (by rw [HSF.out]; decide), if_neg (by rw [HN.out.2.1]; decide)]
          rw [hvic]
          exact ⟨rfl, ThAt.more ⟨⟨_, _, _, _, _, _, _, _, HH.out.1⟩, HH.out.2.1⟩ (by have := HH.out.2.2.2.1; omega) (Nat.le_refl _), HH.out.2.2.1, HH.out.2.2.2.2.2.2⟩
      · -- small
        have hsf : smallB s' = true := HN.out.2.2.2.2.2
        have HSF := Lib.hid hsf
        have h00 : 0 < n0 := by
          have := HN.out.2.2.2.2.1
          exact (of_decide_eq_true this.symm).1
        clear hsf
        have hm : v0 ∈ s'.L 0 := by
          rw [← HN.out.2.2.1]
          exact lastOf_mem (fun e => by have := HN.out.1; rw [e] at this; simp at this; omega)
        have hno : v0 ∉ s'.L 1 := fun q => by have := HH.out.1.hR.disj (r := 0) (s := 1) (by decide) (by decide) hm q; omega
        have hw := hid 0 v0 (by decide) hm
        obtain ⟨b, hh, c, hk, hv, hb, hSk⟩ : ∃ b hh c, s'.K v0 = some (hh, c) ∧ aget l v0 = some (.pointer (some ⟨b, 0, none⟩)) ∧ wz.heap[b]? = some (knownB hh c) ∧ Sk b := by
          rcases HH.out.1.find v0 with ⟨q, _⟩ | q
          · have := (HH.out.2.1.in_ v0).2 (.inl hm)
            rw [q] at this; cases this
          · exact q
        have hcn : countT s' v0 = c := by unfold countT; rw [hk]
        have hcb := HH.out.2.1.cnt v0 hh c hk
        have hnum : numT s' v0 = hh := by unfold numT; rw [hk]
        have HM := Lib.hid (And.intro hm (And.intro hno (And.intro hw (And.intro hk (And.intro hcn (And.intro hnum hSk))))))
        clear hm hno hw hk hcn hnum hid hSk
        go_wp2_with fail
        refine HL.out.2.2.1.mono ?_
        rintro e w1 ⟨rfl, q1, hq1⟩
        have e0 : w1.cell? ⟨p, 0, none⟩ = some (.pointer (some ⟨g, 0, none⟩)) := by rw [hq1]; exact c0
        have e3 : w1.cell? ⟨p, 3, none⟩ = some (.map (some m)) := by rw [hq1]; exact c3
        have hb1 : w1.heap[b]? = some (knownB hh c) := by rw [hq1]; exact hb
        have hmo1 : w1.heap[m]? = some o := by rw [hq1]; exact hmo
        have d1 := cell_of_heap hb1 1
        have f1 := fro_of_heap hb1 1
        simp at d1
        have hO1 : ThO w1 (grow S w w1) p s' N' M g b1 m l o Sr Sg Sk := by rw [hq1]; exact HH.out.1.frame (Nat.le_refl _) fun _ _ _ => rfl
        have hF1 : Fr S w w1 := by rw [hq1]; exact HH.out.2.2.1.drewN _
        have hpp1 : w1.heap[p]? = w.heap[p]? := by rw [hq1]; exact HH.out.2.2.2.2.2.2
        have HO := Lib.hid (And.intro hO1 (And.intro hF1 hpp1))
        clear hO1 hF1 hpp1 hq1 hb hb1 hmo c0 c2 c3
        by_cases hc : c < 2
        · have hcd : decide (c < 2) = true := decide_eq_true hc
          go_wp2_with (at_lookup; refine wpList_lookup_imap rfl _ _ 47 rfl 3 60 .i64 Try.underlying47 Try.underlying3 _ (zero_known _) m rfl o l hmo1 hmb v0 rfl ?_; rw [hv, Option.getD_some])
          go_wp2
          try rw [Exit.noGoto_ret]
          go_ret
          have hvic : vicT s = (s', v0) := by
            rw [← HH.out.2.2.2.2.2.1]
            unfold vicF
            rw [if_pos HSF.out, HN.out.2.2.1, HM.out.2.2.2.2.1, if_pos hc]
          rw [hvic]
          exact ⟨rfl, ThAt.more ⟨⟨_, _, _, _, _, _, _, _, HO.out.1⟩, HH.out.2.1⟩ (by have := HH.out.2.2.2.1; omega) (Nat.le_refl _), HO.out.2.1, HO.out.2.2⟩
        · have hcd : decide (c < 2) = false := decide_eq_false hc
          have hO2 := HO.out.1.count hv HM.out.2.2.2.1 (0)
          have e0' : (w1.setCell ⟨b, 1, none⟩ (.int .i64 (0))).cell? ⟨p, 0, none⟩ = some (.pointer (some ⟨g, 0, none⟩)) := by rw [cell_of_heap hO2.hp]; rfl
          have HO2 := Lib.hid hO2
          clear hO2
          go_wp2_with (at_lookup; refine wpList_lookup_imap rfl _ _ 47 rfl 3 60 .i64 Try.underlying47 Try.underlying3 _ (zero_known _) m rfl o l hmo1 hmb v0 rfl ?_; rw [hv, Option.getD_some])
          refine (rows_front Sr g 2 s'.L N' 1 v0 _ HO2.out.hR (by have := HH.out.2.2.2.1; have := HS.out.2; omega)).mono ?_
          rintro e w3 ⟨rfl, hR, hF3⟩
          have H3 := Lib.hid (And.intro hR hF3)
          clear hR hF3
          go_wp2
          have hme := meas_small HM.out.2.2.1.1 HM.out.2.2.1.2 (HH.out.1.hR.nodup (by decide)) HM.out.1 HM.out.2.1
          have hz1 : w.heap.size ≤ w1.heap.size := HO.out.2.1.size
          have hz2 : (w1.setCell ⟨b, 1, none⟩ (.int .i64 (0))).heap.size = w1.heap.size := by simp [World.setCell]
          have hz3 := H3.out.2.size
          go_roundg (gk - 1)
          case measure => have := HH.out.2.2.2.2.1; omega
          case rel =>
            refine ⟨moveT s' v0 (0), N' + 1, by have := HH.out.2.2.2.1; have := HH.out.2.2.2.2.1; omega, by have := HH.out.2.2.2.2.1; omega, ⟨⟨g, b1, m, l, o, grow Sr (w1.setCell ⟨b, 1, none⟩ (.int .i64 0)) w3, Sg, Sk, ?_⟩, moveT_in HH.out.2.1 HM.out.2.2.1.1 HM.out.2.2.1.2 (.inl HM.out.1) (by omega)⟩, ?_, ?_, ?_⟩
            · have e : moveT s' v0 (0) = { { s' with K := setK s'.K v0 (some (hh, 0)) } with L := frontL 2 s'.L 1 v0 } := by unfold moveT; rw [HM.out.2.2.2.2.2.1]
              rw [e]
              exact (HO2.out.rows H3.out.1 H3.out.2).mono fun k _ q => grow_grow (a := w) (b := w1.setCell ⟨b, 1, none⟩ (.int .i64 (0))) (by omega) hz3 (q.imp (fun q => q.imp (fun q => q) (fun q => by rw [hz2]; exact q)) (fun q => q))
            · refine (HO.out.2.1.setCell (p := ⟨b, 1, none⟩) (fun hb => ?_) _).trans H3.out.2 (fun k hk q => ?_)
              · exact (HO.out.1.hSk b HM.out.2.2.2.2.2.2).elim (fun q => q) (fun q => by have : b < w.heap.size := hb; omega)
              · exact (HO.out.1.hSr k q).elim (fun q => q) (fun q => by omega)
            · rw [← HH.out.2.2.2.2.2.1, show gk - 1 + 1 = gk from by have := HH.out.2.2.2.2.1; omega]
              conv => rhs; unfold vicF
              rw [if_pos HSF.out, HN.out.2.2.1, HM.out.2.2.2.2.1, if_neg (show ¬ c < 2 by omega)]
            · have hpb : p ≠ b := fun e => HO.out.1.dp.2.2 (by rw [e]; exact HM.out.2.2.2.2.2.2)
              exact (H3.out.2.block p (by rw [hz2]; exact lt_of_heap HO.out.1.hp) HO.out.1.dp.1).trans ((heap_setCell_other (p := ⟨b, 1, none⟩) hpb _).trans HO.out.2.2)
end Go.Proofs.Ytlhiglhhnjljpaa
