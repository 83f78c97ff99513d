/- The reference of layer 9 (chain): what each call does, two: Set. -/
import Derived.Test.YtnabgcnndehaaaaCrC
import Derived.Deep.RegionLaw
namespace Go.Proofs.Ytnabgcnndehaaaa
open Go.RowKit
set_option linter.unusedVariables false
theorem info_entry : (Try.prog.info? 73).map (fun i => (i.zero, i.size, i.bytes)) = some (some (.agg #[.string ByteArray.empty, .int .i64 0]), 2, 24) := by kernel_rfl
set_option maxRecDepth 100000 in
set_option maxHeartbeats 4000000 in
theorem cr_set (S : Nat → Prop) (u : Nat) (s : ChS) (k : ByteArray) (n : Int) (hk : k.size ≤ 9223372036854775807) (w : World) (h : CrAt w S u s) (hn : -1000000 ≤ s.n ∧ s.n < 1000000) (hl : (home s k).length ≤ 1000000) :
    Calls Try.prog 29 #[.pointer (some ⟨u, 0, none⟩), .string k, .int .i64 n] w fun e w' => e = .returned (.tuple #[]) ∧ CrAt w' (grow S w w') u (setS s k n) ∧ Fr S w w' := by
  obtain ⟨hW, nb, ob, xs, ys, dv, o, h⟩ := h
  obtain ⟨v, hv⟩ := row_of hW h k
  have HR := Lib.hid (cr_row hW h k hk hv)
  obtain ⟨a, cap, hve, hcap, hc⟩ := ent_at hv.2.2.2.2
  subst hve
  have hAt := fun q => cr_at (w := w.drewN q) (Q := fun b => S b ∧ o b = tagK s k) _ (home s k) (hv.2.2.2.2.frame fun _ _ _ => rfl) k hl
  rcases look_split (s := s) (k := k) with ⟨q1, q2, q3⟩ | ⟨pre, n0, suf, q1, q2, q3, q4⟩
  · rw [q3] at hAt
    have HA := Lib.hid hAt
    have hset : setS s k n = growS { put s k ((k, n) :: home s k) with n := s.n + 1 } := by unfold setS; rw [q2]; rfl
    have hnd : (ks ((k, n) :: home s k)).Nodup := List.nodup_cons.2 ⟨q1, home_nodup hW k⟩
    have hW1 := (put_w hW hnd (fun k0 q => (List.mem_cons.1 q).imp (fun q => q) (fun q => q))).setN (s.n + 1)
    rw [hset]
    have HH := Lib.hid (And.intro hW (And.intro h (And.intro hv (And.intro hW1 hl))))
    obtain ⟨ln, hln⟩ : ∃ n, (home s k).length = n := ⟨_, rfl⟩
    rw [hln] at HR HA
    have HLN := Lib.hid hln
    clear h hv hc q1 q2 q3 hAt hW hl hln hcap hset hnd hW1
    go_enter Try.func29, Try.ntmps29
    go_wp2_with fail
    refine HR.out.mono ?_
    rintro e w1 ⟨rfl, q, rfl⟩
    go_wp2_with fail
    refine (HA.out q).mono ?_
    rintro e w1 ⟨rfl, rfl⟩
    obtain ⟨i0, hi, hz0, hz1, hz2⟩ := info_parts' info_entry
    have hbase : Sl ((w.drewN q).alloc (.cells #[.string k, .int .i64 n] 73)) (fun b => w.heap.size ≤ b) 73 2 (.slice (some ⟨w.heap.size, 0, none⟩) 1 1) 1 [.string k, .int .i64 n] :=
      ⟨rfl, Or.inr ⟨w.heap.size, 0, 1, _, rfl, Nat.le_refl _, heap_alloc_new (w.drewN q) _, Nat.le_refl _, by unfold maxLen; omega, Nat.le_refl _, fun i hi => by
        match i, hi with
        | 0, _ => rfl
        | 1, _ => rfl⟩⟩
    have hsrc : Sl ((w.drewN q).alloc (.cells #[.string k, .int .i64 n] 73)) (fun b => S b ∧ o b = tagK s k) 73 2 (.slice a ln cap) ln (ents (home s k)) := by
      have := HH.out.2.2.1.2.2.2.2
      rw [HLN.out] at this
      exact (this.frame (w' := w.drewN q) fun _ _ _ => rfl).alloc _
    have hlnb : ln ≤ 1000000 := by rw [← HLN.out]; exact HH.out.2.2.2.2
    go_wp2_with (at_builtin; go_must (refine wpList_append_from2 rfl _ _ 68 rfl 73 i0 (.agg #[.string ByteArray.empty, .int .i64 0]) 2 24 Try.underlying68 hi hz0 hz1 hz2 rfl (by decide) _ _ _ rfl hbase _ _ _ rfl hsrc ents_one (by unfold maxLen; omega) (by omega) ?_); intro v1 w2 hs1 hf1; obtain ⟨va, vc, rfl, hvc⟩ := Sl.shape hs1; have HS1 := Lib.hid (And.intro hs1 hf1); clear hs1 hf1 hbase hsrc)
    have hFw : Fr (fun b => w.heap.size ≤ b) w w2 := (((Fr.refl _ w).drewN q).alloc _).trans HS1.out.2.arr (fun _ _ q => q)
    have h2 : CrO w2 S u s nb ob xs ys dv o := HH.out.2.1.frame fun b hb _ => hFw.block b hb (by omega)
    refine (cr_put HH.out.1 h2 k hk va (1 + ln) vc).mono ?_
    rintro e w3 ⟨rfl, q2, q3, rfl⟩
    have hnew : Sl (w2.drewN q2) (fun b => w.heap.size ≤ b) 73 2 (.slice va (1 + ln) vc) ((k, n) :: home s k).length (ents ((k, n) :: home s k)) := by
      have h1 := (HS1.out.1.frame (w' := w2.drewN q2) fun _ _ _ => rfl).mono (S' := fun b => w.heap.size ≤ b) fun b _ q => q.elim (fun q => q) (fun q => by have := q.1; simp at this; omega)
      rw [ents_cons, List.length_cons, HLN.out, Nat.add_comm ln 1]
      exact h1
    have hsb : S (slotB s k nb ob) := HH.out.2.2.1.2.2.2.1
    obtain ⟨xs1, ys1, o1, hput⟩ := HH.out.2.1.put_new HH.out.1 k (hFw.drewN q2) hnew
    have hput := hput.frame (w' := ((w2.drewN q2).setCell ⟨slotB s k nb ob, slotI s k, none⟩ (.slice va (1 + ln) vc)).drewN q3) fun _ _ _ => rfl
    have hFr : Fr S w (((w2.drewN q2).setCell ⟨slotB s k nb ob, slotI s k, none⟩ (.slice va (1 + ln) vc)).drewN q3) := ((((hFw.mono fun b hb q => by omega).drewN q2).setCell (fun _ => hsb) _).drewN q3)
    have hgz : (grow S w ((w2.drewN q2).setCell ⟨slotB s k nb ob, slotI s k, none⟩ (.slice va (1 + ln) vc))) = grow S w (((w2.drewN q2).setCell ⟨slotB s k nb ob, slotI s k, none⟩ (.slice va (1 + ln) vc)).drewN q3) := rfl
    rw [hgz] at hput
    obtain ⟨wy, hwy⟩ : ∃ wy, ((w2.drewN q2).setCell ⟨slotB s k nb ob, slotI s k, none⟩ (.slice va (1 + ln) vc)).drewN q3 = wy := ⟨_, rfl⟩
    rw [hwy] at hput hFr ⊢
    obtain ⟨_, _, _, _, _, d5, df, _⟩ := hput.cells
    have df5 := df 5
    rw [(put_g _ _ _).1] at d5
    have hN := hput.setN (s.n + 1)
    have hSu : S u := HH.out.2.1.hSu
    have hFr2 : Fr S w (wy.setCell ⟨u, 5, none⟩ (.int .i64 (s.n + 1))) := hFr.setCell (p := ⟨u, 5, none⟩) (fun _ => hSu) _
    have hz2 : (wy.setCell ⟨u, 5, none⟩ (.int .i64 (s.n + 1))).heap.size = wy.heap.size := by simp [World.setCell]
    have hW1 := HH.out.2.2.2.1
    obtain ⟨s1, hs1⟩ : ∃ s1, ({ put s k ((k, n) :: home s k) with n := s.n + 1 } : ChS) = s1 := ⟨_, rfl⟩
    rw [hs1] at hN hW1
    have HS1E := Lib.hid hs1
    have hn1 : s1.n = s.n + 1 := by rw [← hs1]
    obtain ⟨n1, hn1'⟩ : ∃ x, s.n = x := ⟨_, rfl⟩
    rw [hn1'] at d5 hN hn1 hFr2 hz2 hn
    have hwr : IntKind.i64.wrap (n1 + 1) = n1 + 1 := by rw [IntKind.wrap_i64]; omega
    have HRR := Lib.hid (And.intro hN (And.intro hW1 (And.intro hFr2 (And.intro hz2 hSu))))
    clear hFw h2 hnew hsb hput hFr hgz hwy hN hFr2 hz2 hW1 hs1 hn1' df HS1 HR HA HH HLN hSu
    go_upto_region 6 with fail
    obtain ⟨wz, hwz⟩ : ∃ wz, wy.setCell ⟨u, 5, none⟩ (.int .i64 (n1 + 1)) = wz := ⟨_, rfl⟩
    rw [hwz] at HRR ⊢
    clear d5 df5 hwz hwr
    obtain ⟨c0, c1, c2, c3, c4, c5, fz, hul⟩ := HRR.out.1.cells
    have HFN := Lib.hid (show ∀ nq, CrAt (wz.drewN nq) (grow S w (wz.drewN nq)) u s1 ∧ Fr S w (wz.drewN nq) from fun nq => ⟨⟨HRR.out.2.1, nb, ob, xs1, ys1, dv, o1, CrO.mono (S := grow S w wy) (HRR.out.1.frame fun _ _ _ => rfl) fun b _ q => q.imp (fun q => q) (fun q => ⟨q.1, by have h := HRR.out.2.2.2.1; have h2 := q.2; show b < wz.heap.size; omega⟩)⟩, HRR.out.2.2.1.drewN nq⟩)
    obtain ⟨a1, a2, a3, a4⟩ := two_pw HRR.out.2.1.p2 HRR.out.2.1.p20
    rw [hn1] at c5
    obtain ⟨N, hN⟩ : ∃ N, 2 ^ s1.pw = N := ⟨_, rfl⟩
    obtain ⟨P, hP⟩ : ∃ P, s1.pw = P := ⟨_, rfl⟩
    obtain ⟨g, hg⟩ : ∃ g, s1.g = g := ⟨_, rfl⟩
    have HP := Lib.hid (And.intro hN (And.intro hP (And.intro hg hn1)))
    rw [hN] at c4 a1 a2
    rw [hP] at c0
    have hwr1 : IntKind.i64.wrap (2 * (n1 + 1)) = 2 * (n1 + 1) := by rw [IntKind.wrap_i64]; omega
    have hwr2 : IntKind.i64.wrap (3 * (N : Int)) = 3 * (N : Int) := by rw [IntKind.wrap_i64]; omega
    rw [hg] at c1 c3
    clear hN hP hg hn1 a3 a4
    rcases g with _ | _
    · simp only [Bool.false_eq_true, if_false] at c3
      by_cases hgr : 3 * (N : Int) < 2 * (n1 + 1)
      · have hd1 : decide (2 * (n1 + 1) ≤ 3 * (N : Int)) = false := decide_eq_false (by omega)
        by_cases hp20 : P < 20
        · have hd2 : decide ((20 : Int) ≤ (P : Int)) = false := decide_eq_false (by omega)
          have hwr3 : IntKind.i64.wrap (2 * (N : Int)) = 2 * (N : Int) := by rw [IntKind.wrap_i64]; omega
          have hwr4 : IntKind.i64.wrap ((P : Int) + 1) = (P : Int) + 1 := by rw [IntKind.wrap_i64]; omega
          obtain ⟨ob2, hob2⟩ : ∃ o, Obj.cells (List.replicate (2 * N) (Value.slice none 0 0)).toArray 68 = o := ⟨_, rfl⟩
          have hmk : ∀ W, (Instr.makeSlice 51 (.int .i64 (2 * (N : Int))) (.int .i64 (2 * (N : Int)))).run Try.prog W = .ok (.slice (some ⟨W.heap.size, 0, none⟩) (2 * N) (2 * N)) (W.alloc ob2) := fun W => by
            have := run_make_rows (2 * N) (by omega) W
            rw [hob2] at this
            exact this
          go_quiet (fail)
          go_wp2_with fail
          go_end0
          rw [HS1E.out]
          have hp1 : (wz.drewN nq).heap[u]? = some (.cells #[.int .i64 P, .bool false, .int .i64 dv, .slice none 0 0, .slice (some ⟨nb, 0, none⟩) N N, .int .i64 (n1 + 1)] 53 (0, 0)) := by
            have := HRR.out.1.hp
            obtain ⟨hN, hP, hg, hn1⟩ := HP.out
            rw [hN, hP, hg, hn1] at this
            exact this
          have h5 := heap_setCell_same (heap_setCell_same (heap_setCell_same (heap_setCell_same (heap_setCell_same hp1 1 (.bool true)) 2 (.int .i64 0)) 3 (.slice (some ⟨nb, 0, none⟩) N N)) 0 (.int .i64 ((P : Int) + 1))) 4 (.slice (some ⟨wz.heap.size, 0, none⟩) (2 * N) (2 * N))
          have hFr5 : Fr S w (((((((wz.drewN nq).setCell ⟨u, 1, none⟩ (.bool true)).setCell ⟨u, 2, none⟩ (.int .i64 0)).setCell ⟨u, 3, none⟩ (.slice (some ⟨nb, 0, none⟩) N N)).setCell ⟨u, 0, none⟩ (.int .i64 ((P : Int) + 1))).setCell ⟨u, 4, none⟩ (.slice (some ⟨wz.heap.size, 0, none⟩) (2 * N) (2 * N))).alloc ob2) :=
            ((((((HRR.out.2.2.1.drewN nq).setCell (p := ⟨u, 1, none⟩) (fun _ => HRR.out.2.2.2.2) _).setCell (p := ⟨u, 2, none⟩) (fun _ => HRR.out.2.2.2.2) _).setCell (p := ⟨u, 3, none⟩) (fun _ => HRR.out.2.2.2.2) _).setCell (p := ⟨u, 0, none⟩) (fun _ => HRR.out.2.2.2.2) _).setCell (p := ⟨u, 4, none⟩) (fun _ => HRR.out.2.2.2.2) _).alloc ob2
          have hfb : ∀ b, b < wz.heap.size → b ≠ u → (((((((wz.drewN nq).setCell ⟨u, 1, none⟩ (.bool true)).setCell ⟨u, 2, none⟩ (.int .i64 0)).setCell ⟨u, 3, none⟩ (.slice (some ⟨nb, 0, none⟩) N N)).setCell ⟨u, 0, none⟩ (.int .i64 ((P : Int) + 1))).setCell ⟨u, 4, none⟩ (.slice (some ⟨wz.heap.size, 0, none⟩) (2 * N) (2 * N)))).heap[b]? = wz.heap[b]? := fun b hb hne =>
            (heap_setCell_other (p := ⟨u, 4, none⟩) hne _).trans ((heap_setCell_other (p := ⟨u, 0, none⟩) hne _).trans ((heap_setCell_other (p := ⟨u, 3, none⟩) hne _).trans ((heap_setCell_other (p := ⟨u, 2, none⟩) hne _).trans (heap_setCell_other (p := ⟨u, 1, none⟩) hne _))))
          obtain ⟨W5, hW5⟩ : ∃ W5, ((((((wz.drewN nq).setCell ⟨u, 1, none⟩ (.bool true)).setCell ⟨u, 2, none⟩ (.int .i64 0)).setCell ⟨u, 3, none⟩ (.slice (some ⟨nb, 0, none⟩) N N)).setCell ⟨u, 0, none⟩ (.int .i64 ((P : Int) + 1))).setCell ⟨u, 4, none⟩ (.slice (some ⟨wz.heap.size, 0, none⟩) (2 * N) (2 * N))) = W5 := ⟨_, rfl⟩
          have hz5 : W5.heap.size = wz.heap.size := by rw [← hW5]; simp [World.setCell]
          rw [hW5] at h5 hFr5 hfb ⊢
          have hzy := HRR.out.2.2.2.1
          have hzw := hFr5.size
          have hww : w.heap.size ≤ wz.heap.size := HRR.out.2.2.1.size
          have hnew := heap_alloc_new W5 ob2
          rw [hz5] at hnew
          have hz6 : (W5.alloc ob2).heap.size = wz.heap.size + 1 := by simp [hz5]
          refine ⟨rfl, ?_, hFr5⟩
          obtain ⟨hN, hP, hg, hn1⟩ := HP.out
          rw [show growS s1 = ⟨s1.pw + 1, true, 0, s1.R, fun _ => [], s1.n⟩ from by
            unfold growS
            rw [if_pos]
            refine ⟨hg, ?_, by rw [hP]; exact hp20⟩
            have := pw_cast s1.pw
            rw [hN] at this
            rw [hn1]
            omega]
          refine cr_growth HRR.out.2.1 HRR.out.1 hg (by rw [hP]; exact hp20) (Nat.le_refl wz.heap.size) (fun b q => q.imp (fun q => q) (fun q => ⟨q.1, by have := q.2; omega⟩)) (Or.inr ⟨hww, by omega⟩) ?_ ?_ ?_
          · rw [hN, hP, hn1]
            exact (heap_alloc_old ob2 (by rw [hz5]; exact hul)).trans (h5.trans (by simp))
          · rw [hN, hob2]
            exact hnew
          · intro b hb hne
            exact (heap_alloc_old ob2 (by rw [hz5]; exact hb)).trans (hfb b hb hne)
        · have hd2 : decide ((20 : Int) ≤ (P : Int)) = true := decide_eq_true (by omega)
          go_quiet (fail)
          go_wp2_with fail
          refine bodyPost_ret (results_none rfl _ _ _) rfl ?_
          rw [HS1E.out]
          exact ⟨rfl, by rw [growS_no HP.out.1 (Or.inr (Or.inr (by rw [HP.out.2.1]; exact hp20)))]; exact (HFN.out _).1, (HFN.out _).2⟩
      · have hd1 : decide (2 * (n1 + 1) ≤ 3 * (N : Int)) = true := decide_eq_true (by omega)
        go_quiet (fail)
        go_wp2_with fail
        refine bodyPost_ret (results_none rfl _ _ _) rfl ?_
        rw [HS1E.out]
        exact ⟨rfl, by rw [growS_no HP.out.1 (Or.inr (Or.inl (by rw [HP.out.2.2.2]; omega)))]; exact (HFN.out _).1, (HFN.out _).2⟩
    · simp only [if_true] at c3
      go_quiet (fail)
      go_wp2_with fail
      refine bodyPost_ret (results_none rfl _ _ _) rfl ?_
      rw [HS1E.out]
      exact ⟨rfl, by rw [growS_no HP.out.1 (Or.inl HP.out.2.2.1)]; exact (HFN.out _).1, (HFN.out _).2⟩
  · rw [q4] at hAt
    have HA := Lib.hid hAt
    have hpl : pre.length < (home s k).length := by rw [q1]; simp <;> omega
    obtain ⟨b, off, rfl, hb, hSb, hc0, hc1, hfz⟩ := hc pre.length (k, n0) (by rw [q1]; simp)
    have hset : setS s k n = put s k (pre ++ (k, n) :: suf) := by unfold setS; rw [q3, q1, setL_at q2]; rfl
    have hks : ks (pre ++ (k, n) :: suf) = ks (home s k) := by rw [q1, ks_app, ks_app]; rfl
    have hW2 := put_w (l := pre ++ (k, n) :: suf) hW (by rw [hks]; exact home_nodup hW k) (fun k0 q => Or.inr (hks ▸ q))
    have hput := fun q => CrO.set_num (n' := n) hW (h.frame (w' := w.drewN q) fun _ _ _ => rfl) q1 (show RowOf (w.drewN q) S nb ob s o k (.slice (some ⟨b, off, none⟩) (home s k).length cap) from ⟨hv.1, hv.2.1, hv.2.2.1, hv.2.2.2.1, hv.2.2.2.2.frame fun _ _ _ => rfl⟩)
    rw [hset]
    have HH := Lib.hid (And.intro hW2 (And.intro hput hSb))
    obtain ⟨ln, hln⟩ : ∃ n, (home s k).length = n := ⟨_, rfl⟩
    rw [hln] at HR HA hpl
    obtain ⟨pl, hpl2⟩ : ∃ n, pre.length = n := ⟨_, rfl⟩
    rw [hpl2] at HA hpl hc1 HH
    have hpl' : (pl : Int) < ln := by omega
    have hpl0 : (0 : Int) ≤ pl := by omega
    have hnn : decide ((0 : Int) ≤ pl) = true := decide_eq_true (by omega)
    have hf1 := hfz (off + pl * 2 + 1)
    clear h hv hc q1 q2 q3 q4 hAt hW hl hln hcap hpl2 hc0 hfz hb hset hks hW2 hput hSb
    go_enter Try.func29, Try.ntmps29
    go_wp2_with fail
    refine HR.out.mono ?_
    rintro e w1 ⟨rfl, q, rfl⟩
    go_wp2_with fail
    refine (HA.out q).mono ?_
    rintro e w1 ⟨rfl, rfl⟩
    have hc1' : (w.drewN q).cell? ⟨b, off + pl * 2 + 1, none⟩ = some (.int .i64 n0) := hc1
    have hf1' : (w.drewN q).frozen? ⟨b, off + pl * 2 + 1, none⟩ = false := hf1
    go_wp2_with fail
    refine bodyPost_ret (results_none rfl _ _ _) rfl ?_
    have hp := HH.out.2.1 q
    rw [← Nat.add_assoc] at hp
    refine ⟨rfl, ⟨HH.out.1, nb, ob, xs, ys, dv, o, hp.mono fun b _ q => Or.inl q⟩, ((Fr.refl S w).drewN q).setCell (p := ⟨b, off + pl * 2 + 1, none⟩) (fun _ => HH.out.2.2.1) _⟩
end Go.Proofs.Ytnabgcnndehaaaa
