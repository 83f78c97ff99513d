/- Layer 9 (chain): what each call does, four: Step. -/
import Derived.Test.YtnabgcnndehaaaaCh3
import Derived.Test.YtnabgcnndehaaaaChMove
namespace Go.Proofs.Ytnabgcnndehaaaa
open Go.RowKit
set_option linter.unusedVariables false
theorem stepS_no {s : ChS} (h : s.g = false) : stepS s = s := by unfold stepS; rw [if_neg (by rw [h]; decide)]
theorem StM.drewN {w wr : World} {S : Nat → Prop} {t : Nat} {s : ChS} {rb ob : Nat} {ys xs : List Value} {es : List KN} {v : Value} {R : Nat → List KN} (h : StM w S t s rb ob ys wr es v R xs) (q : Nat) : StM w S t s rb ob ys (wr.drewN q) es v R xs :=
  ⟨h.hr, h.hxl, fun i v e => chn_drewN (h.hx i v e) q, chn_drewN h.hes q, fun i v a e => chn_drewN (h.hO i v a e) q, h.ht, h.hob, h.hF.drewN q⟩
/-- What stands when the step's bucket is empty. -/
theorem StM.fin {w wr w' : World} {S : Nat → Prop} {t : Nat} {s : ChS} {rb ob : Nat} {xs0 ys xs : List Value} {v : Value} {R : Nat → List KN} {mvv : Int}
    (hW : ChW s) (h0 : ChO w S t s rb ob xs0 ys mvv) (hg : s.g = true) (h : StM w S t s rb ob ys wr [] v R xs) (hR : R = moveR s.pw s.R (s.O s.m))
    (ht : w'.heap[t]? = some (Obj.cells #[.int .i64 s.pw, if s.m + 1 < 2 ^ (s.pw - 1) then .slice (some ⟨ob, 0, none⟩) (2 ^ (s.pw - 1)) (2 ^ (s.pw - 1)) else .slice none 0 0, .slice (some ⟨rb, 0, none⟩) (2 ^ s.pw) (2 ^ s.pw), .int .i64 ((s.m : Int) + 1), .int .i64 s.n] 58 (0, 0)))
    (ho : w'.heap[ob]? = some (Obj.cells (List.toArray (ys.set s.m (.pointer none))) 59 (0, 0)))
    (hf : ∀ b, b ≠ t → b ≠ ob → w'.heap[b]? = wr.heap[b]?) : ChAt w' S t (stepS s) := by
  refine ⟨step_w hW, rb, ob, xs, ys.set s.m (.pointer none), (s.m : Int) + 1, ?_⟩
  obtain ⟨g1, g2, g3, g4, g5, g6⟩ := h0.hg hg
  have e : stepS s = { s with m := s.m + 1, g := decide (s.m + 1 < 2 ^ (s.pw - 1)), O := upd s.O s.m [], R := moveR s.pw s.R (s.O s.m) } := by unfold stepS; rw [if_pos hg]
  have hrt : rb ≠ t := fun q => by have := h0.hr; rw [q, h0.hp] at this; simp at this
  have hkeep : ∀ {es : List KN} {v : Value}, Chn wr S v es → Chn w' S v es := fun hc => chn_keep hc (fun b k n nx eb _ _ => hf b (fun q => by rw [q, h.ht, h0.hp] at eb; exact not_entB (by decide) (Option.some.inj eb)) (fun q => by rw [q, h.hob, g4] at eb; exact not_entB (by decide) (Option.some.inj eb))) (fun _ _ q => q)
  rw [e]
  refine ⟨h0.hSt, h0.hSr, ?_, (hf rb hrt (fun q => g3 q.symm)).trans h.hr, h.hxl, fun i v q => ?_, fun q => ⟨by simp, g2, g3, ho, by rw [List.length_set]; exact g5, fun i v q => ?_⟩⟩
  · rw [ht]
    by_cases hlt : s.m + 1 < 2 ^ (s.pw - 1)
    · simp only [hlt, if_true, decide_true]
    · simp only [hlt, if_false, decide_false, Bool.false_eq_true]
  · show Chn w' S v (moveR s.pw s.R (s.O s.m) i)
    rw [← hR]; exact hkeep (h.hx i v q)
  · show Chn w' S v (upd s.O s.m [] i)
    rcases set_get q with ⟨e1, e2⟩ | ⟨e1, e2⟩
    · rw [e1, e2, upd_same]; rfl
    · rw [upd_ne e1]; exact hkeep (h.hO i v e1 e2)
set_option maxHeartbeats 4000000 in
theorem ch_step (S : Nat → Prop) (t : Nat) (s : ChS) (w : World) (h : ChAt w S t s) :
    Calls Try.prog 11 #[.pointer (some ⟨t, 0, none⟩)] w fun e w' => e = .returned (.bool (stepS s).g) ∧ ChAt w' S t (stepS s) ∧ Fr S w w' := by
  have HA := Lib.hid h
  obtain ⟨hW, rb, ob, xs, ys, mvv, h⟩ := h
  obtain ⟨c0, c1, c2, c3, _, fz, _⟩ := h.cells
  have en := eql_nil
  have es := eql_some
  rcases hg : s.g with _ | _
  · rw [hg] at c1
    simp only [Bool.false_eq_true, if_false] at c1
    have HG := Lib.hid hg
    clear hg h hW
    go_enter Try.func11, Try.ntmps11
    go_wp2_with fail
    go_ret
    rw [stepS_no HG.out, HG.out]
    exact ⟨rfl, HA.out, Fr.refl _ _⟩
  · rw [hg] at c1
    simp only [if_true] at c1
    obtain ⟨g1, g2, g3, g4, g5, g6⟩ := h.hg hg
    subst g1
    have hm := hW.m hg
    obtain ⟨a1, a2, a3, a4⟩ := two_pw hW.p2 hW.p20
    have hp20 := hW.p20
    obtain ⟨v0, hv0⟩ : ∃ v, ys[s.m]? = some v := ⟨_, List.getElem?_eq_getElem (by omega)⟩
    obtain ⟨k1, k2⟩ := arr_cells g4 hv0
    have hst : StM w S t s rb ob ys w (s.O s.m) v0 s.R xs := ⟨h.hr, h.hxl, h.hx, g6 _ _ hv0, fun i v _ q => g6 i v q, rfl, rfl, Fr.refl _ _⟩
    have hmi := mv_start hW hg
    have HS := Lib.hid (And.intro hst (And.intro hmi (And.intro hW (And.intro h hg))))
    obtain ⟨N, hN⟩ : ∃ N, 2 ^ s.pw = N := ⟨_, rfl⟩
    obtain ⟨M, hM⟩ : ∃ N, 2 ^ (s.pw - 1) = N := ⟨_, rfl⟩
    obtain ⟨m, hmm⟩ : ∃ m, s.m = m := ⟨_, rfl⟩
    obtain ⟨P, hP⟩ : ∃ P, s.pw = P := ⟨_, rfl⟩
    have HN := Lib.hid (And.intro hN (And.intro hM (And.intro hmm hP)))
    rw [hM] at c1 hm
    rw [hN] at c2
    rw [hmm] at c3 hm k1 k2
    rw [hP] at c0 hp20
    have hMb : M ≤ 1048576 := by rw [hM] at a3; omega
    clear hst hmi hW h g2 g3 g4 g5 g6 hv0 hN hM hmm hP hg a1 a2 a3 a4
    have hm' : (m : Int) < M := by omega
    go_enter Try.func11, Try.ntmps11
    go_wp2_with fail
    go_quiet (fail)
    go_wp2_with fail
    have hstart : ∀ q, StM w S t s rb ob ys (w.drewN q) (s.O s.m) v0 s.R xs := fun q => HS.out.1.drewN q
    have HST := Lib.hid hstart
    clear hstart c0 c1 c2 c3 fz k1 k2
    go_loopg [3, 4, 5] (s.O s.m).length (fun n x _ _ wr => ∃ es R xs, n = es.length ∧ StM w S t s rb ob ys wr es x R xs ∧ MvI s.pw R es ∧ moveR s.pw R es = moveR s.pw s.R (s.O s.m) ∧ (∀ k, k ∈ ks es → k ∈ ks (s.O s.m)))
    case atStart => exact ⟨_, _, _, rfl, HST.out _, HS.out.2.1, rfl, fun k q => q⟩
    case round =>
      clear HST
      obtain ⟨es', R, xs', hn, hM, hI, hR, hK⟩ := hrel
      have h0 := HS.out.2.2.2.1
      obtain ⟨c0, c1, c2, c3, _, fz, _⟩ := h0.cells
      rw [HS.out.2.2.2.2] at c1
      simp only [if_true] at c1
      obtain ⟨hN, hMM, hmm, hP⟩ := HN.out
      rw [hMM] at c1
      rw [hN] at c2
      rw [hmm] at c3
      rw [hP] at c0
      have d0 : wr.cell? ⟨t, 0, none⟩ = some (.int .i64 P) := (World.cell?_of_block (w := w) hM.ht).trans c0
      have d1 : wr.cell? ⟨t, 1, none⟩ = some (.slice (some ⟨ob, 0, none⟩) M M) := (World.cell?_of_block (w := w) hM.ht).trans c1
      have d2 : wr.cell? ⟨t, 2, none⟩ = some (.slice (some ⟨rb, 0, none⟩) N N) := (World.cell?_of_block (w := w) hM.ht).trans c2
      have d3 : wr.cell? ⟨t, 3, none⟩ = some (.int .i64 m) := (World.cell?_of_block (w := w) hM.ht).trans c3
      have df : ∀ i, wr.frozen? ⟨t, i, none⟩ = false := fun i => (World.frozen?_of_block (w := w) hM.ht).trans (fz i)
      match es', hM, hI, hR, hK, hn with
      | [], hM, hI, hR, hK, hn =>
        have hv := hM.hes
        simp only [Chn] at hv
        subst hv
        have HM := Lib.hid (And.intro hM hR)
        obtain ⟨_, _, _, g4, g5, _⟩ := h0.hg HS.out.2.2.2.2
        have hob := hM.hob.trans g4
        obtain ⟨v1, hv1⟩ : ∃ v, ys[s.m]? = some v := ⟨_, List.getElem?_eq_getElem (by rw [g5]; exact HS.out.2.2.1.m HS.out.2.2.2.2)⟩
        obtain ⟨k1, k2⟩ := arr_cells hob hv1
        rw [hmm] at k1 k2
        have hot : ¬ ob = t := fun e => by rw [e, h0.hp] at g4; simp at g4
        have hto : ¬ t = ob := fun e => hot e.symm
        have hpt := hM.ht.trans h0.hp
        have HM := Lib.hid (And.intro hM (And.intro hR (And.intro hob hpt)))
        have df1 := df 1
        have df3 := df 3
        clear hM hI hR hK hn h0 c0 c1 c2 c3 fz hN hMM hmm hP d0 d2 g4 g5 hob hpt hv1
        have hwr : IntKind.i64.wrap ((m : Int) + 1) = (m : Int) + 1 := by rw [IntKind.wrap_i64]; omega
        obtain ⟨wr0, rfl⟩ : ∃ wr0 : World, wr0 = wr := ⟨_, rfl⟩
        by_cases hlt : m + 1 < M
        · have hq : ((m : Int) + 1 == M) = false := by simp only [beq_eq_false_iff_ne, ne_eq]; omega
          go_upto_region 9 with fail
          go_region
          go_wp2_with fail
          go_quiet (fail)
          go_wp2_with fail
          go_ret
          obtain ⟨hM, hR, hob, hpt⟩ := HM.out
          obtain ⟨hN, hMM, hmm, hP⟩ := HN.out
          subst hmm
          subst hMM
          have hg := HS.out.2.2.2.2
          have h0 := HS.out.2.2.2.1
          have hpt3 := heap_setCell_same ((heap_setCell_other (p := ⟨ob, s.m, none⟩) hto (.pointer none)).trans hpt) 3 (.int .i64 ((s.m : Int) + 1))
          have ho3 := (heap_setCell_other (p := ⟨t, 3, none⟩) hot (.int .i64 ((s.m : Int) + 1))).trans ((heap_setCell_same hob s.m (.pointer none)).trans (by simp : _ = some (Obj.cells (List.toArray (ys.set s.m (.pointer none))) 59 (0, 0))))
          have hF := (hM.hF.setCell (p := ⟨ob, s.m, none⟩) (fun _ => (h0.hg hg).2.1) (.pointer none)).setCell (p := ⟨t, 3, none⟩) (fun _ => h0.hSt) (.int .i64 ((s.m : Int) + 1))
          refine ⟨by unfold stepS; rw [if_pos hg]; exact congrArg (fun b => Ending.returned (Value.bool b)) (decide_eq_true hlt).symm, ?_, hF.drewN _⟩
          refine StM.fin HS.out.2.2.1 h0 hg hM hR ?_ ho3 ?_
          · rw [if_pos hlt]
            exact hpt3.trans (by rw [hg]; simp)
          · intro b h1 h2
            exact (heap_setCell_other (p := ⟨t, 3, none⟩) h1 _).trans (heap_setCell_other (p := ⟨ob, s.m, none⟩) h2 _)
        · have hq : ((m : Int) + 1 == M) = true := by simp only [beq_iff_eq]; omega
          go_upto_region 9 with fail
          go_region
          go_wp2_with fail
          go_quiet (fail)
          go_wp2_with fail
          go_ret
          obtain ⟨hM, hR, hob, hpt⟩ := HM.out
          obtain ⟨hN, hMM, hmm, hP⟩ := HN.out
          subst hmm
          subst hMM
          have hg := HS.out.2.2.2.2
          have h0 := HS.out.2.2.2.1
          have hpt3 := heap_setCell_same ((heap_setCell_other (p := ⟨ob, s.m, none⟩) hto (.pointer none)).trans hpt) 3 (.int .i64 ((s.m : Int) + 1))
          have ho3 := (heap_setCell_other (p := ⟨t, 3, none⟩) hot (.int .i64 ((s.m : Int) + 1))).trans ((heap_setCell_same hob s.m (.pointer none)).trans (by simp : _ = some (Obj.cells (List.toArray (ys.set s.m (.pointer none))) 59 (0, 0))))
          have hF := (hM.hF.setCell (p := ⟨ob, s.m, none⟩) (fun _ => (h0.hg hg).2.1) (.pointer none)).setCell (p := ⟨t, 3, none⟩) (fun _ => h0.hSt) (.int .i64 ((s.m : Int) + 1))
          refine ⟨by unfold stepS; rw [if_pos hg]; exact congrArg (fun b => Ending.returned (Value.bool b)) (decide_eq_false hlt).symm, ?_, (hF.setCell (p := ⟨t, 1, none⟩) (fun _ => h0.hSt) _).drewN _⟩
          refine StM.fin HS.out.2.2.1 h0 hg hM hR ?_ ((heap_setCell_other (p := ⟨t, 1, none⟩) hot _).trans ho3) ?_
          · rw [if_neg hlt]
            exact (heap_setCell_same hpt3 1 _).trans (by simp)
          · intro b h1 h2
            exact (heap_setCell_other (p := ⟨t, 1, none⟩) h1 _).trans ((heap_setCell_other (p := ⟨t, 3, none⟩) h1 _).trans (heap_setCell_other (p := ⟨ob, s.m, none⟩) h2 _))
      | (k0, n0) :: es', hM, hI, hR, hK, hn =>
        obtain ⟨b, nx, hv, hSb, hb, hc⟩ := hM.hes
        subst hv
        obtain ⟨nq1, rfl⟩ := chn_ptr hc
        obtain ⟨_, e1, _, e3, ef⟩ := ent_cells hb
        have hjl := hx_lt k0 s.pw
        obtain ⟨uv, huv⟩ : ∃ u, xs'[Go.Proofs.Ytnabgcnndehaaaa.hx k0 s.pw]? = some u := ⟨_, List.getElem?_eq_getElem (by rw [hM.hxl]; exact hjl)⟩
        obtain ⟨uq, rfl⟩ := chn_ptr (hM.hx _ _ huv)
        obtain ⟨k1, k2⟩ := arr_cells hM.hr huv
        have hbr : ¬ b = rb := fun e => by have := hM.hr; rw [← e, hb] at this; exact not_entB (by decide) (Option.some.inj this).symm
        have hbr' : ¬ rb = b := fun e => hbr e.symm
        have hbk := bkt_hx k0 (p := s.pw) (by rw [hP]; omega)
        obtain ⟨j, hj⟩ : ∃ j, Go.Proofs.Ytnabgcnndehaaaa.hx k0 s.pw = j := ⟨_, rfl⟩
        have HM := Lib.hid (And.intro hM (And.intro hI (And.intro hR (And.intro hK (And.intro hn (And.intro hb (And.intro hSb (And.intro hc (And.intro huv hj)))))))))
        rw [hj] at hbk k1 k2 hjl
        rw [hN] at hjl
        rw [hP] at hbk
        obtain ⟨fkv, hfk⟩ : ∃ x, fk k0 = x := ⟨_, rfl⟩
        have hfr := fk_range k0
        rw [hfk] at e1 hbk hfr
        have HB := Lib.hid (fun W n => bucket_q fkv P j W hfr.1 hfr.2 hbk n)
        have e3f := ef 3
        have hjl' : (j : Int) < N := by omega
        clear hM hI hR hK hn h0 c0 c1 c2 c3 fz hN hMM hmm hP hb hc huv hj hbk hfr hfk ef d1 d3
        go_wp2_with fail
        go_quiet ((go_at_call 19; exact Calls.quiet_of_same (HB.out _ _)))
        go_wp2_with fail
        go_roundg (gk - 1)
        case measure => have := HM.out.2.2.2.2.1; simp at this; omega
        case rel =>
          obtain ⟨hM, hI, hR, hK, hn, hb, hSb, hc, huv, hj⟩ := HM.out
          have hnx := StM.next HS.out.2.2.1 HS.out.2.2.2.1 HS.out.2.2.2.2 (hM.drewN nq) hI (hK k0 (by rw [ks_cons]; simp)) hb hSb (chn_drewN hc nq) huv
          rw [hj] at hnx
          refine ⟨es', _, _, by simp at hn; omega, hnx, by rw [← hj]; exact hI.next, by rw [← hj]; exact hR, fun k q => hK k (by rw [ks_cons]; exact List.mem_cons_of_mem _ q)⟩
end Go.Proofs.Ytnabgcnndehaaaa
