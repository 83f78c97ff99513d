/- The reference of layer 9 (chain): what each call does, four: Step. -/
import Derived.Test.YtnabgcnndehaaaaCrE
import Derived.Test.YtnabgcnndehaaaaChMove
import Derived.Deep.RegionHeld3
namespace Go.Proofs.Ytnabgcnndehaaaa
open Go.RowKit
set_option linter.unusedVariables false
section
variable {w w' : World} {S S' : Nat → Prop} {u nb ob : Nat} {s : ChS} {xs ys : List Value} {dv : Int} {o : Nat → Nat}
/-- Another list in a new bucket, in an array that is new. -/
theorem CrO.new_row (h : CrO w S u s nb ob xs ys dv o) (j : Nat) (hF : Fr (fun b => w.heap.size ≤ b) w w') {v : Value} {l : List KN} (hv : Sl w' (fun b => w.heap.size ≤ b) 73 2 v l.length (ents l)) :
    CrO (w'.setCell ⟨nb, j, none⟩ v) (grow S w (w'.setCell ⟨nb, j, none⟩ v)) u { s with R := upd s.R j l } nb ob (xs.set j v) ys dv (fun b => if w.heap.size ≤ b then 2 * j + 1 else o b) := by
  have hz : (w'.setCell ⟨nb, j, none⟩ v).heap.size = w'.heap.size := by simp [World.setCell]
  have hlt : ∀ {b : Nat} {ob : Obj}, w.heap[b]? = some ob → w'.heap[b]? = some ob := fun hb => (hF.block _ (lt_of_heap hb) (by have := lt_of_heap hb; omega)).trans hb
  have hun : u ≠ nb := fun e => by have := h.hn; rw [← e, h.hp] at this; simp at this
  have keep : ∀ {v' : Value} {n : Nat} {q : List Value} {P : Nat → Prop}, Sl w P 73 2 v' n q → Sl (w'.setCell ⟨nb, j, none⟩ v) (fun c => P c ∧ c < w.heap.size) 73 2 v' n q := fun {v' n q P} hs =>
    ((hs.mono (S' := fun c => P c ∧ c < w.heap.size) fun c hc q => ⟨q, hc⟩).fr hF (fun c hc q => by omega)).setCell_other (hlt h.hn) (by decide) j v
  refine ⟨Or.inl h.hSu, Or.inl h.hSn, (heap_setCell_other (p := ⟨nb, j, none⟩) hun _).trans (hlt h.hp), (heap_setCell_same (hlt h.hn) _ _).trans (by simp), by rw [List.length_set]; exact h.hxl, fun i v' q => ?_, fun hg => ?_⟩
  · rcases set_get q with ⟨e1, e2⟩ | ⟨e1, e2⟩
    · rw [e1, e2]
      show Sl _ _ _ 2 v (upd s.R _ l _).length (ents (upd s.R _ l _))
      unfold upd; rw [if_pos rfl]
      exact (hv.setCell_other (hlt h.hn) (by decide) _ _).mono fun b hb q => ⟨Or.inr ⟨q, hb⟩, by rw [if_pos q]⟩
    · show Sl _ _ _ 2 v' (upd s.R _ l i).length (ents (upd s.R _ l i))
      unfold upd; rw [if_neg e1]
      exact (keep (h.hxs i v' e2)).mono fun b hb q => ⟨Or.inl q.1.1, by rw [if_neg (by omega)]; exact q.1.2⟩
  · obtain ⟨g1, g2, g3, g4, g5, g6⟩ := h.hg hg
    refine ⟨g1, Or.inl g2, g3, (heap_setCell_other (p := ⟨nb, j, none⟩) g3 _).trans (hlt g4), g5, fun i v' q => ?_⟩
    exact (keep (g6 i v' q)).mono fun b hb q => ⟨Or.inl q.1.1, by rw [if_neg (by omega)]; exact q.1.2⟩
/-- An old bucket is emptied, and counted. -/
theorem CrO.old_nil (h : CrO w S u s nb ob xs ys dv o) (hg : s.g = true) :
    CrO ((w.setCell ⟨ob, s.m, none⟩ (.slice none 0 0)).setCell ⟨u, 2, none⟩ (.int .i64 ((s.m : Int) + 1))) S u { s with m := s.m + 1, O := upd s.O s.m [] } nb ob xs (ys.set s.m (.slice none 0 0)) ((s.m : Int) + 1) o := by
  obtain ⟨g1, g2, g3, g4, g5, g6⟩ := h.hg hg
  have huo : u ≠ ob := fun e => by rw [← e, h.hp] at g4; simp at g4
  have hun : u ≠ nb := fun e => by have := h.hn; rw [← e, h.hp] at this; simp at this
  have hu := (heap_setCell_other (p := ⟨ob, s.m, none⟩) huo (.slice none 0 0)).trans h.hp
  have keep : ∀ {v' : Value} {n : Nat} {q : List Value} {P : Nat → Prop}, Sl w P 73 2 v' n q → Sl ((w.setCell ⟨ob, s.m, none⟩ (.slice none 0 0)).setCell ⟨u, 2, none⟩ (.int .i64 ((s.m : Int) + 1))) P 73 2 v' n q := fun {v' n q P} hs =>
    (hs.setCell_other g4 (by decide) _ _).setCell_other hu (by decide) _ _
  refine ⟨h.hSu, h.hSn, (heap_setCell_same hu 2 _).trans (by simp), ?_, h.hxl, fun i v' q => keep (h.hxs i v' q), fun _ => ⟨by simp, g2, g3, ?_, by rw [List.length_set]; exact g5, fun i v' q => ?_⟩⟩
  · exact (heap_setCell_other (p := ⟨u, 2, none⟩) (fun e => hun e.symm) _).trans ((heap_setCell_other (p := ⟨ob, s.m, none⟩) (fun e => g3 e.symm) _).trans h.hn)
  · exact (heap_setCell_other (p := ⟨u, 2, none⟩) (fun e => huo e.symm) _).trans ((heap_setCell_same g4 _ _).trans (by simp))
  · show Sl _ _ _ 2 v' (upd s.O _ _ i).length (ents (upd s.O _ _ i))
    rcases set_get q with ⟨e1, e2⟩ | ⟨e1, e2⟩
    · rw [e1, e2]; unfold upd; rw [if_pos rfl]; exact Sl.nil _ _ _ _
    · unfold upd; rw [if_neg e1]; exact keep (g6 i v' e2)
/-- It grows no more. -/
theorem CrO.ends (h : CrO w S u s nb ob xs ys dv o) (hg : s.g = true) (M : Nat) :
    CrO ((w.setCell ⟨u, 1, none⟩ (.bool false)).setCell ⟨u, 3, none⟩ (.slice none 0 0)) S u { s with g := false } nb ob xs ys dv o := by
  have hun : u ≠ nb := fun e => by have := h.hn; rw [← e, h.hp] at this; simp at this
  have h1 := heap_setCell_same h.hp 1 (.bool false)
  refine ⟨h.hSu, h.hSn, (heap_setCell_same h1 3 _).trans (by simp), (heap_setCell_other (p := ⟨u, 3, none⟩) (fun e => hun e.symm) _).trans ((heap_setCell_other (p := ⟨u, 1, none⟩) (fun e => hun e.symm) _).trans h.hn), h.hxl, fun i v' q => ((h.hxs i v' q).setCell_other h.hp (by decide) _ _).setCell_other h1 (by decide) _ _, fun e => by cases e⟩
end
/-- In the midst of a step. -/
def midS (s : ChS) (R : Nat → List KN) : ChS := { s with m := s.m + 1, O := upd s.O s.m [], R := R }
structure CrM (w : World) (S : Nat → Prop) (u : Nat) (s : ChS) (nb ob : Nat) (ys : List Value) (lv : Value) (l : List KN) (wr : World) (j : Nat) (R : Nat → List KN) (xs : List Value) (o : Nat → Nat) : Prop where
  hc : CrO wr (grow S w wr) u (midS s R) nb ob xs ys ((s.m : Int) + 1) o
  hl : Sl wr (fun b => b < w.heap.size) 73 2 lv l.length (ents l)
  hf : Fr S w wr
  hi : MvI s.pw R (l.drop j)
  he : moveR s.pw R (l.drop j) = moveR s.pw s.R l
  hb : ∀ i, (R i).length ≤ 1000000 + j
theorem CrM.next {w wr w' : World} {S : Nat → Prop} {u nb ob j : Nat} {s : ChS} {xs ys : List Value} {o : Nat → Nat} {lv v : Value} {l : List KN} {R : Nat → List KN} {e : KN} (h : CrM w S u s nb ob ys lv l wr j R xs o) (he : l[j]? = some e)
    (hF : Fr (fun b => wr.heap.size ≤ b) wr w') (hv : Sl w' (fun b => wr.heap.size ≤ b) 73 2 v (R (hx e.1 s.pw)).length.succ (ents (e :: R (hx e.1 s.pw)))) :
    CrM w S u s nb ob ys lv l (w'.setCell ⟨nb, hx e.1 s.pw, none⟩ v) (j + 1) (upd R (hx e.1 s.pw) (e :: R (hx e.1 s.pw))) (xs.set (hx e.1 s.pw) v) (fun b => if wr.heap.size ≤ b then 2 * hx e.1 s.pw + 1 else o b) := by
  have hd : l.drop j = e :: l.drop (j + 1) := by
    obtain ⟨hi, hv⟩ := List.getElem?_eq_some_iff.1 he
    rw [← hv, List.getElem_cons_drop]
  have hz : (w'.setCell ⟨nb, hx e.1 s.pw, none⟩ v).heap.size = w'.heap.size := by simp [World.setCell]
  have hlt : wr.heap[nb]? = w'.heap[nb]? := (hF.block _ (lt_of_heap h.hc.hn) (by have := lt_of_heap h.hc.hn; omega)).symm
  have hc := h.hc.new_row (hx e.1 s.pw) hF hv
  have hi := h.hi
  have he2 := h.he
  rw [hd] at hi he2
  have hfs := h.hf.size
  have hfs2 := hF.size
  refine ⟨hc.mono fun b _ q => q.elim (fun q => q.imp (fun q => q) (fun q => ⟨q.1, by rw [hz]; omega⟩)) (fun q => Or.inr ⟨by omega, q.2⟩), ?_, ?_, hi.next, he2, fun i => ?_⟩
  · exact (h.hl.fr hF (fun b hb q => by omega)).setCell_other (hlt ▸ h.hc.hn) (by decide) _ _
  · exact ((h.hf.trans hF (fun b hb q => by omega)).setCell (p := ⟨nb, hx e.1 s.pw, none⟩) (fun hb => by
      rcases h.hc.hSn with q | q
      · exact q
      · have hb' : nb < w.heap.size := hb
        have := q.1
        omega) v)
  · have := h.hb i
    unfold upd
    split
    · rename_i q; rw [← q]; simp only [List.length_cons]; omega
    · omega
set_option maxRecDepth 100000 in
set_option maxHeartbeats 4000000 in
theorem cr_step (S : Nat → Prop) (u : Nat) (s : ChS) (w : World) (h : CrAt w S u s) (hlm0 : s.g = true → ∀ i, (s.O i).length ≤ 1000000 ∧ (s.R i).length ≤ 1000000) (hks0 : s.g = true → ∀ i k, k ∈ ks (s.O i) → k.size ≤ 9223372036854775807) :
    Calls Try.prog 32 #[.pointer (some ⟨u, 0, none⟩)] w fun e w' => e = .returned (.bool (stepS s).g) ∧ CrAt w' (grow S w w') u (stepS s) ∧ Fr S w w' := by
  have HA := Lib.hid h
  obtain ⟨hW, nb, ob, xs, ys, dv, o, h⟩ := h
  obtain ⟨c0, c1, c2, c3, c4, _, fz, _⟩ := h.cells
  rcases hg : s.g with _ | _
  · rw [hg] at c1
    have HG := Lib.hid hg
    clear hg h hW
    go_enter Try.func32, Try.ntmps32
    go_wp2_with fail
    go_ret
    rw [stepS_no HG.out, HG.out]
    exact ⟨rfl, HA.out.mono fun b _ q => Or.inl q, Fr.refl _ _⟩
  · have hlm := hlm0 hg
    have hks := hks0 hg
    clear hlm0 hks0
    rw [hg] at c1 c3
    simp only [if_true] at c3
    obtain ⟨g1, g2, g3, g4, g5, g6⟩ := h.hg hg
    subst g1
    have hm := hW.m hg
    obtain ⟨a1, a2, a3, a4⟩ := two_pw hW.p2 hW.p20
    have hp20 := hW.p20
    obtain ⟨v0, hv0⟩ : ∃ v, ys[s.m]? = some v := ⟨_, List.getElem?_eq_getElem (by omega)⟩
    obtain ⟨k1, k2⟩ := arr_cells g4 hv0
    have hrow := g6 _ _ hv0
    obtain ⟨va, vc, rfl, hvc⟩ := Sl.shape hrow
    have hmi := mv_start hW hg
    have hon := h.old_nil hg
    have HS := Lib.hid (And.intro hmi (And.intro hW (And.intro h (And.intro hg (And.intro hlm (And.intro hrow hon))))))
    obtain ⟨N, hN⟩ : ∃ N, 2 ^ s.pw = N := ⟨_, rfl⟩
    obtain ⟨M, hM⟩ : ∃ N, 2 ^ (s.pw - 1) = N := ⟨_, rfl⟩
    obtain ⟨m, hmm⟩ : ∃ m, s.m = m := ⟨_, rfl⟩
    obtain ⟨P, hP⟩ : ∃ P, s.pw = P := ⟨_, rfl⟩
    obtain ⟨l, hl⟩ : ∃ l, s.O s.m = l := ⟨_, rfl⟩
    have HN := Lib.hid (And.intro hN (And.intro hM (And.intro hmm (And.intro hP hl))))
    have hot : ¬ ob = u := fun e => by rw [e, h.hp] at g4; simp at g4
    have hto : ¬ u = ob := fun e => hot e.symm
    have f2 := fz 2
    have f1 := fz 1
    have f3 := fz 3
    rw [hM] at c3 hm
    rw [hN] at c4
    rw [hl] at k1
    rw [hmm] at c2 hm k1 k2
    rw [hP] at c0 hp20
    have hMb : M ≤ 1048576 := by rw [hM] at a3; omega
    have hlb : l.length ≤ 1000000 := by rw [← hl]; exact (hlm s.m).1
    have HKS := Lib.hid (show ∀ k, k ∈ ks l → k.size ≤ 9223372036854775807 from fun k q => hks s.m k (by rw [hl]; exact q))
    have hm' : (m : Int) < M := by omega
    have hwr : IntKind.i64.wrap ((m : Int) + 1) = (m : Int) + 1 := by rw [IntKind.wrap_i64]; omega
    clear hmi hW h g2 g3 g4 g5 g6 hv0 hN hM hmm hP hg a1 a2 a3 a4 hl hlm hks hrow hon fz
    go_enter Try.func32, Try.ntmps32
    go_wp2_with fail
    go_quiet (fail)
    go_wp2_with fail
    go_region
    go_wp2_with fail
    go_loopw [4] (fun iv wr => ∃ (j : Nat) (R : Nat → List KN) (xs' : List Value) (o' : Nat → Nat), j ≤ l.length ∧ iv = .int .i64 j ∧ CrM w S u s nb ob (ys.set s.m (.slice none 0 0)) (.slice va l.length vc) l wr j R xs' o') (fun iv _ => l.length - (intOf iv).toNat)
    case atStart =>
      refine ⟨0, s.R, xs, o, Nat.zero_le _, rfl, ?_⟩
      obtain ⟨g1, g2, g3, g4, g5, g6⟩ := HS.out.2.2.1.hg HS.out.2.2.2.1
      have hr := HS.out.2.2.2.2.2.1
      have hmi := HS.out.1
      rw [HN.out.2.2.2.2] at hr hmi
      rw [← HN.out.2.2.1]
      have hon := HS.out.2.2.2.2.2.2
      have hu := (heap_setCell_other (p := ⟨ob, s.m, none⟩) hto (.slice none 0 0)).trans HS.out.2.2.1.hp
      refine ⟨CrO.mono (w := ((w.drewN (nq + 1)).setCell ⟨ob, s.m, none⟩ (.slice none 0 0)).setCell ⟨u, 2, none⟩ (.int .i64 ((s.m : Int) + 1))) (hon.frame fun _ _ _ => rfl) fun b _ q => Or.inl q, ?_, (((Fr.refl S w).drewN _).setCell (p := ⟨ob, s.m, none⟩) (fun _ => g2) _).setCell (p := ⟨u, 2, none⟩) (fun _ => HS.out.2.2.1.hSu) _, hmi, rfl, fun i => (HS.out.2.2.2.2.1 i).2⟩
      exact (((hr.mono (S' := fun b => b < w.heap.size) fun b hb _ => hb).setCell_other g4 (by decide) s.m (.slice none 0 0)).setCell_other hu (by decide) 2 (.int .i64 ((s.m : Int) + 1))).frame fun _ _ _ => rfl
    case round =>
      clear k1 k2
      obtain ⟨j, R, xs', o', hj, rfl, hM⟩ := hrel
      obtain ⟨D0, D1, D2, D3, D4, D5, dz, _⟩ := hM.hc.cells
      obtain ⟨hN, hMM, hmm, hP, hl⟩ := HN.out
      have d0 : wr.cell? ⟨u, 0, none⟩ = some (.int .i64 P) := by rw [← hP]; exact D0
      have d1 : wr.cell? ⟨u, 1, none⟩ = some (.bool true) := by rw [D1]; show some (Value.bool s.g) = _; rw [HS.out.2.2.2.1]
      have d2 : wr.cell? ⟨u, 2, none⟩ = some (.int .i64 ((m : Int) + 1)) := by rw [← hmm]; exact D2
      have d3 : wr.cell? ⟨u, 3, none⟩ = some (.slice (some ⟨ob, 0, none⟩) M M) := by rw [D3]; show some (if s.g = true then Value.slice (some ⟨ob, 0, none⟩) (2 ^ (s.pw - 1)) (2 ^ (s.pw - 1)) else .slice none 0 0) = _; rw [HS.out.2.2.2.1, hMM]; rfl
      have d4 : wr.cell? ⟨u, 4, none⟩ = some (.slice (some ⟨nb, 0, none⟩) N N) := by rw [← hN]; exact D4
      clear D0 D1 D2 D3 D4 D5
      by_cases hlt : j < l.length
      · obtain ⟨e, he⟩ : ∃ e, l[j]? = some e := ⟨_, List.getElem?_eq_getElem hlt⟩
        obtain ⟨va', vc', hve, _, hat⟩ := ent_at hM.hl
        obtain ⟨b, off, hva, hbl, _, e0, e1, ef⟩ := hat j e he
        simp at hve
        obtain ⟨rfl, rfl⟩ := hve
        subst hva
        have hjl := hx_lt e.1 s.pw
        obtain ⟨uv, huv⟩ : ∃ v, xs'[hx e.1 s.pw]? = some v := ⟨_, List.getElem?_eq_getElem (by rw [hM.hc.hxl]; exact hjl)⟩
        have hrow := hM.hc.hxs _ _ huv
        obtain ⟨ua, uc, rfl, huc⟩ := Sl.shape hrow
        obtain ⟨n1, n2⟩ := arr_cells hM.hc.hn huv
        have hbk := bkt_hx e.1 (p := s.pw) (by rw [hP]; omega)
        have hrl := hM.hb (hx e.1 s.pw)
        have HM := Lib.hid (And.intro hM (And.intro he hrow))
        obtain ⟨i1, hi1⟩ : ∃ i, hx e.1 s.pw = i := ⟨_, rfl⟩
        obtain ⟨rl, hrl2⟩ : ∃ n, (R i1).length = n := ⟨_, rfl⟩
        have n1' : wr.cell? ⟨nb, i1, none⟩ = some (.slice ua rl uc) := by rw [← hrl2, ← hi1]; exact n1
        have n2' : wr.frozen? ⟨nb, i1, none⟩ = false := by rw [← hi1]; exact n2
        rw [hi1, hrl2] at hrl
        have HI := Lib.hid (And.intro hi1 hrl2)
        have fr := fk_range e.1
        have hfo : ∀ (W : World) (n : Nat), Calls Try.prog 40 #[.string e.1] (W.drewN n) fun e' w' => e' = .returned (.int .u64 (fk e.1)) ∧ w' = W.drewN n := fun W n => refOf_q e.1 (HKS.out e.1 (List.mem_map.2 ⟨e, List.mem_of_getElem? he, rfl⟩)) W n
        obtain ⟨h0, hh0⟩ : ∃ h0, fk e.1 = h0 := ⟨_, rfl⟩
        rw [hh0] at fr hbk hfo
        rw [hi1, hP] at hbk
        have HO := Lib.hid hfo
        have HB := Lib.hid (fun W n => refBkt_q h0 (P : Int) i1 W fr.1 fr.2 hbk n)
        have hjN : (i1 : Int) < N := by rw [hi1, hN] at hjl; omega
        have hj' : (j : Int) < l.length := by omega
        have hj0 : (0 : Int) ≤ j := by omega
        clear hM he hrow n1 n2 huv hi1 hrl2 fr hfo hbk hh0 hjl hat hN hMM hmm hP hl dz
        go_wp2_with fail
        go_quiet ((first | (go_at_call 40; exact Calls.quiet_of_same (HO.out _ _)) | (go_at_call 39; exact Calls.quiet_of_same (HB.out _ _))))
        go_upto_region 10 with fail
        obtain ⟨kk, kn⟩ := e
        obtain ⟨wq, hwq⟩ : ∃ wq, wr.drewN nq = wq := ⟨_, rfl⟩
        have hub : u < wq.heap.size := by rw [← hwq]; exact lt_of_heap HM.out.1.hc.hp
        have hnbl : nb < wq.heap.size := by rw [← hwq]; exact lt_of_heap HM.out.1.hc.hn
        have hbl2 : b < wq.heap.size := by rw [← hwq]; exact hbl
        have q4 : wq.cell? ⟨u, 4, none⟩ = some (.slice (some ⟨nb, 0, none⟩) N N) := by rw [← hwq]; exact d4
        have qn : wq.cell? ⟨nb, i1, none⟩ = some (.slice ua rl uc) := by rw [← hwq]; exact n1'
        have qf : wq.frozen? ⟨nb, i1, none⟩ = false := by rw [← hwq]; exact n2'
        have q0 : wq.cell? ⟨b, off + j * 2, none⟩ = some (.string kk) := by rw [← hwq]; exact e0
        have q1 : wq.cell? ⟨b, off + j * 2 + 1, none⟩ = some (.int .i64 kn) := by rw [← hwq]; exact e1
        rw [hwq]
        have HWQ := Lib.hid hwq
        have hC : ∀ W : World, Fr (fun b => wq.heap.size ≤ b) wq W → W.cell? ⟨u, 4, none⟩ = some (.slice (some ⟨nb, 0, none⟩) N N) ∧ W.cell? ⟨nb, i1, none⟩ = some (.slice ua rl uc) ∧ W.frozen? ⟨nb, i1, none⟩ = false ∧ W.cell? ⟨b, off + j * 2, none⟩ = some (.string kk) ∧ W.cell? ⟨b, off + j * 2 + 1, none⟩ = some (.int .i64 kn) := fun W hF =>
          ⟨(hF.cell (p := ⟨u, 4, none⟩) hub (by simp; omega)).trans q4, (hF.cell (p := ⟨nb, i1, none⟩) hnbl (by simp; omega)).trans qn, (hF.fro (p := ⟨nb, i1, none⟩) hnbl (by simp; omega)).trans qf, (hF.cell (p := ⟨b, off + j * 2, none⟩) hbl2 (by simp; omega)).trans q0, (hF.cell (p := ⟨b, off + j * 2 + 1, none⟩) hbl2 (by simp; omega)).trans q1⟩
        have P0 := hC wq.drew (Fr.refl _ wq).drew
        have P1 := hC (wq.drew.alloc (.cells #[.string kk, .int .i64 kn] 73)) ((Fr.refl _ wq).drew.alloc _)
        have hbase := Lib.hid (show Sl (wq.drew.alloc (.cells #[.string kk, .int .i64 kn] 73)) (fun b => wq.heap.size ≤ b) 73 2 (.slice (some ⟨wq.heap.size, 0, none⟩) 1 1) 1 [.string kk, .int .i64 kn] from
          ⟨rfl, Or.inr ⟨wq.heap.size, 0, 1, _, rfl, Nat.le_refl _, heap_alloc_new wq.drew _, Nat.le_refl _, by unfold maxLen; omega, Nat.le_refl _, fun i hi => by
            match i, hi with
            | 0, _ => rfl
            | 1, _ => rfl⟩⟩)
        have hsrc := Lib.hid (show Sl (wq.drew.alloc (.cells #[.string kk, .int .i64 kn] 73)) (fun b => b < wq.heap.size) 73 2 (.slice ua rl uc) rl (ents (R i1)) from by
          have h1 := HM.out.2.2
          rw [HI.out.1] at h1
          have h1 : Sl wr (fun b => grow S w wr b ∧ o' b = 2 * i1 + 1) 73 2 (.slice ua (R i1).length uc) (R i1).length (ents (R i1)) := h1
          rw [HI.out.2] at h1
          exact ((h1.mono (S' := fun b => b < wr.heap.size) fun b hb _ => hb).frame (w' := wq.drew) fun _ _ _ => by rw [← hwq]; rfl).mono (S' := fun b => b < wq.heap.size) (fun b _ q => by rw [← hwq]; exact q) |>.alloc _)
        obtain ⟨i0, hi, hz0, hz1, hz2⟩ := info_parts' info_entry
        clear d0 d1 d2 d3 d4 n1' n2' e0 e1 hwq hbl
        obtain ⟨p4, pn, pf, p0, p1⟩ := P0
        have ea : ∀ (ob : Obj) (c j : Nat), c < wq.heap.size → (wq.drew.alloc ob).cell? ⟨c, j, none⟩ = wq.cell? ⟨c, j, none⟩ := fun ob c j hc => World.cell?_of_block (w := wq) (a := ⟨c, j, none⟩) (heap_alloc_old (w := wq.drew) ob hc)
        clear P1
        go_region_law (refine step_append_from2 (S := fun b => wq.heap.size ≤ b) rfl _ _ 68 rfl 73 i0 (.agg #[.string ByteArray.empty, .int .i64 0]) 2 24 Try.underlying68 hi hz0 hz1 hz2 rfl (by decide) _ 1 [.string kk, .int .i64 kn] rfl hbase.out _ rl (ents (R i1)) rfl hsrc.out ents_one (by unfold maxLen; omega) (by omega) ?_; intro v2 w2 hs2 hf2; have hq2 : Fr (fun b => wq.heap.size ≤ b) wq w2 := ((Fr.refl (fun b => wq.heap.size ≤ b) wq).drew.alloc (.cells #[.string kk, .int .i64 kn] 73)).trans hf2.arr (fun b _ q => q); obtain ⟨y4, yn, yf, y0, y1⟩ := hC w2 hq2; obtain ⟨va2, vc2, rfl, _⟩ := hs2.shape; have X2 := Lib.hid (And.intro (hs2.mono (S' := fun b => wq.heap.size ≤ b) (fun b _ q => q.elim (fun q => q) (fun q => by (have q1 := q.1; simp at q1; omega)))) hq2); clear hs2 hf2 hq2)
        all_goals
          go_wp2_with fail
          go_roundw
          case rel =>
            have hwq := HWQ.out
            have hzq : wq.heap.size = wr.heap.size := by rw [← hwq]; rfl
            have hF : Fr (fun b => wr.heap.size ≤ b) wr w2 := by
              have h1 := (Fr.refl (fun b => wr.heap.size ≤ b) wr).drewN nq
              rw [hwq] at h1
              exact h1.trans X2.out.2 (fun b _ q => by rw [← hzq]; exact q)
            have hv : Sl w2 (fun b => wr.heap.size ≤ b) 73 2 (.slice va2 (1 + rl) vc2) (R (hx (kk, kn).1 s.pw)).length.succ (ents ((kk, kn) :: R (hx (kk, kn).1 s.pw))) := by
              rw [HI.out.1, HI.out.2, ents_cons, show rl.succ = 1 + rl from by omega, ← hzq]
              exact X2.out.1
            have hn := CrM.next HM.out.1 HM.out.2.1 hF hv
            rw [HI.out.1] at hn
            exact ⟨j + 1, _, _, _, by omega, by go_num, hn⟩
          case measure => simp [intOf]; omega
      · obtain rfl : j = l.length := by omega
        have hd : l.drop l.length = [] := List.drop_length
        have hR := hM.he
        rw [hd] at hR
        have hR : R = moveR s.pw s.R l := hR
        have HM := Lib.hid (And.intro hM hR)
        have y1 := dz 1
        have y3 := dz 3
        clear hM hR hd hlt hmm hMM hN hP hl
        have hFin : ∀ g, decide (m + 1 < M) = g → stepS s = { midS s R with g := g } := fun g hd => by
          obtain ⟨hN, hMM, hmm, hP, hl⟩ := HN.out
          unfold stepS midS
          rw [if_pos HS.out.2.2.2.1, HM.out.2, hl]
          simp only [ChS.mk.injEq, and_true, true_and]
          rw [hmm, hMM]; exact hd
        have HFin := Lib.hid hFin
        clear hFin
        by_cases hq : m + 1 < M
        · have hqd : ((m : Int) + 1 == M) = false := by simp only [beq_eq_false_iff_ne, ne_eq]; omega
          go_wp2_with fail
          go_quiet (fail)
          go_wp2_with fail
          go_ret
          have e : stepS s = midS s R := (HFin.out true (decide_eq_true hq)).trans (by unfold midS; rw [HS.out.2.2.2.1])
          have hg2 : (midS s R).g = true := HS.out.2.2.2.1
          have hw := step_w HS.out.2.1
          rw [e] at hw ⊢
          exact ⟨by rw [hg2]; rfl, ⟨hw, nb, ob, _, _, _, _, HM.out.1.hc.frame (w' := wr.drewN nq) fun _ _ _ => rfl⟩, HM.out.1.hf.drewN nq⟩
        · have hqd : ((m : Int) + 1 == M) = true := by simp only [beq_iff_eq]; omega
          go_wp2_with fail
          go_quiet (fail)
          go_wp2_with fail
          go_ret
          have e := HFin.out false (decide_eq_false hq)
          have hg2 : (midS s R).g = true := HS.out.2.2.2.1
          have hw := step_w HS.out.2.1
          rw [e] at hw ⊢
          have hu := HM.out.1.hc.hSu
          have hSu : u < w.heap.size → S u := fun _ => HS.out.2.2.1.hSu
          have hc := (HM.out.1.hc.frame (w' := wr.drewN nq) fun _ _ _ => rfl).ends hg2 0
          have hz : (((wr.drewN nq).setCell ⟨u, 1, none⟩ (.bool false)).setCell ⟨u, 3, none⟩ (.slice none 0 0)).heap.size = wr.heap.size := by simp [World.setCell]
          exact ⟨rfl, ⟨hw, nb, ob, _, _, _, _, hc.mono fun b _ q => q.imp (fun q => q) (fun q => ⟨q.1, by rw [hz]; exact q.2⟩)⟩, ((HM.out.1.hf.drewN nq).setCell (p := ⟨u, 1, none⟩) hSu _).setCell (p := ⟨u, 3, none⟩) hSu _⟩
end Go.Proofs.Ytnabgcnndehaaaa
