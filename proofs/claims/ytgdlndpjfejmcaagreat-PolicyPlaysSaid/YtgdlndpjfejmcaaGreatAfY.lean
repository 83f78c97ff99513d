/- The reference of layer 13 (arc): Insert. -/
import Derived.Test.YtgdlndpjfejmcaaGreatAfX
import Derived.Test.YtgdlndpjfejmcaaGreatPXb
import Derived.Deep.DeepCutAuto
import Derived.Test.YtgdlndpjfejmcaaGreatPXc
namespace Go.Proofs.YtgdlndpjfejmcaaGreat.Arc
open Go.RowKit
set_option linter.unusedVariables false
set_option maxRecDepth 100000
def insOkF (t : AfS) (id : Int) : Bool := decide (rowOf 2 t.L id < 0 ∧ 0 ≤ id ∧ id ≤ 4194303)
/-- Insert, off memory. -/
def AfS.ins (t : AfS) (id h : Int) : AfS :=
  if insOkF t id then
    if h ∈ t.B1 then { t with P := min t.most (t.P + max 1 ((t.B2.length : Int) / (t.B1.length : Int))), B1 := grem t.B1 h, L := frontL 2 t.L 1 id, H := t.H ++ [(id, h)] }
    else if h ∈ t.B2 then { t with P := max 0 (t.P - max 1 ((t.B1.length : Int) / (t.B2.length : Int))), B2 := grem t.B2 h, L := frontL 2 t.L 1 id, H := t.H ++ [(id, h)] }
    else { t with L := frontL 2 t.L 0 id, H := t.H ++ [(id, h)] }
  else t
set_option maxHeartbeats 2000000 in
theorem af_insert_no (S : Nat → Prop) (p : Nat) (s : AfS) (id hh : Int) (w : World) (h : Af w S p s) (hN : ∀ k, (s.L k).length ≤ 1000000) (hno : insOkF s id = false) :
    Calls Tryz.prog 33 #[.pointer (some ⟨p, 0, none⟩), .int .i64 id, .int .u64 hh] w fun e w' => e = .returned (.bool false) ∧ w = w' := by
  obtain ⟨r, b1, b2, sv, Z, h⟩ := h
  obtain ⟨c0, _⟩ := h.cells
  have HC := Lib.hid (rf_row (Z 0) r 2 s.L id w h.hR hN)
  have hc := of_decide_eq_false hno
  clear h hno hN
  obtain ⟨ro, hro⟩ : ∃ ro, rowOf 2 s.L id = ro := ⟨_, rfl⟩
  rw [hro] at HC hc
  clear hro
  by_cases h1 : 0 ≤ ro
  · have h1' : decide (0 ≤ ro) = true := decide_eq_true h1
    clear hc
    go_enter Tryz.func33, Tryz.ntmps33
    go_wp2_with fail
    refine HC.out.mono ?_
    rintro e w1 ⟨rfl, rfl⟩
    go_wp2
    go_ret
    exact ⟨rfl, rfl⟩
  · have h1' : decide (0 ≤ ro) = false := decide_eq_false h1
    by_cases h2 : id < 0
    · have h2' : decide (id < 0) = true := decide_eq_true h2
      clear hc h1 h2
      go_enter Tryz.func33, Tryz.ntmps33
      go_wp2_with fail
      refine HC.out.mono ?_
      rintro e w1 ⟨rfl, rfl⟩
      go_wp2
      go_ret
      exact ⟨rfl, rfl⟩
    · have h2' : decide (id < 0) = false := decide_eq_false h2
      have h3' : decide (4194303 < id) = true := decide_eq_true (by omega)
      clear hc h1 h2
      go_enter Tryz.func33, Tryz.ntmps33
      go_wp2_with fail
      refine HC.out.mono ?_
      rintro e w1 ⟨rfl, rfl⟩
      go_wp2
      go_ret
      exact ⟨rfl, rfl⟩
section
variable {w w' : World} {S : Nat → Prop} {p r b1 b2 : Nat} {s : AfS} {sv v : Value} {Z : Nat → Nat → Prop} {m1 m2 : Int}
theorem AfO.glue {w0 : World} (hF : Fr S w0 w) (h : AfO w' (grow (grow S w0 w) w w') p s r b1 b2 sv Z m1 m2 ∧ Fr (grow S w0 w) w w') : AfO w' (grow S w0 w') p s r b1 b2 sv Z m1 m2 ∧ Fr S w0 w' :=
  ⟨h.1.mono fun b _ q => grow_grow hF.size h.2.size q, hF.grown h.2⟩
theorem AfO.learn (h : AfO w S p s r b1 b2 sv Z m1 m2) (P' : Int) : AfO (w.setCell ⟨p, 4, none⟩ (.int .i64 P')).drew (grow S w (w.setCell ⟨p, 4, none⟩ (.int .i64 P')).drew) p { s with P := P' } r b1 b2 sv Z m1 m2 ∧ Fr S w (w.setCell ⟨p, 4, none⟩ (.int .i64 P')).drew :=
  ⟨((h.setP P').1.frame (w' := (w.setCell ⟨p, 4, none⟩ (.int .i64 P')).drew) (Nat.le_refl _) fun _ _ _ => rfl).mono fun b _ q => Or.inl q, (h.setP P').2.drew⟩
/-- An id comes to have a number. -/
theorem AfO.name (h : AfO w S p s r b1 b2 sv Z m1 m2) {o : Obj} {id hh : Int} {T : TypeId} (hf : Fr (Arr (Z 3) (w.alloc o) T) (w.alloc o) w') (hv : Sl w' (grow (Z 3) (w.alloc o) w') 104 2 v (s.H.length + 1) (nms s.H ++ [.int .i64 id, .int .u64 hh])) :
    (AfO (w'.setCell ⟨p, 5, none⟩ v) (grow S w (w'.setCell ⟨p, 5, none⟩ v)) p { s with H := s.H ++ [(id, hh)] } r b1 b2 v (growZ Z 3 w w') m1 m2 ∧ Fr S w (w'.setCell ⟨p, 5, none⟩ v)) ∧ w'.cell? ⟨p, 5, none⟩ = some sv ∧ w'.frozen? ⟨p, 5, none⟩ = false := by
  obtain ⟨_, _, _, _, _, c5, fz, hpl⟩ := h.cells
  have hF : Fr (Z 3) w w' := ((Fr.refl (Z 3) w).alloc o).trans hf.arr (fun _ _ q => q)
  have hz : (w.alloc o).heap.size = w.heap.size + 1 := by simp
  refine ⟨h.nums hF ?_, (hF.cell (p := ⟨p, 5, none⟩) hpl (h.hZp 3)).trans c5, (hF.fro (p := ⟨p, 5, none⟩) hpl (h.hZp 3)).trans (fz 5)⟩
  have e : (s.H ++ [(id, hh)]).length = s.H.length + 1 := by simp
  rw [e, nms_snoc]
  exact hv.mono fun b _ q => q.imp (fun q => q) (fun q => ⟨by omega, q.2⟩)
end
structure Lim (t : AfS) : Prop where
  N : ∀ k, (t.L k).length ≤ 1000000
  d : Dsj 2 t.L
  H : t.H.length < 1000000
  m : 0 ≤ t.most
  B1 : t.B1.length < 1000000
  B2 : t.B2.length < 1000000
  P0 : 0 ≤ t.P
  P1 : t.P ≤ 1000000000000
theorem learn_one {P st d : Int} (hst : st = max 1 d) (hq : 0 ≤ d ∧ d ≤ 1000000) (hp0 : 0 ≤ P) (hp1 : P ≤ 1000000000000) :
    IntKind.i64.wrap d = d ∧ wrap64 d = d ∧ IntKind.i64.wrap (P + d) = P + d ∧ wrap64 (P + d) = P + d ∧ wrap64 (P + 1) = P + 1 ∧ IntKind.i64.wrap (P + 1) = P + 1 ∧ wrap64 (P + if 1 < d then d else 1) = P + st := by
  refine ⟨by rw [IntKind.wrap_i64]; omega, wrap64_id (by omega) (by omega), by rw [IntKind.wrap_i64]; omega, wrap64_id (by omega) (by omega), wrap64_id (by omega) (by omega), by rw [IntKind.wrap_i64]; omega, ?_⟩
  split
  · rw [wrap64_id (by omega) (by omega)]; omega
  · rw [wrap64_id (by omega) (by omega)]; omega
theorem learn_two {P st d : Int} (hst : st = max 1 d) (hq : 0 ≤ d ∧ d ≤ 1000000) (hp0 : 0 ≤ P) (hp1 : P ≤ 1000000000000) :
    IntKind.i64.wrap d = d ∧ wrap64 d = d ∧ IntKind.i64.wrap (P - d) = P - d ∧ wrap64 (P - d) = P - d ∧ wrap64 (P - 1) = P - 1 ∧ IntKind.i64.wrap (P - 1) = P - 1 ∧ wrap64 (P - if 1 < d then d else 1) = P - st := by
  refine ⟨by rw [IntKind.wrap_i64]; omega, wrap64_id (by omega) (by omega), by rw [IntKind.wrap_i64]; omega, wrap64_id (by omega) (by omega), wrap64_id (by omega) (by omega), by rw [IntKind.wrap_i64]; omega, ?_⟩
  split
  · rw [wrap64_id (by omega) (by omega)]; omega
  · rw [wrap64_id (by omega) (by omega)]; omega
end Go.Proofs.YtgdlndpjfejmcaaGreat.Arc
/- The reference of layer 13 (arc): Insert, one way. -/
namespace Go.Proofs.YtgdlndpjfejmcaaGreat.Arc
open Go.RowKit
set_option linter.unusedVariables false
set_option maxRecDepth 100000
set_option maxRecDepth 100000 in
set_option maxHeartbeats 1000000 in
theorem af_insert_two (S : Nat → Prop) (p : Nat) (s : AfS) (id hh : Int) (w : World) (h : Af w S p s) (hL : Lim s) (hok : insOkF s id = true) (h1 : decide (hh ∈ s.B1) = false) (h2 : decide (hh ∈ s.B2) = true) :
    Calls Tryz.prog 33 #[.pointer (some ⟨p, 0, none⟩), .int .i64 id, .int .u64 hh] w fun e w' => e = .returned (.bool true) ∧ Af w' (grow S w w') p (s.ins id hh) ∧ Fr S w w' := by
  obtain ⟨i0, hi, hz0, hz1, hz2⟩ := info_parts info_named
  obtain ⟨r, b1, b2, sv, Z, h⟩ := h
  obtain ⟨c0, c1, c2, c3, c4, c5, fz, _⟩ := h.cells
  have f4 := fz 4
  have HC := Lib.hid (rf_row (Z 0) r 2 s.L id w h.hR hL.N)
  have hc := of_decide_eq_true hok
  obtain ⟨ro, hro⟩ : ∃ ro, rowOf 2 s.L id = ro := ⟨_, rfl⟩
  rw [hro] at HC hc
  have h1' : decide (0 ≤ ro) = false := decide_eq_false (by omega)
  have h2' : decide (id < 0) = false := decide_eq_false (by omega)
  have h3' : decide (4194303 < id) = false := decide_eq_false (by omega)
  have hs1 := rhas_at (Z 1) b1 s.most s.B1 hh w h.h1 (Nat.le_of_lt hL.B1)
  have hs2 := rhas_at (Z 2) b2 s.most s.B2 hh w h.h2 (Nat.le_of_lt hL.B2)
  have hq1 := h1
  have hq2 := h2
  rw [hq1] at hs1
  rw [hq2] at hs2
  have HK := Lib.hid (And.intro hs1 hs2)
  have HQ := Lib.hid (And.intro hq1 hq2)
  have HL := Lib.hid (And.intro hL hok)
  have HO := Lib.hid h
  obtain ⟨v1, _, hp1, hl1⟩ := h.h1
  obtain ⟨v2, _, hp2, hl2⟩ := h.h2
  have d1 := cell_of_heap hp1 1
  have d2 := cell_of_heap hp2 1
  simp at d1 d2
  obtain ⟨a1, cap1, rfl, _⟩ := hl1.shape
  obtain ⟨a2, cap2, rfl, _⟩ := hl2.shape
  obtain ⟨sa, scap, rfl, _⟩ := h.hs.shape
  have hHl := hL.H
  clear h1 h2 h hL hok hc hs1 hs2 hq1 hq2 hro fz hp1 hp2 hl1 hl2
  have hm1 := of_decide_eq_false HQ.out.1
  have hm := of_decide_eq_true HQ.out.2
  obtain ⟨n1, hn1⟩ : ∃ n, s.B1.length = n := ⟨_, rfl⟩
  obtain ⟨n2, hn2⟩ : ∃ n, s.B2.length = n := ⟨_, rfl⟩
  have hn0 : ¬ n2 = 0 := by
    have h1 := List.length_pos_of_mem hm
    omega
  have hb1 := HL.out.1.B1
  have hb2 := HL.out.1.B2
  have hp0 := HL.out.1.P0
  have hp1 := HL.out.1.P1
  obtain ⟨st, hst⟩ : ∃ st : Int, st = max 1 ((n1 : Int) / (n2 : Int)) := ⟨_, rfl⟩
  have hq : 0 ≤ (n1 : Int) / (n2 : Int) ∧ (n1 : Int) / (n2 : Int) ≤ 1000000 := ⟨Int.ediv_nonneg (by omega) (by omega), Int.le_trans (Int.ediv_le_self _ (by omega)) (by omega)⟩
  obtain ⟨P, hP⟩ : ∃ P, s.P = P := ⟨_, rfl⟩
  obtain ⟨mo, hmo⟩ : ∃ P, s.most = P := ⟨_, rfl⟩
  rw [hn1] at d1
  rw [hn2] at d2
  rw [hP] at c4 hp0 hp1
  rw [hmo] at c3
  have HFF := Lib.hid (learn_two (P := P) hst hq hp0 hp1)
  have HN := Lib.hid (And.intro hn1 (And.intro hn2 (And.intro hst (And.intro hq (And.intro hP (And.intro hmo (And.intro hp0 hp1)))))))
  clear hm hm1 hn1 hn2 hb1 hb2 hst hq hP hmo hp0 hp1
  go_enter Tryz.func33, Tryz.ntmps33
  go_wp2_with fail
  refine HC.out.mono ?_
  rintro e w1 ⟨rfl, rfl⟩
  go_wp2_with fail
  refine HK.out.1.mono ?_
  rintro e w1 ⟨rfl, rfl⟩
  go_wp2_with fail
  refine HK.out.2.mono ?_
  rintro e w1 ⟨rfl, rfl⟩
  go_upto_region 11 with fail
  go_cut [7] (fun t wx => t = .bool false ∧ wx = (w.setCell ⟨p, 4, none⟩ (.int .i64 (max 0 (P - st)))).drew)
  case first =>
    go_still_tail 27, (by kernel_rfl)
    go_wp2_with fail
    all_goals
      go_meet
      refine ⟨rfl, congrArg (fun x => (w.setCell ⟨p, 4, none⟩ (.int .i64 x)).drew) ?_⟩
      obtain ⟨f1, f2, f3, f4, f5, f6, f7⟩ := HFF.out
      simp only [f1, f2, f3, f4, f5, f6, f7] at *
      obtain ⟨_, _, hst, hq, _, _, hp0, hp1⟩ := HN.out
      omega
  case rest =>
    obtain ⟨rfl, hwx⟩ := hcut
    have hlearn := HO.out.learn (max 0 (P - st))
    rw [← hwx] at hlearn
    have H1 := Lib.hid hlearn
    clear hlearn hwx c0 c1 c2 c3 c4 c5 f4 d1 d2
    obtain ⟨w1, rfl⟩ : ∃ w1 : World, w1 = wc := ⟨_, rfl⟩
    obtain ⟨_, c1, c2, _, _, _, _, _⟩ := H1.out.1.cells
    go_wp2_with fail
    refine (rremove_at _ b2 _ s.B2 hh _ H1.out.1.h2 (Nat.le_of_lt HL.out.1.B2)).mono ?_
    rintro e w2 ⟨rfl, hG, hF⟩
    have H2 := Lib.hid (AfO.glue H1.out.2 (H1.out.1.two hG hF))
    clear hG hF c1 c2
    obtain ⟨c0, _, _, _, _, _, _, _⟩ := H2.out.1.cells
    go_wp2_with fail
    refine (rf_front _ r 2 s.L 1 id _ H2.out.1.hR HL.out.1.N HL.out.1.d).mono ?_
    rintro e w3 ⟨rfl, hR, hF⟩
    have H3 := Lib.hid (AfO.glue H2.out.2 (H2.out.1.rows hR hF))
    clear hR hF c0
    obtain ⟨_, _, _, _, _, c5, _, _⟩ := H3.out.1.cells
    have HSl := Lib.hid (show Sl w3 _ 104 2 (.slice sa s.H.length scap) s.H.length (nms s.H) from H3.out.1.hs)
    go_wp2_with (at_builtin; refine wpList_append_sl rfl _ _ 71 rfl 104 i0 (.agg #[.int .i64 0, .int .u64 0]) 2 16 Tryz.underlying71 hi hz0 hz1 hz2 rfl (by decide) _ _ _ rfl (HSl.out.alloc _) ⟨_, 0, none⟩ 1 1 [.int .i64 id, .int .u64 hh] rfl rfl (cell_two_at _ _ _ _ (by simp)) (by intro u hu; simp at hu; rcases hu with rfl | rfl <;> rfl) (by unfold maxLen; omega) (by omega) ?_; intro v1 w5 hs1 hf1; obtain ⟨av, capv, rfl, _⟩ := hs1.shape; have hnm := H3.out.1.name hf1 hs1; obtain ⟨hnA, e5, g5⟩ := hnm; have H5 := Lib.hid hnA; clear hs1 hf1 hnA)
    go_ret
    have hfin := AfO.glue H3.out.2 H5.out
    have hPe : max 0 (s.P - max 1 ((s.B1.length : Int) / (s.B2.length : Int))) = max 0 (P - st) := by
      obtain ⟨hn1, hn2, hst, _, hP, hmo, _, _⟩ := HN.out
      rw [hn1, hn2, ← hst, hP]
    have he : s.ins id hh = { s with P := max 0 (P - st), B2 := grem s.B2 hh, L := frontL 2 s.L 1 id, H := s.H ++ [(id, hh)] } := by
      unfold AfS.ins
      rw [if_pos HL.out.2, if_neg (of_decide_eq_false HQ.out.1), if_pos (of_decide_eq_true HQ.out.2), hPe]
    have hfin2 : Af _ _ p _ := ⟨_, _, _, _, _, hfin.1⟩
    rw [he]
    exact ⟨rfl, hfin2, hfin.2⟩
end Go.Proofs.YtgdlndpjfejmcaaGreat.Arc
/- The reference of layer 13 (arc): Insert, one way. -/
namespace Go.Proofs.YtgdlndpjfejmcaaGreat.Arc
open Go.RowKit
set_option linter.unusedVariables false
set_option maxRecDepth 100000
set_option maxRecDepth 100000 in
set_option maxHeartbeats 1000000 in
theorem af_insert_one (S : Nat → Prop) (p : Nat) (s : AfS) (id hh : Int) (w : World) (h : Af w S p s) (hL : Lim s) (hok : insOkF s id = true) (h1 : decide (hh ∈ s.B1) = true) :
    Calls Tryz.prog 33 #[.pointer (some ⟨p, 0, none⟩), .int .i64 id, .int .u64 hh] w fun e w' => e = .returned (.bool true) ∧ Af w' (grow S w w') p (s.ins id hh) ∧ Fr S w w' := by
  obtain ⟨i0, hi, hz0, hz1, hz2⟩ := info_parts info_named
  obtain ⟨r, b1, b2, sv, Z, h⟩ := h
  obtain ⟨c0, c1, c2, c3, c4, c5, fz, _⟩ := h.cells
  have f4 := fz 4
  have HC := Lib.hid (rf_row (Z 0) r 2 s.L id w h.hR hL.N)
  have hc := of_decide_eq_true hok
  obtain ⟨ro, hro⟩ : ∃ ro, rowOf 2 s.L id = ro := ⟨_, rfl⟩
  rw [hro] at HC hc
  have h1' : decide (0 ≤ ro) = false := decide_eq_false (by omega)
  have h2' : decide (id < 0) = false := decide_eq_false (by omega)
  have h3' : decide (4194303 < id) = false := decide_eq_false (by omega)
  have hs1 := rhas_at (Z 1) b1 s.most s.B1 hh w h.h1 (Nat.le_of_lt hL.B1)
  have hs2 := rhas_at (Z 2) b2 s.most s.B2 hh w h.h2 (Nat.le_of_lt hL.B2)
  have hq1 := h1
  obtain ⟨q2, hq2⟩ : ∃ q, decide (hh ∈ s.B2) = q := ⟨_, rfl⟩
  rw [hq1] at hs1
  rw [hq2] at hs2
  have HK := Lib.hid (And.intro hs1 hs2)
  have HQ := Lib.hid (And.intro hq1 hq2)
  have HL := Lib.hid (And.intro hL hok)
  have HO := Lib.hid h
  obtain ⟨v1, _, hp1, hl1⟩ := h.h1
  obtain ⟨v2, _, hp2, hl2⟩ := h.h2
  have d1 := cell_of_heap hp1 1
  have d2 := cell_of_heap hp2 1
  simp at d1 d2
  obtain ⟨a1, cap1, rfl, _⟩ := hl1.shape
  obtain ⟨a2, cap2, rfl, _⟩ := hl2.shape
  obtain ⟨sa, scap, rfl, _⟩ := h.hs.shape
  have hHl := hL.H
  clear h1 h hL hok hc hs1 hs2 hq1 hq2 hro fz hp1 hp2 hl1 hl2
  have hm := of_decide_eq_true HQ.out.1
  obtain ⟨n1, hn1⟩ : ∃ n, s.B1.length = n := ⟨_, rfl⟩
  obtain ⟨n2, hn2⟩ : ∃ n, s.B2.length = n := ⟨_, rfl⟩
  have hn0 : ¬ n1 = 0 := by
    have h1 := List.length_pos_of_mem hm
    omega
  have hb1 := HL.out.1.B1
  have hb2 := HL.out.1.B2
  have hp0 := HL.out.1.P0
  have hp1 := HL.out.1.P1
  obtain ⟨st, hst⟩ : ∃ st : Int, st = max 1 ((n2 : Int) / (n1 : Int)) := ⟨_, rfl⟩
  have hq : 0 ≤ (n2 : Int) / (n1 : Int) ∧ (n2 : Int) / (n1 : Int) ≤ 1000000 := ⟨Int.ediv_nonneg (by omega) (by omega), Int.le_trans (Int.ediv_le_self _ (by omega)) (by omega)⟩
  obtain ⟨P, hP⟩ : ∃ P, s.P = P := ⟨_, rfl⟩
  obtain ⟨mo, hmo⟩ : ∃ P, s.most = P := ⟨_, rfl⟩
  rw [hn1] at d1
  rw [hn2] at d2
  rw [hP] at c4 hp0 hp1
  rw [hmo] at c3
  have HFF := Lib.hid (learn_one (P := P) hst hq hp0 hp1)
  have HN := Lib.hid (And.intro hn1 (And.intro hn2 (And.intro hst (And.intro hq (And.intro hP (And.intro hmo (And.intro hp0 hp1)))))))
  clear hm hn1 hn2 hb1 hb2 hst hq hP hmo hp0 hp1
  go_enter Tryz.func33, Tryz.ntmps33
  go_wp2_with fail
  refine HC.out.mono ?_
  rintro e w1 ⟨rfl, rfl⟩
  go_wp2_with fail
  refine HK.out.1.mono ?_
  rintro e w1 ⟨rfl, rfl⟩
  go_wp2_with fail
  refine HK.out.2.mono ?_
  rintro e w1 ⟨rfl, rfl⟩
  go_upto_region 7 with fail
  go_cut [7] (fun t wx => t = .bool true ∧ wx = (w.setCell ⟨p, 4, none⟩ (.int .i64 (min mo (P + st)))).drew)
  case first =>
    go_still_tail 31, (by kernel_rfl)
    go_wp2_with fail
    all_goals
      go_meet
      refine ⟨rfl, congrArg (fun x => (w.setCell ⟨p, 4, none⟩ (.int .i64 x)).drew) ?_⟩
      obtain ⟨f1, f2, f3, f4, f5, f6, f7⟩ := HFF.out
      simp only [f1, f2, f3, f4, f5, f6, f7] at *
      obtain ⟨_, _, hst, hq, _, _, hp0, hp1⟩ := HN.out
      omega
  case rest =>
    obtain ⟨rfl, hwx⟩ := hcut
    have hlearn := HO.out.learn (min mo (P + st))
    rw [← hwx] at hlearn
    have H1 := Lib.hid hlearn
    clear hlearn hwx c0 c1 c2 c3 c4 c5 f4 d1 d2
    obtain ⟨w1, rfl⟩ : ∃ w1 : World, w1 = wc := ⟨_, rfl⟩
    obtain ⟨_, c1, c2, _, _, _, _, _⟩ := H1.out.1.cells
    go_wp2_with fail
    refine (rremove_at _ b1 _ s.B1 hh _ H1.out.1.h1 (Nat.le_of_lt HL.out.1.B1)).mono ?_
    rintro e w2 ⟨rfl, hG, hF⟩
    have H2 := Lib.hid (AfO.glue H1.out.2 (H1.out.1.one hG hF))
    clear hG hF c1 c2
    obtain ⟨c0, _, _, _, _, _, _, _⟩ := H2.out.1.cells
    go_wp2_with fail
    refine (rf_front _ r 2 s.L 1 id _ H2.out.1.hR HL.out.1.N HL.out.1.d).mono ?_
    rintro e w3 ⟨rfl, hR, hF⟩
    have H3 := Lib.hid (AfO.glue H2.out.2 (H2.out.1.rows hR hF))
    clear hR hF c0
    obtain ⟨_, _, _, _, _, c5, _, _⟩ := H3.out.1.cells
    have HSl := Lib.hid (show Sl w3 _ 104 2 (.slice sa s.H.length scap) s.H.length (nms s.H) from H3.out.1.hs)
    go_wp2_with (at_builtin; refine wpList_append_sl rfl _ _ 71 rfl 104 i0 (.agg #[.int .i64 0, .int .u64 0]) 2 16 Tryz.underlying71 hi hz0 hz1 hz2 rfl (by decide) _ _ _ rfl (HSl.out.alloc _) ⟨_, 0, none⟩ 1 1 [.int .i64 id, .int .u64 hh] rfl rfl (cell_two_at _ _ _ _ (by simp)) (by intro u hu; simp at hu; rcases hu with rfl | rfl <;> rfl) (by unfold maxLen; omega) (by omega) ?_; intro v1 w5 hs1 hf1; obtain ⟨av, capv, rfl, _⟩ := hs1.shape; have hnm := H3.out.1.name hf1 hs1; obtain ⟨hnA, e5, g5⟩ := hnm; have H5 := Lib.hid hnA; clear hs1 hf1 hnA)
    go_ret
    have hfin := AfO.glue H3.out.2 H5.out
    have hPe : min s.most (s.P + max 1 ((s.B2.length : Int) / (s.B1.length : Int))) = min mo (P + st) := by
      obtain ⟨hn1, hn2, hst, _, hP, hmo, _, _⟩ := HN.out
      rw [hn1, hn2, ← hst, hP, hmo]
    have he : s.ins id hh = { s with P := min mo (P + st), B1 := grem s.B1 hh, L := frontL 2 s.L 1 id, H := s.H ++ [(id, hh)] } := by
      unfold AfS.ins
      rw [if_pos HL.out.2, if_pos (of_decide_eq_true HQ.out.1), hPe]
    have hfin2 : Af _ _ p _ := ⟨_, _, _, _, _, hfin.1⟩
    rw [he]
    exact ⟨rfl, hfin2, hfin.2⟩
end Go.Proofs.YtgdlndpjfejmcaaGreat.Arc
/- The reference of layer 13 (arc): Insert, one way. -/
namespace Go.Proofs.YtgdlndpjfejmcaaGreat.Arc
open Go.RowKit
set_option linter.unusedVariables false
set_option maxRecDepth 100000
set_option maxRecDepth 100000 in
set_option maxHeartbeats 1000000 in
theorem af_insert_none (S : Nat → Prop) (p : Nat) (s : AfS) (id hh : Int) (w : World) (h : Af w S p s) (hL : Lim s) (hok : insOkF s id = true) (h1 : decide (hh ∈ s.B1) = false) (h2 : decide (hh ∈ s.B2) = false) :
    Calls Tryz.prog 33 #[.pointer (some ⟨p, 0, none⟩), .int .i64 id, .int .u64 hh] w fun e w' => e = .returned (.bool true) ∧ Af w' (grow S w w') p (s.ins id hh) ∧ Fr S w w' := by
  obtain ⟨i0, hi, hz0, hz1, hz2⟩ := info_parts info_named
  obtain ⟨r, b1, b2, sv, Z, h⟩ := h
  obtain ⟨c0, c1, c2, c3, c4, c5, fz, _⟩ := h.cells
  have f4 := fz 4
  have HC := Lib.hid (rf_row (Z 0) r 2 s.L id w h.hR hL.N)
  have hc := of_decide_eq_true hok
  obtain ⟨ro, hro⟩ : ∃ ro, rowOf 2 s.L id = ro := ⟨_, rfl⟩
  rw [hro] at HC hc
  have h1' : decide (0 ≤ ro) = false := decide_eq_false (by omega)
  have h2' : decide (id < 0) = false := decide_eq_false (by omega)
  have h3' : decide (4194303 < id) = false := decide_eq_false (by omega)
  have hs1 := rhas_at (Z 1) b1 s.most s.B1 hh w h.h1 (Nat.le_of_lt hL.B1)
  have hs2 := rhas_at (Z 2) b2 s.most s.B2 hh w h.h2 (Nat.le_of_lt hL.B2)
  have hq1 := h1
  have hq2 := h2
  rw [hq1] at hs1
  rw [hq2] at hs2
  have HK := Lib.hid (And.intro hs1 hs2)
  have HQ := Lib.hid (And.intro hq1 hq2)
  have HL := Lib.hid (And.intro hL hok)
  have HO := Lib.hid h
  obtain ⟨v1, _, hp1, hl1⟩ := h.h1
  obtain ⟨v2, _, hp2, hl2⟩ := h.h2
  have d1 := cell_of_heap hp1 1
  have d2 := cell_of_heap hp2 1
  simp at d1 d2
  obtain ⟨a1, cap1, rfl, _⟩ := hl1.shape
  obtain ⟨a2, cap2, rfl, _⟩ := hl2.shape
  obtain ⟨sa, scap, rfl, _⟩ := h.hs.shape
  have hHl := hL.H
  clear h1 h2 h hL hok hc hs1 hs2 hq1 hq2 hro fz hp1 hp2 hl1 hl2
  go_enter Tryz.func33, Tryz.ntmps33
  go_wp2_with fail
  refine HC.out.mono ?_
  rintro e w1 ⟨rfl, rfl⟩
  go_wp2_with fail
  refine HK.out.1.mono ?_
  rintro e w1 ⟨rfl, rfl⟩
  go_wp2_with fail
  refine HK.out.2.mono ?_
  rintro e w1 ⟨rfl, rfl⟩
  go_wp2_with fail
  refine (rf_front _ r 2 s.L 0 id _ HO.out.hR HL.out.1.N HL.out.1.d).mono ?_
  rintro e w3 ⟨rfl, hR, hF⟩
  have hro := HO.out.rows hR hF
  have H3 := Lib.hid hro
  clear hR hF hro c0 c1 c2 c3 c4 c5 f4 d1 d2
  obtain ⟨_, _, _, _, _, c5, _, _⟩ := H3.out.1.cells
  have HSl := Lib.hid (show Sl w3 _ 104 2 (.slice sa s.H.length scap) s.H.length (nms s.H) from H3.out.1.hs)
  go_wp2_with (at_builtin; refine wpList_append_sl rfl _ _ 71 rfl 104 i0 (.agg #[.int .i64 0, .int .u64 0]) 2 16 Tryz.underlying71 hi hz0 hz1 hz2 rfl (by decide) _ _ _ rfl (HSl.out.alloc _) ⟨_, 0, none⟩ 1 1 [.int .i64 id, .int .u64 hh] rfl rfl (cell_two_at _ _ _ _ (by simp)) (by intro u hu; simp at hu; rcases hu with rfl | rfl <;> rfl) (by unfold maxLen; omega) (by omega) ?_; intro v1 w5 hs1 hf1; obtain ⟨av, capv, rfl, _⟩ := hs1.shape; have hnm := H3.out.1.name hf1 hs1; obtain ⟨hnA, e5, g5⟩ := hnm; have H5 := Lib.hid hnA; clear hs1 hf1 hnA)
  go_ret
  have hfin := AfO.glue H3.out.2 H5.out
  have he : s.ins id hh = { s with L := frontL 2 s.L 0 id, H := s.H ++ [(id, hh)] } := by
    unfold AfS.ins
    rw [if_pos HL.out.2, if_neg (of_decide_eq_false HQ.out.1), if_neg (of_decide_eq_false HQ.out.2)]
  have hfin2 : Af _ _ p _ := ⟨_, _, _, _, _, hfin.1⟩
  rw [he]
  exact ⟨rfl, hfin2, hfin.2⟩
end Go.Proofs.YtgdlndpjfejmcaaGreat.Arc
/- The reference of layer 13 (arc): Insert. -/
namespace Go.Proofs.YtgdlndpjfejmcaaGreat.Arc
open Go.RowKit
set_option linter.unusedVariables false
set_option maxRecDepth 100000
theorem af_insert (S : Nat → Prop) (p : Nat) (s : AfS) (id hh : Int) (w : World) (h : Af w S p s) (hL : Lim s) :
    Calls Tryz.prog 33 #[.pointer (some ⟨p, 0, none⟩), .int .i64 id, .int .u64 hh] w fun e w' => e = .returned (.bool (insOkF s id)) ∧ Af w' (grow S w w') p (s.ins id hh) ∧ Fr S w w' := by
  rcases hok : insOkF s id with _ | _
  · refine (af_insert_no S p s id hh w h hL.N hok).mono fun e w' ⟨he, hw⟩ => ?_
    subst hw
    have hi : s.ins id hh = s := by unfold AfS.ins; rw [if_neg (by rw [hok]; decide)]
    rw [hi]
    exact ⟨he, h.mono fun b _ q => Or.inl q, Fr.refl _ _⟩
  · rcases h1 : decide (hh ∈ s.B1) with _ | _
    · rcases h2 : decide (hh ∈ s.B2) with _ | _
      · exact af_insert_none S p s id hh w h hL hok h1 h2
      · exact af_insert_two S p s id hh w h hL hok h1 h2
    · exact af_insert_one S p s id hh w h hL hok h1
end Go.Proofs.YtgdlndpjfejmcaaGreat.Arc
/- Layer 13 (arc) and its reference, off memory: what keeps them alike. -/
namespace Go.Proofs.YtgdlndpjfejmcaaGreat.Arc
open Go.RowKit
set_option linter.unusedVariables false
set_option maxRecDepth 100000
structure Syn (k : Nat) (s : ArcS) (t : AfS) : Prop where
  L : t.L = s.L
  B1 : t.B1 = s.B1
  B2 : t.B2 = s.B2
  most : t.most = s.most
  m1 : s.m1 = s.most
  m2 : s.m2 = s.most
  P : t.P = s.P
  P0 : 0 ≤ s.P
  P1 : s.P ≤ s.most
  Pk : s.P ≤ k * 1000000
  H : ∀ id, s.H id = numOf t.H id
  st : ∀ y ∈ t.H, y.1 ∈ t.L 0 ∨ y.1 ∈ t.L 1
  len : t.H.length ≤ k
theorem syn_start : Syn 0 arc0 af0 := by
  refine ⟨rfl, rfl, rfl, rfl, rfl, rfl, rfl, by decide, by decide, by decide, fun x => rfl, fun y hy => ?_, by decide⟩
  exact absurd hy (by simp [af0])
theorem Syn.more {k : Nat} {s : ArcS} {t : AfS} (h : Syn k s t) : Syn (k + 1) s t := ⟨h.L, h.B1, h.B2, h.most, h.m1, h.m2, h.P, h.P0, h.P1, by have := h.Pk; omega, h.H, h.st, by have := h.len; omega⟩
theorem syn_cap {k : Nat} {s : ArcS} {t : AfS} (h : Syn k s t) (n : Int) : Syn (k + 1) (capA s n) (t.cap n) := by
  have h0 := h.P0
  have h1 := h.P1
  have hk := h.Pk
  refine ⟨h.L, ?_, ?_, rfl, rfl, rfl, ?_, ?_, ?_, ?_, h.H, h.st, by have := h.len; show t.H.length ≤ k + 1; omega⟩
  · show Go.Proofs.YtgdlndpjfejmcaaGreat.cut (max 0 n) t.B1 = Go.Proofs.YtgdlndpjfejmcaaGreat.cut (max 0 n) s.B1; rw [h.B1]
  · show Go.Proofs.YtgdlndpjfejmcaaGreat.cut (max 0 n) t.B2 = Go.Proofs.YtgdlndpjfejmcaaGreat.cut (max 0 n) s.B2; rw [h.B2]
  · show min t.P (max 0 n) = min s.P (max 0 n); rw [h.P]
  · show 0 ≤ min s.P (max 0 n); omega
  · show min s.P (max 0 n) ≤ max 0 n; omega
  · show min s.P (max 0 n) ≤ _; omega
theorem mem_front {L : Nat → List Int} {r : Nat} {id x : Int} (hr : r = 0 ∨ r = 1) (h : x ∈ L 0 ∨ x ∈ L 1) : x ∈ putF (del L id) r id 0 ∨ x ∈ putF (del L id) r id 1 := by
  have hf : ∀ l : List Int, x ∈ l → x ≠ id → x ∈ l.filter (· != id) := fun l q hne => List.mem_filter.2 ⟨q, by simpa using hne⟩
  rcases hr with rfl | rfl
  · rw [(putF_0 L id).1, (putF_0 L id).2]
    by_cases e : x = id
    · exact Or.inl (by simp [e])
    · exact h.imp (fun q => List.mem_cons_of_mem _ (hf _ q e)) (fun q => hf _ q e)
  · rw [(putF_1 L id).1, (putF_1 L id).2]
    by_cases e : x = id
    · exact Or.inr (by simp [e])
    · exact h.imp (fun q => hf _ q e) (fun q => List.mem_cons_of_mem _ (hf _ q e))
theorem mem_front_id (L : Nat → List Int) {r : Nat} (id : Int) (hr : r = 0 ∨ r = 1) : id ∈ putF (del L id) r id 0 ∨ id ∈ putF (del L id) r id 1 := by
  rcases hr with rfl | rfl
  · exact Or.inl (by rw [(putF_0 L id).1]; simp)
  · exact Or.inr (by rw [(putF_1 L id).2]; simp)
theorem syn_touch {k : Nat} {s : ArcS} {t : AfS} (h : Syn k s t) (hw : Wid s.L) (id : Int) :
    (if 0 ≤ rowOf 2 t.L id then mayIn 2 1 id else false) = decide (0 ≤ rowOf 2 s.L id) ∧ Syn k (touchA s id) (if 0 ≤ rowOf 2 t.L id then t.front 1 id else t) := by
  unfold touchA
  rw [h.L]
  by_cases hr : 0 ≤ rowOf 2 s.L id
  · have hi : 0 ≤ id ∧ id ≤ 4194303 := ((rowOf2_nn s.L id).1 hr).elim (hw 0 id (by decide)) (hw 1 id (by decide))
    rw [if_pos hr, if_pos hr, if_pos hr, decide_eq_true hr]
    refine ⟨decide_eq_true ⟨by decide, by decide, hi⟩, ⟨?_, h.B1, h.B2, h.most, h.m1, h.m2, h.P, h.P0, h.P1, h.Pk, h.H, ?_, h.len⟩⟩
    · show frontL 2 t.L 1 id = _; rw [h.L]
    · intro y hy
      show y.1 ∈ frontL 2 t.L 1 id 0 ∨ y.1 ∈ frontL 2 t.L 1 id 1
      rw [front2 _ _ _ (Or.inr rfl) hi.1 hi.2]
      exact mem_front (r := 1) (Or.inr rfl) (h.st y hy)
  · rw [if_neg hr, if_neg hr, if_neg hr, decide_eq_false hr]
    exact ⟨rfl, h⟩
theorem numOf_filter (id x : Int) : ∀ l : List (Int × Int), numOf (l.filter fun y => y.1 != id) x = if x = id then 0 else numOf l x
  | [] => by simp [numOf]
  | p :: l => by
    have ih := numOf_filter id x l
    by_cases e : p.1 = id
    · rw [List.filter_cons_of_neg (by simp [e]), ih]
      by_cases e2 : x = id
      · rw [if_pos e2, if_pos e2]
      · rw [if_neg e2, if_neg e2]
        have : ¬ p.1 = x := fun q => e2 (q.symm.trans e)
        simp [numOf, this]
    · rw [List.filter_cons_of_pos (by simpa using e)]
      by_cases e2 : p.1 = x
      · have : ¬ x = id := fun q => e (e2.trans q)
        rw [if_neg this]
        simp [numOf, e2]
      · simp only [numOf, if_neg e2]
        exact ih
theorem syn_rem {k : Nat} {s : ArcS} {t : AfS} (h : Syn k s t) (id : Int) : Syn k (remA s id) (t.drop id) := by
  refine ⟨?_, h.B1, h.B2, h.most, h.m1, h.m2, h.P, h.P0, h.P1, h.Pk, ?_, ?_, Nat.le_trans (List.length_filter_le _ _) h.len⟩
  · show del t.L id = del s.L id; rw [h.L]
  · intro x
    show setH s.H id 0 x = numOf (t.H.filter _) x
    rw [numOf_filter]
    unfold setH
    split
    · rfl
    · exact h.H x
  · intro y hy
    obtain ⟨h1, h2⟩ := List.mem_filter.1 hy
    have hne : y.1 ≠ id := by simpa using h2
    exact (h.st y h1).imp (fun q => List.mem_filter.2 ⟨q, by simpa using hne⟩) (fun q => List.mem_filter.2 ⟨q, by simpa using hne⟩)
theorem numOf_out {l : List (Int × Int)} {x : Int} (h : ∀ y ∈ l, y.1 ≠ x) (v : Int) : numOf (l ++ [(x, v)]) x = v := by
  induction l with
  | nil => simp [numOf]
  | cons p l ih =>
    have hp := h p (by simp)
    simp only [List.cons_append, numOf, if_neg hp]
    exact ih fun y hy => h y (by simp [hy])
theorem numOf_app {l : List (Int × Int)} {x id : Int} (hne : x ≠ id) (v : Int) : numOf (l ++ [(id, v)]) x = numOf l x := by
  induction l with
  | nil => simp [numOf, Ne.symm hne]
  | cons p l ih =>
    simp only [List.cons_append, numOf]
    split
    · rfl
    · exact ih
theorem syn_evict {k : Nat} {s : ArcS} {t : AfS} (h : Syn k s t) (hn : ∀ r, 2 ≤ r → s.L r = []) (id : Int) : Syn k (evictA s id) (t.evict id) := by
  by_cases hr : 0 ≤ rowOf 2 s.L id
  · have he : evictA s id = { remA s id with B1 := if rowOf 2 s.L id = 0 then gadd s.m1 s.B1 (s.H id) else s.B1, B2 := if rowOf 2 s.L id = 1 then gadd s.m2 s.B2 (s.H id) else s.B2 } := by unfold evictA; rw [if_pos hr]; rfl
    have ht : t.evict id = { t.drop id with B1 := if rowOf 2 s.L id = 0 then gadd s.m1 s.B1 (s.H id) else s.B1, B2 := if rowOf 2 s.L id = 1 then gadd s.m2 s.B2 (s.H id) else s.B2 } := by
      unfold AfS.evict AfS.drop
      rw [h.L, h.B1, h.B2, h.m1, h.m2, h.most, h.H]
    rw [he, ht]
    have hs := syn_rem h id
    exact ⟨hs.L, rfl, rfl, hs.most, hs.m1, hs.m2, hs.P, hs.P0, hs.P1, hs.Pk, hs.H, hs.st, hs.len⟩
  · have hno : id ∉ s.L 0 ∧ id ∉ s.L 1 := ⟨fun q => hr ((rowOf2_nn _ _).2 (Or.inl q)), fun q => hr ((rowOf2_nn _ _).2 (Or.inr q))⟩
    have he : evictA s id = s := by unfold evictA; rw [if_neg hr]
    have hL : del t.L id = t.L := by
      rw [h.L]
      refine del_none fun r q => ?_
      match r, q with
      | 0, q => exact hno.1 q
      | 1, q => exact hno.2 q
      | r + 2, q => rw [hn (r + 2) (by omega)] at q; cases q
    have hH : (t.H.filter fun y => y.1 != id) = t.H := List.filter_eq_self.2 fun y hy => by
      simp only [bne_iff_ne, ne_eq]
      intro e
      have := h.st y hy
      rw [h.L, e] at this
      exact this.elim hno.1 hno.2
    have ht : t.evict id = t := by
      unfold AfS.evict AfS.drop
      rw [h.L]
      rw [if_neg (fun q => hr (by rw [q]; decide)), if_neg (fun q => hr (by rw [q]; decide))]
      rw [h.L] at hL
      rw [hL, hH]
      rw [← h.L]
    rw [he, ht]
    exact h
theorem syn_vict {k : Nat} {s : ArcS} {t : AfS} (h : Syn k s t) (hh : Int) : t.vict hh = victA s hh := by
  unfold AfS.vict victA
  rw [h.P, h.L, h.B2]
theorem syn_ghosts {k : Nat} {s : ArcS} {t : AfS} (h : Syn k s t) (row : Int) : t.ghosts row = ghosts s row := by
  unfold AfS.ghosts ghosts
  rw [h.B1, h.B2]
theorem syn_ins {k : Nat} {s : ArcS} {t : AfS} (h : Syn k s t) (hb1 : s.B1.length ≤ 1000000) (hb2 : s.B2.length ≤ 1000000) (id hh : Int) : Syn (k + 1) (insA s id hh) (t.ins id hh) := by
  unfold insA AfS.ins
  by_cases hok : insOk s id = true
  · have hc := of_decide_eq_true hok
    have hok2 : insOkF t id = true := by unfold insOkF; rw [h.L]; exact hok
    rw [if_pos hok, if_pos hok2]
    have hno : id ∉ s.L 0 ∧ id ∉ s.L 1 := ⟨fun q => by have := (rowOf2_nn _ _).2 (Or.inl q); omega, fun q => by have := (rowOf2_nn _ _).2 (Or.inr q); omega⟩
    have hP0 := h.P0
    have hP1 := h.P1
    have hPk := h.Pk
    have hnew : ∀ x, setH s.H id hh x = numOf (t.H ++ [(id, hh)]) x := fun x => by
      unfold setH
      by_cases e : x = id
      · rw [if_pos e, e, numOf_out]
        intro y hy q
        have := h.st y hy
        rw [h.L, q] at this
        exact this.elim hno.1 hno.2
      · rw [if_neg e, numOf_app e]; exact h.H x
    have hst : ∀ r : Nat, (r = 0 ∨ r = 1) → ∀ y ∈ t.H ++ [(id, hh)], y.1 ∈ frontL 2 t.L r id 0 ∨ y.1 ∈ frontL 2 t.L r id 1 := fun r hr y hy => by
      rw [front2 t.L r id (by omega) hc.2.1 hc.2.2]
      rw [show ((r : Int)).toNat = r from by omega]
      rcases List.mem_append.1 hy with q | q
      · exact mem_front hr (h.st y q)
      · have : y = (id, hh) := by simpa using q
        rw [this]
        exact mem_front_id t.L id hr
    have hlen : (t.H ++ [(id, hh)]).length ≤ k + 1 := by have := h.len; rw [List.length_append]; simp; omega
    by_cases h1 : hh ∈ s.B1
    · have hg : insG s hh = { s with P := min (max (s.P + max 1 ((s.B2.length : Int) / (s.B1.length : Int))) 0) s.most, B1 := grem s.B1 hh } := by unfold insG; rw [if_pos h1]
      have hr : insR s hh = 1 := by unfold insR; rw [if_pos h1]
      rw [hg, hr, if_pos (by rw [h.B1]; exact h1)]
      have hpos := List.length_pos_of_mem h1
      have hq : 0 ≤ (s.B2.length : Int) / (s.B1.length : Int) ∧ (s.B2.length : Int) / (s.B1.length : Int) ≤ 1000000 := ⟨Int.ediv_nonneg (by omega) (by omega), Int.le_trans (Int.ediv_le_self _ (by omega)) (by omega)⟩
      refine ⟨?_, ?_, h.B2, h.most, h.m1, h.m2, ?_, ?_, ?_, ?_, hnew, hst 1 (Or.inr rfl), hlen⟩
      · show frontL 2 t.L 1 id = _; rw [h.L]
      · show grem t.B1 hh = _; rw [h.B1]
      · show min t.most (t.P + max 1 ((t.B2.length : Int) / (t.B1.length : Int))) = min (max (s.P + max 1 ((s.B2.length : Int) / (s.B1.length : Int))) 0) s.most
        rw [h.most, h.P, h.B1, h.B2]
        omega
      · show 0 ≤ min (max (s.P + max 1 ((s.B2.length : Int) / (s.B1.length : Int))) 0) s.most; omega
      · show min (max (s.P + max 1 ((s.B2.length : Int) / (s.B1.length : Int))) 0) s.most ≤ s.most; omega
      · show min (max (s.P + max 1 ((s.B2.length : Int) / (s.B1.length : Int))) 0) s.most ≤ ((k + 1 : Nat) : Int) * 1000000; omega
    · have h1t : hh ∉ t.B1 := by rw [h.B1]; exact h1
      rw [if_neg h1t]
      by_cases h2 : hh ∈ s.B2
      · have hg : insG s hh = { s with P := min (max (s.P + - max 1 ((s.B1.length : Int) / (s.B2.length : Int))) 0) s.most, B2 := grem s.B2 hh } := by unfold insG; rw [if_neg h1, if_pos h2]
        have hr : insR s hh = 1 := by unfold insR; rw [if_neg h1, if_pos h2]
        rw [hg, hr, if_pos (by rw [h.B2]; exact h2)]
        have hpos := List.length_pos_of_mem h2
        have hq : 0 ≤ (s.B1.length : Int) / (s.B2.length : Int) ∧ (s.B1.length : Int) / (s.B2.length : Int) ≤ 1000000 := ⟨Int.ediv_nonneg (by omega) (by omega), Int.le_trans (Int.ediv_le_self _ (by omega)) (by omega)⟩
        refine ⟨?_, h.B1, ?_, h.most, h.m1, h.m2, ?_, ?_, ?_, ?_, hnew, hst 1 (Or.inr rfl), hlen⟩
        · show frontL 2 t.L 1 id = _; rw [h.L]
        · show grem t.B2 hh = _; rw [h.B2]
        · show max 0 (t.P - max 1 ((t.B1.length : Int) / (t.B2.length : Int))) = min (max (s.P + - max 1 ((s.B1.length : Int) / (s.B2.length : Int))) 0) s.most
          rw [h.P, h.B1, h.B2]
          omega
        · show 0 ≤ min (max (s.P + - max 1 ((s.B1.length : Int) / (s.B2.length : Int))) 0) s.most; omega
        · show min (max (s.P + - max 1 ((s.B1.length : Int) / (s.B2.length : Int))) 0) s.most ≤ s.most; omega
        · show min (max (s.P + - max 1 ((s.B1.length : Int) / (s.B2.length : Int))) 0) s.most ≤ ((k + 1 : Nat) : Int) * 1000000; omega
      · have hg : insG s hh = s := by unfold insG; rw [if_neg h1, if_neg h2]
        have hr : insR s hh = 0 := by unfold insR; rw [if_neg h1, if_neg h2]
        rw [hg, hr, if_neg (by rw [h.B2]; exact h2)]
        refine ⟨?_, h.B1, h.B2, h.most, h.m1, h.m2, h.P, hP0, hP1, ?_, hnew, hst 0 (Or.inl rfl), hlen⟩
        · show frontL 2 t.L 0 id = _; rw [h.L]
        · show s.P ≤ ((k + 1 : Nat) : Int) * 1000000; omega
  · have hok2 : ¬ insOkF t id = true := by unfold insOkF; rw [h.L]; exact hok
    rw [if_neg hok, if_neg hok2]
    exact h.more
end Go.Proofs.YtgdlndpjfejmcaaGreat.Arc
