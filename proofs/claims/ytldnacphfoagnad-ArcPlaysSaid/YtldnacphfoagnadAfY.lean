/- The reference of layer 13 (arc): Insert. -/
import Derived.Test.YtldnacphfoagnadAfX
import Derived.Test.YtldnacphfoagnadArc5
import Derived.Deep.DeepCutAuto
namespace Go.Proofs.Ytldnacphfoagnad
open Go.RowKit
set_option linter.unusedVariables false
def insOkF (t : AfS) (id : Int) : Bool := decide (rowOf 2 t.L id < 0 ∧ 0 ≤ id ∧ id ≤ 4194303)
/-- Insert, off memory. -/
def AfS.ins (t : AfS) (id h : Int) : AfS :=
  if insOkF t id then
    if h ∈ t.B1 then { t with P := min t.most (t.P + max 1 ((t.B2.length : Int) / (t.B1.length : Int))), B1 := grem t.B1 h, L := frontL 2 t.L 1 id, H := t.H ++ [(id, h)] }
    else if h ∈ t.B2 then { t with P := max 0 (t.P - max 1 ((t.B1.length : Int) / (t.B2.length : Int))), B2 := grem t.B2 h, L := frontL 2 t.L 1 id, H := t.H ++ [(id, h)] }
    else { t with L := frontL 2 t.L 0 id, H := t.H ++ [(id, h)] }
  else t
set_option maxHeartbeats 2000000 in
theorem af_insert_no (S : Nat → Prop) (p : Nat) (s : AfS) (id hh : Int) (w : World) (h : Af w S p s) (hN : ∀ k, (s.L k).length ≤ 1000000) (hno : insOkF s id = false) :
    Calls Try.prog 42 #[.pointer (some ⟨p, 0, none⟩), .int .i64 id, .int .u64 hh] w fun e w' => e = .returned (.bool false) ∧ w = w' := by
  obtain ⟨r, b1, b2, sv, Z, h⟩ := h
  obtain ⟨c0, _⟩ := h.cells
  have HC := Lib.hid (rf_row (Z 0) r 2 s.L id w h.hR hN)
  have hc := of_decide_eq_false hno
  clear h hno hN
  obtain ⟨ro, hro⟩ : ∃ ro, rowOf 2 s.L id = ro := ⟨_, rfl⟩
  rw [hro] at HC hc
  clear hro
  by_cases h1 : 0 ≤ ro
  · have h1' : decide (0 ≤ ro) = true := decide_eq_true h1
    clear hc
    go_enter Try.func42, Try.ntmps42
    go_wp2_with fail
    refine HC.out.mono ?_
    rintro e w1 ⟨rfl, rfl⟩
    go_wp2
    go_ret
    exact ⟨rfl, rfl⟩
  · have h1' : decide (0 ≤ ro) = false := decide_eq_false h1
    by_cases h2 : id < 0
    · have h2' : decide (id < 0) = true := decide_eq_true h2
      clear hc h1 h2
      go_enter Try.func42, Try.ntmps42
      go_wp2_with fail
      refine HC.out.mono ?_
      rintro e w1 ⟨rfl, rfl⟩
      go_wp2
      go_ret
      exact ⟨rfl, rfl⟩
    · have h2' : decide (id < 0) = false := decide_eq_false h2
      have h3' : decide (4194303 < id) = true := decide_eq_true (by omega)
      clear hc h1 h2
      go_enter Try.func42, Try.ntmps42
      go_wp2_with fail
      refine HC.out.mono ?_
      rintro e w1 ⟨rfl, rfl⟩
      go_wp2
      go_ret
      exact ⟨rfl, rfl⟩
section
variable {w w' : World} {S : Nat → Prop} {p r b1 b2 : Nat} {s : AfS} {sv v : Value} {Z : Nat → Nat → Prop} {m1 m2 : Int}
theorem AfO.glue {w0 : World} (hF : Fr S w0 w) (h : AfO w' (grow (grow S w0 w) w w') p s r b1 b2 sv Z m1 m2 ∧ Fr (grow S w0 w) w w') : AfO w' (grow S w0 w') p s r b1 b2 sv Z m1 m2 ∧ Fr S w0 w' :=
  ⟨h.1.mono fun b _ q => grow_grow hF.size h.2.size q, hF.grown h.2⟩
theorem AfO.learn (h : AfO w S p s r b1 b2 sv Z m1 m2) (P' : Int) : AfO (w.setCell ⟨p, 4, none⟩ (.int .i64 P')).drew (grow S w (w.setCell ⟨p, 4, none⟩ (.int .i64 P')).drew) p { s with P := P' } r b1 b2 sv Z m1 m2 ∧ Fr S w (w.setCell ⟨p, 4, none⟩ (.int .i64 P')).drew :=
  ⟨((h.setP P').1.frame (w' := (w.setCell ⟨p, 4, none⟩ (.int .i64 P')).drew) (Nat.le_refl _) fun _ _ _ => rfl).mono fun b _ q => Or.inl q, (h.setP P').2.drew⟩
/-- An id comes to have a number. -/
theorem AfO.name (h : AfO w S p s r b1 b2 sv Z m1 m2) {o : Obj} {id hh : Int} {T : TypeId} (hf : Fr (Arr (Z 3) (w.alloc o) T) (w.alloc o) w') (hv : Sl w' (grow (Z 3) (w.alloc o) w') 86 2 v (s.H.length + 1) (nms s.H ++ [.int .i64 id, .int .u64 hh])) :
    (AfO (w'.setCell ⟨p, 5, none⟩ v) (grow S w (w'.setCell ⟨p, 5, none⟩ v)) p { s with H := s.H ++ [(id, hh)] } r b1 b2 v (growZ Z 3 w w') m1 m2 ∧ Fr S w (w'.setCell ⟨p, 5, none⟩ v)) ∧ w'.cell? ⟨p, 5, none⟩ = some sv ∧ w'.frozen? ⟨p, 5, none⟩ = false := by
  obtain ⟨_, _, _, _, _, c5, fz, hpl⟩ := h.cells
  have hF : Fr (Z 3) w w' := ((Fr.refl (Z 3) w).alloc o).trans hf.arr (fun _ _ q => q)
  have hz : (w.alloc o).heap.size = w.heap.size + 1 := by simp
  refine ⟨h.nums hF ?_, (hF.cell (p := ⟨p, 5, none⟩) hpl (h.hZp 3)).trans c5, (hF.fro (p := ⟨p, 5, none⟩) hpl (h.hZp 3)).trans (fz 5)⟩
  have e : (s.H ++ [(id, hh)]).length = s.H.length + 1 := by simp
  rw [e, nms_snoc]
  exact hv.mono fun b _ q => q.imp (fun q => q) (fun q => ⟨by omega, q.2⟩)
end
structure Lim (t : AfS) : Prop where
  N : ∀ k, (t.L k).length ≤ 1000000
  d : Dsj 2 t.L
  H : t.H.length < 1000000
  m : 0 ≤ t.most
  B1 : t.B1.length < 1000000
  B2 : t.B2.length < 1000000
  P0 : 0 ≤ t.P
  P1 : t.P ≤ 1000000000000
theorem learn_one {P st d : Int} (hst : st = max 1 d) (hq : 0 ≤ d ∧ d ≤ 1000000) (hp0 : 0 ≤ P) (hp1 : P ≤ 1000000000000) :
    IntKind.i64.wrap d = d ∧ wrap64 d = d ∧ IntKind.i64.wrap (P + d) = P + d ∧ wrap64 (P + d) = P + d ∧ wrap64 (P + 1) = P + 1 ∧ IntKind.i64.wrap (P + 1) = P + 1 ∧ wrap64 (P + if 1 < d then d else 1) = P + st := by
  refine ⟨by rw [IntKind.wrap_i64]; omega, wrap64_id (by omega) (by omega), by rw [IntKind.wrap_i64]; omega, wrap64_id (by omega) (by omega), wrap64_id (by omega) (by omega), by rw [IntKind.wrap_i64]; omega, ?_⟩
  split
  · rw [wrap64_id (by omega) (by omega)]; omega
  · rw [wrap64_id (by omega) (by omega)]; omega
theorem learn_two {P st d : Int} (hst : st = max 1 d) (hq : 0 ≤ d ∧ d ≤ 1000000) (hp0 : 0 ≤ P) (hp1 : P ≤ 1000000000000) :
    IntKind.i64.wrap d = d ∧ wrap64 d = d ∧ IntKind.i64.wrap (P - d) = P - d ∧ wrap64 (P - d) = P - d ∧ wrap64 (P - 1) = P - 1 ∧ IntKind.i64.wrap (P - 1) = P - 1 ∧ wrap64 (P - if 1 < d then d else 1) = P - st := by
  refine ⟨by rw [IntKind.wrap_i64]; omega, wrap64_id (by omega) (by omega), by rw [IntKind.wrap_i64]; omega, wrap64_id (by omega) (by omega), wrap64_id (by omega) (by omega), by rw [IntKind.wrap_i64]; omega, ?_⟩
  split
  · rw [wrap64_id (by omega) (by omega)]; omega
  · rw [wrap64_id (by omega) (by omega)]; omega
end Go.Proofs.Ytldnacphfoagnad
/- The reference of layer 13 (arc): Insert, one way. -/
namespace Go.Proofs.Ytldnacphfoagnad
open Go.RowKit
set_option linter.unusedVariables false
set_option maxRecDepth 100000 in
set_option maxHeartbeats 1000000 in
theorem af_insert_two (S : Nat → Prop) (p : Nat) (s : AfS) (id hh : Int) (w : World) (h : Af w S p s) (hL : Lim s) (hok : insOkF s id = true) (h1 : decide (hh ∈ s.B1) = false) (h2 : decide (hh ∈ s.B2) = true) :
    Calls Try.prog 42 #[.pointer (some ⟨p, 0, none⟩), .int .i64 id, .int .u64 hh] w fun e w' => e = .returned (.bool true) ∧ Af w' (grow S w w') p (s.ins id hh) ∧ Fr S w w' := by
  obtain ⟨i0, hi, hz0, hz1, hz2⟩ := info_parts info_named
  obtain ⟨r, b1, b2, sv, Z, h⟩ := h
  obtain ⟨c0, c1, c2, c3, c4, c5, fz, _⟩ := h.cells
  have f4 := fz 4
  have HC := Lib.hid (rf_row (Z 0) r 2 s.L id w h.hR hL.N)
  have hc := of_decide_eq_true hok
  obtain ⟨ro, hro⟩ : ∃ ro, rowOf 2 s.L id = ro := ⟨_, rfl⟩
  rw [hro] at HC hc
  have h1' : decide (0 ≤ ro) = false := decide_eq_false (by omega)
  have h2' : decide (id < 0) = false := decide_eq_false (by omega)
  have h3' : decide (4194303 < id) = false := decide_eq_false (by omega)
  have hs1 := rhas_at (Z 1) b1 s.most s.B1 hh w h.h1 (Nat.le_of_lt hL.B1)
  have hs2 := rhas_at (Z 2) b2 s.most s.B2 hh w h.h2 (Nat.le_of_lt hL.B2)
  have hq1 := h1
  have hq2 := h2
  rw [hq1] at hs1
  rw [hq2] at hs2
  have HK := Lib.hid (And.intro hs1 hs2)
  have HQ := Lib.hid (And.intro hq1 hq2)
  have HL := Lib.hid (And.intro hL hok)
  have HO := Lib.hid h
  obtain ⟨v1, _, hp1, hl1⟩ := h.h1
  obtain ⟨v2, _, hp2, hl2⟩ := h.h2
  have d1 := cell_of_heap hp1 1
  have d2 := cell_of_heap hp2 1
  simp at d1 d2
  obtain ⟨a1, cap1, rfl, _⟩ := hl1.shape
  obtain ⟨a2, cap2, rfl, _⟩ := hl2.shape
  obtain ⟨sa, scap, rfl, _⟩ := h.hs.shape
  have hHl := hL.H
  clear h1 h2 h hL hok hc hs1 hs2 hq1 hq2 hro fz hp1 hp2 hl1 hl2
  have hm1 := of_decide_eq_false HQ.out.1
  have hm := of_decide_eq_true HQ.out.2
  obtain ⟨n1, hn1⟩ : ∃ n, s.B1.length = n := ⟨_, rfl⟩
  obtain ⟨n2, hn2⟩ : ∃ n, s.B2.length = n := ⟨_, rfl⟩
  have hn0 : ¬ n2 = 0 := by
    have h1 := List.length_pos_of_mem hm
    omega
  have hb1 := HL.out.1.B1
  have hb2 := HL.out.1.B2
  have hp0 := HL.out.1.P0
  have hp1 := HL.out.1.P1
  obtain ⟨st, hst⟩ : ∃ st : Int, st = max 1 ((n1 : Int) / (n2 : Int)) := ⟨_, rfl⟩
  have hq : 0 ≤ (n1 : Int) / (n2 : Int) ∧ (n1 : Int) / (n2 : Int) ≤ 1000000 := ⟨Int.ediv_nonneg (by omega) (by omega), Int.le_trans (Int.ediv_le_self _ (by omega)) (by omega)⟩
  obtain ⟨P, hP⟩ : ∃ P, s.P = P := ⟨_, rfl⟩
  obtain ⟨mo, hmo⟩ : ∃ P, s.most = P := ⟨_, rfl⟩
  rw [hn1] at d1
  rw [hn2] at d2
  rw [hP] at c4 hp0 hp1
  rw [hmo] at c3
  have HFF := Lib.hid (learn_two (P := P) hst hq hp0 hp1)
  have HN := Lib.hid (And.intro hn1 (And.intro hn2 (And.intro hst (And.intro hq (And.intro hP (And.intro hmo (And.intro hp0 hp1)))))))
  clear hm hm1 hn1 hn2 hb1 hb2 hst hq hP hmo hp0 hp1
  go_enter Try.func42, Try.ntmps42
  go_wp2_with fail
  refine HC.out.mono ?_
  rintro e w1 ⟨rfl, rfl⟩
  go_wp2_with fail
  refine HK.out.1.mono ?_
  rintro e w1 ⟨rfl, rfl⟩
  go_wp2_with fail
  refine HK.out.2.mono ?_
  rintro e w1 ⟨rfl, rfl⟩
  go_upto_region 11 with fail
  go_cut [7] (fun t wx => t = .bool false ∧ wx = (w.setCell ⟨p, 4, none⟩ (.int .i64 (max 0 (P - st)))).drew)
  case first =>
    go_still_tail 27, (by kernel_rfl)
    go_wp2_with fail
    all_goals
      go_meet
      refine ⟨rfl, congrArg (fun x => (w.setCell ⟨p, 4, none⟩ (.int .i64 x)).drew) ?_⟩
      obtain ⟨f1, f2, f3, f4, f5, f6, f7⟩ := HFF.out
      simp only [f1, f2, f3, f4, f5, f6, f7] at *
      obtain ⟨_, _, hst, hq, _, _, hp0, hp1⟩ := HN.out
      omega
  case rest =>
    obtain ⟨rfl, hwx⟩ := hcut
    have hlearn := HO.out.learn (max 0 (P - st))
    rw [← hwx] at hlearn
    have H1 := Lib.hid hlearn
    clear hlearn hwx c0 c1 c2 c3 c4 c5 f4 d1 d2
    obtain ⟨w1, rfl⟩ : ∃ w1 : World, w1 = wc := ⟨_, rfl⟩
    obtain ⟨_, c1, c2, _, _, _, _, _⟩ := H1.out.1.cells
    go_wp2_with fail
    refine (rremove_at _ b2 _ s.B2 hh _ H1.out.1.h2 (Nat.le_of_lt HL.out.1.B2)).mono ?_
    rintro e w2 ⟨rfl, hG, hF⟩
    have H2 := Lib.hid (AfO.glue H1.out.2 (H1.out.1.two hG hF))
    clear hG hF c1 c2
    obtain ⟨c0, _, _, _, _, _, _, _⟩ := H2.out.1.cells
    go_wp2_with fail
    refine (rf_front _ r 2 s.L 1 id _ H2.out.1.hR HL.out.1.N HL.out.1.d).mono ?_
    rintro e w3 ⟨rfl, hR, hF⟩
    have H3 := Lib.hid (AfO.glue H2.out.2 (H2.out.1.rows hR hF))
    clear hR hF c0
    obtain ⟨_, _, _, _, _, c5, _, _⟩ := H3.out.1.cells
    have HSl := Lib.hid (show Sl w3 _ 86 2 (.slice sa s.H.length scap) s.H.length (nms s.H) from H3.out.1.hs)
    go_wp2_with (at_builtin; refine wpList_append_sl rfl _ _ 51 rfl 86 i0 (.agg #[.int .i64 0, .int .u64 0]) 2 16 Try.underlying51 hi hz0 hz1 hz2 rfl (by decide) _ _ _ rfl (HSl.out.alloc _) ⟨_, 0, none⟩ 1 1 [.int .i64 id, .int .u64 hh] rfl rfl (cell_two_at _ _ _ _ (by simp)) (by intro u hu; simp at hu; rcases hu with rfl | rfl <;> rfl) (by unfold maxLen; omega) (by omega) ?_; intro v1 w5 hs1 hf1; obtain ⟨av, capv, rfl, _⟩ := hs1.shape; have hnm := H3.out.1.name hf1 hs1; obtain ⟨hnA, e5, g5⟩ := hnm; have H5 := Lib.hid hnA; clear hs1 hf1 hnA)
    go_ret
    have hfin := AfO.glue H3.out.2 H5.out
    have hPe : max 0 (s.P - max 1 ((s.B1.length : Int) / (s.B2.length : Int))) = max 0 (P - st) := by
      obtain ⟨hn1, hn2, hst, _, hP, hmo, _, _⟩ := HN.out
      rw [hn1, hn2, ← hst, hP]
    have he : s.ins id hh = { s with P := max 0 (P - st), B2 := grem s.B2 hh, L := frontL 2 s.L 1 id, H := s.H ++ [(id, hh)] } := by
      unfold AfS.ins
      rw [if_pos HL.out.2, if_neg (of_decide_eq_false HQ.out.1), if_pos (of_decide_eq_true HQ.out.2), hPe]
    have hfin2 : Af _ _ p _ := ⟨_, _, _, _, _, hfin.1⟩
    rw [he]
    exact ⟨rfl, hfin2, hfin.2⟩
end Go.Proofs.Ytldnacphfoagnad
/- The reference of layer 13 (arc): Insert, one way. -/
namespace Go.Proofs.Ytldnacphfoagnad
open Go.RowKit
set_option linter.unusedVariables false
set_option maxRecDepth 100000 in
set_option maxHeartbeats 1000000 in
theorem af_insert_one (S : Nat → Prop) (p : Nat) (s : AfS) (id hh : Int) (w : World) (h : Af w S p s) (hL : Lim s) (hok : insOkF s id = true) (h1 : decide (hh ∈ s.B1) = true) :
    Calls Try.prog 42 #[.pointer (some ⟨p, 0, none⟩), .int .i64 id, .int .u64 hh] w fun e w' => e = .returned (.bool true) ∧ Af w' (grow S w w') p (s.ins id hh) ∧ Fr S w w' := by
  obtain ⟨i0, hi, hz0, hz1, hz2⟩ := info_parts info_named
  obtain ⟨r, b1, b2, sv, Z, h⟩ := h
  obtain ⟨c0, c1, c2, c3, c4, c5, fz, _⟩ := h.cells
  have f4 := fz 4
  have HC := Lib.hid (rf_row (Z 0) r 2 s.L id w h.hR hL.N)
  have hc := of_decide_eq_true hok
  obtain ⟨ro, hro⟩ : ∃ ro, rowOf 2 s.L id = ro := ⟨_, rfl⟩
  rw [hro] at HC hc
  have h1' : decide (0 ≤ ro) = false := decide_eq_false (by omega)
  have h2' : decide (id < 0) = false := decide_eq_false (by omega)
  have h3' : decide (4194303 < id) = false := decide_eq_false (by omega)
  have hs1 := rhas_at (Z 1) b1 s.most s.B1 hh w h.h1 (Nat.le_of_lt hL.B1)
  have hs2 := rhas_at (Z 2) b2 s.most s.B2 hh w h.h2 (Nat.le_of_lt hL.B2)
  have hq1 := h1
  obtain ⟨q2, hq2⟩ : ∃ q, decide (hh ∈ s.B2) = q := ⟨_, rfl⟩
  rw [hq1] at hs1
  rw [hq2] at hs2
  have HK := Lib.hid (And.intro hs1 hs2)
  have HQ := Lib.hid (And.intro hq1 hq2)
  have HL := Lib.hid (And.intro hL hok)
  have HO := Lib.hid h
  obtain ⟨v1, _, hp1, hl1⟩ := h.h1
  obtain ⟨v2, _, hp2, hl2⟩ := h.h2
  have d1 := cell_of_heap hp1 1
  have d2 := cell_of_heap hp2 1
  simp at d1 d2
  obtain ⟨a1, cap1, rfl, _⟩ := hl1.shape
  obtain ⟨a2, cap2, rfl, _⟩ := hl2.shape
  obtain ⟨sa, scap, rfl, _⟩ := h.hs.shape
  have hHl := hL.H
  clear h1 h hL hok hc hs1 hs2 hq1 hq2 hro fz hp1 hp2 hl1 hl2
  have hm := of_decide_eq_true HQ.out.1
  obtain ⟨n1, hn1⟩ : ∃ n, s.B1.length = n := ⟨_, rfl⟩
  obtain ⟨n2, hn2⟩ : ∃ n, s.B2.length = n := ⟨_, rfl⟩
  have hn0 : ¬ n1 = 0 := by
    have h1 := List.length_pos_of_mem hm
    omega
  have hb1 := HL.out.1.B1
  have hb2 := HL.out.1.B2
  have hp0 := HL.out.1.P0
  have hp1 := HL.out.1.P1
  obtain ⟨st, hst⟩ : ∃ st : Int, st = max 1 ((n2 : Int) / (n1 : Int)) := ⟨_, rfl⟩
  have hq : 0 ≤ (n2 : Int) / (n1 : Int) ∧ (n2 : Int) / (n1 : Int) ≤ 1000000 := ⟨Int.ediv_nonneg (by omega) (by omega), Int.le_trans (Int.ediv_le_self _ (by omega)) (by omega)⟩
  obtain ⟨P, hP⟩ : ∃ P, s.P = P := ⟨_, rfl⟩
  obtain ⟨mo, hmo⟩ : ∃ P, s.most = P := ⟨_, rfl⟩
  rw [hn1] at d1
  rw [hn2] at d2
  rw [hP] at c4 hp0 hp1
  rw [hmo] at c3
  have HFF := Lib.hid (learn_one (P := P) hst hq hp0 hp1)
  have HN := Lib.hid (And.intro hn1 (And.intro hn2 (And.intro hst (And.intro hq (And.intro hP (And.intro hmo (And.intro hp0 hp1)))))))
  clear hm hn1 hn2 hb1 hb2 hst hq hP hmo hp0 hp1
  go_enter Try.func42, Try.ntmps42
  go_wp2_with fail
  refine HC.out.mono ?_
  rintro e w1 ⟨rfl, rfl⟩
  go_wp2_with fail
  refine HK.out.1.mono ?_
  rintro e w1 ⟨rfl, rfl⟩
  go_wp2_with fail
  refine HK.out.2.mono ?_
  rintro e w1 ⟨rfl, rfl⟩
  go_upto_region 7 with fail
  go_cut [7] (fun t wx => t = .bool true ∧ wx = (w.setCell ⟨p, 4, none⟩ (.int .i64 (min mo (P + st)))).drew)
  case first =>
    go_still_tail 31, (by kernel_rfl)
    go_wp2_with fail
    all_goals
      go_meet
      refine ⟨rfl, congrArg (fun x => (w.setCell ⟨p, 4, none⟩ (.int .i64 x)).drew) ?_⟩
      obtain ⟨f1, f2, f3, f4, f5, f6, f7⟩ := HFF.out
      simp only [f1, f2, f3, f4, f5, f6, f7] at *
      obtain ⟨_, _, hst, hq, _, _, hp0, hp1⟩ := HN.out
      omega
  case rest =>
    obtain ⟨rfl, hwx⟩ := hcut
    have hlearn := HO.out.learn (min mo (P + st))
    rw [← hwx] at hlearn
    have H1 := Lib.hid hlearn
    clear hlearn hwx c0 c1 c2 c3 c4 c5 f4 d1 d2
    obtain ⟨w1, rfl⟩ : ∃ w1 : World, w1 = wc := ⟨_, rfl⟩
    obtain ⟨_, c1, c2, _, _, _, _, _⟩ := H1.out.1.cells
    go_wp2_with fail
    refine (rremove_at _ b1 _ s.B1 hh _ H1.out.1.h1 (Nat.le_of_lt HL.out.1.B1)).mono ?_
    rintro e w2 ⟨rfl, hG, hF⟩
    have H2 := Lib.hid (AfO.glue H1.out.2 (H1.out.1.one hG hF))
    clear hG hF c1 c2
    obtain ⟨c0, _, _, _, _, _, _, _⟩ := H2.out.1.cells
    go_wp2_with fail
    refine (rf_front _ r 2 s.L 1 id _ H2.out.1.hR HL.out.1.N HL.out.1.d).mono ?_
    rintro e w3 ⟨rfl, hR, hF⟩
    have H3 := Lib.hid (AfO.glue H2.out.2 (H2.out.1.rows hR hF))
    clear hR hF c0
    obtain ⟨_, _, _, _, _, c5, _, _⟩ := H3.out.1.cells
    have HSl := Lib.hid (show Sl w3 _ 86 2 (.slice sa s.H.length scap) s.H.length (nms s.H) from H3.out.1.hs)
    go_wp2_with (at_builtin; refine wpList_append_sl rfl _ _ 51 rfl 86 i0 (.agg #[.int .i64 0, .int .u64 0]) 2 16 Try.underlying51 hi hz0 hz1 hz2 rfl (by decide) _ _ _ rfl (HSl.out.alloc _) ⟨_, 0, none⟩ 1 1 [.int .i64 id, .int .u64 hh] rfl rfl (cell_two_at _ _ _ _ (by simp)) (by intro u hu; simp at hu; rcases hu with rfl | rfl <;> rfl) (by unfold maxLen; omega) (by omega) ?_; intro v1 w5 hs1 hf1; obtain ⟨av, capv, rfl, _⟩ := hs1.shape; have hnm := H3.out.1.name hf1 hs1; obtain ⟨hnA, e5, g5⟩ := hnm; have H5 := Lib.hid hnA; clear hs1 hf1 hnA)
    go_ret
    have hfin := AfO.glue H3.out.2 H5.out
    have hPe : min s.most (s.P + max 1 ((s.B2.length : Int) / (s.B1.length : Int))) = min mo (P + st) := by
      obtain ⟨hn1, hn2, hst, _, hP, hmo, _, _⟩ := HN.out
      rw [hn1, hn2, ← hst, hP, hmo]
    have he : s.ins id hh = { s with P := min mo (P + st), B1 := grem s.B1 hh, L := frontL 2 s.L 1 id, H := s.H ++ [(id, hh)] } := by
      unfold AfS.ins
      rw [if_pos HL.out.2, if_pos (of_decide_eq_true HQ.out.1), hPe]
    have hfin2 : Af _ _ p _ := ⟨_, _, _, _, _, hfin.1⟩
    rw [he]
    exact ⟨rfl, hfin2, hfin.2⟩
end Go.Proofs.Ytldnacphfoagnad
/- The reference of layer 13 (arc): Insert, one way. -/
namespace Go.Proofs.Ytldnacphfoagnad
open Go.RowKit
set_option linter.unusedVariables false
set_option maxRecDepth 100000 in
set_option maxHeartbeats 1000000 in
theorem af_insert_none (S : Nat → Prop) (p : Nat) (s : AfS) (id hh : Int) (w : World) (h : Af w S p s) (hL : Lim s) (hok : insOkF s id = true) (h1 : decide (hh ∈ s.B1) = false) (h2 : decide (hh ∈ s.B2) = false) :
    Calls Try.prog 42 #[.pointer (some ⟨p, 0, none⟩), .int .i64 id, .int .u64 hh] w fun e w' => e = .returned (.bool true) ∧ Af w' (grow S w w') p (s.ins id hh) ∧ Fr S w w' := by
  obtain ⟨i0, hi, hz0, hz1, hz2⟩ := info_parts info_named
  obtain ⟨r, b1, b2, sv, Z, h⟩ := h
  obtain ⟨c0, c1, c2, c3, c4, c5, fz, _⟩ := h.cells
  have f4 := fz 4
  have HC := Lib.hid (rf_row (Z 0) r 2 s.L id w h.hR hL.N)
  have hc := of_decide_eq_true hok
  obtain ⟨ro, hro⟩ : ∃ ro, rowOf 2 s.L id = ro := ⟨_, rfl⟩
  rw [hro] at HC hc
  have h1' : decide (0 ≤ ro) = false := decide_eq_false (by omega)
  have h2' : decide (id < 0) = false := decide_eq_false (by omega)
  have h3' : decide (4194303 < id) = false := decide_eq_false (by omega)
  have hs1 := rhas_at (Z 1) b1 s.most s.B1 hh w h.h1 (Nat.le_of_lt hL.B1)
  have hs2 := rhas_at (Z 2) b2 s.most s.B2 hh w h.h2 (Nat.le_of_lt hL.B2)
  have hq1 := h1
  have hq2 := h2
  rw [hq1] at hs1
  rw [hq2] at hs2
  have HK := Lib.hid (And.intro hs1 hs2)
  have HQ := Lib.hid (And.intro hq1 hq2)
  have HL := Lib.hid (And.intro hL hok)
  have HO := Lib.hid h
  obtain ⟨v1, _, hp1, hl1⟩ := h.h1
  obtain ⟨v2, _, hp2, hl2⟩ := h.h2
  have d1 := cell_of_heap hp1 1
  have d2 := cell_of_heap hp2 1
  simp at d1 d2
  obtain ⟨a1, cap1, rfl, _⟩ := hl1.shape
  obtain ⟨a2, cap2, rfl, _⟩ := hl2.shape
  obtain ⟨sa, scap, rfl, _⟩ := h.hs.shape
  have hHl := hL.H
  clear h1 h2 h hL hok hc hs1 hs2 hq1 hq2 hro fz hp1 hp2 hl1 hl2
  go_enter Try.func42, Try.ntmps42
  go_wp2_with fail
  refine HC.out.mono ?_
  rintro e w1 ⟨rfl, rfl⟩
  go_wp2_with fail
  refine HK.out.1.mono ?_
  rintro e w1 ⟨rfl, rfl⟩
  go_wp2_with fail
  refine HK.out.2.mono ?_
  rintro e w1 ⟨rfl, rfl⟩
  go_wp2_with fail
  refine (rf_front _ r 2 s.L 0 id _ HO.out.hR HL.out.1.N HL.out.1.d).mono ?_
  rintro e w3 ⟨rfl, hR, hF⟩
  have hro := HO.out.rows hR hF
  have H3 := Lib.hid hro
  clear hR hF hro c0 c1 c2 c3 c4 c5 f4 d1 d2
  obtain ⟨_, _, _, _, _, c5, _, _⟩ := H3.out.1.cells
  have HSl := Lib.hid (show Sl w3 _ 86 2 (.slice sa s.H.length scap) s.H.length (nms s.H) from H3.out.1.hs)
  go_wp2_with (at_builtin; refine wpList_append_sl rfl _ _ 51 rfl 86 i0 (.agg #[.int .i64 0, .int .u64 0]) 2 16 Try.underlying51 hi hz0 hz1 hz2 rfl (by decide) _ _ _ rfl (HSl.out.alloc _) ⟨_, 0, none⟩ 1 1 [.int .i64 id, .int .u64 hh] rfl rfl (cell_two_at _ _ _ _ (by simp)) (by intro u hu; simp at hu; rcases hu with rfl | rfl <;> rfl) (by unfold maxLen; omega) (by omega) ?_; intro v1 w5 hs1 hf1; obtain ⟨av, capv, rfl, _⟩ := hs1.shape; have hnm := H3.out.1.name hf1 hs1; obtain ⟨hnA, e5, g5⟩ := hnm; have H5 := Lib.hid hnA; clear hs1 hf1 hnA)
  go_ret
  have hfin := AfO.glue H3.out.2 H5.out
  have he : s.ins id hh = { s with L := frontL 2 s.L 0 id, H := s.H ++ [(id, hh)] } := by
    unfold AfS.ins
    rw [if_pos HL.out.2, if_neg (of_decide_eq_false HQ.out.1), if_neg (of_decide_eq_false HQ.out.2)]
  have hfin2 : Af _ _ p _ := ⟨_, _, _, _, _, hfin.1⟩
  rw [he]
  exact ⟨rfl, hfin2, hfin.2⟩
end Go.Proofs.Ytldnacphfoagnad
/- The reference of layer 13 (arc): Insert. -/
namespace Go.Proofs.Ytldnacphfoagnad
open Go.RowKit
set_option linter.unusedVariables false
theorem af_insert (S : Nat → Prop) (p : Nat) (s : AfS) (id hh : Int) (w : World) (h : Af w S p s) (hL : Lim s) :
    Calls Try.prog 42 #[.pointer (some ⟨p, 0, none⟩), .int .i64 id, .int .u64 hh] w fun e w' => e = .returned (.bool (insOkF s id)) ∧ Af w' (grow S w w') p (s.ins id hh) ∧ Fr S w w' := by
  rcases hok : insOkF s id with _ | _
  · refine (af_insert_no S p s id hh w h hL.N hok).mono fun e w' ⟨he, hw⟩ => ?_
    subst hw
    have hi : s.ins id hh = s := by unfold AfS.ins; rw [if_neg (by rw [hok]; decide)]
    rw [hi]
    exact ⟨he, h.mono fun b _ q => Or.inl q, Fr.refl _ _⟩
  · rcases h1 : decide (hh ∈ s.B1) with _ | _
    · rcases h2 : decide (hh ∈ s.B2) with _ | _
      · exact af_insert_none S p s id hh w h hL hok h1 h2
      · exact af_insert_two S p s id hh w h hL hok h1 h2
    · exact af_insert_one S p s id hh w h hL hok h1
end Go.Proofs.Ytldnacphfoagnad
