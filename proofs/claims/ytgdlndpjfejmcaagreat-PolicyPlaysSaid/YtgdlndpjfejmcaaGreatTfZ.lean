/- The reference of layer 14 (sthree): Evict. -/
import Derived.Test.YtgdlndpjfejmcaaGreatTfX
import Derived.Deep.RegionHeld3
import Derived.Deep.RegionLaw
namespace Go.Proofs.YtgdlndpjfejmcaaGreat.Thr
open Go.RowKit
set_option linter.unusedVariables false
set_option maxRecDepth 100000
def TfS.num (s : TfS) (id : Int) : Int := match lk s.H id with
  | some (h, _) => h
  | none => 0
/-- What Remove leaves. -/
def TfS.rem (s : TfS) (id : Int) : TfS := if 0 ≤ rowOf 2 s.L id then s.drop id else s
def TfS.ev (s : TfS) (id : Int) : TfS := (if rowOf 2 s.L id = 0 then { s with B := gadd s.most s.B (s.num id) } else s : TfS).rem id
theorem tf_rem (S : Nat → Prop) (p : Nat) (s : TfS) (id : Int) (w : World) (h : Tf w S p s) (hN : ∀ k, (s.L k).length ≤ 1000000) (hd : Dsj 2 s.L) (hH : s.H.length ≤ 1000000) (hnd : (ids s.H).Nodup) (hin : ∀ x, x ∈ ids s.H ↔ 0 ≤ rowOf 2 s.L x) :
    Calls Tryz.prog 41 #[.pointer (some ⟨p, 0, none⟩), .int .i64 id] w fun e w' => e = .returned (.bool (decide (0 ≤ rowOf 2 s.L id))) ∧ Tf w' (grow S w w') p (s.rem id) ∧ Fr S w w' := by
  refine (tf_remove S p s id w h hN hd hH hnd hin).mono ?_
  rintro e w' ⟨he, h1, h2, hF⟩
  refine ⟨he, ?_, hF⟩
  unfold TfS.rem
  by_cases q : 0 ≤ rowOf 2 s.L id
  · rw [if_pos q]; exact h1 q
  · rw [if_neg q]; exact h2 q
set_option maxHeartbeats 2000000 in
theorem tf_evict (S : Nat → Prop) (p : Nat) (s : TfS) (id : Int) (w : World) (h : Tf w S p s) (hN : ∀ k, (s.L k).length ≤ 1000000) (hd : Dsj 2 s.L) (hH : s.H.length ≤ 1000000) (hnd : (ids s.H).Nodup) (hin : ∀ x, x ∈ ids s.H ↔ 0 ≤ rowOf 2 s.L x) (hm : 0 ≤ s.most) (hB : s.B.length < 1000000) :
    Calls Tryz.prog 43 #[.pointer (some ⟨p, 0, none⟩), .int .i64 id] w fun e w' => e = .returned (.bool (decide (0 ≤ rowOf 2 s.L id))) ∧ Tf w' (grow S w w') p (s.ev id) ∧ Fr S w w' := by
  have HF := Lib.hid (tf_find S p s id w h hH)
  have HREM := Lib.hid (tf_rem S p s id w h hN hd hH hnd hin)
  obtain ⟨r, b1, sv, Z, h⟩ := h
  obtain ⟨c0, c1, _, c3, _, hpl⟩ := h.cells
  have HR := Lib.hid (rf_row (Z 0) r 2 s.L id w h.hR hN)
  obtain ⟨a, cap, rfl, hat⟩ := tr_at h.hs
  have HO := Lib.hid (And.intro h (And.intro hm (And.intro hB (And.intro hN (And.intro hd (And.intro hH (And.intro hnd hin)))))))
  obtain ⟨ro, hro⟩ : ∃ ro, rowOf 2 s.L id = ro := ⟨_, rfl⟩
  rcases fnd_split id s.H with hn | ⟨k, x, hx, he, hn⟩
  · have hno : ¬ 0 ≤ rowOf 2 s.L id := fun q => by
      obtain ⟨y, hy, e⟩ := List.mem_map.1 ((hin id).2 q)
      exact hn y hy e
    obtain ⟨e1, e2⟩ := fnd_none hn
    rw [e1] at HF
    have hev : s.ev id = s.rem id := by unfold TfS.ev; rw [if_neg (by omega)]
    rw [hev]
    obtain ⟨bm, hbm⟩ : ∃ bm, decide (0 ≤ rowOf 2 s.L id) = bm := ⟨_, rfl⟩
    rw [hbm] at HREM ⊢
    clear hat hn e1 e2 h hH hno hN hd hnd hin c0 c1 c3 hro hev hbm
    go_enter Tryz.func43, Tryz.ntmps43
    go_wp2_with fail
    refine HF.out.mono ?_
    rintro e w1 ⟨rfl, rfl⟩
    go_wp2_with fail
    refine HREM.out.mono ?_
    rintro e w1 ⟨rfl, hA, hF⟩
    have H1 := Lib.hid (And.intro hA hF)
    clear hA hF
    go_wp2
    go_ret
    exact ⟨rfl, H1.out.1, H1.out.2⟩
  · obtain ⟨e1, e2⟩ := fnd_found hx he hn
    have hk := (List.getElem?_eq_some_iff.1 hx).1
    obtain ⟨b, off, rfl, hbl, hSb, hc0, hc1, hc2⟩ := hat k x hx
    rw [e1] at HF
    have hnum : s.num id = x.2.1 := by unfold TfS.num; rw [e2]
    obtain ⟨x0, x1, x2⟩ := x
    have hkn : decide ((0 : Int) ≤ k) = true := decide_eq_true (by omega)
    rw [hro] at HR
    obtain ⟨ln, hln⟩ : ∃ ln, s.H.length = ln := ⟨_, rfl⟩
    rw [hln] at c3 hk
    have hk' : (k : Int) < ln := by omega
    have HQ := Lib.hid (And.intro hro (And.intro hnum hln))
    by_cases e0 : ro = 0
    · subst e0
      have hbm : decide (0 ≤ rowOf 2 s.L id) = true := decide_eq_true (by omega)
      rw [hbm]
      have HBM := Lib.hid hbm
      have hev : s.ev id = ({ s with B := gadd s.most s.B x1 } : TfS).rem id := by unfold TfS.ev; rw [if_pos hro, hnum]
      rw [hev]
      clear hat hn e1 e2 h hH hN hd hnd hin hro hev hnum hx he hm hB hln hbm
      go_enter Tryz.func43, Tryz.ntmps43
      go_wp2_with fail
      refine HF.out.mono ?_
      rintro e w1 ⟨rfl, rfl⟩
      go_wp2_with fail
      refine HR.out.mono ?_
      rintro e w1 ⟨rfl, rfl⟩
      go_wp2_with fail
      have HOD := Lib.hid (HO.out.1.frame (w' := w.drew) (Nat.le_refl _) fun _ _ _ => rfl)
      go_region_held3 (fun X => X.cell? ⟨p, 1, none⟩ = some (.pointer (some ⟨b1, 0, none⟩)) ∧ X.cell? ⟨p, 3, none⟩ = some (.slice (some ⟨b, off, none⟩) ln cap) ∧ X.cell? ⟨b, off + k * 3 + 1, none⟩ = some (.int .u64 x1)) (first | exact ⟨c1, c3, hc1⟩ | exact hS1) (first
        | (go_at_call 61; refine (radd_at rcut_said (Z 1) b1 s.most s.B x1 w.drew HOD.out.h1 HO.out.2.1 HO.out.2.2.1).mono ?_; rintro e w1 ⟨rfl, hG, hF⟩; have hone := HOD.out.one hG hF; have hz1 : w.heap.size ≤ w1.heap.size := hF.size; have hS1 : w1.cell? ⟨p, 1, none⟩ = some (.pointer (some ⟨b1, 0, none⟩)) ∧ w1.cell? ⟨p, 3, none⟩ = some (.slice (some ⟨b, off, none⟩) ln cap) ∧ w1.cell? ⟨b, off + k * 3 + 1, none⟩ = some (.int .u64 x1) := ⟨(hF.cell (p := ⟨p, 1, none⟩) hpl (HOD.out.hZp 1)).trans c1, (hF.cell (p := ⟨p, 3, none⟩) hpl (HOD.out.hZp 1)).trans c3, (hF.cell (p := ⟨b, off + k * 3 + 1, none⟩) hbl (HOD.out.off (by decide) b hbl hSb)).trans hc1⟩; have H1 := Lib.hid (And.intro hone hz1); clear hG hF hone hz1))
      have hA1 : Tf w1 (grow S w w1) p { s with B := gadd s.most s.B x1 } := ⟨_, _, _, _, H1.out.1.1⟩
      have HRM := Lib.hid (tf_rem _ p _ id w1 hA1 HO.out.2.2.2.1 HO.out.2.2.2.2.1 HO.out.2.2.2.2.2.1 HO.out.2.2.2.2.2.2.1 HO.out.2.2.2.2.2.2.2)
      clear hA1
      go_wp2_with fail
      refine HRM.out.mono ?_
      rintro e w2 ⟨rfl, hA, hF⟩
      have H2 := Lib.hid (And.intro hA hF)
      clear hA hF
      go_wp2
      go_ret
      exact ⟨congrArg (fun b => Ending.returned (Value.bool b)) HBM.out, H2.out.1.mono fun b _ q => grow_grow H1.out.2 H2.out.2.size q, (Fr.trans (Fr.refl S w).drew H1.out.1.2 (fun _ _ q => q)).grown H2.out.2⟩
    · have hev : s.ev id = s.rem id := by unfold TfS.ev; rw [if_neg (by omega)]
      rw [hev]
      have e0' : (ro == 0) = false := by simpa using e0
      obtain ⟨bm, hbm⟩ : ∃ bm, decide (0 ≤ rowOf 2 s.L id) = bm := ⟨_, rfl⟩
      rw [hbm] at HREM ⊢
      clear hat hn e1 e2 h hH hN hd hnd hin hro hev hnum hx he hm hB hln hbm e0
      go_enter Tryz.func43, Tryz.ntmps43
      go_wp2_with fail
      refine HF.out.mono ?_
      rintro e w1 ⟨rfl, rfl⟩
      go_wp2_with fail
      refine HR.out.mono ?_
      rintro e w1 ⟨rfl, rfl⟩
      go_wp2_with fail
      refine HREM.out.mono ?_
      rintro e w1 ⟨rfl, hA, hF⟩
      have H1 := Lib.hid (And.intro hA hF)
      clear hA hF
      go_wp2
      go_ret
      exact ⟨rfl, H1.out.1, H1.out.2⟩
end Go.Proofs.YtgdlndpjfejmcaaGreat.Thr
/- The reference of layer 14 (sthree): Victim. -/
namespace Go.Proofs.YtgdlndpjfejmcaaGreat.Thr
open Go.RowKit
set_option linter.unusedVariables false
set_option maxRecDepth 100000
/-- The relation of the loop: so many looks are left. -/
def VicT (S : Nat → Prop) (p : Nat) (s : TfS) (t : ThS) (w : World) (i : Value) (wr : World) : Prop :=
  ∃ (n k : Nat) (s' : TfS) (t' : ThS), i = .int .i64 n ∧ n + k = measT t ∧ measT t' ≤ k ∧ vicF (k + 1) t' = vicT t ∧ Tf wr (grow S w wr) p s' ∧ Fr S w wr ∧ Syn s' t' ∧ Gd t' ∧ s'.H.length = s.H.length ∧ ∀ r, 2 ≤ r → t'.L r = []
theorem dsj_gd {t : ThS} (g : Gd t) : Dsj 2 t.L := by
  intro a b ha hb x q1 q2
  match a, b, ha, hb, q1, q2 with
  | 0, 0, _, _, _, _ => rfl
  | 1, 1, _, _, _, _ => rfl
  | 0, 1, _, _, q1, q2 => exact absurd q2 (g.dj x q1)
  | 1, 0, _, _, q1, q2 => exact absurd q1 (g.dj x q2)
theorem len_gd {s : TfS} {t : ThS} (h : Syn s t) (g : Gd t) (h2 : ∀ r, 2 ≤ r → t.L r = []) (hH : s.H.length ≤ 1000000) : ∀ k, (t.L k).length ≤ 1000000 := by
  intro k
  have := h.tot g
  unfold totT at this
  match k with
  | 0 => omega
  | 1 => omega
  | k + 2 => rw [h2 _ (by omega)]; simp
theorem move_nil {t : ThS} (h2 : ∀ r, 2 ≤ r → t.L r = []) (id c : Int) : ∀ r, 2 ≤ r → (moveT t id c).L r = [] := by
  intro r hr
  show frontL 2 t.L 1 id r = []
  unfold frontL
  split
  · unfold putF del
    rw [h2 r hr]
    first
      | (rw [if_neg (by omega)]; rfl)
      | (simp; omega)
  · exact h2 r hr
theorem who {s : TfS} {t : ThS} (hs : Syn s t) (g : Gd t) {v : Int} (hm : v ∈ t.L 0 ∨ v ∈ t.L 1) : ∃ (k : Nat) (x : Nm), s.H[k]? = some x ∧ x.1 = v ∧ fnd s.H v = k ∧ countT t v = x.2.2 ∧ numT t v = x.2.1 ∧ 0 ≤ x.2.2 ∧ x.2.2 ≤ 3 := by
  rcases fnd_split v s.H with hn | ⟨k, x, hx, he, hn⟩
  · have := (g.in_.in_ v).2 hm
    rw [← hs.hK, (fnd_none hn).2] at this; cases this
  · obtain ⟨e1, e2⟩ := fnd_found hx he hn
    rw [hs.hK] at e2
    have hc := g.in_.cnt v _ _ e2
    exact ⟨k, x, hx, he, e1, by unfold countT; rw [e2], by unfold numT; rw [e2], hc.1, hc.2⟩
/-- A look that moves somebody on. -/
theorem look_move {S : Nat → Prop} {p : Nat} {s s' : TfS} {t t' : ThS} {w wr w2 w3 : World} {r b1 b off cap : Nat} {Z : Nat → Nat → Prop} {n k kx : Nat} {x : Nm} {v c' : Int} {i : Value}
    (h : TfO wr (grow S w wr) p s' r b1 (.slice (some ⟨b, off, none⟩) s'.H.length cap) Z s'.most) (hF : Fr S w wr) (hs : Syn s' t') (g : Gd t') (hnk : n + k = measT t) (hlen : s'.H.length = s.H.length) (h2 : ∀ r, 2 ≤ r → t'.L r = [])
    (hx : s'.H[kx]? = some x) (hv : x.1 = v) (hnum : numT t' v = x.2.1) (hm : v ∈ t'.L 0 ∨ v ∈ t'.L 1) (hc : 0 ≤ c' ∧ c' ≤ 3) (hme : measT (moveT t' v c') + 1 = measT t') (hmk : measT t' ≤ k) (hvf : vicF k (moveT t' v c') = vicT t) (hi : i = .int .i64 (n + 1 : Nat))
    (hw2 : w2 = (wr.setCell ⟨b, off + kx * 3 + 2, none⟩ (.int .i64 c')).drew) (hR : Rf w3 (grow (Z 0) w2 w3) r 2 (frontL 2 t'.L 1 v)) (hF3 : Fr (Z 0) w2 w3) : VicT S p s t w i w3 := by
  obtain ⟨hc1, hc2, _⟩ := h.count hx c'
  have hc1' := hc1.frame (w' := w2) (by rw [hw2]; exact Nat.le_refl _) (fun _ _ _ => by rw [hw2]; rfl)
  have hc2' : Fr (grow S w wr) wr w2 := by rw [hw2]; exact hc2.drew
  have hL : frontL 2 t'.L 1 v = frontL 2 s'.L 1 v := by rw [hs.hL]
  rw [hL] at hR
  have hr := hc1'.rows hR hF3
  have hz : wr.heap.size ≤ w2.heap.size := hc2'.size
  have hsy := (hs.set hx c').front 1 v
  refine ⟨n + 1, k - 1, _, moveT t' v c', hi, by omega, by omega, by rw [show k - 1 + 1 = k from by omega]; exact hvf, ⟨_, _, _, _, hr.1.mono fun b _ q => ?_⟩, ?_, ?_, (g.move hm hc).1, ?_, move_nil h2 v c'⟩
  · exact grow_grow (a := w) (b := w2) (by have := hF.size; omega) hF3.size (q.imp (fun q => q.imp (fun q => q) (fun q => ⟨q.1, by omega⟩)) (fun q => q))
  · exact hF.grown (hc2'.trans hr.2 (fun _ _ q => q))
  · have e : moveT t' v c' = { { t' with K := setK t'.K x.1 (some (x.2.1, c')) } with L := frontL 2 t'.L 1 v } := by unfold moveT; rw [hnum, hv]
    rw [e]
    exact hsy
  · show (s'.H.set kx _).length = _
    rw [List.length_set]; exact hlen
set_option maxRecDepth 100000 in
set_option maxHeartbeats 4000000 in
theorem tf_victim (S : Nat → Prop) (p : Nat) (s : TfS) (t : ThS) (w : World) (h : Tf w S p s) (hs : Syn s t) (g : Gd t) (h2 : ∀ r, 2 ≤ r → t.L r = []) (hH : s.H.length ≤ 1000000) :
    Calls Tryz.prog 50 #[.pointer (some ⟨p, 0, none⟩)] w fun e w' => e = .returned (.int .i64 (vicT t).2) ∧ (∃ s', Tf w' (grow S w w') p s' ∧ Syn s' (vicT t).1 ∧ s'.H.length = s.H.length) ∧ Fr S w w' := by
  have hv : VicT S p s t w (.int .i64 0) w := ⟨0, measT t, s, t, rfl, by omega, Nat.le_refl _, rfl, h.mono fun b _ q => Or.inl q, Fr.refl _ _, hs, g, rfl, h2⟩
  have hm : measT t ≤ 3 * s.H.length := by have := meas_le g.in_; have := hs.tot g; omega
  have HS := Lib.hid (And.intro hv (And.intro hm hH))
  clear h hs g h2 hv hm hH
  go_enter Tryz.func50, Tryz.ntmps50
  go_wp2_with fail
  go_loopw [3] (fun i wr => VicT S p s t w i wr) (fun i _ => measT t + 5 - (intOf i).toNat)
  case atStart => exact HS.out.1
  case round =>
    obtain ⟨n, k, s', t', rfl, hnk, hmk, hvf, ⟨r, b1, sv, Z, h⟩, hF, hs, g, hlen, h2⟩ := hrel
    obtain ⟨c0, _, c2, c3, fz, hpl⟩ := h.cells
    obtain ⟨a, cap, rfl, hat⟩ := tr_at h.hs
    have hN := len_gd hs g h2 (by have := HS.out.2.2; omega)
    have hd := dsj_gd g
    have hLL := hs.hL
    have l0 := rf_len (Z 0) r 2 s'.L 0 wr h.hR
    have l1 := rf_len (Z 0) r 2 s'.L 1 wr h.hR
    have t0 := rf_last (Z 0) r 2 s'.L 0 wr h.hR (by rw [hLL]; exact hN 0)
    have t1 := rf_last (Z 0) r 2 s'.L 1 wr h.hR (by rw [hLL]; exact hN 1)
    rw [hLL] at l0 l1 t0 t1
    rw [rowL_0] at l0 t0
    rw [rowL_1] at l1 t1
    have hle0 := hN 0
    have hle1 := hN 1
    obtain ⟨n0, hn0⟩ : ∃ n, (t'.L 0).length = n := ⟨_, rfl⟩
    obtain ⟨n1, hn1⟩ : ∃ n, (t'.L 1).length = n := ⟨_, rfl⟩
    obtain ⟨v0, hv0⟩ : ∃ v, lastOf (t'.L 0) = v := ⟨_, rfl⟩
    obtain ⟨v1, hv1⟩ : ∃ v, lastOf (t'.L 1) = v := ⟨_, rfl⟩
    obtain ⟨mo, hmo'⟩ : ∃ v, t'.most = v := ⟨_, rfl⟩
    rw [hs.hm, hmo'] at c2
    rw [hn0] at l0 hle0
    rw [hn1] at l1 hle1
    rw [hv0] at t0
    rw [hv1] at t1
    have hsb : smallB t' = decide (0 < n0 ∧ (max 1 (wrap64 (mo.tdiv 10)) < n0 ∨ n1 = 0)) := by unfold smallB; rw [hn0, hn1, hmo']
    obtain ⟨sb, hsb'⟩ : ∃ b, smallB t' = b := ⟨_, rfl⟩
    rw [hsb'] at hsb
    obtain ⟨ln, hln⟩ : ∃ ln, s'.H.length = ln := ⟨_, rfl⟩
    rw [hln] at c3
    have hlb : ln ≤ 1000000 := by have := HS.out.2.2; omega
    have hwr4 : IntKind.i64.wrap (4 * (ln : Int)) = 4 * (ln : Int) := by rw [IntKind.wrap_i64]; omega
    have hwr5 : IntKind.i64.wrap (4 * (ln : Int) + 1) = 4 * (ln : Int) + 1 := by rw [IntKind.wrap_i64]; omega
    have hcond : (n : Int) ≤ 4 * (ln : Int) + 1 := by have := HS.out.2.1; omega
    have HL := Lib.hid (And.intro l0 (And.intro l1 (And.intro t0 t1)))
    have HN := Lib.hid (And.intro hn0 (And.intro hn1 (And.intro hv0 (And.intro hv1 (And.intro hsb hsb')))))
    have HH := Lib.hid (And.intro h (And.intro hF (And.intro hs (And.intro g (And.intro hnk (And.intro hmk (And.intro hvf (And.intro hlen (And.intro h2 (And.intro hN (And.intro hd (And.intro hat hln))))))))))))
    clear h hF hs g hnk hmk hvf hlen h2 hN hd l0 l1 t0 t1 hn0 hn1 hv0 hv1 hsb hsb' hmo' hat hln fz hLL
    go_upto_region 5 with (go_at_call 51; refine HL.out.1.mono ?_; rintro e w1 ⟨rfl, rfl⟩)
    go_cut [42] (fun c wx => c = .bool sb ∧ wx = wr)
    case first =>
      have HX := Lib.hid HN.out.2.2.2.2.1
      by_cases h0 : 0 < n0
      · by_cases h1 : n1 = 0
        · subst h1
          have h0' : (0 : Int) < n0 := by omega
          go_wp2_with (go_at_call 51; refine HL.out.2.1.mono ?_; rintro e w1 ⟨rfl, rfl⟩)
          all_goals
            go_meet
            exact ⟨congrArg Value.bool (by rw [HX.out]; first | exact (decide_eq_true (by omega)).symm | exact (decide_eq_false (by omega)).symm | exact decide_eq_decide.2 (by omega) | simp [h0]), rfl⟩
        · have h0' : (0 : Int) < n0 := by omega
          have h1' : ((n1 : Int) == 0) = false := by rw [beq_eq_false_iff_ne]; omega
          go_wp2_with (go_at_call 51; refine HL.out.2.1.mono ?_; rintro e w1 ⟨rfl, rfl⟩)
          all_goals
            go_meet
            exact ⟨congrArg Value.bool (by rw [HX.out]; first | exact (decide_eq_true (by omega)).symm | exact (decide_eq_false (by omega)).symm | exact decide_eq_decide.2 (by omega) | simp [h0]), rfl⟩
      · obtain rfl : n0 = 0 := by omega
        go_wp2_with fail
        go_meet
        exact ⟨by rw [HX.out]; simp, rfl⟩
    case rest =>
      obtain ⟨rfl, rfl⟩ := hcut
      obtain ⟨wz, rfl⟩ : ∃ wz : World, wz = wc := ⟨_, rfl⟩
      rcases sb with _ | _
      · -- main
        have HSF := Lib.hid (show smallB t' = false from HN.out.2.2.2.2.2)
        by_cases h1 : 0 < n1
        · have h1p : (0 : Int) < n1 := by omega
          have hmem : v1 ∈ t'.L 1 := by
            rw [← HN.out.2.2.2.1]
            exact lastOf_mem (fun e => by have := HN.out.2.1; rw [e] at this; simp at this; omega)
          have HM1 := Lib.hid hmem
          obtain ⟨kx, x, hx, he, hfn, hcn, hnum, hc0, hc3⟩ := who HH.out.2.2.1 HH.out.2.2.2.1 (.inr HM1.out)
          have hkx := (List.getElem?_eq_some_iff.1 hx).1
          have hwid : 0 ≤ v1 ∧ v1 ≤ 4194303 := HH.out.2.2.2.1.w 1 v1 (by decide) hmem
          obtain ⟨b, off, rfl, hbl, hSb, d0, d1, d2⟩ := HH.out.2.2.2.2.2.2.2.2.2.2.2.1 kx x hx
          have HFI := Lib.hid (tf_find _ p s' v1 wz ⟨_, _, _, _, HH.out.1⟩ (by have := HH.out.2.2.2.2.2.2.2.2.2.2.2.2; omega))
          rw [hfn] at HFI
          rw [HH.out.2.2.2.2.2.2.2.2.2.2.2.2] at hkx
          have hkx' : (kx : Int) < ln := by omega
          obtain ⟨x0, x1, x2⟩ := x
          obtain rfl : x0 = v1 := he
          obtain ⟨hcn, hnum⟩ : countT t' x0 = x2 ∧ numT t' x0 = x1 := ⟨hcn, hnum⟩
          obtain ⟨hc0, hc3⟩ : 0 ≤ x2 ∧ x2 ≤ 3 := ⟨hc0, hc3⟩
          have HW := Lib.hid (And.intro hx (And.intro hcn (And.intro hnum (And.intro hwid (And.intro hfn (And.intro hSb hbl))))))
          clear hx hcn hnum hwid hfn hmem
          have h1' : ((n1 : Int) == 0) = false := by rw [beq_eq_false_iff_ne]; omega
          go_wp2_with (go_at_call 51; refine HL.out.2.1.mono ?_; rintro e w1 ⟨rfl, rfl⟩)
          refine HL.out.2.2.2.mono ?_
          rintro e w1 ⟨rfl, rfl⟩
          go_wp2_with fail
          refine HFI.out.mono ?_
          rintro e w1 ⟨rfl, rfl⟩
          by_cases hc : x2 = 0
          · have hcd : (x2 == 0) = true := by simpa using hc
            go_wp2
            try rw [Exit.noGoto_ret]
            go_ret
            have hvic : vicT t = (t', x0) := by
              rw [← HH.out.2.2.2.2.2.2.1]
              unfold vicF
              rw [if_neg (by rw [HSF.out]; decide), if_pos (by rw [HN.out.2.1]; exact h1), HN.out.2.2.2.1, HW.out.2.1, if_pos hc]
            rw [hvic]
            exact ⟨rfl, ⟨s', ⟨_, _, _, _, HH.out.1⟩, HH.out.2.2.1, HH.out.2.2.2.2.2.2.2.1⟩, HH.out.2.1⟩
          · have hcd : (x2 == 0) = false := by rw [beq_eq_false_iff_ne]; exact hc
            have hwc : IntKind.i64.wrap (x2 - 1) = x2 - 1 := by rw [IntKind.wrap_i64]; omega
            obtain ⟨hq1, hq2, hq3⟩ := HH.out.1.count HW.out.1 (x2 - 1)
            have hq3' : wz.frozen? ⟨b, off + kx * 3 + 2, none⟩ = false := hq3
            have HQ := Lib.hid hq1
            have hR0 := (HH.out.1.count HW.out.1 (x2 - 1)).1.frame (w' := (wz.setCell ⟨b, off + kx * 3 + 2, none⟩ (.int .i64 (x2 - 1))).drew) (Nat.le_refl _) (fun _ _ _ => rfl)
            have e0 : (wz.setCell ⟨b, off + kx * 3 + 2, none⟩ (.int .i64 (x2 - 1))).drew.cell? ⟨p, 0, none⟩ = some (.pointer (some ⟨r, 0, none⟩)) := hR0.cells.1
            have e3 : (wz.setCell ⟨b, off + kx * 3 + 2, none⟩ (.int .i64 (x2 - 1))).drew.cell? ⟨p, 3, none⟩ = some (.slice (some ⟨b, off, none⟩) ln cap) := by rw [← HH.out.2.2.2.2.2.2.2.2.2.2.2.2]; exact hR0.cells.2.2.2.1
            have e5 : (wz.setCell ⟨b, off + kx * 3 + 2, none⟩ (.int .i64 (x2 - 1))).drew.cell? ⟨b, off + kx * 3, none⟩ = some (.int .i64 x0) := by
              obtain ⟨a2, cap2, hv2, hat2⟩ := tr_at hR0.hs
              obtain ⟨b2, off2, ha2, _, _, q0, _⟩ := hat2 kx (x0, x1, (x2 - 1)) (by show (s'.H.set kx _)[kx]? = _; rw [List.getElem?_set_self (by rw [HH.out.2.2.2.2.2.2.2.2.2.2.2.2]; exact hkx)])
              rw [ha2] at hv2
              simp at hv2
              obtain ⟨⟨rfl, rfl⟩, _⟩ := hv2
              exact q0
            have HFR := Lib.hid (rf_front (Z 0) r 2 s'.L 1 x0 _ hR0.hR (by rw [HH.out.2.2.1.hL]; exact HH.out.2.2.2.2.2.2.2.2.2.1) (by rw [HH.out.2.2.1.hL]; exact HH.out.2.2.2.2.2.2.2.2.2.2.1))
            clear hq1 hq2 hq3 hR0
            have hsz : (wz.setCell ⟨b, off + kx * 3 + 2, none⟩ (.int .i64 (x2 - 1))).drew.heap.size = wz.heap.size := by simp [World.setCell, World.drew]
            have hpW : p < (wz.setCell ⟨b, off + kx * 3 + 2, none⟩ (.int .i64 (x2 - 1))).drew.heap.size := by rw [hsz]; exact hpl
            have hbW : b < (wz.setCell ⟨b, off + kx * 3 + 2, none⟩ (.int .i64 (x2 - 1))).drew.heap.size := by rw [hsz]; exact hbl
            have hzp := HH.out.1.hZp 0
            have hzb := HH.out.1.off (k := 0) (j := 3) (by decide) b hbl hSb
            go_wp2_with fail
            go_region_held3 (fun X => X.cell? ⟨p, 0, none⟩ = some (.pointer (some ⟨r, 0, none⟩)) ∧ X.cell? ⟨p, 3, none⟩ = some (.slice (some ⟨b, off, none⟩) ln cap) ∧ X.cell? ⟨b, off + kx * 3, none⟩ = some (.int .i64 x0)) (first | exact ⟨e0, e3, e5⟩ | exact hS1) (first
              | (go_at_call 31; refine HFR.out.mono ?_; rintro e w3 ⟨rfl, hA, hF3⟩; have hS1 : w3.cell? ⟨p, 0, none⟩ = some (.pointer (some ⟨r, 0, none⟩)) ∧ w3.cell? ⟨p, 3, none⟩ = some (.slice (some ⟨b, off, none⟩) ln cap) ∧ w3.cell? ⟨b, off + kx * 3, none⟩ = some (.int .i64 x0) := ⟨(hF3.cell (p := ⟨p, 0, none⟩) hpW hzp).trans e0, (hF3.cell (p := ⟨p, 3, none⟩) hpW hzp).trans e3, (hF3.cell (p := ⟨b, off + kx * 3, none⟩) hbW hzb).trans e5⟩; have H3 := Lib.hid (And.intro hA hF3); clear hA hF3))
            have hme : measT (moveT t' x0 (x2 - 1)) + 1 = measT t' := by
              have := meas_main HW.out.2.2.2.1.1 HW.out.2.2.2.1.2 HH.out.2.2.2.1.n1 HM1.out (fun q => HH.out.2.2.2.1.dj x0 q HM1.out) (by rw [HW.out.2.1]; omega)
              rwa [HW.out.2.1] at this
            have hvf : vicF k (moveT t' x0 (x2 - 1)) = vicT t := by
              rw [← HH.out.2.2.2.2.2.2.1]
              conv => rhs; unfold vicF
              rw [if_neg (by rw [HSF.out]; decide), if_pos (by rw [HN.out.2.1]; exact h1), HN.out.2.2.2.1, HW.out.2.1, if_neg hc]
            have hup : k ≤ measT t := by have := HH.out.2.2.2.2.1; omega
            have hnk := HH.out.2.2.2.2.1
            have hmk := HH.out.2.2.2.2.2.1
            have hns : measT t ≤ 3 * 1000000 := by have := HS.out.2.1; have := HS.out.2.2; omega
            go_wp2_with fail
            go_roundw
            case rel => exact look_move HH.out.1 HH.out.2.1 HH.out.2.2.1 HH.out.2.2.2.1 hnk HH.out.2.2.2.2.2.2.2.1 HH.out.2.2.2.2.2.2.2.2.1 HW.out.1 rfl HW.out.2.2.1 (.inr HM1.out) ⟨by omega, by omega⟩ hme hmk hvf (by go_num) rfl (by rw [← HH.out.2.2.1.hL]; exact H3.out.1) H3.out.2
            case measure => simp [intOf]; omega
        · obtain rfl : n1 = 0 := by omega
          go_wp2_with (go_at_call 51; refine HL.out.2.1.mono ?_; rintro e w1 ⟨rfl, rfl⟩)
          try rw [Exit.noGoto_ret]
          go_ret
          have hvic : vicT t = (t', -1) := by
            rw [← HH.out.2.2.2.2.2.2.1]
            unfold vicF
            rw [if_neg (by rw [HSF.out]; decide), if_neg (by rw [HN.out.2.1]; decide)]
          rw [hvic]
          exact ⟨rfl, ⟨s', ⟨_, _, _, _, HH.out.1⟩, HH.out.2.2.1, HH.out.2.2.2.2.2.2.2.1⟩, HH.out.2.1⟩
      · -- small
        have HSF := Lib.hid (show smallB t' = true from HN.out.2.2.2.2.2)
        have h00 : 0 < n0 := (of_decide_eq_true HN.out.2.2.2.2.1.symm).1
        have hmem : v0 ∈ t'.L 0 := by
          rw [← HN.out.2.2.1]
          exact lastOf_mem (fun e => by have := HN.out.1; rw [e] at this; simp at this; omega)
        have HM1 := Lib.hid hmem
        obtain ⟨kx, x, hx, he, hfn, hcn, hnum, hc0, hc3⟩ := who HH.out.2.2.1 HH.out.2.2.2.1 (.inl HM1.out)
        have hkx := (List.getElem?_eq_some_iff.1 hx).1
        have hwid : 0 ≤ v0 ∧ v0 ≤ 4194303 := HH.out.2.2.2.1.w 0 v0 (by decide) hmem
        obtain ⟨b, off, rfl, hbl, hSb, d0, d1, d2⟩ := HH.out.2.2.2.2.2.2.2.2.2.2.2.1 kx x hx
        have HFI := Lib.hid (tf_find _ p s' v0 wz ⟨_, _, _, _, HH.out.1⟩ (by have := HH.out.2.2.2.2.2.2.2.2.2.2.2.2; omega))
        rw [hfn] at HFI
        rw [HH.out.2.2.2.2.2.2.2.2.2.2.2.2] at hkx
        have hkx' : (kx : Int) < ln := by omega
        obtain ⟨x0, x1, x2⟩ := x
        obtain rfl : x0 = v0 := he
        obtain ⟨hcn, hnum⟩ : countT t' x0 = x2 ∧ numT t' x0 = x1 := ⟨hcn, hnum⟩
        obtain ⟨hc0, hc3⟩ : 0 ≤ x2 ∧ x2 ≤ 3 := ⟨hc0, hc3⟩
        have HW := Lib.hid (And.intro hx (And.intro hcn (And.intro hnum (And.intro hwid (And.intro hfn (And.intro hSb hbl))))))
        clear hx hcn hnum hwid hfn hmem
        go_wp2_with fail
        refine HL.out.2.2.1.mono ?_
        rintro e w1 ⟨rfl, rfl⟩
        go_wp2_with fail
        refine HFI.out.mono ?_
        rintro e w1 ⟨rfl, rfl⟩
        by_cases hc : x2 < 2
        · have hcd : decide (x2 < 2) = true := decide_eq_true hc
          go_wp2
          try rw [Exit.noGoto_ret]
          go_ret
          have hvic : vicT t = (t', x0) := by
            rw [← HH.out.2.2.2.2.2.2.1]
            unfold vicF
            rw [if_pos HSF.out, HN.out.2.2.1, HW.out.2.1, if_pos hc]
          rw [hvic]
          exact ⟨rfl, ⟨s', ⟨_, _, _, _, HH.out.1⟩, HH.out.2.2.1, HH.out.2.2.2.2.2.2.2.1⟩, HH.out.2.1⟩
        · have hcd : decide (x2 < 2) = false := decide_eq_false hc
          obtain ⟨hq1, hq2, hq3⟩ := HH.out.1.count HW.out.1 0
          have hq3' : wz.frozen? ⟨b, off + kx * 3 + 2, none⟩ = false := hq3
          have HQ := Lib.hid hq1
          have hR0 := (HH.out.1.count HW.out.1 0).1.frame (w' := (wz.setCell ⟨b, off + kx * 3 + 2, none⟩ (.int .i64 0)).drew) (Nat.le_refl _) (fun _ _ _ => rfl)
          have e0 : (wz.setCell ⟨b, off + kx * 3 + 2, none⟩ (.int .i64 0)).drew.cell? ⟨p, 0, none⟩ = some (.pointer (some ⟨r, 0, none⟩)) := hR0.cells.1
          have e3 : (wz.setCell ⟨b, off + kx * 3 + 2, none⟩ (.int .i64 0)).drew.cell? ⟨p, 3, none⟩ = some (.slice (some ⟨b, off, none⟩) ln cap) := by rw [← HH.out.2.2.2.2.2.2.2.2.2.2.2.2]; exact hR0.cells.2.2.2.1
          have e5 : (wz.setCell ⟨b, off + kx * 3 + 2, none⟩ (.int .i64 0)).drew.cell? ⟨b, off + kx * 3, none⟩ = some (.int .i64 x0) := by
            obtain ⟨a2, cap2, hv2, hat2⟩ := tr_at hR0.hs
            obtain ⟨b2, off2, ha2, _, _, q0, _⟩ := hat2 kx (x0, x1, 0) (by show (s'.H.set kx _)[kx]? = _; rw [List.getElem?_set_self (by rw [HH.out.2.2.2.2.2.2.2.2.2.2.2.2]; exact hkx)])
            rw [ha2] at hv2
            simp at hv2
            obtain ⟨⟨rfl, rfl⟩, _⟩ := hv2
            exact q0
          have HFR := Lib.hid (rf_front (Z 0) r 2 s'.L 1 x0 _ hR0.hR (by rw [HH.out.2.2.1.hL]; exact HH.out.2.2.2.2.2.2.2.2.2.1) (by rw [HH.out.2.2.1.hL]; exact HH.out.2.2.2.2.2.2.2.2.2.2.1))
          clear hq1 hq2 hq3 hR0
          have hsz : (wz.setCell ⟨b, off + kx * 3 + 2, none⟩ (.int .i64 0)).drew.heap.size = wz.heap.size := by simp [World.setCell, World.drew]
          have hpW : p < (wz.setCell ⟨b, off + kx * 3 + 2, none⟩ (.int .i64 0)).drew.heap.size := by rw [hsz]; exact hpl
          have hbW : b < (wz.setCell ⟨b, off + kx * 3 + 2, none⟩ (.int .i64 0)).drew.heap.size := by rw [hsz]; exact hbl
          have hzp := HH.out.1.hZp 0
          have hzb := HH.out.1.off (k := 0) (j := 3) (by decide) b hbl hSb
          go_wp2_with fail
          go_region_held3 (fun X => X.cell? ⟨p, 0, none⟩ = some (.pointer (some ⟨r, 0, none⟩)) ∧ X.cell? ⟨p, 3, none⟩ = some (.slice (some ⟨b, off, none⟩) ln cap) ∧ X.cell? ⟨b, off + kx * 3, none⟩ = some (.int .i64 x0)) (first | exact ⟨e0, e3, e5⟩ | exact hS1) (first
            | (go_at_call 31; refine HFR.out.mono ?_; rintro e w3 ⟨rfl, hA, hF3⟩; have hS1 : w3.cell? ⟨p, 0, none⟩ = some (.pointer (some ⟨r, 0, none⟩)) ∧ w3.cell? ⟨p, 3, none⟩ = some (.slice (some ⟨b, off, none⟩) ln cap) ∧ w3.cell? ⟨b, off + kx * 3, none⟩ = some (.int .i64 x0) := ⟨(hF3.cell (p := ⟨p, 0, none⟩) hpW hzp).trans e0, (hF3.cell (p := ⟨p, 3, none⟩) hpW hzp).trans e3, (hF3.cell (p := ⟨b, off + kx * 3, none⟩) hbW hzb).trans e5⟩; have H3 := Lib.hid (And.intro hA hF3); clear hA hF3))
          have hme : measT (moveT t' x0 0) + 1 = measT t' := meas_small HW.out.2.2.2.1.1 HW.out.2.2.2.1.2 HH.out.2.2.2.1.n0 HM1.out (HH.out.2.2.2.1.dj x0 HM1.out)
          have hvf : vicF k (moveT t' x0 0) = vicT t := by
            rw [← HH.out.2.2.2.2.2.2.1]
            conv => rhs; unfold vicF
            rw [if_pos HSF.out, HN.out.2.2.1, HW.out.2.1, if_neg (show ¬ x2 < 2 by omega)]
          have hup : k ≤ measT t := by have := HH.out.2.2.2.2.1; omega
          have hnk := HH.out.2.2.2.2.1
          have hmk := HH.out.2.2.2.2.2.1
          have hns : measT t ≤ 3 * 1000000 := by have := HS.out.2.1; have := HS.out.2.2; omega
          go_wp2_with fail
          go_roundw
          case rel => exact look_move HH.out.1 HH.out.2.1 HH.out.2.2.1 HH.out.2.2.2.1 hnk HH.out.2.2.2.2.2.2.2.1 HH.out.2.2.2.2.2.2.2.2.1 HW.out.1 rfl HW.out.2.2.1 (.inl HM1.out) ⟨by omega, by omega⟩ hme hmk hvf (by go_num) rfl (by rw [← HH.out.2.2.1.hL]; exact H3.out.1) H3.out.2
          case measure => simp [intOf]; omega
end Go.Proofs.YtgdlndpjfejmcaaGreat.Thr
