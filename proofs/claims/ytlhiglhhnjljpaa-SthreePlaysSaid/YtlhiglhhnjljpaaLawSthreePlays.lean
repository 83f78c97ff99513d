/- 'ambry/ambrylaw14.SthreePlays' returns true, for every input, and leaves its arguments as they were. No condition. -/
import Derived.Test.YtlhiglhhnjljpaaIn
import Derived.Test.YtlhiglhhnjljpaaTfW
import Derived.Test.YtlhiglhhnjljpaaIn
import Derived.Deep.QuietTactic
import Derived.BigQuiet
import Derived.Deep.DeepCutAuto
import Derived.Deep.CutBlock
import Derived.Deep.RegionHeld3
import Derived.WalkKit
import Derived.ProofKit
import Derived.OpenShut
import Derived.ShutString
import Derived.ChangeOld
import Derived.Below
namespace Go.Proofs.Ytlhiglhhnjljpaa.sthreePlays
open Go.ChangeShapes Go.WideShapes Go.ChangeAt Go.RowKit
open Go.ChangeMaps (open_string shut_string)
set_option linter.unusedVariables false

theorem own : ownKnob Try.prog.godebug = none := by kernel_rfl
theorem laidOut : laidOutB Try.prog = true := by kernel_rfl
def El31 : List Value → Prop := fun cs => ∃ (x0 : Int) (x1 : Int) (x2 : Int), cs = [.int .i64 x0, .int .i64 x1, .int .u64 x2] ∧ (Lit.int .i64 x0).wf = true ∧ (Lit.int .i64 x1).wf = true ∧ (Lit.int .u64 x2).wf = true
theorem cells31 : Try.prog.cellsOf 31 = 3 := by kernel_rfl
theorem one31_3 : Try.prog.cellsOf 3 = 1 := by kernel_rfl
theorem one31_29 : Try.prog.cellsOf 29 = 1 := by kernel_rfl
theorem el31 {H : Type} {enc : TypeId × Value → H} {w : World} {base : Nat} {spare : Nat → Bool} {held : Bool} (m : Nat) (cs : List Value) (x : DataW H × List MemPlace) (h : DataW.trod enc Try.prog w base spare held m 31 cs = some x) : El31 cs := by
  obtain ⟨xs, m', _, _, hlen, hl, hg⟩ := DataW.trod_struct Try.underlying31 h
  rw [cells31] at hlen
  match cs, hlen, xs, hl, hg with
  | [c0, c1, c2], _, [y0, y1, y2], _, hg =>
    have g0 := hg 0 _ rfl
    have g0 : DataW.trod enc Try.prog w base spare held m' 3 (([c0, c1, c2].drop 0).take (Try.prog.cellsOf 3)) = some y0 := g0
    rw [one31_3] at g0
    obtain ⟨x0, e0, _, w0⟩ := DataW.trod_int Try.underlying3 g0
    have g1 := hg 1 _ rfl
    have g1 : DataW.trod enc Try.prog w base spare held m' 3 (([c0, c1, c2].drop 1).take (Try.prog.cellsOf 3)) = some y1 := g1
    rw [one31_3] at g1
    obtain ⟨x1, e1, _, w1⟩ := DataW.trod_int Try.underlying3 g1
    have g2 := hg 2 _ rfl
    have g2 : DataW.trod enc Try.prog w base spare held m' 29 (([c0, c1, c2].drop 2).take (Try.prog.cellsOf 29)) = some y2 := g2
    rw [one31_29] at g2
    obtain ⟨x2, e2, _, w2⟩ := DataW.trod_int Try.underlying29 g2
    simp at e0 e1 e2
    subst e0 e1 e2
    exact ⟨x0, x1, x2, rfl, w0, w1, w2⟩

set_option maxRecDepth 100000 in
set_option maxHeartbeats 4000000 in
theorem walk (w : World) (a0 : Option Addr) (n0 c0 : Nat) (w0 : n0 ≤ c0 ∧ ∀ i, i < n0 → InAt w a0 3 i (El31)) :
    Calls Try.prog 3 #[.slice a0 n0 c0] w fun e w' => e = .returned (.bool true) ∧ Below w.heap.size w w' := by
  -- WALK
  go_enter Try.func3, Try.ntmps3
  go_wp2_with fail
  refine (shown_any _).mono ?_
  rintro e y1 ⟨rfl, hF⟩
  have HF := Lib.hid (hF.mono (T := From w.heap.size) (fun _ _ h => h.elim))
  clear hF
  go_wp2_with fail
  refine (th_new y1).mono ?_
  rintro e y2 ⟨p, rfl, hA, hF⟩
  have H2 := Lib.hid (And.intro hA hF)
  clear hA hF
  go_wp2_with fail
  refine (tf_new y2).mono ?_
  rintro e y3 ⟨q, rfl, hR, hF⟩
  have HP := Lib.hid (two_new (w := y1) (A := QA p th0 0 0) (B := QB q tf0) (qa_frm p th0 0 0) (HF.out.trans H2.out.2 (fun _ _ q => q.elim)) H2.out.1 HF.out.size H2.out.2.size hR hF)
  clear H2 hR hF HF
  go_wp2_with fail
  go_loopw [6] (fun i wr => ∃ (k : Nat) (t : ThS) (s : TfS) (S : Nat → Prop), k ≤ n0 ∧ k ≤ 200 ∧ i = .int .i64 k ∧ Sep (TP p q t s (k * 700) k) w wr S ∧ Syn s t ∧ s.H.length ≤ k) (fun i _ => 200 - (intOf i).toNat)
  case atStart => exact ⟨0, th0, tf0, _, by omega, by omega, rfl, HP.out, syn0, by show (0 : Nat) ≤ 0; omega⟩
  case round =>
    clear HP
    obtain ⟨k, t, s, S, hk, hk2, rfl, h, hS, hl⟩ := hrel
    have Hk := Lib.hid (And.intro h (And.intro hS hl))
    clear h hS hl
    by_cases hlt : k < n0 ∧ k < 200
    · obtain ⟨hlt, hlt2⟩ := hlt
      obtain ⟨b, off, u, v, x, rfl, hbl, hEl, hc0, hc1, hc2⟩ := (w0.2 k hlt).three
      obtain ⟨x0, x1, x2, he, hw0, hw1, hw2⟩ := hEl
      simp at he
      obtain ⟨rfl, rfl, rfl⟩ := he
      have hd0 : wr.cell? ⟨b, off + k * 3, none⟩ = some (.int .i64 x0) := (Hk.out.1.fr.cell hbl (by unfold From; simp; omega)).trans hc0
      have hd1 : wr.cell? ⟨b, off + k * 3 + 1, none⟩ = some (.int .i64 x1) := (Hk.out.1.fr.cell hbl (by unfold From; simp; omega)).trans hc1
      have hd2 : wr.cell? ⟨b, off + k * 3 + 2, none⟩ = some (.int .u64 x2) := (Hk.out.1.fr.cell hbl (by unfold From; simp; omega)).trans hc2
      have HC := Lib.hid hc1
      clear hc0 hc1 hc2 hw0 hw1 hw2
      have W0 := Lib.hid w0
      clear w0
      go_wp2_with fail
      refine (does_ok Hk.out.1 Hk.out.2.1 Hk.out.2.2 hk2 x0 x1 x2).mono ?_
      rintro e wz ⟨rfl, t', s', S', h, hS, hl⟩
      have hlim := hS.limT h (by omega) (by omega) (by omega)
      have Hq := Lib.hid (And.intro h (And.intro hS (And.intro hl hlim)))
      clear h hS hl hlim hd0 hd1 hd2
      obtain ⟨gl, hgl⟩ : ∃ l, t'.B = l := ⟨_, rfl⟩
      have hglt : s'.B = gl := by rw [Hq.out.2.1.hB]; exact hgl
      have hgll : gl.length ≤ 1000000 := by rw [← hglt]; exact Nat.le_of_lt Hq.out.2.2.2.B
      have HGL := Lib.hid (And.intro hgl (And.intro hglt hgll))
      clear hgl hglt
      go_wp2_with fail
      refine (ghosts_tp Hq.out.1 (by omega)).mono ?_
      rintro e z1 ⟨vb, rfl, hV, h, _⟩
      rw [HGL.out.1] at hV
      obtain ⟨a2, cap2, rfl, _⟩ := hV.shape
      obtain ⟨b1, a4, cap4, S4, hg1, hg2, hg3⟩ := rghost_tp h
      rw [HGL.out.2.1] at hg2 hg3
      have Z1 := Lib.hid (And.intro h (And.intro hV hg3))
      clear h hV hg3
      go_wp2_with fail
      refine (same_at _ _ _ _ gl _ Z1.out.2.1 Z1.out.2.2 HGL.out.2.2).mono ?_
      rintro e z2 ⟨rfl, hF⟩
      have Z2 := Lib.hid (And.intro (sep_keep (tp_frm _ _ _ _ _ _) Z1.out.1 hF (fun _ _ _ q => q) (fun _ _ q => q)) (Held.keep Z1.out.2.1 hF (fun _ _ q => q)))
      have hd1 : z2.cell? ⟨b, off + k * 3 + 1, none⟩ = some (.int .i64 x1) := (Z2.out.1.fr.cell hbl (by unfold From; simp; omega)).trans HC.out
      clear hF hg1 hg2
      obtain ⟨cv, hcv⟩ : ∃ c, countT t' x1 = c := ⟨_, rfl⟩
      have hcv2 : cntH s'.H x1 = cv := by rw [Hq.out.2.1.count]; exact hcv
      have HCV := Lib.hid (And.intro hcv hcv2)
      clear hcv hcv2
      go_wp2_with fail
      go_region_held3 (fun w' => w'.cell? ⟨b, off + k * 3 + 1, none⟩ = some (.int .i64 x1)) (exact hd1) (first
        | (go_at_call 10; refine (count_tp (sep_drew (tp_frm _ _ _ _ _ _) Z2.out.1) x1).mono ?_; rintro e z3 ⟨rfl, rfl⟩; rw [HCV.out.1])
        | (go_at_call 11; refine (rcount_tp (sep_drew (tp_frm _ _ _ _ _ _) Z2.out.1) x1 (Nat.le_of_lt Hq.out.2.2.2.H)).mono ?_; rintro e z3 ⟨rfl, rfl⟩; rw [HCV.out.2]))
      have Hz := Lib.hid (And.intro (sep_drew (tp_frm _ _ _ _ _ _) Z2.out.1) (Z2.out.2.frame (w' := z2.drew) fun _ _ _ => rfl))
      clear hd1
      go_wp2_with fail
      try obtain ⟨wOut, rfl⟩ : ∃ wo : World, wo = wr := ⟨_, rfl⟩
      go_loopw [10, 11, 12, 13] (fun c _ _ _ wr => ∃ (row : Int), -1 ≤ row ∧ row ≤ 3 ∧ c = .int .i64 row ∧ Sep (TP p q t' s' ((k + 1) * 700) (k + 1)) w wr S' ∧ Held w wr S' 29 1 (.slice a2 gl.length cap2) gl.length (u64s gl)) (fun c _ _ _ _ => ((3 : Int) - intOf c).toNat)
      case atStart => exact ⟨-1, by omega, by omega, rfl, Hz.out⟩
      case round =>
        clear Hz
        obtain ⟨row, hrow0, hrow1, rfl, h, hV⟩ := hrel
        have Hr := Lib.hid (And.intro h hV)
        clear h hV
        by_cases hrn : row ≤ 2
        · obtain ⟨l, hl⟩ : ∃ l, rowL t'.L row = l := ⟨_, rfl⟩
          have hlt' : rowL s'.L row = l := by rw [Hq.out.2.1.hL]; exact hl
          have hll : l.length ≤ 1000000 := by
            rw [← hlt']
            unfold rowL
            split
            · simp
            · exact Hq.out.2.2.2.N _
          obtain ⟨g, hcg, hAll⟩ := all_tp Hr.out.1 (by omega)
          have HL := Lib.hid (And.intro hl (And.intro hlt' (And.intro hll hAll)))
          clear hl hAll hlt'
          go_wp2_with fail
          refine (HL.out.2.2.2 row).mono ?_
          rintro e z4 ⟨va, rfl, hV, h, hF⟩
          rw [HL.out.1] at hV
          obtain ⟨a1, cap1, rfl, _⟩ := hV.shape
          have Z4 := Lib.hid (And.intro h (And.intro hV (Held.keep' Hr.out.1 Hr.out.2 hF)))
          clear h hV hF
          obtain ⟨r, hcr, hRA⟩ := rall_tp Z4.out.1
          have HRA := Lib.hid hRA
          clear hRA
          go_wp2_with fail
          refine (HRA.out row).mono ?_
          rintro e z5 ⟨a3, cap3, S3, rfl, hs3, rfl⟩
          rw [HL.out.2.1] at hs3 ⊢
          have Z5 := Lib.hid hs3
          clear hs3
          go_wp2_with fail
          refine (same_ints _ _ _ _ l _ Z4.out.2.1 Z5.out HL.out.2.2.1).mono ?_
          rintro e z6 ⟨rfl, hF⟩
          have Z7 := Lib.hid (And.intro (sep_keep (tp_frm _ _ _ _ _ _) Z4.out.1 hF (fun _ _ _ q => q) (fun _ _ q => q)) (And.intro (Held.keep Z4.out.2.1 hF (fun _ _ q => q)) (Held.keep Z4.out.2.2 hF (fun _ _ q => q))))
          clear hF
          go_wp2_with fail
          obtain ⟨wOu2, rfl⟩ : ∃ wo : World, wo = wr := ⟨_, rfl⟩
          go_loopw [13] (fun c wr => ∃ (j : Nat) (xs : List Value), j ≤ l.length ∧ c = .int .i64 j ∧ Sep (TP p q t' s' ((k + 1) * 700) (k + 1)) w wr S' ∧ Held w wr S' 3 1 (.slice a1 l.length cap1) l.length xs ∧ Held w wr S' 29 1 (.slice a2 gl.length cap2) gl.length (u64s gl)) (fun c _ => l.length - (intOf c).toNat)
          case atStart => exact ⟨0, _, by omega, rfl, Z7.out.1, Z7.out.2.1, Z7.out.2.2⟩
          case round =>
            obtain ⟨j, xs, hj, rfl, h1, h2, h3⟩ := hrel
            have Hj := Lib.hid (And.intro h1 (And.intro h2 h3))
            clear h1 h2 h3
            by_cases hjl : j < l.length
            · have hxl : j < xs.length := by have := Hj.out.2.1.1; omega
              obtain ⟨b3, off3, cap3, hv3, _, _, _, htx, htf⟩ := Sl.pos Hj.out.2.1 (by omega)
              simp at hv3
              obtain ⟨rfl, rfl⟩ := hv3
              have hc3 := htx j hxl
              rw [List.getElem?_eq_getElem hxl] at hc3
              obtain ⟨ux, hux⟩ : ∃ u, xs[j] = u := ⟨_, rfl⟩
              rw [hux] at hc3
              have hf3 := htf (off3 + j)
              have hset := sep_held_set (tp_frm _ _ _ _ _ _) Hj.out.1 Hj.out.2.1 (i := j) hjl (.int .i64 (-9))
              have hset2 := sl_set_beside Hj.out.2.1 hjl Hj.out.2.2 (by decide) (.int .i64 (-9))
              have H4 := Lib.hid (And.intro hset hset2)
              clear htx htf hset hset2 hux
              go_wp2_with fail
              go_roundw
              case rel => exact ⟨j + 1, _, by omega, by go_num, H4.out.1.2, H4.out.1.1, H4.out.2⟩
              case measure => simp [intOf]; omega
            · clear Z7
              go_wp2_with fail
              go_roundw
              case rel => exact ⟨row + 1, by omega, by omega, by go_num, Hj.out.1, Hj.out.2.2⟩
              case measure => simp [intOf]; omega
        · go_wp2_with fail
          try obtain ⟨wOu3, rfl⟩ : ∃ wo : World, wo = wr := ⟨_, rfl⟩
          go_loopw [14] (fun c wr => ∃ (j : Nat) (xs : List Value), j ≤ gl.length ∧ c = .int .i64 j ∧ Sep (TP p q t' s' ((k + 1) * 700) (k + 1)) w wr S' ∧ Held w wr S' 29 1 (.slice a2 gl.length cap2) gl.length xs) (fun c _ => gl.length - (intOf c).toNat)
          case atStart => exact ⟨0, _, by omega, rfl, Hr.out.1, Hr.out.2⟩
          case round =>
            clear Hr
            obtain ⟨j2, xs2, hj2, rfl, h1, h2⟩ := hrel
            have Hj := Lib.hid (And.intro h1 h2)
            clear h1 h2
            by_cases hjl2 : j2 < gl.length
            · have hxl : j2 < xs2.length := by have := Hj.out.2.1; omega
              obtain ⟨b3, off3, cap3, hv3, _, _, _, htx, htf⟩ := Sl.pos Hj.out.2 (by omega)
              simp at hv3
              obtain ⟨rfl, rfl⟩ := hv3
              have hc3 := htx j2 hxl
              rw [List.getElem?_eq_getElem hxl] at hc3
              obtain ⟨ux, hux⟩ : ∃ u, xs2[j2] = u := ⟨_, rfl⟩
              rw [hux] at hc3
              have hf3 := htf (off3 + j2)
              have hset := sep_held_set (tp_frm _ _ _ _ _ _) Hj.out.1 Hj.out.2 (i := j2) hjl2 (.int .u64 7)
              have H4 := Lib.hid hset
              clear htx htf hset hux
              go_wp2_with fail
              go_roundw
              case rel => exact ⟨j2 + 1, _, by omega, by go_num, H4.out.2, H4.out.1⟩
              case measure => simp [intOf]; omega
            · go_wp2_with fail
              go_roundw
              case rel => exact ⟨k + 1, t', s', S', by omega, by omega, by go_num, Hj.out.1, Hq.out.2.1, Hq.out.2.2.1⟩
              case measure => simp [intOf]; omega
    · have hex : (k < n0 ∧ k = 200) ∨ n0 ≤ k := by omega
      clear hlt
      rcases hex with ⟨hlt, rfl⟩ | hge
      all_goals
        go_wp2
        go_ret
        exact ⟨rfl, Hk.out.1.below⟩

set_option maxRecDepth 100000 in
theorem lifted (os : Os) (started : os.Started) (H : Type) (enc : TypeId × Value → H) :
    ReturnsInHanded {} Try.checked os 3 .any (Rows.sthreePlaysSpec.pre6 enc Try.prog Try.f3 Rows.sthreePlaysRow.domain false) (Rows.sthreePlaysSpec.post enc Try.prog Try.f3 false true false false) := by
  refine returnsInHanded_of_change (C := Try.checked) own started (by kernel_rfl) Try.func3
    (ChangeSpec.witness6 (enc := enc) (C := Try.checked) false ⟨#[], #[.slice none 0 0], []⟩ 8 (by kernel_rfl) (by kernel_rfl) (by kernel_rfl) (by kernel_rfl)) ?_
  intro W base args ds gs before hval0 hW hcnd _
  have hval : ∀ (j : Nat) t v, Try.f3.params[j]? = some t → args[j]? = some v → Value.okWide Try.prog W .any base t v := hval0
  have hW' := hW
  obtain ⟨p, q, hA0, hV, rfl, hfz, hnd⟩ := hW
  have hA : DataW.TrodAll enc Try.prog W 0 (fun _ => true) true Try.f3.params.toList args.toList ds p := hA0
  rw [Try.params3] at hA hval
  obtain ⟨v0, vs0, d0, ds0, p0, q0, hargs, rfl, rfl, h0, r0⟩ := trodAll_cons hA
  obtain ⟨rfl, rfl, rfl⟩ := trodAll_nil r0
  obtain rfl : args = #[v0] := by cases args; simp_all
  obtain ⟨rfl, rfl⟩ := trodVars_none hV
  obtain ⟨a0, n0, c0, rfl⟩ := okWide_slice Try.underlying22 (hval 0 22 v0 rfl rfl)
  have k0 := h0
  have lt0 : ∀ x ∈ p0, x.block < W.heap.size := by obtain ⟨m, hm⟩ := k0; exact DataW.trod_lt m _ _ _ hm
  have w0 := open_in (C := El31) Try.underlying22 k0 3 (by kernel_rfl) (by decide) (el31)
  clear hA0 hval0
  refine (walk W a0 n0 c0 w0).mono fun e W' ⟨he, bel⟩ => ?_
  subst he
  exact ⟨_, rfl, _, _, _, [], _, [], hW', trodAll_mk1 (shut_bool Try.underlying4 _), (trodAll_cons_mk (Below.trod laidOut (by kernel_rfl) (of_decide_eq_true (by kernel_rfl)) k0 bel lt0) trodAll_mk0), rfl, bel.frame _, fun h => by cases h⟩

theorem over : Rows.sthreePlaysRow.holds Try.pinned (OpenSpec.ofChange Rows.sthreePlaysSpec) :=
  OpenClaim.holds_of_wide 3 Try.f3 rfl rfl rfl rfl rfl rfl rfl ⟨rfl, rfl, rfl, rfl, rfl⟩ rfl rfl rfl rfl rfl (by kernel_rfl) Try.func3 (by kernel_rfl)
    (of_decide_eq_true (by kernel_rfl)) (by unfold Func.isWrapper; first | (rw [if_pos (by decide +kernel)]; kernel_rfl) | (rw [if_neg (by decide +kernel)]; exact ⟨rfl, rfl⟩))
    (fun os started H enc _ => lifted os started H enc)

theorem proved : Rows.SthreePlaysSaid := over
#print axioms proved
end Go.Proofs.Ytlhiglhhnjljpaa.sthreePlays
