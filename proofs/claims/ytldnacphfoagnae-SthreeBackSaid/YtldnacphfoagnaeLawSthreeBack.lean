/- 'ambry/ambrylaw14.SthreeBack' returns true, for every input, and leaves its arguments as they were. No condition. -/
import Derived.Test.YtldnacphfoagnaeIn
import Derived.Test.YtldnacphfoagnaeThFacts
import Derived.Test.YtldnacphfoagnaeIn
import Derived.Deep.QuietTactic
import Derived.BigQuiet
import Derived.Deep.DeepCutAuto
import Derived.Deep.CutBlock
import Derived.WalkKit
import Derived.ProofKit
import Derived.OpenShut
import Derived.ShutString
import Derived.ChangeOld
import Derived.Below
namespace Go.Proofs.Ytldnacphfoagnae.sthreeBack
open Go.ChangeShapes Go.WideShapes Go.ChangeAt Go.RowKit
open Go.ChangeMaps (open_string shut_string)
set_option linter.unusedVariables false

theorem own : ownKnob Try.prog.godebug = none := by kernel_rfl
theorem laidOut : laidOutB Try.prog = true := by kernel_rfl

def b1 : ThS := capT th0 10
def b2 (h : Int) : ThS := inT b1 1 h
def b3 (h : Int) : ThS := evT (b2 h) 1
def b4 (h o : Int) : ThS := inT (b3 h) 2 o
def b5 (h o : Int) : ThS := inT (b4 h o) 3 h
theorem cut_one (x : Int) : cut 10 [x] = [x] := cut_all (by simp)
theorem f2 (h : Int) : (b2 h).L 0 = [1] ∧ (b2 h).L 1 = [] ∧ (b2 h).B = [] ∧ (b2 h).mB = 10 ∧ (b2 h).K = setK (fun _ => none) 1 (some (h, 0)) := by
  have e : b2 h = _ := inT_new (s := b1) (id := 1) rfl (by decide) h
  have hb : b1.B = [] := by simp [b1, capT, cut, th0]
  rw [inR_no (by rw [hb]; simp)] at e
  rw [e]
  exact ⟨rfl, rfl, (by show grem b1.B h = []; rw [hb]; rfl), rfl, rfl⟩
theorem f3 (h : Int) : (b3 h).L 0 = [] ∧ (b3 h).L 1 = [] ∧ (b3 h).B = [h] ∧ (∀ k, (b3 h).K k = none) := by
  obtain ⟨h0, h1, h2, h3, h4⟩ := f2 h
  have e : b3 h = _ := evT_0 (s := b2 h) (id := 1) (by rw [h0]; simp)
  rw [e]
  refine ⟨(by show (_ : List Int).filter _ = _; rw [h0]; rfl), (by show (_ : List Int).filter _ = _; rw [h1]; rfl), ?_, fun k => ?_⟩
  · show gadd (b2 h).mB (b2 h).B (numT (b2 h) 1) = [h]
    rw [h3, h2, numT_some (s := b2 h) (id := 1) (h := h) (c := 0) (by rw [h4]; rfl)]
    exact cut_one h
  · show setK (b2 h).K 1 none k = none
    rw [h4]
    by_cases q : k = 1
    · rw [q, setK_same]
    · rw [setK_ne q, setK_ne q]
theorem f5 (h o : Int) : inOk (b3 h) 2 = true ∧ inOk (b4 h o) 3 = true ∧ (o = h → (b5 h o).L 0 = [3] ∧ (b5 h o).L 1 = [2]) ∧ (o ≠ h → (b5 h o).L 0 = [2] ∧ (b5 h o).L 1 = [3] ∧ (b5 h o).B = []) := by
  obtain ⟨h0, h1, h2, h3⟩ := f3 h
  have e4 : b4 h o = _ := inT_new (s := b3 h) (id := 2) (h3 2) (by decide) o
  have k4 : (b4 h o).K 3 = none := by rw [e4]; show setK (b3 h).K 2 (some (o, 0)) 3 = none; rw [setK_ne (by decide)]; exact h3 3
  have e5 : b5 h o = _ := inT_new (s := b4 h o) (id := 3) k4 (by decide) h
  refine ⟨inOk_new (h3 2) (by decide), inOk_new k4 (by decide), fun q => ?_, fun q => ?_⟩
  · subst q
    rw [inR_yes (by rw [h2]; simp)] at e4
    have l0 : (b4 o o).L 0 = [] := by rw [e4]; show (_ : List Int).filter _ = _; rw [h0]; rfl
    have l1 : (b4 o o).L 1 = [2] := by rw [e4]; show 2 :: (_ : List Int).filter _ = _; rw [h1]; rfl
    have lB : (b4 o o).B = [] := by rw [e4]; show grem (b3 o).B o = _; rw [h2]; simp [grem]
    rw [inR_no (by rw [lB]; simp)] at e5
    rw [e5]
    exact ⟨(by show 3 :: (_ : List Int).filter _ = _; rw [l0]; rfl), (by show (_ : List Int).filter _ = _; rw [l1]; rfl)⟩
  · rw [inR_no (by rw [h2]; simp; exact q)] at e4
    have l0 : (b4 h o).L 0 = [2] := by rw [e4]; show 2 :: (_ : List Int).filter _ = _; rw [h0]; rfl
    have l1 : (b4 h o).L 1 = [] := by rw [e4]; show (_ : List Int).filter _ = _; rw [h1]; rfl
    have lB : (b4 h o).B = [h] := by
      rw [e4]; show grem (b3 h).B o = _; rw [h2]
      exact filter_no (by simp; exact q)
    rw [inR_yes (by rw [lB]; simp)] at e5
    rw [e5]
    exact ⟨(by show (_ : List Int).filter _ = _; rw [l0]; rfl), (by show 3 :: (_ : List Int).filter _ = _; rw [l1]; rfl), (by show grem (b4 h o).B h = _; rw [lB]; simp [grem])⟩
set_option maxRecDepth 100000 in
set_option maxHeartbeats 4000000 in
theorem walk (w : World) (a0 : Int) (w0 : (Lit.int .u64 a0).wf = true) (a1 : Int) (w1 : (Lit.int .u64 a1).wf = true) :
    Calls Try.prog 7 #[.int .u64 a0, .int .u64 a1] w fun e w' => e = .returned (.bool true) ∧ Below w.heap.size w w' := by
  go_enter Try.func7, Try.ntmps7
  go_wp2_with fail
  refine (shown_any _).mono ?_
  rintro e y1 ⟨rfl, hF⟩
  have HF := Lib.hid (hF.mono (T := From w.heap.size) (fun _ _ h => h.elim))
  clear hF
  go_wp2_with fail
  refine (new_th (w0 := w) HF.out).mono ?_
  rintro e y2 ⟨p, S, rfl, h, _, _⟩
  have H := Lib.hid h
  clear h HF
  go_wp2_with fail
  refine (cap_th H.out 10 (by omega)).mono ?_
  rintro e y3 ⟨rfl, h, _⟩
  have H3 := Lib.hid h
  clear h H
  go_wp2_with fail
  refine (insert_th (s := b1) H3.out 1 a0 (by omega) (by omega)).mono ?_
  rintro e y4 ⟨rfl, h, _⟩
  have H4 := Lib.hid h
  clear h H3
  go_wp2_with fail
  refine (evict_th (s := b2 a0) H4.out 1 (by omega) (by omega)).mono ?_
  rintro e y5 ⟨rfl, h, _⟩
  have H5 := Lib.hid h
  clear h H4
  go_wp2_with fail
  refine (ghosts_th (s := b3 a0) H5.out (by omega)).mono ?_
  rintro e y6 ⟨v, rfl, hV, h, _⟩
  rw [(f3 a0).2.2.1] at hV
  obtain ⟨hb, hoff, hcap, rfl, _, _, _, hvd, _⟩ := Sl.pos hV (by simp)
  have hvd0 := hvd 0 (by simp [u64s])
  simp only [Nat.add_zero] at hvd0
  have hvd1 : y6.cell? ⟨hb, hoff, none⟩ = some (.int .u64 a0) := hvd0
  have H6 := Lib.hid h
  clear h hV hvd hvd0 H5
  go_wp2_with fail
  refine (insert_th H6.out 2 a1 (by omega) (by omega)).mono ?_
  rintro e y7 ⟨rfl, h, _⟩
  have H7 := Lib.hid h
  clear h hvd1 H6
  rw [(f5 a0 a1).1]
  go_wp2_with fail
  refine (insert_th (s := b4 a0 a1) H7.out 3 a0 (by omega) (by omega)).mono ?_
  rintro e y8 ⟨rfl, h, _⟩
  have H8 := Lib.hid h
  clear h H7
  rw [(f5 a0 a1).2.1]
  obtain ⟨g, hcg, _⟩ := all_th (s := b5 a0 a1) H8.out (by omega)
  go_wp2_with fail
  refine (all_th_at (s := b5 a0 a1) H8.out (by omega) hcg 0).mono ?_
  rintro e z1 ⟨va, rfl, hV, h, hF, hc1⟩
  by_cases hq : a1 = a0
  · rw [show rowL (b5 a0 a1).L 0 = [3] from ((f5 a0 a1).2.2.1 hq).1] at hV
    have Z1 := Lib.hid (And.intro h hV)
    obtain ⟨b, off, cap, rfl, _, _, _, hx, _⟩ := Sl.pos hV (by decide)
    clear h hV hF hcg
    go_wp2_with fail
    refine (all_th_at (s := b5 a0 a1) Z1.out.1 (by omega) hc1 1).mono ?_
    rintro e z2 ⟨vb, rfl, hV, h, hF, hc2⟩
    rw [show rowL (b5 a0 a1).L 1 = [2] from ((f5 a0 a1).2.2.1 hq).2] at hV
    obtain ⟨b', off', cap', rfl, _, _, _, hy, _⟩ := Sl.pos hV (by decide)
    have hx' := Sl.pos (Held.keep Z1.out.2 hF (fun b hb => by omega)) (by decide)
    obtain ⟨b2', off2', cap2', hve, _, _, _, hx2, _⟩ := hx'
    simp at hve
    obtain ⟨⟨rfl, rfl⟩, rfl⟩ := hve
    have hx3 := hx2 0 (by simp)
    have hy3 := hy 0 (by simp)
    simp only [Nat.add_zero] at hx3 hy3
    have hx4 : z2.cell? ⟨b, off, none⟩ = some (.int .i64 3) := hx3
    have hy4 : z2.cell? ⟨b', off', none⟩ = some (.int .i64 2) := hy3
    have Z2 := Lib.hid h
    clear h hV hF hx hy hx2 hx3 hy3 hc1 hc2
    subst hq
    go_wp2
    go_ret
    exact ⟨rfl, Z2.out.below⟩
  · rw [show rowL (b5 a0 a1).L 0 = [2] from ((f5 a0 a1).2.2.2 hq).1] at hV
    have Z1 := Lib.hid (And.intro h hV)
    obtain ⟨b, off, cap, rfl, _, _, _, hx, _⟩ := Sl.pos hV (by decide)
    clear h hV hF hcg
    go_wp2_with fail
    refine (all_th_at (s := b5 a0 a1) Z1.out.1 (by omega) hc1 1).mono ?_
    rintro e z2 ⟨vb, rfl, hV, h, hF, hc2⟩
    rw [show rowL (b5 a0 a1).L 1 = [3] from ((f5 a0 a1).2.2.2 hq).2.1] at hV
    obtain ⟨b', off', cap', rfl, _, _, _, hy, _⟩ := Sl.pos hV (by decide)
    have hx' := Sl.pos (Held.keep Z1.out.2 hF (fun b hb => by omega)) (by decide)
    obtain ⟨b2', off2', cap2', hve, _, _, _, hx2, _⟩ := hx'
    simp at hve
    obtain ⟨⟨rfl, rfl⟩, rfl⟩ := hve
    have hx3 := hx2 0 (by simp)
    have hy3 := hy 0 (by simp)
    simp only [Nat.add_zero] at hx3 hy3
    have hx4 : z2.cell? ⟨b, off, none⟩ = some (.int .i64 2) := hx3
    have hy4 : z2.cell? ⟨b', off', none⟩ = some (.int .i64 3) := hy3
    have Z2 := Lib.hid h
    clear h hV hF hx hy hx2 hx3 hy3 hc1 hc2
    have hq' : (a1 == a0) = false := by rw [beq_eq_false_iff_ne]; exact hq
    have HQ := Lib.hid hq
    clear hq
    go_wp2_with fail
    refine (ghosts_th (s := b5 a0 a1) Z2.out (by omega)).mono ?_
    rintro e z3 ⟨vg, rfl, hV, h, _⟩
    rw [((f5 a0 a1).2.2.2 HQ.out).2.2] at hV
    obtain ⟨a3, cap3, rfl, _⟩ := hV.shape
    have Z3 := Lib.hid h
    clear h hV
    go_wp2
    go_ret
    exact ⟨rfl, Z3.out.below⟩

set_option maxRecDepth 100000 in
theorem lifted (os : Os) (started : os.Started) (H : Type) (enc : TypeId × Value → H) :
    ReturnsInHanded {} Try.checked os 7 .any (Rows.sthreeBackSpec.pre6 enc Try.prog Try.f7 Rows.sthreeBackRow.domain false) (Rows.sthreeBackSpec.post enc Try.prog Try.f7 false true false false) := by
  refine returnsInHanded_of_change (C := Try.checked) own started (by kernel_rfl) Try.func7
    (ChangeSpec.witness6 (enc := enc) (C := Try.checked) false ⟨#[], #[.int .u64 0, .int .u64 0], []⟩ 8 (by kernel_rfl) (by kernel_rfl) (by kernel_rfl) (by kernel_rfl)) ?_
  intro W base args ds gs before hval0 hW hcnd _
  have hval : ∀ (j : Nat) t v, Try.f7.params[j]? = some t → args[j]? = some v → Value.okWide Try.prog W .any base t v := hval0
  have hW' := hW
  obtain ⟨p, q, hA0, hV, rfl, hfz, hnd⟩ := hW
  have hA : DataW.TrodAll enc Try.prog W 0 (fun _ => true) true Try.f7.params.toList args.toList ds p := hA0
  rw [Try.params7] at hA hval
  obtain ⟨v0, vs0, d0, ds0, p0, q0, hargs, rfl, rfl, h0, r0⟩ := trodAll_cons hA
  obtain ⟨v1, vs1, d1, ds1, p1, q1, rfl, rfl, rfl, h1, r1⟩ := trodAll_cons r0
  obtain ⟨rfl, rfl, rfl⟩ := trodAll_nil r1
  obtain rfl : args = #[v0, v1] := by cases args; simp_all
  obtain ⟨rfl, rfl⟩ := trodVars_none hV
  obtain ⟨a0, rfl, rfl, rfl, w0⟩ := open_int Try.underlying28 (hval 0 28 v0 rfl rfl) h0
  obtain ⟨a1, rfl, rfl, rfl, w1⟩ := open_int Try.underlying28 (hval 1 28 v1 rfl rfl) h1
  clear hA0 hval0
  refine (walk W a0 w0 a1 w1).mono fun e W' ⟨he, bel⟩ => ?_
  subst he
  exact ⟨_, rfl, _, _, _, [], _, [], hW', trodAll_mk1 (shut_bool Try.underlying4 _), (trodAll_cons_mk (shut_int Try.underlying28 w0) (trodAll_cons_mk (shut_int Try.underlying28 w1) trodAll_mk0)), rfl, bel.frame _, fun h => by cases h⟩

theorem over : Rows.sthreeBackRow.holds Try.pinned (OpenSpec.ofChange Rows.sthreeBackSpec) :=
  OpenClaim.holds_of_wide 7 Try.f7 rfl rfl rfl rfl rfl rfl rfl ⟨rfl, rfl, rfl, rfl, rfl⟩ rfl rfl rfl rfl rfl (by kernel_rfl) Try.func7 (by kernel_rfl)
    (of_decide_eq_true (by kernel_rfl)) (by unfold Func.isWrapper; first | (rw [if_pos (by decide +kernel)]; kernel_rfl) | (rw [if_neg (by decide +kernel)]; exact ⟨rfl, rfl⟩))
    (fun os started H enc _ => lifted os started H enc)

theorem proved : Rows.SthreeBackSaid := over
#print axioms proved
end Go.Proofs.Ytldnacphfoagnae.sthreeBack
