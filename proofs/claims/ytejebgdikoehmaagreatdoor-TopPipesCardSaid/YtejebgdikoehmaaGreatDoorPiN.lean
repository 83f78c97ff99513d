/- TopPipes: each get tells what the set ahead of it stored, whoever works. -/
import Derived.Test.YtejebgdikoehmaaGreatDoorPiK
import Derived.Test.YtejebgdikoehmaaGreatDoorPiM
namespace Go.Proofs.YtejebgdikoehmaaGreatDoor
open Go Go.RowKit
set_option linter.unusedVariables false
set_option linter.unusedSimpArgs false
theorem PAt.rebase {n kind : Nat} {w0 w1 w : World} {sb : Nat} {a : PA} (h : PAt n kind w1 sb a w) (hf : Fr (fun _ => False) w0 w1) : PAt n kind w0 sb a w := by
  obtain ⟨σ, h1, h2, h3, h4⟩ := h
  exact ⟨σ, h1, h2, hf.trans h3 fun _ _ q => q, fun b hb => by have := h4 b hb; have := hf.size; omega⟩
theorem lit73 {α : Type} (l : List α) (h : l.length = 73) : ∃ x0 x1 x2 x3 x4 x5 x6 x7 x8 x9 x10 x11 x12 x13 x14 x15 x16 x17 x18 x19 x20 x21 x22 x23 x24 x25 x26 x27 x28 x29 x30 x31 x32 x33 x34 x35 x36 x37 x38 x39 x40 x41 x42 x43 x44 x45 x46 x47 x48 x49 x50 x51 x52 x53 x54 x55 x56 x57 x58 x59 x60 x61 x62 x63 x64 x65 x66 x67 x68 x69 x70 x71 x72, l = [x0, x1, x2, x3, x4, x5, x6, x7, x8, x9, x10, x11, x12, x13, x14, x15, x16, x17, x18, x19, x20, x21, x22, x23, x24, x25, x26, x27, x28, x29, x30, x31, x32, x33, x34, x35, x36, x37, x38, x39, x40, x41, x42, x43, x44, x45, x46, x47, x48, x49, x50, x51, x52, x53, x54, x55, x56, x57, x58, x59, x60, x61, x62, x63, x64, x65, x66, x67, x68, x69, x70, x71, x72] := by
  rcases l with _ | ⟨x0, l⟩
  · simp at h
  rcases l with _ | ⟨x1, l⟩
  · simp at h
  rcases l with _ | ⟨x2, l⟩
  · simp at h
  rcases l with _ | ⟨x3, l⟩
  · simp at h
  rcases l with _ | ⟨x4, l⟩
  · simp at h
  rcases l with _ | ⟨x5, l⟩
  · simp at h
  rcases l with _ | ⟨x6, l⟩
  · simp at h
  rcases l with _ | ⟨x7, l⟩
  · simp at h
  rcases l with _ | ⟨x8, l⟩
  · simp at h
  rcases l with _ | ⟨x9, l⟩
  · simp at h
  rcases l with _ | ⟨x10, l⟩
  · simp at h
  rcases l with _ | ⟨x11, l⟩
  · simp at h
  rcases l with _ | ⟨x12, l⟩
  · simp at h
  rcases l with _ | ⟨x13, l⟩
  · simp at h
  rcases l with _ | ⟨x14, l⟩
  · simp at h
  rcases l with _ | ⟨x15, l⟩
  · simp at h
  rcases l with _ | ⟨x16, l⟩
  · simp at h
  rcases l with _ | ⟨x17, l⟩
  · simp at h
  rcases l with _ | ⟨x18, l⟩
  · simp at h
  rcases l with _ | ⟨x19, l⟩
  · simp at h
  rcases l with _ | ⟨x20, l⟩
  · simp at h
  rcases l with _ | ⟨x21, l⟩
  · simp at h
  rcases l with _ | ⟨x22, l⟩
  · simp at h
  rcases l with _ | ⟨x23, l⟩
  · simp at h
  rcases l with _ | ⟨x24, l⟩
  · simp at h
  rcases l with _ | ⟨x25, l⟩
  · simp at h
  rcases l with _ | ⟨x26, l⟩
  · simp at h
  rcases l with _ | ⟨x27, l⟩
  · simp at h
  rcases l with _ | ⟨x28, l⟩
  · simp at h
  rcases l with _ | ⟨x29, l⟩
  · simp at h
  rcases l with _ | ⟨x30, l⟩
  · simp at h
  rcases l with _ | ⟨x31, l⟩
  · simp at h
  rcases l with _ | ⟨x32, l⟩
  · simp at h
  rcases l with _ | ⟨x33, l⟩
  · simp at h
  rcases l with _ | ⟨x34, l⟩
  · simp at h
  rcases l with _ | ⟨x35, l⟩
  · simp at h
  rcases l with _ | ⟨x36, l⟩
  · simp at h
  rcases l with _ | ⟨x37, l⟩
  · simp at h
  rcases l with _ | ⟨x38, l⟩
  · simp at h
  rcases l with _ | ⟨x39, l⟩
  · simp at h
  rcases l with _ | ⟨x40, l⟩
  · simp at h
  rcases l with _ | ⟨x41, l⟩
  · simp at h
  rcases l with _ | ⟨x42, l⟩
  · simp at h
  rcases l with _ | ⟨x43, l⟩
  · simp at h
  rcases l with _ | ⟨x44, l⟩
  · simp at h
  rcases l with _ | ⟨x45, l⟩
  · simp at h
  rcases l with _ | ⟨x46, l⟩
  · simp at h
  rcases l with _ | ⟨x47, l⟩
  · simp at h
  rcases l with _ | ⟨x48, l⟩
  · simp at h
  rcases l with _ | ⟨x49, l⟩
  · simp at h
  rcases l with _ | ⟨x50, l⟩
  · simp at h
  rcases l with _ | ⟨x51, l⟩
  · simp at h
  rcases l with _ | ⟨x52, l⟩
  · simp at h
  rcases l with _ | ⟨x53, l⟩
  · simp at h
  rcases l with _ | ⟨x54, l⟩
  · simp at h
  rcases l with _ | ⟨x55, l⟩
  · simp at h
  rcases l with _ | ⟨x56, l⟩
  · simp at h
  rcases l with _ | ⟨x57, l⟩
  · simp at h
  rcases l with _ | ⟨x58, l⟩
  · simp at h
  rcases l with _ | ⟨x59, l⟩
  · simp at h
  rcases l with _ | ⟨x60, l⟩
  · simp at h
  rcases l with _ | ⟨x61, l⟩
  · simp at h
  rcases l with _ | ⟨x62, l⟩
  · simp at h
  rcases l with _ | ⟨x63, l⟩
  · simp at h
  rcases l with _ | ⟨x64, l⟩
  · simp at h
  rcases l with _ | ⟨x65, l⟩
  · simp at h
  rcases l with _ | ⟨x66, l⟩
  · simp at h
  rcases l with _ | ⟨x67, l⟩
  · simp at h
  rcases l with _ | ⟨x68, l⟩
  · simp at h
  rcases l with _ | ⟨x69, l⟩
  · simp at h
  rcases l with _ | ⟨x70, l⟩
  · simp at h
  rcases l with _ | ⟨x71, l⟩
  · simp at h
  rcases l with _ | ⟨x72, l⟩
  · simp at h
  rcases l with _ | ⟨y, l⟩
  · exact ⟨x0, x1, x2, x3, x4, x5, x6, x7, x8, x9, x10, x11, x12, x13, x14, x15, x16, x17, x18, x19, x20, x21, x22, x23, x24, x25, x26, x27, x28, x29, x30, x31, x32, x33, x34, x35, x36, x37, x38, x39, x40, x41, x42, x43, x44, x45, x46, x47, x48, x49, x50, x51, x52, x53, x54, x55, x56, x57, x58, x59, x60, x61, x62, x63, x64, x65, x66, x67, x68, x69, x70, x71, x72, rfl⟩
  · simp at h
theorem PAt.vars (hR : RunsP) {n kind : Nat} (hk : kind < 4) {w0 w : World} {sb : Nat} {a : PA} (hd : dN a ≤ 30) (h : PAt n kind w0 sb a w) (ω : Nat → Value) :
    ∃ σ, WF σ (pH n kind a) 1000 w ∧ σ 2 = some sb ∧ σ.ω = ω ∧ Fr (fun _ => False) w0 w ∧ ∀ b, owns σ (pH n kind a) b → w0.heap.size ≤ b := by
  obtain ⟨σ, h1, h2, h3, h4⟩ := h
  have hwf := hR.wf kind hk _ hd
  have hlt : ∀ i o, pH n kind a i = some o → i < 1000 := fun i o q => by
    obtain ⟨b, _, g1, _⟩ := h1.obj i o q
    exact h1.dom i b g1
  refine ⟨ren σ id 1000 ω, WF.ren h1 (by omega) (fun i u q => ⟨hlt i u q, u, q, fun b ob _ _ hO => okO_MO (θ := fun _ => none) (ζ := fun _ => none) (fun i hi => by rw [okN_iff] at hi; exact ⟨rfl, hi, by omega⟩) (pH_ok hwf q) _ _ _ _ (VarOk.non _ _) hO⟩) (fun i j _ _ _ _ e => e), (ren_id h1).2 h2, rfl, h3, ?_⟩
  rintro b ⟨i, u, q1, q2⟩
  exact h4 b ⟨i, u, q1, (ren_id h1).1 q2⟩
theorem stsL_ar {σ : Rn} {n : Nat} {a : Act} {l : List (Nat × Value)} (hs : a.tmps.size = n) (hn : n ≤ 1000000) (hd : a.defers = []) (h : ∀ p, p ∈ l → ∃ v', a.tmps[p.1]? = some v' ∧ VR σ p.2 v') : AR [] σ n (stsL l) a := by
  refine ⟨fun t u q => ?_, hs, hn, hd⟩
  induction l with
  | nil => cases q
  | cons p r ih =>
    obtain ⟨t', u'⟩ := p
    simp only [stsL, Sts.get, nbeq] at q
    by_cases e : t' = t
    · subst e
      rw [decide_eq_true rfl, cond_true] at q
      cases q
      exact h _ List.mem_cons_self
    · rw [decide_eq_false e, cond_false] at q
      exact ih (fun p hp => h p (List.mem_cons_of_mem _ hp)) q
theorem kFd_B {i : Nat} (h : kFd i = true) : inB i = false := notB (by simp [kFd, nbeq] at h; omega)
theorem feed_same {n m i : Nat} (hwf : wfB (pipB m 0) = true) (h : kFd i = false) : pH n m ⟨0, 0, 0⟩ i = pH 0 m ⟨0, 0, 0⟩ i := by
  cases hb : inB i with
  | true => rw [pH_B hb, pH_B hb]
  | false =>
    rw [pH_S hwf hb, pH_S hwf hb, pS_look, pS_look]
    simp [kFd, nbeq] at h
    rw [if_neg h.2, if_neg h.2]
theorem sel_F {n m : Nat} {a : PA} (hwf : wfB (pipB m (dN a)) = true) (i : Nat) : lookP (sel kFd (pS n a)) i = if kFd i = true then pH n m a i else none := by
  rw [sel_look]
  split
  · rename_i e; rw [pH_S hwf (kFd_B e)]
  · rfl
theorem feeds {n : Nat} (h : n ≤ 15) : segOk1 pipFeed [(0, .int .i64 n), (1, .chan (some 1)), (8, .pointer (some ⟨2, 0, none⟩)), (9, bs []), (10, .int .i64 0)] (sel kFd (pS 0 ⟨0, 0, 0⟩)) [(1, .chan (some 1)), (8, .pointer (some ⟨2, 0, none⟩)), (9, bs (out (2 * n)))] (sel kFd (pS n ⟨0, 0, 0⟩)) = true := by
  rcases (show n = 0 ∨ n = 1 ∨ n = 2 ∨ n = 3 ∨ n = 4 ∨ n = 5 ∨ n = 6 ∨ n = 7 ∨ n = 8 ∨ n = 9 ∨ n = 10 ∨ n = 11 ∨ n = 12 ∨ n = 13 ∨ n = 14 ∨ n = 15 by omega) with rfl | rfl | rfl | rfl | rfl | rfl | rfl | rfl | rfl | rfl | rfl | rfl | rfl | rfl | rfl | rfl
  · exact pip_feed0
  · exact pip_feed1
  · exact pip_feed2
  · exact pip_feed3
  · exact pip_feed4
  · exact pip_feed5
  · exact pip_feed6
  · exact pip_feed7
  · exact pip_feed8
  · exact pip_feed9
  · exact pip_feed10
  · exact pip_feed11
  · exact pip_feed12
  · exact pip_feed13
  · exact pip_feed14
  · exact pip_feed15
theorem ends {n : Nat} (h : n ≤ 15) : callOk1 11 [.pointer (some ⟨2, 0, none⟩), .int .i64 0, .int .i64 1048576] (sel kFd (pS n ⟨2 * n, 0, 0⟩)) (bs (out (2 * n))) [] [] = true := by
  rcases (show n = 0 ∨ n = 1 ∨ n = 2 ∨ n = 3 ∨ n = 4 ∨ n = 5 ∨ n = 6 ∨ n = 7 ∨ n = 8 ∨ n = 9 ∨ n = 10 ∨ n = 11 ∨ n = 12 ∨ n = 13 ∨ n = 14 ∨ n = 15 by omega) with rfl | rfl | rfl | rfl | rfl | rfl | rfl | rfl | rfl | rfl | rfl | rfl | rfl | rfl | rfl | rfl
  · exact pip_end0
  · exact pip_end1
  · exact pip_end2
  · exact pip_end3
  · exact pip_end4
  · exact pip_end5
  · exact pip_end6
  · exact pip_end7
  · exact pip_end8
  · exact pip_end9
  · exact pip_end10
  · exact pip_end11
  · exact pip_end12
  · exact pip_end13
  · exact pip_end14
  · exact pip_end15
theorem write_fn : ∃ c, Tryz.f11.body = some c := ⟨_, rfl⟩
set_option maxRecDepth 100000 in
theorem write_call {n m : Nat} (hn : n ≤ 15) (hwf : wfB (pipB m (2 * n)) = true) {w0 W : World} {sb : Nat} (h : PAt n m w0 sb ⟨2 * n, 0, 0⟩ W) : Calls Tryz.prog 11 #[.pointer (some ⟨sb, 0, none⟩), .int .i64 0, .int .i64 1048576] W fun e W' => e = .returned (bs (out (2 * n))) ∧ Fr (fun _ => False) w0 W' := by
  obtain ⟨c, hc⟩ := write_fn
  obtain ⟨σ, h1, h2, h3, h4⟩ := h
  have := call1_sound (ends hn) h1 (fun i o q => by
    have e := sel_F (n := n) (m := m) (a := ⟨2 * n, 0, 0⟩) hwf i
    rw [e] at q
    split at q
    · exact q
    · cases q) (args' := [.pointer (some ⟨sb, 0, none⟩), .int .i64 0, .int .i64 1048576]) (.cons (.ptr (a := ⟨2, 0, none⟩) h2) (.cons (.int _ _) (.cons (.int _ _) .nil)))
  refine (calls_of_upon Tryz.func11 hc (by kernel_rfl) this).mono ?_
  rintro e w' ⟨v, rfl, σ', g1, g2, g3, _⟩
  refine ⟨?_, h3.trans g3 fun i hi hs => absurd (h4 i hs) (by omega)⟩
  cases g2
  rfl
theorem and3 (k : Nat) (h : k < 4611686018427387904) : bits .and .i64 (k : Int) 3 = ((k % 4 : Nat) : Int) := by
  have hb : (BitVec.ofInt 64 ((3 : Nat) : Int)).toNat = 3 := by
    rw [BitVec.ofInt_natCast, BitVec.toNat_ofNat]
  have hk : (BitVec.ofInt 64 (k : Int)).toNat = k := by
    rw [BitVec.ofInt_natCast, BitVec.toNat_ofNat]; exact Nat.mod_eq_of_lt (by omega)
  show IntKind.i64.wrap ((BitVec.ofInt 64 (k : Int) &&& BitVec.ofInt 64 ((3 : Nat) : Int)).toNat : Int) = _
  rw [BitVec.toNat_and, hb, hk, show k &&& 3 = k % 4 from Nat.and_two_pow_sub_one_eq_mod k 2, IntKind.wrap_i64]
  omega
set_option maxRecDepth 100000 in
theorem pipes_walk (w : World) (a0 : Int) (a1 : Option Addr) (n1 c1 : Nat) (w1 : n1 ≤ c1 ∧ ∀ i, i < n1 → InAt w a1 1 i isI) (a2 : Int) :
    Calls Tryz.prog 5 #[.int .i64 a0, .slice a1 n1 c1, .int .i64 a2] w fun e w' => e = .returned (.bool true) ∧ Below w.heap.size w w' := by
  obtain ⟨n, hn, hnb⟩ := and_mask a0 15 (by decide)
  have hn' : bits .and .i64 a0 15 = n := hn
  have W1 := Lib.hid w1
  clear hn w1
  go_enter Tryz.func5, Tryz.ntmps5
  go_wp2_with fail
  refine (works_call w).mono ?_
  rintro e y1 ⟨rfl, h⟩
  have H1 := Lib.hid h
  clear h
  go_wp2_with fail
  refine (town_call y1 a2).mono ?_
  rintro e y2 ⟨sb, m, hm, rfl, h⟩
  have H2 := Lib.hid (And.intro hm (h.rebase H1.out))
  clear h hm
  go_upto_block 0 with fail
  rename_i K hK
  have hRun : RunsP := pip_runs
  obtain ⟨σ, k1, k2, k3, k4, k5⟩ := PAt.vars hRun H2.out.1 (by decide) H2.out.2 (fun _ => .slice a1 n1 c1)
  have hwf : wfB (pipB m 0) = true := hRun.wf m H2.out.1 0 (by omega)
  refine code_sel (D := []) (n := 73) (c := pipFeed) (K := kFd) (H' := pH n m ⟨0, 0, 0⟩) (feeds hnb) pip_okFeed k1 (sel_F hwf) (sel_F hwf) (fun i hi => feed_same hwf hi) (fun i o q => pH_ok hwf q) (stsL_ar rfl (by omega) rfl fun p hp => ?_) ?_
  · simp only [List.mem_cons, List.mem_nil_iff, or_false] at hp
    rcases hp with rfl | rfl | rfl | rfl | rfl
    · exact ⟨_, rfl, .int _ _⟩
    · exact ⟨_, rfl, .var (congrFun k3 0) rfl⟩
    · exact ⟨_, rfl, .ptr (a := ⟨2, 0, none⟩) k2⟩
    · exact ⟨_, rfl, .string _⟩
    · exact ⟨_, rfl, .int _ _⟩
  intro a' y3 σ' g1 g2 g3 g4 g5 g6
  show K a' y3
  refine hK _ _ ?_
  have hAt : PAt n m w sb ⟨0, 0, 0⟩ y3 := PAt.step k4 k5 g3 g1 g4 (g6 2 sb k2)
  obtain ⟨⟨l⟩, dfs⟩ := a'
  have hl : l.length = 73 := g2.size
  obtain rfl : dfs = [] := g2.nod
  obtain ⟨x0, x1, x2, x3, x4, x5, x6, x7, x8, x9, x10, x11, x12, x13, x14, x15, x16, x17, x18, x19, x20, x21, x22, x23, x24, x25, x26, x27, x28, x29, x30, x31, x32, x33, x34, x35, x36, x37, x38, x39, x40, x41, x42, x43, x44, x45, x46, x47, x48, x49, x50, x51, x52, x53, x54, x55, x56, x57, x58, x59, x60, x61, x62, x63, x64, x65, x66, x67, x68, x69, x70, x71, x72, rfl⟩ := lit73 l hl
  have e1 : x1 = .slice a1 n1 c1 := by
    obtain ⟨v', q1, q2⟩ := g2.get 1 _ rfl
    cases q1
    cases q2 with
    | var q _ => exact q.symm.trans ((congrFun g5 0).trans (congrFun k3 0))
  have e8 : x8 = .pointer (some ⟨sb, 0, none⟩) := by
    obtain ⟨v', q1, q2⟩ := g2.get 8 _ rfl
    cases q1
    cases q2 with
    | ptr q =>
      rw [show (⟨2, 0, none⟩ : Addr).block = 2 from rfl, g6 2 sb k2] at q
      cases q
      rfl
  have e9 : x9 = bs (out (2 * n)) := by
    obtain ⟨v', q1, q2⟩ := g2.get 9 _ rfl
    cases q1
    cases q2
    rfl
  subst e1 e8 e9
  have HA := Lib.hid (And.intro hAt H2.out.1)
  obtain ⟨ww, hww⟩ : ∃ ww, bs (out (2 * n)) = ww := ⟨_, rfl⟩
  rw [hww]
  have HW := Lib.hid hww
  have HR := Lib.hid hRun
  clear hww hAt g1 g2 g3 g4 g5 g6 k1 k2 k3 k4 k5 hwf hl H2 H1 hK hRun
  go_upto_block 2 with fail
  go_cut [12] (fun _ wx => ∃ a, GoodP n a ∧ PAt n m w sb a wx)
  case first =>
    go_wp2_with fail
    go_loopw [12] (fun i wr => ∃ (k : Nat) (a : PA), k ≤ 200 ∧ i = .int .i64 k ∧ GoodP n a ∧ PAt n m w sb a wr) (fun i _ => 200 - (intOf i).toNat)
    case atStart => exact ⟨0, ⟨0, 0, 0⟩, by omega, rfl, ⟨by simp, by simp, fun h => absurd rfl h, fun _ => rfl⟩, HA.out.1⟩
    case round =>
      obtain ⟨k, a, hk, rfl, hG, h⟩ := hrel
      have H := Lib.hid (And.intro hG h)
      clear hG h
      have w1 := W1.out
      by_cases hlt : k < n1 ∧ k < 200
      · obtain ⟨hlt, hlt2⟩ := hlt
        obtain ⟨b, off, vv, rfl, hbl, hEl, hc⟩ := (w1.2 k hlt).one
        obtain ⟨x, he, hw⟩ := hEl
        simp at he
        subst he
        have hc' : wr.cell? ⟨b, off + k, none⟩ = some (.int .i64 x) := (H.out.2.fr.cell hbl (fun q => q)).trans hc
        obtain ⟨q, hq, hqb⟩ := and_mask x 3 (by decide)
        have hq' : bits .and .i64 x 3 = q := hq
        clear w1 hc hq hw
        go_wp2_with fail
        refine (work_pipes HR.out hnb HA.out.2 H.out.1 (w := q) (by omega) H.out.2).mono ?_
        rintro e z1 ⟨v, rfl, h⟩
        have H1 := Lib.hid (And.intro (goodP_step H.out.1 (w := q) (by omega)) h)
        clear h
        go_wp2_with fail
        go_roundw
        case rel => exact ⟨k + 1, _, by omega, by go_num, H1.out.1, H1.out.2⟩
        case measure => simp [intOf]; omega
      · have hex : (k < n1 ∧ k = 200) ∨ n1 ≤ k := by omega
        clear hlt w1
        rcases hex with ⟨hlt, rfl⟩ | hge
        all_goals
          go_wp2
          go_meet
          exact ⟨a, H.out.1, H.out.2⟩
  case rest =>
    obtain ⟨a, hG, h⟩ := hcut
    obtain ⟨wx, rfl⟩ : ∃ wx : World, wx = wc := ⟨_, rfl⟩
    have H := Lib.hid (And.intro hG h)
    clear hG h
    go_wp2_with fail
    go_loopw [13] (fun i wr => ∃ (k : Nat) (a : PA), k ≤ 1200 ∧ i = .int .i64 k ∧ GoodP n a ∧ (rankP n a = 0 ∨ 4 * rankP n a + waitP a k + k ≤ 483) ∧ PAt n m w sb a wr) (fun i _ => 1200 - (intOf i).toNat)
    case atStart =>
      refine ⟨0, a, by omega, rfl, H.out.1, .inr ?_, H.out.2⟩
      have h1 : waitP a 0 ≤ 3 := by unfold waitP; split <;> omega
      have h2 : rankP n a ≤ 120 := by unfold rankP; omega
      omega
    case round =>
      clear H a
      obtain ⟨k, a, hk, rfl, hG, hr, h⟩ := hrel
      have H := Lib.hid (And.intro hG (And.intro hr h))
      clear hG hr h
      by_cases hlt : k < 1200
      · have h3 := and3 k (by omega)
        go_wp2_with fail
        refine (work_pipes HR.out hnb HA.out.2 H.out.1 (w := k % 4) (by omega) H.out.2.2).mono ?_
        rintro e z1 ⟨v, rfl, h⟩
        have H1 := Lib.hid h
        clear h
        go_wp2_with fail
        go_roundw
        case rel =>
          refine ⟨k + 1, _, by omega, by go_num, goodP_step H.out.1 (w := k % 4) (by omega), ?_, H1.out⟩
          have q1 := H.out.2.1
          have q2 := stepP_rank H.out.1 k
          have q3 : waitP a k ≤ 3 := by unfold waitP; split <;> omega
          omega
        case measure => simp [intOf]; omega
      · have hk2 : k = 1200 := by omega
        subst hk2
        clear hlt hk
        have hf : a = ⟨2 * n, 0, 0⟩ := by
          have h0 : rankP n a = 0 := by have := H.out.2.1; omega
          obtain ⟨j, st, who⟩ := a
          have g1 := H.out.1.j
          have g2 := H.out.1.st
          have g3 := H.out.1.busy
          have g4 := H.out.1.free
          unfold rankP at h0
          simp only at g1 g2 g3 g4 h0
          have hst : st = 0 := by
            by_cases e : st = 0
            · exact e
            · have := g3 e; omega
          subst hst
          have := g4 rfl
          have : j = 2 * n := by omega
          subst_vars
          rfl
        subst hf
        go_wp2_with fail
        refine (write_call hnb (HR.out.wf m HA.out.2 (2 * n) (by omega)) H.out.2.2).mono ?_
        rintro e z1 ⟨rfl, h⟩
        have H1 := Lib.hid h
        clear h
        rw [HW.out]
        have HW2 := HW.out
        unfold bs at HW2
        subst HW2
        go_wp2
        go_ret
        exact ⟨rfl, H1.out.below (Nat.le_refl _) fun k hk h => h.elim⟩
end Go.Proofs.YtejebgdikoehmaaGreatDoor
