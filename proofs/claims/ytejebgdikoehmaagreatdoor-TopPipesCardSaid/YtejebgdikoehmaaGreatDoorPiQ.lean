/- TopPipes: what Work does, out of the runs. -/
import Derived.Test.YtejebgdikoehmaaGreatDoorPiP
namespace Go.Proofs.YtejebgdikoehmaaGreatDoor
open Go Go.RowKit
set_option linter.unusedVariables false
set_option linter.unusedSimpArgs false
set_option maxRecDepth 100000
def kT : Nat → Bool := fun i => Nat.beq i 0 || Nat.beq i 2 || Nat.beq i 6 || Nat.ble 700 i
def kBz : Nat → Bool := fun i => Nat.beq i 0 || Nat.beq i 2 || Nat.beq i 6 || Nat.beq i 700
def kLk : Nat → Bool := fun i => Nat.beq i 0 || Nat.beq i 1 || Nat.beq i 2 || inW i
def kLv : Nat → Bool := fun i => Nat.blt i 3 || Nat.beq i 6 || Nat.ble 700 i
def kDo : Nat → Bool := fun i => Nat.beq i 2 || inB i || inW i
def lTk (j : Nat) : List (Nat × Nat) := bif isSet j then [(702, 1152), (703, 1100)] else [(702, 1125), (703, 1072)]
def lLk : List (Nat × Nat) := [(704, 1024)]
def wArgs (w : Nat) : List Value := [.pointer (some ⟨2, 0, none⟩), .int .i64 w, .int .i64 0]
def pdo (e : Value) (j st : Nat) (B : Part) : Part := (2, srv1 e) :: (wkP j st ++ B)
/-- What the kernel has to run. -/
structure RunsP : Prop where
  wf : ∀ kind, kind < 4 → ∀ d, d ≤ 30 → wfB (pipB kind d) = true
  take : ∀ n, n ≤ 15 → ∀ j, j < 2 * n → ∀ w, w < 4 → stepOk callB 13 (wArgs w) (sel kT (pS n ⟨j, 0, 0⟩)) (sel kT (pS n ⟨j, 1, w⟩)) (lTk j) 1000 okA = true
  idle : ∀ n, n ≤ 15 → ∀ w, w < 4 → stepOk callB 13 (wArgs w) (sel kT (pS n ⟨2 * n, 0, 0⟩)) (sel kT (pS n ⟨2 * n, 0, 0⟩)) [] 1000 okA = true
  busy : ∀ j, j < 30 → ∀ st, st ≠ 0 → st ≤ 3 → ∀ who, who < 4 → ∀ w, w < 4 → w ≠ who → stepOk callB 13 (wArgs w) (sel kBz (pS 0 ⟨j, st, who⟩)) (sel kBz (pS 0 ⟨j, st, who⟩)) [] 1000 okA = true
  lock : ∀ j, j < 30 → ∀ who, who < 4 → stepOk callB 13 (wArgs who) (sel kLk (pS 0 ⟨j, 1, who⟩)) (sel kLk (pS 0 ⟨j, 2, who⟩)) lLk 1000 okA = true
  leave : ∀ j, j < 30 → ∀ who, who < 4 → stepOk callB 13 (wArgs who) (hideAt 701 (pS 0 ⟨j, 3, who⟩)) (hideAt 701 (pS 0 ⟨j + 1, 0, 0⟩)) [] 1000 okA = true
  dos : ∀ kind, kind < 4 → ∀ j, j < 30 → ∃ l, (l.all fun p => inB p.1 || Nat.beq p.1 705) = true ∧ stepOk callB 24 [.pointer (some ⟨2, 0, none⟩), .pointer (some ⟨702, 0, none⟩)] (pdo (evP j) j 2 (pipB kind j)) (pdo (evP (j + 1)) j 3 (pipB kind (j + 1))) l 1000 okA = true
/-- The server lies so; what was there at the start is as it was. -/
def PAt (n kind : Nat) (w0 : World) (sb : Nat) (a : PA) (w : World) : Prop := ∃ σ, WF σ (pH n kind a) 1000 w ∧ σ 2 = some sb ∧ Fr (fun _ => False) w0 w ∧ ∀ b, owns σ (pH n kind a) b → w0.heap.size ≤ b
theorem PAt.fr {n kind : Nat} {w0 w : World} {sb : Nat} {a : PA} (h : PAt n kind w0 sb a w) : Fr (fun _ => False) w0 w := by
  obtain ⟨σ, h1, h2, h3, h4⟩ := h
  exact h3
theorem PAt.drew {n kind : Nat} {w0 w : World} {sb : Nat} {a : PA} (h : PAt n kind w0 sb a w) : PAt n kind w0 sb a w.drew := by
  obtain ⟨σ, h1, h2, h3, h4⟩ := h
  exact ⟨σ, ⟨h1.cnt, h1.dom, h1.bnd, h1.obj, h1.inj⟩, h2, h3.drew, h4⟩
theorem PAt.step {n kind : Nat} {w0 w w' : World} {sb : Nat} {σ σ' : Rn} {H : Nat → Option SObj} {a' : PA} (h3 : Fr (fun _ => False) w0 w) (h4 : ∀ b, owns σ H b → w0.heap.size ≤ b)
    (g1 : Fr (owns σ H) w w') (g2 : WF σ' (pH n kind a') 1000 w') (g3 : ∀ b, owns σ' (pH n kind a') b → owns σ H b ∨ w.heap.size ≤ b) (g4 : σ' 2 = some sb) : PAt n kind w0 sb a' w' :=
  ⟨σ', g2, g4, h3.trans g1 fun i hi hs => absurd (h4 i hs) (by omega), fun b hb => by
    rcases g3 b hb with h | h
    · exact h4 b h
    · have := h3.size; omega⟩
theorem pS_none {n : Nat} {a : PA} {i : Nat} (h : inB i = true) : lookP (pS n a) i = none := by
  cases e : lookP (pS n a) i with
  | none => rfl
  | some o => have := (pS_ok e).2; rw [h] at this; cases this
theorem notB {i : Nat} (h : i < 3 ∨ i = 6 ∨ 700 ≤ i) : inB i = false := by
  cases e : inB i with
  | false => rfl
  | true => rw [inB_iff] at e; omega
theorem isB {i : Nat} (h3 : 3 ≤ i) (h6 : i ≠ 6) (h7 : i < 700) : inB i = true := by rw [inB_iff]; omega
theorem keptP {l : List (Nat × Nat)} {i : Nat} (hi : i < 1000) (h : (l.any fun p => Nat.beq p.1 i) = false) : kept 1000 l i = true := by
  simp [kept, nblt, hi, h]
theorem lTk_any {j i : Nat} (h : i ≠ 702 ∧ i ≠ 703) : ((lTk j).any fun p => Nat.beq p.1 i) = false := by
  unfold lTk
  cases isSet j <;> simp [nbeq] <;> omega
theorem pipes_next {j : Nat} : lookP (wkP j 2) 702 = some (wkO j 2) := rfl
/-- WORK. -/
theorem work_pipes (hR : RunsP) {n kind : Nat} (hn : n ≤ 15) (hk : kind < 4) {a : PA} (hG : GoodP n a) {w : Nat} (hw : w < 4) {w0 W : World} {sb : Nat} (h : PAt n kind w0 sb a W) :
    Calls Tryz.prog 13 #[.pointer (some ⟨sb, 0, none⟩), .int .i64 w, .int .i64 0] W fun e W' => ∃ v, e = .returned v ∧ PAt n kind w0 sb (stepP n a w) W' := by
  obtain ⟨σ, h1, h2, h3, h4⟩ := h
  obtain ⟨cb, hcb⟩ := work_body
  obtain ⟨j, st, who⟩ := a
  have g1 := hG.j
  have g2 := hG.st
  have g3 := hG.busy
  have g4 := hG.free
  simp only at g1 g2 g3 g4
  have hd : dN ⟨j, st, who⟩ ≤ 30 := by
    unfold dN
    simp only [nbeq]
    by_cases e : st = 3
    · rw [decide_eq_true e, cond_true]; have := g3 (by omega); omega
    · rw [decide_eq_false e, cond_false]; omega
  have hwf := hR.wf kind hk _ hd
  have args : ∀ ω, VRs (ren σ id 1000 ω) (wArgs w) [.pointer (some ⟨sb, 0, none⟩), .int .i64 w, .int .i64 0] := fun ω =>
    .cons (.ptr (a := ⟨2, 0, none⟩) ((ren_id h1).2 h2)) (.cons (.int _ _) (.cons (.int _ _) .nil))
  have fin : ∀ {a' : PA} {l : List (Nat × Nat)}, (∀ p, p ∈ l → p.1 ≠ 2) → UponR E0.P (fun v' w' => (∃ σ1 v, okA v = true ∧ VR σ1 v v') ∧ Fr (owns σ (pH n kind ⟨j, st, who⟩)) W w' ∧ ∃ σ', WF σ' (pH n kind a') 1000 w' ∧ (∀ b, owns σ' (pH n kind a') b → owns σ (pH n kind ⟨j, st, who⟩) b ∨ W.heap.size ≤ b) ∧ ∀ i b, i ∉ srcs l → σ i = some b → σ' i = some b)
      ((callFunc 13 [.pointer (some ⟨sb, 0, none⟩), .int .i64 w, .int .i64 0].toArray).run E0.P W) →
      Calls Tryz.prog 13 #[.pointer (some ⟨sb, 0, none⟩), .int .i64 w, .int .i64 0] W fun e W' => ∃ v, e = .returned v ∧ PAt n kind w0 sb a' W' := by
    intro a' l hl hu
    refine (calls_of_upon Tryz.func13 hcb (by kernel_rfl) hu).mono ?_
    rintro e W' ⟨v, rfl, _, q1, σ', q2, q3, q4⟩
    refine ⟨v, rfl, PAt.step h3 h4 q1 q2 q3 (q4 2 sb (fun hi => ?_) h2)⟩
    simp only [srcs, List.mem_map] at hi
    obtain ⟨p, m1, m2⟩ := hi
    exact hl p m1 m2
  have small : ∀ {a' : PA} {l : List (Nat × Nat)} {K : Nat → Bool}, stepOk callB 13 (wArgs w) (sel K (pS n ⟨j, st, who⟩)) (sel K (pS n a')) l 1000 okA = true → dN a' = dN ⟨j, st, who⟩ → (∀ i, K i = true → inB i = false) →
      (∀ i, K i = false → inB i = false → lookP (pS n a') i = lookP (pS n ⟨j, st, who⟩) i ∧ ∀ o, lookP (pS n ⟨j, st, who⟩) i = some o → okO (kept 1000 l) o = true) → (∀ p, p ∈ l → 700 ≤ p.1) →
      Calls Tryz.prog 13 #[.pointer (some ⟨sb, 0, none⟩), .int .i64 w, .int .i64 0] W fun e W' => ∃ v, e = .returned v ∧ PAt n kind w0 sb a' W' := by
    intro a' l K hs hdn hK hS hl
    have hwf' : wfB (pipB kind (dN a')) = true := by rw [hdn]; exact hwf
    refine fin (l := l) (fun p hp => by have := hl p hp; omega) (step_sel (K := K) hs h1 (fun i => ?_) (fun i => ?_) (fun i hi => ?_) (fun i o q => pH_ok hwf q) (fun i o q => pH_ok hwf' q) (fun i o hi q => ?_) args)
    · rw [sel_look]
      split
      · rename_i e; rw [pH_S hwf (hK i e)]
      · rfl
    · rw [sel_look]
      split
      · rename_i e; rw [pH_S hwf' (hK i e)]
      · rfl
    · cases e : inB i with
      | true => rw [pH_B e, pH_B e, hdn]
      | false => rw [pH_S hwf' e, pH_S hwf e]; exact (hS i hi e).1
    · cases e : inB i with
      | true =>
        rw [pH_B e] at q
        refine okO_mono (fun m hm => keptP (by rw [inB_iff] at hm; omega) ?_) (wfB_look hwf q).2
        refine List.any_eq_false.2 fun p hp => ?_
        rw [nbeq, decide_eq_true_eq]
        have := hl p hp
        rw [inB_iff] at hm
        omega
      | false => rw [pH_S hwf e] at q; exact (hS i hi e).2 o q
  have kTB : ∀ i, kT i = true → inB i = false := fun i hi => notB (by simp [kT, nbeq, nble] at hi; omega)
  have kBB : ∀ i, kBz i = true → inB i = false := fun i hi => notB (by simp [kBz, nbeq] at hi; omega)
  have kLB : ∀ i, kLk i = true → inB i = false := fun i hi => notB (by simp [kLk, nbeq, inW_iff] at hi; omega)
  unfold stepP
  simp only
  split
  · rename_i h0
    subst h0
    obtain rfl := g4 rfl
    split
    · rename_i hj
      -- it takes one
      refine small (a' := ⟨j, 1, w⟩) (hR.take n hn j hj w hw) rfl kTB (fun i hi hb => ?_) (fun p hp => ?_)
      · have e1 : i = 1 := by
          simp [kT, nbeq, nble] at hi
          rcases Nat.lt_or_ge i 3 with q | q
          · omega
          · exfalso
            have := isB q (by omega) (by omega)
            rw [hb] at this; cases this
        subst e1
        refine ⟨rfl, fun o q => ?_⟩
        rw [pS_look] at q
        cases q
        exact okO_str _
      · unfold lTk at hp
        cases e : isSet j <;> rw [e] at hp <;> simp at hp <;> rcases hp with rfl | rfl <;> simp
    · rename_i hj
      obtain rfl : j = 2 * n := by omega
      refine small (a' := ⟨2 * n, 0, 0⟩) (l := []) (hR.idle n hn w hw) rfl kTB (fun i hi hb => ⟨rfl, fun o q => okO_mono (fun m hm => kept_nil (by rw [okN_iff] at hm; exact hm)) (pS_ok q).1⟩) (fun p hp => by cases hp)
  · rename_i h0
    obtain ⟨hj2, hwho⟩ := g3 h0
    have hj30 : j < 30 := by omega
    split
    · rename_i hww
      subst hww
      split
      · rename_i s3
        subst s3
        -- it leaves
        have hs := hR.leave j hj30 who hwho
        have e1 : hideAt 701 (pS 0 ⟨j, 3, who⟩) = hideAt 701 (pS n ⟨j, 3, who⟩) := rfl
        have e2 : hideAt 701 (pS 0 ⟨j + 1, 0, 0⟩) = hideAt 701 (pS n ⟨j + 1, 0, 0⟩) := rfl
        rw [e1, e2] at hs
        have hdn : dN ⟨j + 1, 0, 0⟩ = dN ⟨j, 3, who⟩ := rfl
        have hwf' : wfB (pipB kind (dN ⟨j + 1, 0, 0⟩)) = true := hwf
        have kb : ∀ i, kLv i = true → inB i = false := fun i hi => notB (by simp [kLv, nbeq, nble, nblt] at hi; omega)
        have kb' : ∀ i, kLv i = false → inB i = true := fun i hi => by
          simp [kLv, nbeq, nble, nblt] at hi
          exact isB (by omega) (by omega) (by omega)
        refine fin (a' := ⟨j + 1, 0, 0⟩) (l := []) (fun p hp => by cases hp) (step_hide (K := kLv) (c := 701) hs h1 (fun i => ?_) (fun i => ?_) (fun i hi => ?_) (fun i o q => pH_ok hwf q) (fun i o q => pH_ok hwf' q) (fun i o hi q => okO_mono (fun m hm => kept_nil (by rw [okN_iff] at hm; exact hm)) (pH_ok hwf q))
          (x := bs (txt n (j + 1))) (r := [bs (out j), .int .i64 0, .bool false]) (r' := [bs (out (j + 1)), .int .i64 0, .bool false]) (e := 92) (lo := 0) (hi := 0) (op := 0) (e' := 92) (lo' := 0) (hi' := 0) (op' := 0) ?_ ?_ (bs_ok _) rfl ?_ args)
        · split
          · rename_i e; rw [pH_S hwf (kb i e)]
          · rename_i e
            exact pS_none (kb' i (by cases q : kLv i with | false => rfl | true => exact (e q).elim))
        · split
          · rename_i e; rw [pH_S hwf' (kb i e)]
          · rename_i e
            exact pS_none (kb' i (by cases q : kLv i with | false => rfl | true => exact (e q).elim))
        · rw [pH_B (kb' i hi), pH_B (kb' i hi)]; rfl
        · rw [pH_S hwf (notB (by omega)), pS_look]; rfl
        · rw [pH_S hwf' (notB (by omega)), pS_look]; rfl
        · simp [bs, eqD, eqP]
      · rename_i s3
        rcases (show st = 1 ∨ st = 2 by omega) with rfl | rfl
        · -- it takes the stripe
          have hs := hR.lock j hj30 who hwho
          have e1 : sel kLk (pS 0 ⟨j, 1, who⟩) = sel kLk (pS n ⟨j, 1, who⟩) := rfl
          have e2 : sel kLk (pS 0 ⟨j, 2, who⟩) = sel kLk (pS n ⟨j, 2, who⟩) := rfl
          rw [e1, e2] at hs
          refine small (a' := ⟨j, 2, who⟩) hs rfl kLB (fun i hi hb => ?_) (fun p hp => by simp [lLk] at hp; subst hp; simp)
          have hi : i = 6 ∨ i = 700 ∨ i = 701 ∨ 706 ≤ i := by
            simp [kLk, nbeq] at hi
            have hw' : ¬ (702 ≤ i ∧ i ≤ 705) := fun q => by have := inW_iff.2 q; rw [hi.2] at this; cases this
            rcases Nat.lt_or_ge i 3 with q | q
            · omega
            · by_cases q6 : i = 6
              · exact .inl q6
              · by_cases q7 : i < 700
                · have := isB q q6 q7; rw [hb] at this; cases this
                · omega
          have hk7 : ∀ m, m < 704 → kept 1000 lLk m = true := fun m hm => keptP (by omega) (by simp [lLk, nbeq]; omega)
          rw [pS_look, pS_look]
          rcases hi with rfl | rfl | rfl | hi
          · refine ⟨rfl, fun o q => ?_⟩
            cases q
            simp [crow1, okO, okV, hk7]
          · refine ⟨rfl, fun o q => ?_⟩
            cases q
            simp [clO, okO, okV, eqP, hk7]
          · refine ⟨rfl, fun o q => ?_⟩
            cases q
            have b1 := bs_ok (p := kept 1000 lLk) (k := 8) (txt n (tkN ⟨j, 1, who⟩))
            have b2 := bs_ok (p := kept 1000 lLk) (k := 8) (out j)
            show ([bs (txt n (tkN ⟨j, 1, who⟩)), bs (out j), .int .i64 0, .bool false] : List Value).all (okV _ 9) = true
            simp only [List.all_cons, b1, b2, List.all_nil]
            rfl
          · rw [if_neg (by omega), if_neg (by omega), if_neg (by omega), if_neg (by omega), if_neg (by omega), if_neg (by omega), if_neg (by omega), if_neg (by omega), if_neg (by omega), if_neg (by omega), if_neg (by omega), if_neg (by omega)]
            have hno : ∀ st, lookP (wkP j st) i = none := fun st => by
              cases e : lookP (wkP j st) i with
              | none => rfl
              | some o => have := wk_keys e; rw [inW_iff] at this; omega
            exact ⟨by rw [hno, hno], fun o q => by rw [hno] at q; cases q⟩
        · -- it is done
          obtain ⟨l, hl, hs⟩ := hR.dos kind hk j hj30
          have hwf2 : wfB (pipB kind j) = true := hwf
          have hwf3 : wfB (pipB kind (dN ⟨j, 3, who⟩)) = true := hR.wf kind hk (j + 1) (by omega)
          obtain ⟨bk, v15, k1, k2, k3⟩ := h1.cell (i := 702) (c := _) (e := 67) (lo := 0) (hi := 0) (op := 0) (m := 15) (v := .int .i64 1) (by rw [pH_S hwf (notB (by omega)), pS_look]; rfl) rfl
          obtain ⟨b0, v0, r1, r2, r3⟩ := h1.cell (i := 0) (c := rowC (rowF ⟨j, 2, who⟩)) (m := who) (v := cellR (rowF ⟨j, 2, who⟩ who)) (by rw [pH_S hwf (notB (by omega)), pS_look]; rfl) (by
            rcases (show who = 0 ∨ who = 1 ∨ who = 2 ∨ who = 3 by omega) with rfl | rfl | rfl | rfl <;> rfl)
          obtain ⟨b2, v5, t1, t2, t3⟩ := h1.cell (i := 2) (c := _) (e := 59) (lo := 0) (hi := 0) (op := 0) (m := 5) (v := .slice (some ⟨0, 0, none⟩) 4 4) (by rw [pH_S hwf (notB (by omega)), pS_look]; rfl) rfl
          rw [h2] at t1
          cases t1
          have er : v0 = .pointer (some ⟨bk, 0, none⟩) := by
            have e : rowF ⟨j, 2, who⟩ who = some 0 := by
              unfold rowF
              simp [nbeq]
            rw [e] at r2
            cases r2 with
            | ptr q => rw [show (⟨CID 0 + 2, 0, none⟩ : Addr).block = 702 from rfl, k1] at q; cases q; rfl
          have es : v5 = .slice (some ⟨b0, 0, none⟩) 4 4 := by
            cases t2 with
            | slice q1 q2 q3 =>
              rw [show (⟨0, 0, none⟩ : Addr).block = 0 from rfl, r1] at q1
              cases q1
              have : ∀ (k c' : Nat), capR k 4 c' → c' = 4 := fun k c' h => by simpa [capR, UNK] using h
              rw [this _ _ q3]
          have e15 : v15 = .int .i64 1 := by cases k2; rfl
          subst er es e15
          obtain ⟨db, hdb⟩ := do_body
          have hpdo : ∀ (st' d : Nat) (i : Nat), wfB (pipB kind d) = true → lookP (pdo (evP d) j st' (pipB kind d)) i = if kDo i = true then (if i = 2 then some (srv1 (evP d)) else if inB i = true then lookP (pipB kind d) i else lookP (wkP j st') i) else none := by
            intro st' d i hw'
            unfold pdo
            simp only [lookP, nbeq]
            by_cases i2 : i = 2
            · subst i2; rfl
            rw [decide_eq_false (fun e => i2 e.symm), cond_false, lookP_append, if_neg i2]
            cases hb : inB i with
            | true =>
              have hn : lookP (wkP j st') i = none := by
                cases e : lookP (wkP j st') i with
                | none => rfl
                | some o => have := wk_keys e; rw [inW_iff] at this; rw [inB_iff] at hb; omega
              rw [hn]
              simp [kDo, hb]
            | false =>
              rw [wfB_none hw' hb]
              cases e : lookP (wkP j st') i with
              | none => simp
              | some o => have := wk_keys e; simp [kDo, this]
          have hpH : ∀ (st' : Nat) (i : Nat), wfB (pipB kind (dN ⟨j, st', who⟩)) = true → kDo i = true → pH n kind ⟨j, st', who⟩ i = (if i = 2 then some (srv1 (evP (dN ⟨j, st', who⟩))) else if inB i = true then lookP (pipB kind (dN ⟨j, st', who⟩)) i else lookP (wkP j st') i) := by
            intro st' i hw' hi
            cases hb : inB i with
            | true =>
              rw [pH_B hb, if_neg (fun e => by subst e; rw [inB_iff] at hb; omega), if_pos rfl]
            | false =>
              rw [pH_S hw' hb, pS_look]
              simp [kDo, hb, nbeq] at hi
              rcases hi with rfl | hi
              · rfl
              · rw [inW_iff] at hi
                rw [if_neg (by omega), if_neg (by omega), if_neg (by omega), if_neg (by omega), if_neg (by omega), if_neg (by omega), if_neg (by omega), if_neg (by simp)]
          have hrest : ∀ i o, kDo i = false → pH n kind ⟨j, 2, who⟩ i = some o → (i = 0 ∨ i = 1 ∨ i = 6 ∨ i = 700 ∨ i = 701) := by
            intro i o hi q
            simp [kDo, nbeq] at hi
            rw [pH_S hwf hi.1.2, pS_look] at q
            split at q
            · exact .inl (by assumption)
            split at q
            · exact .inr (.inl (by assumption))
            split at q
            · exact (hi.1.1 (by assumption)).elim
            split at q
            · exact .inr (.inr (.inl (by assumption)))
            split at q
            · exact .inr (.inr (.inr (.inl (by assumption))))
            split at q
            · exact .inr (.inr (.inr (.inr (by assumption))))
            · have := wk_keys q; rw [hi.2] at this; cases this
          have hkd : ∀ m, m = 700 ∨ m = 701 ∨ m = 702 → kept 1000 l m = true := fun m hm => keptP (by omega) (List.any_eq_false.2 fun p hp => by
            rw [nbeq, decide_eq_true_eq]
            intro e
            have := List.all_eq_true.1 hl p hp
            rw [e, notB (by omega), Bool.false_or, nbeq, decide_eq_true_eq] at this
            omega)
          have hu := step_sel (K := kDo) (f := 24) (args' := [.pointer (some ⟨sb, 0, none⟩), .pointer (some ⟨bk, 0, none⟩)]) (H' := pH n kind ⟨j, 3, who⟩) hs h1 (fun i => by
              rw [hpdo 2 j i hwf2]
              split
              · rename_i e; exact (hpH 2 i hwf e).symm
              · rfl) (fun i => by
              rw [hpdo 3 (j + 1) i hwf3]
              split
              · rename_i e; exact (hpH 3 i hwf3 e).symm
              · rfl) (fun i hi => by
              have hb : inB i = false := by simp [kDo] at hi; exact hi.1.2
              rw [pH_S hwf3 hb, pH_S hwf hb, pS_look, pS_look]
              have hi2 : i ≠ 2 := by simp [kDo, nbeq] at hi; exact hi.1.1
              have hno : ∀ st', lookP (wkP j st') i = none := fun st' => by
                cases e : lookP (wkP j st') i with
                | none => rfl
                | some o => have := wk_keys e; simp [kDo] at hi; rw [hi.2] at this; cases this
              rw [if_neg hi2, if_neg hi2, hno, hno]
              rfl) (fun i o q => pH_ok hwf q) (fun i o q => pH_ok hwf3 q) (fun i o hi q => by
              have hc := hrest i o hi q
              rcases hc with rfl | rfl | rfl | rfl | rfl
              · rw [pH_S hwf (notB (by omega)), pS_look] at q
                cases q
                refine okO_row fun m hm c hc => ?_
                have : c = 0 := by
                  unfold rowF at hc
                  cases e : (!(Nat.beq 2 0) && Nat.beq m who) <;> rw [e] at hc <;> cases hc
                  rfl
                subst this
                exact hkd 702 (by omega)
              · rw [pH_S hwf (notB (by omega)), pS_look] at q
                cases q
                exact okO_str _
              · rw [pH_S hwf (notB (by omega)), pS_look] at q
                cases q
                simp [crow1, okO, okV, hkd]
              · rw [pH_S hwf (notB (by omega)), pS_look] at q
                cases q
                simp [clO, okO, okV, eqP, hkd]
              · rw [pH_S hwf (notB (by omega)), pS_look] at q
                cases q
                have b1 := bs_ok (p := kept 1000 l) (k := 8) (txt n (tkN ⟨j, 2, who⟩))
                have b2 := bs_ok (p := kept 1000 l) (k := 8) (out j)
                show ([bs (txt n (tkN ⟨j, 2, who⟩)), bs (out j), .int .i64 0, .bool false] : List Value).all (okV _ 9) = true
                simp only [List.all_cons, b1, b2, List.all_nil]
                rfl) (fun ω => .cons (.ptr (a := ⟨2, 0, none⟩) ((ren_id h1).2 h2)) (.cons (.ptr (a := ⟨702, 0, none⟩) ((ren_id h1).2 k1)) .nil))
          have h7 := calls_of_upon Tryz.func24 hdb (by kernel_rfl) hu
          refine (work_does (arg := 0) hw t3 r3 k3 (R := fun W' => PAt n kind w0 sb ⟨j, 3, who⟩ W') (h7.mono ?_)).mono ?_
          · rintro e W' ⟨v, rfl, _, f1, σ', f2, f3, f4⟩
            refine ⟨v, rfl, PAt.step h3 h4 f1 f2 f3 (f4 2 sb (fun hi => ?_) h2)⟩
            simp only [srcs, List.mem_map] at hi
            obtain ⟨p, m1, m2⟩ := hi
            have := List.all_eq_true.1 hl p m1
            rw [m2] at this
            cases this
          · rintro e W' ⟨rfl, h⟩
            exact ⟨_, rfl, h⟩
    · rename_i hww
      have hs := hR.busy j hj30 st h0 g2 who hwho w hw (fun e => hww e.symm)
      have e1 : sel kBz (pS 0 ⟨j, st, who⟩) = sel kBz (pS n ⟨j, st, who⟩) := rfl
      rw [e1] at hs
      exact small (a' := ⟨j, st, who⟩) (l := []) hs rfl kBB (fun i hi hb => ⟨rfl, fun o q => okO_mono (fun m hm => kept_nil (by rw [okN_iff] at hm; exact hm)) (pS_ok q).1⟩) (fun p hp => by cases hp)
end Go.Proofs.YtejebgdikoehmaaGreatDoor
