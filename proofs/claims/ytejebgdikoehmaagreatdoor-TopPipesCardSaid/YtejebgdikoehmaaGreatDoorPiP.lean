/- TopPipes: one client's requests, whoever works: the small state; what Work does, out of the runs. -/
import Derived.Test.YtejebgdikoehmaaGreatDoorPiA
namespace Go.Proofs.YtejebgdikoehmaaGreatDoor
open Go Go.RowKit
set_option linter.unusedVariables false
set_option linter.unusedSimpArgs false
/-- What lies in memory. -/
def pH (n kind : Nat) (a : PA) : Nat → Option SObj := fun i => match lookP (pS n a) i with
  | some o => some o
  | none => lookP (pipB kind (dN a)) i
theorem pS_look {n : Nat} {a : PA} {i : Nat} : lookP (pS n a) i = if i = 0 then some (rowO (rowC (rowF a))) else if i = 1 then some (strO (strC (strF a))) else if i = 2 then some (srv1 (evP (dN a))) else if i = 6 then some crow1 else
    if i = 700 then some (clO (tkN a) (!(Nat.beq a.st 0))) else if i = 701 then some (cnO n (tkN a) a.j) else lookP (wkP a.j a.st) i := by
  unfold pS
  generalize (!(Nat.beq a.st 0)) = b7
  simp only [lookP, nbeq]
  by_cases h0 : i = 0
  · subst h0; rfl
  rw [decide_eq_false (fun e => h0 e.symm), if_neg h0]
  by_cases h1 : i = 1
  · subst h1; rfl
  rw [decide_eq_false (fun e => h1 e.symm), if_neg h1]
  by_cases h2 : i = 2
  · subst h2; rfl
  rw [decide_eq_false (fun e => h2 e.symm), if_neg h2]
  by_cases h6 : i = 6
  · subst h6; rfl
  rw [decide_eq_false (fun e => h6 e.symm), if_neg h6]
  by_cases h7 : i = 700
  · subst h7; rfl
  rw [decide_eq_false (fun e => h7 e.symm), if_neg h7]
  by_cases h8 : i = 701
  · subst h8; rfl
  rw [decide_eq_false (fun e => h8 e.symm), if_neg h8]
  rfl
def inW : Nat → Bool := fun i => Nat.ble 702 i && Nat.ble i 705
theorem inW_iff {i : Nat} : inW i = true ↔ 702 ≤ i ∧ i ≤ 705 := by simp [inW, nble]
theorem wk_keys {j st i : Nat} {o : SObj} (h : lookP (wkP j st) i = some o) : inW i = true := by
  have := lookP_mem h
  rw [inW_iff]
  unfold wkP at this
  cases e0 : Nat.beq st 0 <;> cases e1 : Nat.beq st 1 <;> cases e2 : Nat.beq st 2 <;> simp [e0, e1, e2] at this <;> omega
theorem bs_ok {p : Nat → Bool} {k : Nat} (l : List UInt8) : okV p (k + 1) (bs l) = true := by
  simp [bs, okV, eqP]
theorem wk_ok {p : Nat → Bool} (hp : ∀ i, inW i = true → p i = true) {j st i : Nat} {o : SObj} (h : lookP (wkP j st) i = some o) : okO p o = true := by
  have h3 : p 703 = true := hp 703 (by decide)
  have h4 : p 704 = true := hp 704 (by decide)
  have h5 : p 705 = true := hp 705 (by decide)
  have a1 : okO p (wkO j st) = true := by
    cases e1 : Nat.beq st 1 <;> cases e3 : Nat.beq st 3 <;> simp [wkO, okO, okV, eqP, bs, h3, h4, h5, e1, e3]
  have a2 : okO p (cmO j) = true := by
    cases e : isSet j <;> simp [cmO, okO, okV, eqP, bs, e]
  have a3 : okO p hdO = true := by simp [hdO, okO, okV, eqP]
  have a4 : okO p (anO j) = true := by
    simp [anO, okO, okV, eqP, bs]
  have hall : (wkP j st).all (fun q => okO p q.2) = true := by
    unfold wkP
    cases e0 : Nat.beq st 0 <;> cases e1 : Nat.beq st 1 <;> cases e2 : Nat.beq st 2 <;> simp [a1, a2, a3, a4]
  exact all_mem hall (lookP_mem h)
theorem bs_okN (l : List UInt8) : okV okN 9 (bs l) = true := bs_ok l
/-- All that lies there is in order. -/
theorem pS_ok {n : Nat} {a : PA} {i : Nat} {o : SObj} (h : lookP (pS n a) i = some o) : okO okN o = true ∧ inB i = false := by
  have nB : ∀ {i}, (i < 3 ∨ i = 6 ∨ 700 ≤ i) → inB i = false := fun {i} hi => by
    cases e : inB i with
    | false => rfl
    | true => rw [inB_iff] at e; omega
  rw [pS_look] at h
  split at h
  · cases h
    refine ⟨okO_row fun j hj c hc => ?_, nB (by omega)⟩
    have : c = 0 := by
      unfold rowF at hc
      cases e : (!(Nat.beq a.st 0) && Nat.beq j a.who) <;> rw [e] at hc <;> cases hc
      rfl
    subst this
    decide
  split at h
  · cases h; exact ⟨okO_str _, nB (by omega)⟩
  split at h
  · cases h
    refine ⟨?_, nB (by omega)⟩
    unfold evP
    cases Nat.beq (dN a) 0 <;> simp [srv1, okO, okV, eqP, okN_iff]
  split at h
  · cases h; exact ⟨by decide, nB (by omega)⟩
  split at h
  · cases h
    refine ⟨?_, nB (by omega)⟩
    simp [clO, okO, okV, eqP, okN_iff]
  split at h
  · cases h
    refine ⟨?_, nB (by omega)⟩
    have h1 := bs_okN (txt n (tkN a))
    have h2 := bs_okN (out a.j)
    show ([bs (txt n (tkN a)), bs (out a.j), .int .i64 0, .bool false] : List Value).all (okV okN 9) = true
    simp only [List.all_cons, h1, h2, List.all_nil]
    rfl
  · have h1 := wk_keys h
    rw [inW_iff] at h1
    exact ⟨wk_ok (fun i hi => by rw [inW_iff] at hi; rw [okN_iff]; omega) h, nB (by omega)⟩
theorem pH_B {n kind : Nat} {a : PA} {i : Nat} (h : inB i = true) : pH n kind a i = lookP (pipB kind (dN a)) i := by
  unfold pH
  cases e : lookP (pS n a) i with
  | none => rfl
  | some o => have := (pS_ok e).2; rw [h] at this; cases this
theorem pH_S {n kind : Nat} {a : PA} {i : Nat} (hw : wfB (pipB kind (dN a)) = true) (h : inB i = false) : pH n kind a i = lookP (pS n a) i := by
  unfold pH
  cases e : lookP (pS n a) i with
  | none => exact wfB_none hw h
  | some o => rfl
theorem inB_okN {i : Nat} (h : inB i = true) : okN i = true := by rw [inB_iff] at h; rw [okN_iff]; omega
theorem pH_ok {n kind : Nat} {a : PA} {i : Nat} {o : SObj} (hw : wfB (pipB kind (dN a)) = true) (h : pH n kind a i = some o) : okO okN o = true := by
  cases e : inB i with
  | true => rw [pH_B e] at h; exact okO_mono (fun i hi => inB_okN hi) (wfB_look hw h).2
  | false => rw [pH_S hw e] at h; exact (pS_ok h).1
/-- What a worker does. -/
def stepP (n : Nat) (a : PA) (w : Nat) : PA :=
  if a.st = 0 then (if a.j < 2 * n then ⟨a.j, 1, w⟩ else a)
  else if a.who = w then (if a.st = 3 then ⟨a.j + 1, 0, 0⟩ else ⟨a.j, a.st + 1, a.who⟩) else a
structure GoodP (n : Nat) (a : PA) : Prop where
  j : a.j ≤ 2 * n
  st : a.st ≤ 3
  busy : a.st ≠ 0 → a.j < 2 * n ∧ a.who < 4
  free : a.st = 0 → a.who = 0
theorem goodP_step {n : Nat} {a : PA} (h : GoodP n a) {w : Nat} (hw : w < 4) : GoodP n (stepP n a w) := by
  obtain ⟨j, st, who⟩ := a
  have h1 := h.j
  have h2 := h.st
  have h3 := h.busy
  have h4 := h.free
  simp only at h1 h2 h3 h4
  unfold stepP
  simp only
  split
  · split
    · exact ⟨by simp only; omega, by simp only; omega, fun _ => ⟨by simp only; omega, hw⟩, fun e => by simp at e⟩
    · exact h
  · rename_i h0
    have := h3 h0
    split
    · split
      · exact ⟨by simp only; omega, by simp only; omega, fun e => by simp at e, fun _ => rfl⟩
      · exact ⟨by simp only; omega, by simp only; omega, fun _ => ⟨by simp only; omega, by simp only; omega⟩, fun e => by simp at e⟩
    · exact h
/-- How much is left; and how long it is till he who has it is picked. -/
def rankP (n : Nat) (a : PA) : Nat := 4 * (2 * n - a.j) - a.st
def waitP (a : PA) (i : Nat) : Nat := if a.st = 0 then 0 else (a.who + 4 - i % 4) % 4
theorem stepP_rank {n : Nat} {a : PA} (h : GoodP n a) (i : Nat) : rankP n a = 0 ∧ rankP n (stepP n a (i % 4)) = 0 ∨ 4 * rankP n (stepP n a (i % 4)) + waitP (stepP n a (i % 4)) (i + 1) < 4 * rankP n a + waitP a i := by
  obtain ⟨j, st, who⟩ := a
  have h1 := h.j
  have h2 := h.st
  have h3 := h.busy
  have h4 := h.free
  simp only at h1 h2 h3 h4
  unfold stepP rankP waitP
  simp only
  split
  · rename_i h0
    subst h0
    split
    · right
      simp only
      rw [if_neg (by omega)]
      omega
    · left
      simp only
      omega
  · rename_i h0
    have := h3 h0
    split
    · right
      split
      · simp only [if_true]
        omega
      · simp only
        rw [if_neg (by omega)]
        omega
    · rename_i hne
      right
      simp only [if_neg h0]
      omega
end Go.Proofs.YtejebgdikoehmaaGreatDoor
