/- Calls and stretches of code, run by the kernel on a part of what lies in memory. -/
import Derived.Test.YtejebgdikoehmaaGreatDoorToO
namespace Go.Proofs.YtejebgdikoehmaaGreatDoor
open Go Go.RowKit
set_option linter.unusedVariables false
set_option linter.unusedSimpArgs false
/-- A call of one result, and of two; what it leaves, under other names. -/
noncomputable def callOk1 (f : FuncId) (args : List Value) (P : Part) (u : Value) (P' : Part) (l : List (Nat × Nat)) : Bool :=
  keysOk 1000 P && keysOk 1000 P' && newOk 1000 l && (match callB f args ⟨ofP P, 1000⟩ with
    | some (v, S') => chkO l 1000 P S' P' && mv (fun _ => none) idV (renL l) 1000 9 u v
    | none => false)
noncomputable def callOk2 (f : FuncId) (args : List Value) (P : Part) (u1 u2 : Value) (P' : Part) (l : List (Nat × Nat)) : Bool :=
  keysOk 1000 P && keysOk 1000 P' && newOk 1000 l && (match callB f args ⟨ofP P, 1000⟩ with
    | some (.tuple ⟨[v1, v2]⟩, S') => chkO l 1000 P S' P' && mv (fun _ => none) idV (renL l) 1000 9 u1 v1 && mv (fun _ => none) idV (renL l) 1000 9 u2 v2
    | _ => false)
section
variable {σ : Rn} {H H' : Nat → Option SObj} {w : World} {P P' : Part} {l : List (Nat × Nat)}
theorem behind {σ1 : Rn} {S' : St} {w' : World} (k1 : keysOk 1000 P = true) (k2 : keysOk 1000 P' = true) (k3 : newOk 1000 l = true) (k5 : chkO l 1000 P S' P' = true) (hW : WF σ H 1000 w) (hH : ∀ i o, lookP P i = some o → H i = some o) (q1 : Post σ ⟨ofP P, 1000⟩ w σ1 S' w') :
    WF (ren σ1 (renL l) 1000 σ1.ω) (lookP P') 1000 w' ∧ Fr (owns σ H) w w' ∧ (∀ b, owns (ren σ1 (renL l) 1000 σ1.ω) (lookP P') b → owns σ H b ∨ w.heap.size ≤ b) ∧ VarOk σ1 (ren σ1 (renL l) 1000 σ1.ω) (fun _ => none) idV ∧ ∀ i b, i ∉ srcs l → σ i = some b → (ren σ1 (renL l) 1000 σ1.ω) i = some b := by
  have hT' : ∀ i o, (ofP P).get i = some o → H i = some o := fun i o q => hH i o (by rw [← ofP_get (by omega) k1]; exact q)
  have hVO : VarOk σ1 (ren σ1 (renL l) 1000 σ1.ω) (fun _ => none) idV := by
    refine ⟨fun j x h => (by cases h), fun j x v' hj hv' => ?_⟩
    cases hj
    cases hv' with
    | var e h => exact ⟨e, h⟩
  have hown : ∀ b, Own σ ⟨ofP P, 1000⟩ b → owns σ H b := by
    rintro b ⟨i, o, h1, h2⟩
    exact ⟨i, o, hT' i o h1, h2⟩
  refine ⟨WF.ren (WR.wf q1.wr) (by omega) (fun i u q => ?_) fun i j u v g1 g2 e => newOk_inj k3 i j (lookP_lt k2 i u g1) (lookP_lt k2 j v g2) e, q1.fr.mono fun b _ h => hown b h, ?_, hVO, fun i b hi q => by
    show (if i < 1000 then σ1 (renL l i) else none) = some b
    rw [if_pos (hW.dom i b q), renL_id hi]
    exact (q1.le i b q).1⟩
  · obtain ⟨h1, o, h2, h3⟩ := chkO_get k5 i u q
    exact ⟨lookP_lt k2 i u q, o, h2, fun b ob _ _ h => mo_sound h3 _ _ _ _ hVO h⟩
  · rintro b ⟨i, u, h1, h2⟩
    obtain ⟨g1, o, g2, g3⟩ := chkO_get k5 i u h1
    have h2 : (if i < 1000 then σ1 (renL l i) else none) = some b := h2
    rw [if_pos (lookP_lt k2 i u h1)] at h2
    rcases q1.own b ⟨_, o, g2, h2⟩ with k | k
    · exact .inl (hown b k)
    · exact .inr k
set_option maxRecDepth 100000 in
theorem call1_sound {f : FuncId} {args args' : List Value} {u : Value} (hs : callOk1 f args P u P' l = true) (hW : WF σ H 1000 w) (hH : ∀ i o, lookP P i = some o → H i = some o) (hv : VRs σ args args') :
    UponR E0.P (fun v' w' => ∃ σ', WF σ' (lookP P') 1000 w' ∧ VR σ' u v' ∧ Fr (owns σ H) w w' ∧ (∀ b, owns σ' (lookP P') b → owns σ H b ∨ w.heap.size ≤ b) ∧ ∀ i b, i ∉ srcs l → σ i = some b → σ' i = some b) ((callFunc f args'.toArray).run E0.P w) := by
  simp only [callOk1, Bool.and_eq_true] at hs
  obtain ⟨⟨⟨k1, k2⟩, k3⟩, k5⟩ := hs
  split at k5
  case h_2 => cases k5
  rename_i v S' hrun
  simp only [Bool.and_eq_true] at k5
  have hT' : ∀ i o, (ofP P).get i = some o → H i = some o := fun i o q => hH i o (by rw [← ofP_get (by omega) k1]; exact q)
  refine (callB_ok f args _ v S' _ w args' hrun (hW.part hT') hv).mono ?_
  rintro v' w' ⟨σ1, g1, q1⟩
  obtain ⟨b1, b2, b3, b4, b5⟩ := behind k1 k2 k3 k5.1 hW hH q1
  exact ⟨_, b1, mv_sound b4 9 u v v' k5.2 g1, b2, b3, b5⟩
set_option maxRecDepth 100000 in
theorem call2_sound {f : FuncId} {args args' : List Value} {u1 u2 : Value} (hs : callOk2 f args P u1 u2 P' l = true) (hW : WF σ H 1000 w) (hH : ∀ i o, lookP P i = some o → H i = some o) (hv : VRs σ args args') :
    UponR E0.P (fun v' w' => ∃ σ', WF σ' (lookP P') 1000 w' ∧ (∃ v1 v2, v' = .tuple #[v1, v2] ∧ VR σ' u1 v1 ∧ VR σ' u2 v2) ∧ Fr (owns σ H) w w' ∧ (∀ b, owns σ' (lookP P') b → owns σ H b ∨ w.heap.size ≤ b) ∧ ∀ i b, i ∉ srcs l → σ i = some b → σ' i = some b) ((callFunc f args'.toArray).run E0.P w) := by
  simp only [callOk2, Bool.and_eq_true] at hs
  obtain ⟨⟨⟨k1, k2⟩, k3⟩, k5⟩ := hs
  split at k5
  case h_2 => cases k5
  rename_i v1 v2 S' hrun
  simp only [Bool.and_eq_true] at k5
  have hT' : ∀ i o, (ofP P).get i = some o → H i = some o := fun i o q => hH i o (by rw [← ofP_get (by omega) k1]; exact q)
  refine (callB_ok f args _ _ S' _ w args' hrun (hW.part hT') hv).mono ?_
  rintro v' w' ⟨σ1, g1, q1⟩
  obtain ⟨b1, b2, b3, b4, b5⟩ := behind k1 k2 k3 k5.1.1 hW hH q1
  generalize hz : Value.tuple ⟨[v1, v2]⟩ = z at g1
  cases g1 <;> cases hz
  rename_i x' g2
  cases g2 with
  | cons m1 g3 =>
  cases g3 with
  | cons m2 g4 =>
  cases g4
  exact ⟨_, b1, ⟨_, _, rfl, mv_sound b4 9 u1 v1 _ k5.1.2 m1, mv_sound b4 9 u2 v2 _ k5.2 m2⟩, b2, b3, b5⟩
/-- A piece of code that goes on behind itself. -/
noncomputable def segOk1 (c : Code) (T : List (Nat × Value)) (P : Part) (T' : List (Nat × Value)) (P' : Part) : Bool :=
  keysOk 1000 P && keysOk 1000 P' && (match xCode E0 callB c (stsL T) ⟨ofP P, 1000⟩ with
    | some (.normal, T1, S') => chkO [] 1000 P S' P' && chkT [] T1 T'
    | _ => false)
set_option maxRecDepth 100000 in
/-- A stretch of code that is run on the ids that K names; it lays nothing that stays. -/
theorem code_sel {D : List Deferred} {n : Nat} {a : Act} {Q : Exit → Act → World → Prop} {c : Code} {T T' : List (Nat × Value)} {F F' : Part} {K : Nat → Bool} (hs : segOk1 c T F T' F' = true) (hk : codeOk E0 n c = true)
    (hW : WF σ H 1000 w) (hF : ∀ i, lookP F i = if K i = true then H i else none) (hF' : ∀ i, lookP F' i = if K i = true then H' i else none) (hsame : ∀ i, K i = false → H' i = H i) (hok : ∀ i o, H i = some o → okO okN o = true) (hA : AR D σ n (stsL T) a)
    (hq : ∀ a' w' σ', WF σ' H' 1000 w' → AR D σ' n (stsL T') a' → Fr (owns σ H) w w' → (∀ b, owns σ' H' b → owns σ H b ∨ w.heap.size ≤ b) → σ'.ω = σ.ω → (∀ i b, σ i = some b → σ' i = some b) → Q .normal a' w') : c.wp E0.P Q a w := by
  simp only [segOk1, Bool.and_eq_true] at hs
  obtain ⟨⟨k1, k2⟩, k5⟩ := hs
  split at k5
  case h_2 => cases k5
  rename_i T1 S' hrun
  simp only [Bool.and_eq_true] at k5
  obtain ⟨k5, k6⟩ := k5
  have hFH : ∀ i o, lookP F i = some o → H i = some o ∧ K i = true := fun i o q => by
    rw [hF] at q
    split at q
    · exact ⟨q, by assumption⟩
    · cases q
  have hT' : ∀ i o, (ofP F).get i = some o → H i = some o := fun i o q => (hFH i o (by rw [← ofP_get (by omega) k1]; exact q)).1
  refine sCode_sound hT callB_ok hmix c hk (hW.part hT') hA (xCode_some hT _ hrun) fun a' w' hg => ?_
  obtain ⟨σ1, q1, q2⟩ := hg
  have w2 := hW.step hT' q1
  have pid : ∀ i, okN i = true → renL [] i = i ∧ i < 1000 ∧ i < 1000000 := fun i hi => by rw [okN_iff] at hi; exact ⟨rfl, hi, by omega⟩
  have hVO : VarOk σ1 (ren σ1 (renL []) 1000 σ1.ω) (fun _ => none) idV := by
    refine ⟨fun j x h => (by cases h), fun j x v' hj hv' => ?_⟩
    cases hj
    cases hv' with
    | var e h => exact ⟨e, h⟩
  have hlt : ∀ i o, H i = some o → i < 1000 := fun i o q => by
    obtain ⟨b, _, h1, _⟩ := hW.obj i o q
    exact hW.dom i b h1
  have hold : ∀ i b, σ i = some b → (ren σ1 (renL []) 1000 σ1.ω) i = some b := fun i b q => by
    show (if i < 1000 then σ1 (renL [] i) else none) = some b
    rw [if_pos (hW.dom i b q)]
    exact (q1.le i b q).1
  have key : ∀ i u, H' i = some u → i < 1000 ∧ ((K i = true ∧ lookP F' i = some u) ∨ (K i = false ∧ H i = some u)) := fun i u q => by
    cases e : K i with
    | true =>
      have : lookP F' i = some u := by rw [hF', e, if_pos rfl]; exact q
      exact ⟨lookP_lt k2 i u this, .inl ⟨rfl, this⟩⟩
    | false =>
      rw [hsame i e] at q
      exact ⟨hlt i u q, .inr ⟨rfl, q⟩⟩
  have w3 : WF (ren σ1 (renL []) 1000 σ1.ω) H' 1000 w' := by
    refine WF.ren w2 (by omega) (fun i u q => ?_) (fun i j u v _ _ e => e)
    obtain ⟨hi, h | h⟩ := key i u q
    · obtain ⟨h1, o, h2, h3⟩ := chkO_get k5 i u h.2
      refine ⟨hi, o, ?_, fun b ob _ _ hO => mo_sound h3 _ _ _ _ hVO hO⟩
      unfold joined
      have : (((ofP F).get (renL [] i)).isSome || decide (1000 ≤ renL [] i)) = true := by
        rw [ofP_get (by omega) k1]
        rcases h1 with h1 | h1
        · rw [h1]; rfl
        · rw [decide_eq_true h1, Bool.or_true]
      rw [if_pos this]
      exact h2
    · refine ⟨hi, u, ?_, fun b ob _ _ hO => okO_MO (θ := fun _ => none) (ζ := fun _ => none) pid (hok i u h.2) _ _ _ _ (VarOk.non _ _) hO⟩
      unfold joined
      have hn : lookP F i = none := by rw [hF, h.1]; rfl
      have : ¬ (((ofP F).get (renL [] i)).isSome || decide (1000 ≤ renL [] i)) = true := by
        rw [ofP_get (by omega) k1]
        show ¬ ((lookP F i).isSome || decide (1000 ≤ i)) = true
        rw [hn]
        simp; omega
      rw [if_neg this]
      exact h.2
  refine hq a' w' _ w3 ?_ (q1.fr.mono ?_) ?_ q1.le.ω hold
  · refine ⟨fun t u hu => ?_, q2.size, q2.small, q2.nod⟩
    obtain ⟨v, h1, h2⟩ := chkT_get k6 t u hu
    obtain ⟨v', h3, h4⟩ := q2.get t v h1
    exact ⟨v', h3, mv_sound hVO 9 u v v' h2 h4⟩
  · rintro b _ ⟨i, o, h1, h2⟩
    exact ⟨i, o, hT' i o h1, h2⟩
  · rintro b ⟨i, u, h1, h2⟩
    obtain ⟨hi, h | h⟩ := key i u h1
    · obtain ⟨g1, o, g2, g3⟩ := chkO_get k5 i u h.2
      have h2 : (if i < 1000 then σ1 (renL [] i) else none) = some b := h2
      rw [if_pos hi] at h2
      rcases q1.own b ⟨_, o, g2, h2⟩ with k | k
      · obtain ⟨m, om, m1, m2⟩ := k
        exact .inl ⟨m, om, hT' m om m1, m2⟩
      · exact .inr k
    · obtain ⟨b2, _, f1, _⟩ := hW.obj i u h.2
      have := hold i b2 f1
      rw [h2] at this
      cases this
      exact .inl ⟨i, u, h.2, f1⟩
end
end Go.Proofs.YtejebgdikoehmaaGreatDoor
