/- Full states: functions of ids. -/
import Derived.Test.YtejebgdikoehmaaGreatDoorToU
namespace Go.Proofs.YtejebgdikoehmaaGreatDoor
open Go Go.RowKit
set_option linter.unusedVariables false
set_option linter.unusedSimpArgs false
/-- A full state: what each id holds. -/
structure WF (σ : Rn) (H : Nat → Option SObj) (n : Nat) (w : World) : Prop where
  cnt : n ≤ 1000000
  dom : ∀ i b, σ i = some b → i < n
  bnd : ∀ i b, σ i = some b → b < w.heap.size
  obj : ∀ i o, H i = some o → ∃ b o', σ i = some b ∧ w.heap[b]? = some o' ∧ OR σ (σ.κ i) o o'
  inj : ∀ i j b oi oj, H i = some oi → H j = some oj → σ i = some b → σ j = some b → i = j
section
variable {σ σ' : Rn} {H H' : Nat → Option SObj} {n n' : Nat} {w w' : World} {S S' : St}
theorem WR.wf (h : WR σ S w) : WF σ S.h.get S.n w := ⟨h.cnt, h.dom, h.bnd, h.obj, h.inj⟩
theorem WF.sub (h : WF σ H n w) (hs : ∀ i o, H' i = some o → H i = some o) : WF σ H' n w :=
  ⟨h.cnt, h.dom, h.bnd, fun i o q => h.obj i o (hs i o q), fun i j b oi oj q1 q2 => h.inj i j b oi oj (hs i oi q1) (hs j oj q2)⟩
/-- A part of a full state. -/
theorem WF.part (h : WF σ H n w) {T : Tr SObj} (hs : ∀ i o, T.get i = some o → H i = some o) : WR σ ⟨T, n⟩ w :=
  ⟨h.cnt, h.dom, h.bnd, fun i o q => h.obj i o (hs i o q), fun i j b oi oj q1 q2 => h.inj i j b oi oj (hs i oi q1) (hs j oj q2)⟩
/-- What a run on a part makes of the whole. -/
noncomputable def joined (H : Nat → Option SObj) (T T' : Tr SObj) (n : Nat) : Nat → Option SObj := fun i => if (T.get i).isSome || decide (n ≤ i) then T'.get i else H i
theorem WF.step (h : WF σ H n w) {T : Tr SObj} (hs : ∀ i o, T.get i = some o → H i = some o) (hp : Post σ ⟨T, n⟩ w σ' S' w') :
    WF σ' (joined H T S'.h n) S'.n w' := by
  have hrest : ∀ i o, joined H T S'.h n i = some o → (S'.h.get i = some o ∧ (T.get i ≠ none ∨ n ≤ i)) ∨ (H i = some o ∧ T.get i = none ∧ i < n) := by
    intro i o q
    unfold joined at q
    split at q
    · rename_i c
      left
      refine ⟨q, ?_⟩
      simp only [Bool.or_eq_true, decide_eq_true_eq] at c
      rcases c with c | c
      · left; intro e; rw [e] at c; cases c
      · exact Or.inr c
    · rename_i c
      simp only [Bool.or_eq_true, decide_eq_true_eq, not_or] at c
      right
      refine ⟨q, ?_, by omega⟩
      cases e : T.get i with
      | none => rfl
      | some o => rw [e] at c; exact (c.1 rfl).elim
  have hsep : ∀ i o b, H i = some o → T.get i = none → σ i = some b → ¬ Own σ ⟨T, n⟩ b := by
    rintro i o b h1 h2 h3 ⟨j, oj, g1, g2⟩
    have := h.inj i j b o oj h1 (hs j oj g1) h3 g2
    subst this
    rw [h2] at g1
    cases g1
  refine ⟨hp.wr.cnt, hp.wr.dom, hp.wr.bnd, ?_, ?_⟩
  · intro i o q
    rcases hrest i o q with ⟨q1, _⟩ | ⟨q1, q2, q3⟩
    · exact hp.wr.obj i o q1
    · obtain ⟨b, o', g1, g2, g3⟩ := h.obj i o q1
      refine ⟨b, o', (hp.le i b g1).1, ?_, ?_⟩
      · rw [hp.fr.block b (h.bnd i b g1) (hsep i o b q1 q2 g1)]; exact g2
      · rw [(hp.le i b g1).2]; exact g3.mono hp.le
  · intro i j b oi oj q1 q2 s1 s2
    rcases hrest i oi q1 with ⟨p1, _⟩ | ⟨p1, p2, p3⟩
    · rcases hrest j oj q2 with ⟨r1, _⟩ | ⟨r1, r2, r3⟩
      · exact hp.wr.inj i j b oi oj p1 r1 s1 s2
      · exfalso
        obtain ⟨bj, oj', g1, g2, g3⟩ := h.obj j oj r1
        have e := (hp.le j bj g1).1
        rw [s2] at e
        cases e
        have := hp.own b ⟨i, oi, p1, s1⟩
        rcases this with k | k
        · exact hsep j oj b r1 r2 g1 k
        · have := h.bnd j b g1; omega
    · obtain ⟨bi, oi', g1, g2, g3⟩ := h.obj i oi p1
      have e := (hp.le i bi g1).1
      rw [s1] at e
      cases e
      rcases hrest j oj q2 with ⟨r1, _⟩ | ⟨r1, r2, r3⟩
      · exfalso
        have := hp.own b ⟨j, oj, r1, s2⟩
        rcases this with k | k
        · exact hsep i oi b p1 p2 g1 k
        · have := h.bnd i b g1; omega
      · obtain ⟨bj, oj', f1, f2, f3⟩ := h.obj j oj r1
        have e := (hp.le j bj f1).1
        rw [s2] at e
        cases e
        exact h.inj i j b oi oj p1 r1 g1 f1
end
end Go.Proofs.YtejebgdikoehmaaGreatDoor
/- Full states: other names, less told. -/
namespace Go.Proofs.YtejebgdikoehmaaGreatDoor
open Go Go.RowKit
set_option linter.unusedVariables false
set_option linter.unusedSimpArgs false
/-- Plain values that are one. -/
def eqP : Value → Value → Bool
  | .bool a, .bool b => a == b
  | .int j a, .int k b => decide (j = k) && decide (a = b)
  | .string a, .string b => decide (a.data.toList = b.data.toList)
  | .pointer none, .pointer none => true
  | .slice none l c, .slice none l' c' => Nat.beq l l' && Nat.beq c c'
  | .map none, .map none => true
  | .chan none, .chan none => true
  | .nilFunc, .nilFunc => true
  | .nilIface, .nilIface => true
  | _, _ => false
theorem eqP_eq {u v : Value} (h : eqP u v = true) : u = v ∧ plain1 v = true := by
  unfold eqP at h
  split at h
  · exact ⟨by rw [eq_of_beq h], rfl⟩
  · simp only [Bool.and_eq_true, decide_eq_true_eq] at h; rw [h.1, h.2]; exact ⟨rfl, rfl⟩
  · rename_i a b
    rw [decide_eq_true_eq] at h
    obtain ⟨⟨a⟩⟩ := a
    obtain ⟨⟨b⟩⟩ := b
    simp only at h
    rw [h]
    exact ⟨rfl, rfl⟩
  · exact ⟨rfl, rfl⟩
  · simp only [Bool.and_eq_true, nbeq, decide_eq_true_eq] at h; rw [h.1, h.2]; exact ⟨rfl, rfl⟩
  · exact ⟨rfl, rfl⟩
  · exact ⟨rfl, rfl⟩
  · exact ⟨rfl, rfl⟩
  · exact ⟨rfl, rfl⟩
  · cases h
/-- A value that takes one cell. -/
def oneV : Value → Bool
  | .agg _ | .tuple _ => false
  | _ => true
def mvs (f : Value → Value → Bool) : List Value → List Value → Bool
  | [], [] => true
  | u :: r, v :: s => f u v && mvs f r s
  | _, _ => false
def eqD : Value → Value → Bool
  | .pointer (some a), .pointer (some b) => Nat.beq a.block b.block && Nat.beq a.off b.off && decide (a.spot = b.spot)
  | .chan (some j), .chan (some k) => Nat.beq j k
  | .slice (some a) l c, .slice (some b) l' c' => Nat.beq a.block b.block && Nat.beq a.off b.off && decide (a.spot = b.spot) && Nat.beq l l' && Nat.beq c c'
  | u, v => eqP u v
theorem eqD_eq {u v : Value} (h : eqD u v = true) : u = v := by
  unfold eqD at h
  split at h
  · rename_i a b
    simp only [Bool.and_eq_true, nbeq, decide_eq_true_eq] at h
    obtain ⟨⟨h1, h2⟩, h3⟩ := h
    obtain ⟨_, _, _⟩ := a
    obtain ⟨_, _, _⟩ := b
    simp only at h1 h2 h3
    rw [h1, h2, h3]
  · rw [nbeq, decide_eq_true_eq] at h; rw [h]
  · rename_i a l c b l' c'
    simp only [Bool.and_eq_true, nbeq, decide_eq_true_eq] at h
    obtain ⟨⟨⟨⟨h1, h2⟩, h3⟩, h4⟩, h5⟩ := h
    obtain ⟨_, _, _⟩ := a
    obtain ⟨_, _, _⟩ := b
    simp only at h1 h2 h3
    rw [h1, h2, h3, h4, h5]
  · exact (eqP_eq h).1
def eqO (o : Option Value) (v : Value) : Bool := match o with
  | some x => eqD x v
  | none => false
theorem eqO_eq {o : Option Value} {v : Value} (h : eqO o v = true) : o = some v := by
  cases o with
  | none => cases h
  | some x => rw [eqD_eq h]
/-- A value (the second) under other names, perhaps less told (the first): ρ takes the new names to the old; θ tells what stands for a var of the second, ζ what a var of the first stands for. -/
def mv (θ ζ : Nat → Option Value) (ρ : Nat → Nat) (n : Nat) : Nat → Value → Value → Bool
  | 0, _, _ => false
  | k + 1, u, v => match u, v with
    | .chan (some 0), v => oneV v
    | .chan (some (j + 1)), v => eqO (ζ j) v
    | u, .chan (some (j + 1)) => eqO (θ j) u
    | .pointer (some a), .pointer (some b) => Nat.beq (ρ a.block) b.block && Nat.blt a.block n && Nat.beq a.off b.off && decide (a.spot = b.spot)
    | .slice (some a) l c, .slice (some b) l' c' => Nat.beq (ρ a.block) b.block && Nat.blt a.block n && Nat.blt b.block 1000000 && Nat.beq a.off b.off && decide (a.spot = b.spot) && Nat.beq l l' && Nat.beq c c'
    | .map (some a), .map (some b) => Nat.beq (ρ a) b && Nat.blt a n
    | .func (.func g) x y, .func (.func g') x' y' => Nat.beq g g' && mvs (mv θ ζ ρ n k) x.toList x'.toList && mvs (mv θ ζ ρ n k) y.toList y'.toList
    | .iface t u, .iface t' v => Nat.beq t t' && mv θ ζ ρ n k u v
    | .agg x, .agg y => mvs (mv θ ζ ρ n k) x.toList y.toList
    | u, v => eqP u v
/-- The renaming that goes with it. -/
def ren (σ : Rn) (ρ : Nat → Nat) (n : Nat) (ω : Nat → Value) : Rn := ⟨fun i => if i < n then σ (ρ i) else none, fun i => σ.κ (ρ i), ω⟩
/-- The vars stand for what they stand for. -/
structure VarOk (σ σ' : Rn) (θ ζ : Nat → Option Value) : Prop where
  out : ∀ j x, θ j = some x → VR σ' x (σ.ω j)
  into : ∀ j x v', ζ j = some x → VR σ x v' → σ'.ω j = v' ∧ v'.oneCell' = true
section
variable {σ : Rn} {ρ : Nat → Nat} {n : Nat} {θ ζ : Nat → Option Value} {ω : Nat → Value}
theorem mvs_sound {f : Value → Value → Bool} {σ' : Rn} (hf : ∀ u v v', f u v = true → VR σ v v' → VR σ' u v') : ∀ {x y y' : List Value}, mvs f x y = true → VRs σ y y' → VRs σ' x y'
  | [], [], y', h, hv => by cases hv; exact .nil
  | u :: r, v :: s, y', h, hv => by
    simp only [mvs, Bool.and_eq_true] at h
    cases hv with
    | cons h1 h2 => exact .cons (hf _ _ _ h.1 h1) (mvs_sound hf h.2 h2)
  | [], v :: s, y', h, hv => by cases h
  | u :: r, [], y', h, hv => by cases h
theorem oneV_one {v v' : Value} (h : oneV v = true) (hv : VR σ v v') : v'.oneCell' = true := by
  cases hv <;> first | rfl | (cases h; done) | assumption
theorem mv_sound (hV : VarOk σ (ren σ ρ n ω) θ ζ) : ∀ (k : Nat) (u v v' : Value), mv θ ζ ρ n k u v = true → VR σ v v' → VR (ren σ ρ n ω) u v'
  | 0, u, v, v', h, hv => by cases h
  | k + 1, u, v, v', h, hv => by
    have ih := mv_sound hV k
    unfold mv at h
    split at h
    · exact .wild (oneV_one h hv)
    · obtain ⟨q1, q2⟩ := hV.into _ _ _ (eqO_eq h) hv
      exact .var q1 q2
    · have q := hV.out _ _ (eqO_eq h)
      cases hv with
      | var e _ => rw [← e]; exact q
    · rename_i a b
      simp only [Bool.and_eq_true, nbeq, nblt, decide_eq_true_eq] at h
      obtain ⟨⟨⟨h1, h2⟩, h3⟩, h4⟩ := h
      cases hv with
      | ptr q =>
        rw [← h3, ← h4]
        refine .ptr (a := a) ?_
        show (if a.block < n then σ (ρ a.block) else none) = _
        rw [if_pos h2, h1]
        exact q
    · rename_i a l c b l' c'
      simp only [Bool.and_eq_true, nbeq, nblt, decide_eq_true_eq] at h
      obtain ⟨⟨⟨⟨⟨⟨h1, h2⟩, h5⟩, h3⟩, h4⟩, h6⟩, h7⟩ := h
      cases hv with
      | slice q1 q2 q3 =>
        rw [← h3, ← h4, h6, h7]
        refine .slice (a := a) ?_ q2 ?_
        · show (if a.block < n then σ (ρ a.block) else none) = _
          rw [if_pos h2, h1]
          exact q1
        · show capR (σ.κ (ρ a.block)) _ _
          rw [h1]; exact q3
      | junk a c => simp [JUNK] at h5
    · rename_i a b
      simp only [Bool.and_eq_true, nbeq, nblt, decide_eq_true_eq] at h
      cases hv with
      | map q =>
        refine .map ?_
        show (if a < n then σ (ρ a) else none) = _
        rw [if_pos h.2, h.1]
        exact q
    · rename_i g x y g' x' y'
      simp only [Bool.and_eq_true, nbeq, decide_eq_true_eq] at h
      obtain ⟨⟨h1, h2⟩, h3⟩ := h
      subst h1
      generalize hz : Value.func (.func g) x' y' = z at hv
      cases hv <;> cases hz
      rename_i q1 q2
      exact .func g (mvs_sound ih h2 (by simpa using q1)) (mvs_sound ih h3 (by simpa using q2))
    · rename_i t u t' v
      simp only [Bool.and_eq_true, nbeq, decide_eq_true_eq] at h
      obtain ⟨rfl, h2⟩ := h
      cases hv with
      | iface _ q => exact .iface t (ih _ _ _ h2 q)
    · rename_i x y
      generalize hz : Value.agg y = z at hv
      cases hv <;> cases hz
      rename_i q1
      exact .agg (mvs_sound ih h (by simpa using q1))
    · obtain ⟨rfl, h2⟩ := eqP_eq h
      rw [VR.plain1 h2 hv]
      exact VR.of_plain1 h2
end
end Go.Proofs.YtejebgdikoehmaaGreatDoor
/- Full states: other names for objects. -/
namespace Go.Proofs.YtejebgdikoehmaaGreatDoor
open Go Go.RowKit
set_option linter.unusedVariables false
set_option linter.unusedSimpArgs false
/-- One object is another under other names, perhaps less told. -/
def MO (θ ζ : Nat → Option Value) (ρ : Nat → Nat) (n : Nat) (u o : SObj) : Prop := ∀ σ ω k ob, VarOk σ (ren σ ρ n ω) θ ζ → OR σ k o ob → OR (ren σ ρ n ω) k u ob
def mes (f : Value → Value → Bool) : List MapEntry → List MapEntry → Bool
  | [], [] => true
  | u :: r, v :: s => eqP u.key v.key && f u.val v.val && decide (u.born = v.born) && mes f r s
  | _, _ => false
def mo (θ ζ : Nat → Option Value) (ρ : Nat → Nat) (n : Nat) (u o : SObj) : Bool := match u, o with
  | .cells c e lo hi op, .cells c' e' lo' hi' op' => mvs (mv θ ζ ρ n 9) c c' && Nat.beq e e' && Nat.beq lo lo' && Nat.beq hi hi' && Nat.beq op op'
  | .map es k, .map es' k' => mes (mv θ ζ ρ n 9) es es' && Nat.beq k k'
  | _, _ => false
theorem mes_sound {σ σ' : Rn} {f : Value → Value → Bool} (hf : ∀ u v v', f u v = true → VR σ v v' → VR σ' u v') : ∀ {x y y' : List MapEntry}, mes f x y = true → MRs σ y y' → MRs σ' x y'
  | [], [], y', h, hv => by cases hv; exact .nil
  | u :: r, v :: s, y', h, hv => by
    simp only [mes, Bool.and_eq_true, decide_eq_true_eq] at h
    obtain ⟨⟨⟨h1, h2⟩, h3⟩, h4⟩ := h
    cases hv with
    | cons q1 q2 =>
      have e := (eqP_eq h1).1
      exact .cons ⟨by rw [e]; exact q1.key, by rw [e]; exact q1.pl, hf _ _ _ h2 q1.val, by rw [h3]; exact q1.born⟩ (mes_sound hf h4 q2)
  | [], v :: s, y', h, hv => by cases h
  | u :: r, [], y', h, hv => by cases h
theorem mvs_len {f : Value → Value → Bool} : ∀ {x y : List Value}, mvs f x y = true → x.length = y.length
  | [], [], h => rfl
  | u :: r, v :: s, h => by simp only [mvs, Bool.and_eq_true] at h; simp [mvs_len h.2]
  | [], v :: s, h => by cases h
  | u :: r, [], h => by cases h
theorem mo_sound {θ ζ : Nat → Option Value} {ρ : Nat → Nat} {n : Nat} {u o : SObj} (h : mo θ ζ ρ n u o = true) : MO θ ζ ρ n u o := by
  intro σ ω k ob hV hO
  unfold mo at h
  split at h
  · simp only [Bool.and_eq_true, nbeq, decide_eq_true_eq] at h
    obtain ⟨⟨⟨⟨h1, rfl⟩, rfl⟩, rfl⟩, rfl⟩ := h
    have hl := mvs_len h1
    cases hO with
    | cells q1 q2 q3 =>
      refine .cells ?_ (by rw [hl]; exact q2) q3
      rw [hl]
      exact mvs_sound (fun u v v' => mv_sound hV 9 u v v') h1 q1
  · simp only [Bool.and_eq_true, nbeq, decide_eq_true_eq] at h
    obtain ⟨h1, rfl⟩ := h
    cases hO with
    | map q1 => exact .map (mes_sound (fun u v v' => mv_sound hV 9 u v v') h1 q1)
  · cases h
/-- OTHER NAMES, LESS TOLD. -/
theorem WF.ren {σ : Rn} {H H' : Nat → Option SObj} {n n' : Nat} {w : World} {ρ : Nat → Nat} {ω : Nat → Value} (h : WF σ H n w) (hn : n' ≤ 1000000)
    (hH : ∀ i u, H' i = some u → i < n' ∧ ∃ o, H (ρ i) = some o ∧ ∀ b ob, σ (ρ i) = some b → w.heap[b]? = some ob → OR σ (σ.κ (ρ i)) o ob → OR (Go.Proofs.YtejebgdikoehmaaGreatDoor.ren σ ρ n' ω) (σ.κ (ρ i)) u ob) (hρ : ∀ i j u v, H' i = some u → H' j = some v → ρ i = ρ j → i = j) : WF (Go.Proofs.YtejebgdikoehmaaGreatDoor.ren σ ρ n' ω) H' n' w := by
  have hm : ∀ i, i < n' → (Go.Proofs.YtejebgdikoehmaaGreatDoor.ren σ ρ n' ω) i = σ (ρ i) := fun i hi => if_pos hi
  have hx : ∀ i b, (Go.Proofs.YtejebgdikoehmaaGreatDoor.ren σ ρ n' ω) i = some b → i < n' ∧ σ (ρ i) = some b := by
    intro i b q
    by_cases c : i < n'
    · exact ⟨c, (hm i c).symm.trans q⟩
    · have : (Go.Proofs.YtejebgdikoehmaaGreatDoor.ren σ ρ n' ω) i = none := if_neg c
      rw [this] at q; cases q
  refine ⟨hn, fun i b q => (hx i b q).1, fun i b q => h.bnd _ b (hx i b q).2, ?_, ?_⟩
  · intro i u q
    obtain ⟨h1, o, h2, h3⟩ := hH i u q
    obtain ⟨b, ob, g1, g2, g3⟩ := h.obj _ o h2
    exact ⟨b, ob, (hm i h1).trans g1, g2, h3 b ob g1 g2 g3⟩
  · intro i j b u v q1 q2 s1 s2
    obtain ⟨_, o, g1, _⟩ := hH i u q1
    obtain ⟨_, o2, g2, _⟩ := hH j v q2
    exact hρ i j u v q1 q2 (h.inj _ _ b o o2 g1 g2 (hx i b s1).2 (hx j b s2).2)
end Go.Proofs.YtejebgdikoehmaaGreatDoor
/- Full states: what a value mentions; cells that are hidden behind vars. -/
namespace Go.Proofs.YtejebgdikoehmaaGreatDoor
open Go Go.RowKit
set_option linter.unusedVariables false
set_option linter.unusedSimpArgs false
/-- No vars, and only such ids. -/
def okV (p : Nat → Bool) : Nat → Value → Bool
  | 0, _ => false
  | k + 1, v => match v with
    | .chan (some 0) => true
    | .chan (some (_ + 1)) => false
    | .pointer (some a) => p a.block
    | .slice (some a) _ _ => p a.block
    | .map (some r) => p r
    | .func (.func _) x y => x.toList.all (okV p k) && y.toList.all (okV p k)
    | .iface _ u => okV p k u
    | .agg x => x.toList.all (okV p k)
    | v => eqP v v
def okO (p : Nat → Bool) : SObj → Bool
  | .cells c _ _ _ _ => c.all (okV p 9)
  | .map es _ => es.all fun e => eqP e.key e.key && okV p 9 e.val
section
variable {σ : Rn} {ρ : Nat → Nat} {n : Nat} {θ ζ : Nat → Option Value} {ω : Nat → Value} {p : Nat → Bool}
theorem mvs_refl {f : Value → Value → Bool} {g : Value → Bool} (hf : ∀ v, g v = true → f v v = true) : ∀ {l : List Value}, l.all g = true → mvs f l l = true
  | [], h => rfl
  | v :: r, h => by
    rw [List.all_cons, Bool.and_eq_true] at h
    simp only [mvs, Bool.and_eq_true]
    exact ⟨hf v h.1, mvs_refl hf h.2⟩
theorem okV_mv (hp : ∀ i, p i = true → ρ i = i ∧ i < n ∧ i < 1000000) : ∀ (k : Nat) (v : Value), okV p k v = true → mv θ ζ ρ n k v v = true
  | 0, v, h => by cases h
  | k + 1, v, h => by
    have ih := okV_mv hp k
    unfold okV at h
    split at h
    · rfl
    · cases h
    · rename_i a
      obtain ⟨h1, h2, h3⟩ := hp _ h
      simp only [mv, Bool.and_eq_true, nbeq, nblt, decide_eq_true_eq]
      exact ⟨⟨⟨h1, h2⟩, trivial⟩, trivial⟩
    · rename_i a l c
      obtain ⟨h1, h2, h3⟩ := hp _ h
      simp only [mv, Bool.and_eq_true, nbeq, nblt, decide_eq_true_eq]
      exact ⟨⟨⟨⟨⟨⟨h1, h2⟩, h3⟩, trivial⟩, trivial⟩, trivial⟩, trivial⟩
    · rename_i a
      obtain ⟨h1, h2, h3⟩ := hp _ h
      simp only [mv, Bool.and_eq_true, nbeq, nblt, decide_eq_true_eq]
      exact ⟨h1, h2⟩
    · rename_i g x y
      rw [Bool.and_eq_true] at h
      simp only [mv, Bool.and_eq_true, nbeq, decide_eq_true_eq]
      exact ⟨⟨trivial, mvs_refl ih h.1⟩, mvs_refl ih h.2⟩
    · rename_i t u
      simp only [mv, Bool.and_eq_true, nbeq, decide_eq_true_eq]
      exact ⟨trivial, ih u h⟩
    · rename_i x
      simp only [mv]
      exact mvs_refl ih h
    · rename_i n1 n2 n3 n4 n5 n6 n7 n8
      unfold mv
      split <;> first | exact h | (exfalso; first | exact n1 rfl | exact n2 _ rfl | exact n3 _ rfl | exact n4 _ _ _ rfl | exact n5 _ rfl | exact n6 _ _ _ rfl | exact n7 _ _ rfl | exact n8 _ rfl | simp_all)
theorem okO_MO {o : SObj} (hp : ∀ i, p i = true → ρ i = i ∧ i < n ∧ i < 1000000) (h : okO p o = true) : MO θ ζ ρ n o o := by
  apply mo_sound
  cases o with
  | cells c e lo hi op =>
    simp only [mo, Bool.and_eq_true, nbeq, decide_eq_true_eq]
    exact ⟨⟨⟨⟨mvs_refl (okV_mv hp 9) h, trivial⟩, trivial⟩, trivial⟩, trivial⟩
  | map es k =>
    simp only [mo, Bool.and_eq_true, nbeq, decide_eq_true_eq]
    refine ⟨?_, trivial⟩
    have h' : es.all (fun e => eqP e.key e.key && okV p 9 e.val) = true := h
    clear h
    induction es with
    | nil => rfl
    | cons e r ih =>
      rw [List.all_cons, Bool.and_eq_true, Bool.and_eq_true] at h'
      simp only [mes, Bool.and_eq_true, decide_eq_true_eq]
      exact ⟨⟨⟨h'.1.1, okV_mv hp 9 _ h'.1.2⟩, trivial⟩, ih h'.2⟩
theorem VarOk.non (σ σ' : Rn) : VarOk σ σ' (fun _ => none) (fun _ => none) := ⟨fun j x h => (by cases h), fun j x v' h => (by cases h)⟩
theorem okV_ren {x v : Value} (hp : ∀ i, p i = true → ρ i = i ∧ i < n ∧ i < 1000000) (h : okV p 9 x = true) (hv : VR σ x v) : VR (ren σ ρ n ω) x v :=
  mv_sound (VarOk.non _ _) 9 x x v (okV_mv hp 9 x h) hv
/-- Some cells are hidden behind vars. -/
def hideC : List (Option Nat) → List Value → List Value
  | _, [] => []
  | [], v :: r => v :: r
  | none :: js, v :: r => v :: hideC js r
  | some j :: js, v :: r => .chan (some (j + 1)) :: hideC js r
theorem hideC_len : ∀ (js : List (Option Nat)) (l : List Value), (hideC js l).length = l.length
  | _, [] => by simp [hideC]
  | [], v :: r => rfl
  | none :: js, v :: r => by simp [hideC, hideC_len js r]
  | some j :: js, v :: r => by simp [hideC, hideC_len js r]
theorem VR.one {v v' : Value} (h : oneV v = true) (hv : VR σ v v') : v'.oneCell' = true := oneV_one h hv
/-- What the vars stand for: the cells that they hide. -/
theorem hideC_in : ∀ (js : List (Option Nat)) (l l' : List Value), l.all (fun v => okV p 9 v && oneV v) = true → VRs σ l l' → (∀ (m j : Nat), (js[m]? : Option (Option Nat)) = some (some j) → ∀ v' : Value, (l'[m]? : Option Value) = some v' → ω j = v') → (∀ i, p i = true → ρ i = i ∧ i < n ∧ i < 1000000) → VRs (ren σ ρ n ω) (hideC js l) l'
  | js, [], l', _, hv, _, _ => by cases hv; simp [hideC]; exact .nil
  | [], v :: r, l', hl, hv, hj, hp => by
    rw [List.all_cons, Bool.and_eq_true, Bool.and_eq_true] at hl
    cases hv with
    | cons h1 h2 =>
      have := hideC_in [] r _ hl.2 h2 (fun m j q => by simp at q) hp
      cases r with
      | nil => exact .cons (okV_ren hp hl.1.1 h1) this
      | cons _ _ => exact .cons (okV_ren hp hl.1.1 h1) this
  | none :: js, v :: r, l', hl, hv, hj, hp => by
    rw [List.all_cons, Bool.and_eq_true, Bool.and_eq_true] at hl
    cases hv with
    | cons h1 h2 => exact .cons (okV_ren hp hl.1.1 h1) (hideC_in js r _ hl.2 h2 (fun m j q v' q' => hj (m + 1) j (by simpa using q) v' (by simpa using q')) hp)
  | some j :: js, v :: r, l', hl, hv, hj, hp => by
    rw [List.all_cons, Bool.and_eq_true, Bool.and_eq_true] at hl
    cases hv with
    | cons h1 h2 => exact .cons (.var (hj 0 j rfl _ rfl) (h1.one hl.1.2)) (hideC_in js r _ hl.2 h2 (fun m j q v' q' => hj (m + 1) j (by simpa using q) v' (by simpa using q')) hp)
/-- And back: what a var hides may be told again. -/
theorem hideC_out : ∀ (js : List (Option Nat)) (l : List Value), l.all (fun v => okV p 9 v) = true → (∀ (m j : Nat) (v : Value), (js[m]? : Option (Option Nat)) = some (some j) → (l[m]? : Option Value) = some v → θ j = some v ∧ eqD v v = true) → (∀ i, p i = true → ρ i = i ∧ i < n ∧ i < 1000000) → mvs (mv θ ζ ρ n 9) l (hideC js l) = true
  | js, [], _, _, _ => by simp [hideC, mvs]
  | [], v :: r, hl, _, hp => mvs_refl (okV_mv hp 9) hl
  | none :: js, v :: r, hl, hj, hp => by
    rw [List.all_cons, Bool.and_eq_true] at hl
    simp only [hideC, mvs, Bool.and_eq_true]
    exact ⟨okV_mv hp 9 v hl.1, hideC_out js r hl.2 (fun m j v q q' => hj (m + 1) j v (by simpa using q) (by simpa using q')) hp⟩
  | some j :: js, v :: r, hl, hj, hp => by
    rw [List.all_cons, Bool.and_eq_true] at hl
    simp only [hideC, mvs, Bool.and_eq_true]
    refine ⟨?_, hideC_out js r hl.2 (fun m j v q q' => hj (m + 1) j v (by simpa using q) (by simpa using q')) hp⟩
    obtain ⟨h1, h2⟩ := hj 0 j v rfl rfl
    have hn : ∀ k, v ≠ .chan (some (k + 1)) := fun k e => by rw [e] at hl; exact absurd hl.1 (by simp [okV])
    unfold mv
    split
    · rfl
    · rename_i k _ e; exact (hn _ rfl).elim
    · rename_i e
      cases e
      unfold eqO
      rw [h1]
      exact h2
    all_goals first | (rename_i e; cases e; done) | (exfalso; simp_all; done) | skip
    all_goals (exfalso; rename_i n1 n2; exact n2 _ rfl)
end
end Go.Proofs.YtejebgdikoehmaaGreatDoor
/- Full states: one step, known by a run on a part. -/
namespace Go.Proofs.YtejebgdikoehmaaGreatDoor
open Go Go.RowKit
set_option linter.unusedVariables false
set_option linter.unusedSimpArgs false
abbrev Part := List (Nat × SObj)
def lookP : Part → Nat → Option SObj
  | [], _ => none
  | (j, o) :: r, i => bif Nat.beq j i then some o else lookP r i
def ofP : Part → Tr SObj
  | [] => .nil
  | (j, o) :: r => (ofP r).put 24 j (some o)
def keysOk (n : Nat) : Part → Bool
  | [] => true
  | p :: r => Nat.blt p.1 n && keysOk n r
theorem ofP_get {n : Nat} (hn : n ≤ 1000000) : ∀ {P : Part}, keysOk n P = true → ∀ i, (ofP P).get i = lookP P i
  | [], _, i => get_nil i
  | (j, o) :: r, h, i => by
    simp only [keysOk, Bool.and_eq_true, nblt, decide_eq_true_eq] at h
    have ih := ofP_get hn (P := r) h.2 i
    show ((ofP r).put 24 j (some o)).get i = bif Nat.beq j i then some o else lookP r i
    rw [Tr.get_put 24 _ _ _ _ (bnd24 (by omega)), nbeq]
    by_cases c : i = j
    · subst c; simp
    · rw [if_neg c, decide_eq_false (fun e => c e.symm)]; exact ih
theorem lookP_lt {n : Nat} : ∀ {P : Part}, keysOk n P = true → ∀ i o, lookP P i = some o → i < n
  | [], _, i, o, q => by cases q
  | (j, u) :: r, h, i, o, q => by
    simp only [keysOk, Bool.and_eq_true, nblt, decide_eq_true_eq] at h
    simp only [lookP, nbeq] at q
    by_cases c : j = i
    · omega
    · rw [decide_eq_false c] at q; exact lookP_lt (P := r) h.2 i o q
/-- Names by a list. -/
def renL : List (Nat × Nat) → Nat → Nat
  | [], i => i
  | (j, k) :: r, i => bif Nat.beq j i then k else renL r i
def srcs (l : List (Nat × Nat)) : List Nat := l.map (·.1)
theorem renL_id : ∀ {l : List (Nat × Nat)} {i : Nat}, i ∉ srcs l → renL l i = i
  | [], i, h => rfl
  | (j, k) :: r, i, h => by
    have h1 : j ≠ i := fun e => h (by simp [srcs, e])
    have h2 : i ∉ srcs r := fun e => h (by simp only [srcs, List.map_cons, List.mem_cons]; exact .inr e)
    simp only [renL, nbeq, decide_eq_false h1, cond_false]
    exact renL_id h2
end Go.Proofs.YtejebgdikoehmaaGreatDoor
/- Full states: the check of one step. -/
namespace Go.Proofs.YtejebgdikoehmaaGreatDoor
open Go Go.RowKit
set_option linter.unusedVariables false
set_option linter.unusedSimpArgs false
/-- New names are new and differ. -/
def newOk (N : Nat) : List (Nat × Nat) → Bool
  | [] => true
  | (j, k) :: r => Nat.ble N k && !(r.any fun p => Nat.beq p.1 j || Nat.beq p.2 k) && newOk N r
def idV : Nat → Option Value := fun j => some (.chan (some (j + 1)))
def chkO (l : List (Nat × Nat)) (N : Nat) (P : Part) (S' : St) : Part → Bool
  | [] => true
  | (i, u) :: r => ((lookP P (renL l i)).isSome || Nat.ble N (renL l i)) && (match S'.h.get (renL l i) with | some o => mo (fun _ => none) idV (renL l) N u o | none => false) && chkO l N P S' r
/-- The target's keys hold what is renamed. -/
def srcOk (P' : Part) (l : List (Nat × Nat)) : Bool := l.all fun p => (lookP P' p.1).isSome
def stepOk (callF : CallF) (f : FuncId) (args : List Value) (P P' : Part) (l : List (Nat × Nat)) (N : Nat) (vok : Value → Bool) : Bool :=
  keysOk N P && keysOk N P' && newOk N l && srcOk P' l && (match callF f args ⟨ofP P, N⟩ with
    | some (v, S') => chkO l N P S' P' && vok v
    | none => false)
theorem newOk_inj {N : Nat} : ∀ {l : List (Nat × Nat)}, newOk N l = true → ∀ i j, i < N → j < N → renL l i = renL l j → i = j
  | [], _, i, j, hi, hj, e => e
  | (a, k) :: r, h, i, j, hi, hj, e => by
    simp only [newOk, Bool.and_eq_true, Bool.not_eq_true', nble, decide_eq_true_eq] at h
    obtain ⟨⟨h1, h2⟩, h3⟩ := h
    have hk : ∀ m, m < N → a ≠ m → renL r m ≠ k := by
      intro m hm hne e'
      by_cases c : m ∈ srcs r
      · have : ∀ {r : List (Nat × Nat)}, m ∈ srcs r → (r.any fun p => Nat.beq p.1 a || Nat.beq p.2 k) = false → renL r m ≠ k := by
          intro r
          induction r with
          | nil => intro c; cases c
          | cons p r ih =>
            obtain ⟨x, y⟩ := p
            intro c h2
            simp only [List.any_cons, Bool.or_eq_false_iff] at h2
            simp only [renL, nbeq]
            by_cases e1 : x = m
            · rw [decide_eq_true e1, cond_true]
              intro e2
              have := h2.1.2
              rw [nbeq, decide_eq_false_iff_not] at this
              exact this e2
            · rw [decide_eq_false e1, cond_false]
              refine ih ?_ h2.2
              simp only [srcs, List.map_cons, List.mem_cons] at c
              exact c.resolve_left (fun q => e1 q.symm)
        exact this c h2 e'
      · rw [renL_id c] at e'
        omega
    simp only [renL, nbeq] at e
    by_cases c1 : a = i
    · by_cases c2 : a = j
      · omega
      · rw [decide_eq_true c1, decide_eq_false c2, cond_true, cond_false] at e
        exact (hk j hj c2 e.symm).elim
    · by_cases c2 : a = j
      · rw [decide_eq_false c1, decide_eq_true c2, cond_true, cond_false] at e
        exact (hk i hi c1 e).elim
      · rw [decide_eq_false c1, decide_eq_false c2, cond_false, cond_false] at e
        exact newOk_inj h3 i j hi hj e
end Go.Proofs.YtejebgdikoehmaaGreatDoor
/- Full states: the check of one step is right. -/
namespace Go.Proofs.YtejebgdikoehmaaGreatDoor
open Go Go.RowKit
set_option linter.unusedVariables false
set_option linter.unusedSimpArgs false
/-- What a step makes of a full state. -/
def newH (H : Nat → Option SObj) (P P' : Part) : Nat → Option SObj := fun i => match lookP P' i with
  | some u => some u
  | none => if (lookP P i).isSome then none else H i
def owns (σ : Rn) (H : Nat → Option SObj) (b : Nat) : Prop := ∃ i o, H i = some o ∧ σ i = some b
theorem chkO_get {l : List (Nat × Nat)} {N : Nat} {P : Part} {S' : St} : ∀ {P' : Part}, chkO l N P S' P' = true → ∀ i u, lookP P' i = some u →
    ((lookP P (renL l i)).isSome = true ∨ N ≤ renL l i) ∧ ∃ o, S'.h.get (renL l i) = some o ∧ mo (fun _ => none) idV (renL l) N u o = true
  | [], h, i, u, q => by cases q
  | (j, x) :: r, h, i, u, q => by
    simp only [chkO, Bool.and_eq_true] at h
    obtain ⟨⟨h1, h2⟩, h3⟩ := h
    simp only [lookP, nbeq] at q
    by_cases c : j = i
    · subst c
      rw [decide_eq_true rfl, cond_true] at q
      cases q
      simp only [Bool.or_eq_true, nble, decide_eq_true_eq] at h1
      refine ⟨h1, ?_⟩
      cases e : S'.h.get (renL l j) with
      | none => rw [e] at h2; cases h2
      | some o => rw [e] at h2; exact ⟨o, rfl, h2⟩
    · rw [decide_eq_false c, cond_false] at q
      exact chkO_get h3 i u q
theorem ren_id {σ : Rn} {H : Nat → Option SObj} {n i b : Nat} {w : World} {ω : Nat → Value} (h : WF σ H n w) : (ren σ id n ω) i = some b ↔ σ i = some b := by
  show (if i < n then σ (id i) else none) = some b ↔ _
  constructor
  · intro q
    split at q
    · exact q
    · cases q
  · intro q
    rw [if_pos (h.dom i b q)]
    exact q
theorem UponR.mono {P : Program} {R R' : Value → World → Prop} {r : Result Next} (h : UponR P R r) (hr : ∀ v w, R v w → R' v w) : UponR P R' r := by
  unfold UponR at *
  split at h
  · exact hr _ _ h
  · exact hr _ _ h
  · exact h.mono fun e w' ⟨v, h1, h2⟩ => ⟨v, h1, hr _ _ h2⟩
  · exact h.elim
def undefω : Nat → Value := fun _ => undef
/-- Ids that stay: below N, no name that is given anew. -/
def kept (N : Nat) (l : List (Nat × Nat)) : Nat → Bool := fun i => Nat.blt i N && !(l.any fun p => Nat.beq p.1 i)
theorem kept_spec {N : Nat} {l : List (Nat × Nat)} {i : Nat} (h : kept N l i = true) : i < N ∧ renL l i = i := by
  simp only [kept, Bool.and_eq_true, nblt, decide_eq_true_eq, Bool.not_eq_true'] at h
  refine ⟨h.1, renL_id fun hi => ?_⟩
  simp only [srcs, List.mem_map] at hi
  obtain ⟨q, h1, h2⟩ := hi
  have := List.any_eq_false.1 h.2 q h1
  rw [nbeq, decide_eq_true_eq] at this
  exact this h2
theorem WF.obj_of {σ : Rn} {H : Nat → Option SObj} {n i b : Nat} {w : World} {o : SObj} {ob : Obj} (h : WF σ H n w) (hi : H i = some o) (hb : σ i = some b) (hw : w.heap[b]? = some ob) : OR σ (σ.κ i) o ob := by
  obtain ⟨b', o', h1, h2, h3⟩ := h.obj i o hi
  rw [hb] at h1
  cases h1
  rw [hw] at h2
  cases h2
  exact h3
set_option maxRecDepth 100000 in
/-- ONE STEP: known by a run on a part, the rest stays. -/
theorem stepOk_sound {callF : CallF} (hC : CallOk E0.P callF) {f : FuncId} {args : List Value} {P P' : Part} {l : List (Nat × Nat)} {N : Nat} {vok : Value → Bool} (hN : N ≤ 1000000) (hs : stepOk callF f args P P' l N vok = true)
    {σ : Rn} {H H' : Nat → Option SObj} {w : World} {args' : List Value} {ω : Nat → Value} {ζ : Nat → Option Value} (hW : WF σ H N w)
    (hζ : ∀ j x, ζ j = some x → VR σ x (ω j) ∧ okV (kept N l) 9 x = true)
    (hP : ∀ i o, lookP P i = some o → ∃ oH, H i = some oH ∧ ∀ b ob, σ i = some b → w.heap[b]? = some ob → OR σ (σ.κ i) oH ob → OR (ren σ id N ω) (σ.κ i) o ob)
    (hR : ∀ i o, H i = some o → lookP P i = none → lookP P' i = none ∧ okO (kept N l) o = true)
    (hH' : ∀ i u, H' i = some u → (∃ uv, lookP P' i = some uv ∧ MO ζ (fun _ => none) id N u uv) ∨ (lookP P' i = none ∧ lookP P i = none ∧ H i = some u))
    (hv : VRs (ren σ id N ω) args args') :
    UponR E0.P (fun v' w' => (∃ σ1 v, vok v = true ∧ VR σ1 v v') ∧ Fr (owns σ H) w w' ∧ ∃ σ', WF σ' H' N w' ∧ (∀ b, owns σ' H' b → owns σ H b ∨ w.heap.size ≤ b) ∧ ∀ i b, i ∉ srcs l → σ i = some b → σ' i = some b) ((callFunc f args'.toArray).run E0.P w) := by
  simp only [stepOk, Bool.and_eq_true] at hs
  obtain ⟨⟨⟨⟨k1, k2⟩, k3⟩, k4⟩, k5⟩ := hs
  split at k5
  case h_2 => cases k5
  rename_i v S' hrun
  simp only [Bool.and_eq_true] at k5
  obtain ⟨k5, k6⟩ := k5
  have pid : ∀ i, kept N l i = true → id i = i ∧ i < N ∧ i < 1000000 := fun i h => ⟨rfl, (kept_spec h).1, by have := (kept_spec h).1; omega⟩
  have pren : ∀ i, kept N l i = true → renL l i = i ∧ i < N ∧ i < 1000000 := fun i h => ⟨(kept_spec h).2, (kept_spec h).1, by have := (kept_spec h).1; omega⟩
  -- vars in
  obtain ⟨HP, hHP⟩ : ∃ HP : Nat → Option SObj, HP = fun i => match lookP P i with | some o => some o | none => H i := ⟨_, rfl⟩
  have hHPp : ∀ i o, lookP P i = some o → HP i = some o := fun i o q => by rw [hHP]; simp only [q]
  have hHPr : ∀ i, lookP P i = none → HP i = H i := fun i q => by rw [hHP]; simp only [q]
  have hHPs : ∀ i o, HP i = some o → ∃ oH, H i = some oH := by
    intro i o q
    cases e : lookP P i with
    | some u => obtain ⟨oH, h1, _⟩ := hP i u e; exact ⟨oH, h1⟩
    | none => rw [hHPr i e] at q; exact ⟨o, q⟩
  have hlt : ∀ i o, H i = some o → i < N := fun i o q => by
    obtain ⟨b, _, h1, _⟩ := hW.obj i o q
    exact hW.dom i b h1
  have w1 : WF (ren σ id N ω) HP N w := by
    refine WF.ren hW hN (fun i u q => ?_) (fun i j _ _ _ _ e => e)
    cases e : lookP P i with
    | some o =>
      obtain ⟨oH, h1, h2⟩ := hP i o e
      rw [hHPp i o e] at q
      cases q
      exact ⟨hlt i oH h1, oH, h1, h2⟩
    | none =>
      rw [hHPr i e] at q
      exact ⟨hlt i u q, u, q, fun b ob _ _ h => okO_MO (θ := fun _ => none) (ζ := fun _ => none) pid (hR i u q e).2 σ ω _ ob (VarOk.non _ _) h⟩
  have hT : ∀ i o, (ofP P).get i = some o → HP i = some o := fun i o q => hHPp i o (by rw [← ofP_get hN k1]; exact q)
  have hown0 : ∀ b, Own (ren σ id N ω) ⟨ofP P, N⟩ b → owns σ H b := by
    rintro b ⟨i, o, h1, h2⟩
    obtain ⟨oH, h3⟩ := hHPs i o (hT i o h1)
    exact ⟨i, oH, h3, (ren_id hW).1 h2⟩
  refine (hC f args _ v S' _ w args' hrun (w1.part hT) hv).mono ?_
  rintro v' w' ⟨σ', q1, q2⟩
  refine ⟨⟨σ', v, k6, q1⟩, q2.fr.mono fun b _ h => hown0 b h, ?_⟩
  have w2 := w1.step hT q2
  -- other names
  have hsrc : ∀ i, i ∈ srcs l → ∃ u, lookP P' i = some u := by
    intro i hi
    simp only [srcs, List.mem_map] at hi
    obtain ⟨p, h1, rfl⟩ := hi
    have := List.all_eq_true.1 k4 p h1
    exact Option.isSome_iff_exists.1 this
  have hold : ∀ i b, σ i = some b → σ' i = some b ∧ σ'.κ i = σ.κ i := fun i b q => q2.le i b ((ren_id hW).2 q)
  have eω : σ'.ω = ω := q2.le.ω
  have hVO : VarOk σ' (ren σ' (renL l) N ω) (fun _ => none) idV := by
    refine ⟨fun j x h => (by cases h), fun j x v' hj hv' => ?_⟩
    cases hj
    cases hv' with
    | var e h => exact ⟨by rw [← eω]; exact e, h⟩
  have hnew : ∀ i u, newH H P P' i = some u → (lookP P' i = some u) ∨ (lookP P' i = none ∧ lookP P i = none ∧ H i = some u) := by
    intro i u q
    unfold newH at q
    cases e : lookP P' i with
    | some o => rw [e] at q; left; exact q
    | none =>
      rw [e] at q
      right
      cases e2 : lookP P i with
      | some o => simp [e2] at q
      | none => simp [e2] at q; exact ⟨rfl, rfl, q⟩
  have hrest : ∀ i, lookP P' i = none → renL l i = i := fun i q => renL_id fun hi => by
    obtain ⟨u, h⟩ := hsrc i hi
    rw [q] at h; cases h
  have w3 : WF (ren σ' (renL l) N ω) (newH H P P') N w' := by
    refine WF.ren w2 hN (fun i u q => ?_) (fun i j u v q1 q2 e => ?_)
    · rcases hnew i u q with q | ⟨q, q', q''⟩
      · obtain ⟨h1, o, h2, h3⟩ := chkO_get k5 i u q
        refine ⟨lookP_lt k2 i u q, o, ?_, fun b ob _ _ h => mo_sound h3 _ _ _ _ hVO h⟩
        unfold joined
        have : (((ofP P).get (renL l i)).isSome || decide (N ≤ renL l i)) = true := by
          rw [ofP_get hN k1]
          rcases h1 with h1 | h1
          · rw [h1]; rfl
          · rw [decide_eq_true h1, Bool.or_true]
        rw [if_pos this]
        exact h2
      · refine ⟨hlt i u q'', u, ?_, fun b ob _ _ h => okO_MO (θ := fun _ => none) (ζ := fun _ => none) pren (hR i u q'' q').2 _ _ _ ob (VarOk.non _ _) h⟩
        rw [hrest i q]
        unfold joined
        have : ¬ (((ofP P).get i).isSome || decide (N ≤ i)) = true := by
          rw [ofP_get hN k1, q']
          have := hlt i u q''
          simp; omega
        rw [if_neg this, hHPr i q']
        exact q''
    · have hi : i < N := by
        rcases hnew i u q1 with q | ⟨_, _, q⟩
        · exact lookP_lt k2 i u q
        · exact hlt i u q
      have hj : j < N := by
        rcases hnew j v q2 with q | ⟨_, _, q⟩
        · exact lookP_lt k2 j v q
        · exact hlt j v q
      exact newOk_inj k3 i j hi hj e
  have hown3 : ∀ b, owns (ren σ' (renL l) N ω) (newH H P P') b → owns σ H b ∨ w.heap.size ≤ b := by
    rintro b ⟨i, u, h1, h2⟩
    have h2 : (if i < N then σ' (renL l i) else none) = some b := h2
    split at h2
    case isFalse => cases h2
    rcases hnew i u h1 with q | ⟨q, q', q''⟩
    · obtain ⟨g1, o, g2, g3⟩ := chkO_get k5 i u q
      rcases q2.own b ⟨_, o, g2, h2⟩ with k | k
      · exact .inl (hown0 b k)
      · exact .inr k
    · rw [hrest i q] at h2
      obtain ⟨b2, _, f1, _⟩ := hW.obj i u q''
      have := (hold i b2 f1).1
      rw [h2] at this
      cases this
      exact .inl ⟨i, u, q'', f1⟩
  -- vars out
  have hsub : ∀ i u, H' i = some u → ∃ o, newH H P P' i = some o ∧ MO ζ (fun _ => none) id N u o := by
    intro i u q
    rcases hH' i u q with ⟨uv, h1, h2⟩ | ⟨h1, h2, h3⟩
    · exact ⟨uv, by unfold newH; rw [h1], h2⟩
    · exact ⟨u, by unfold newH; rw [h1, h2]; exact h3, okO_MO pid (hR i u h3 h2).2⟩
  have hVO2 : VarOk (ren σ' (renL l) N ω) (ren (ren σ' (renL l) N ω) id N undefω) ζ (fun _ => none) := by
    refine ⟨fun j x hj => ?_, fun j x v' h => (by cases h)⟩
    obtain ⟨h1, h2⟩ := hζ j x hj
    have h3 : VR (ren σ id N ω) x (ω j) := okV_ren pid h2 h1
    have h4 : VR σ' x (ω j) := h3.mono q2.le
    have h5 : VR (ren σ' (renL l) N ω) x (ω j) := okV_ren pren h2 h4
    exact okV_ren pid h2 h5
  refine ⟨ren (ren σ' (renL l) N ω) id N undefω, WF.ren w3 hN (fun i u q => ?_) (fun i j _ _ _ _ e => e), ?_, ?_⟩
  · obtain ⟨o, h1, h2⟩ := hsub i u q
    obtain ⟨b, _, f1, _⟩ := w3.obj i o h1
    exact ⟨w3.dom i b f1, o, h1, fun b ob _ _ h => h2 _ _ _ _ hVO2 h⟩
  · rintro b ⟨i, u, h1, h2⟩
    obtain ⟨o, g1, _⟩ := hsub i u h1
    exact hown3 b ⟨i, o, g1, (ren_id w3).1 h2⟩
  · intro i b hns hi
    have hiN := hW.dom i b hi
    show (if i < N then (if i < N then σ' (renL l i) else none) else none) = some b
    rw [if_pos hiN, if_pos hiN, renL_id hns]
    exact (hold i b hi).1
end Go.Proofs.YtejebgdikoehmaaGreatDoor
/- Four clients, four workers: how the server lies in memory, by a small state. -/
namespace Go.Proofs.YtejebgdikoehmaaGreatDoor
open Go Go.RowKit
set_option linter.unusedVariables false
set_option linter.unusedSimpArgs false
theorem okV_mono {p q : Nat → Bool} (hpq : ∀ i, p i = true → q i = true) : ∀ (k : Nat) (v : Value), okV p k v = true → okV q k v = true
  | 0, v, h => by cases h
  | k + 1, v, h => by
    have ih := okV_mono hpq k
    unfold okV at h ⊢
    split at h
    · rfl
    · cases h
    · exact hpq _ h
    · exact hpq _ h
    · exact hpq _ h
    · rw [Bool.and_eq_true] at h ⊢
      exact ⟨List.all_eq_true.2 fun x hx => ih x (List.all_eq_true.1 h.1 x hx), List.all_eq_true.2 fun x hx => ih x (List.all_eq_true.1 h.2 x hx)⟩
    · exact ih _ h
    · exact List.all_eq_true.2 fun x hx => ih x (List.all_eq_true.1 h x hx)
    · exact h
theorem okO_mono {p q : Nat → Bool} (hpq : ∀ i, p i = true → q i = true) {o : SObj} (h : okO p o = true) : okO q o = true := by
  cases o with
  | cells c e lo hi op => exact List.all_eq_true.2 fun x hx => okV_mono hpq 9 x (List.all_eq_true.1 h x hx)
  | map es k =>
    refine List.all_eq_true.2 fun x hx => ?_
    have := List.all_eq_true.1 h x hx
    rw [Bool.and_eq_true] at this ⊢
    exact ⟨this.1, okV_mono hpq 9 _ this.2⟩
theorem lookP_append (P Q : Part) (i : Nat) : lookP (P ++ Q) i = match lookP P i with | some o => some o | none => lookP Q i := by
  induction P with
  | nil => rfl
  | cons p r ih =>
    obtain ⟨j, o⟩ := p
    simp only [List.cons_append, lookP, nbeq]
    by_cases h : j = i
    · rw [decide_eq_true h]; rfl
    · rw [decide_eq_false h]; exact ih
theorem lookP_mem {P : Part} {i : Nat} {o : SObj} (h : lookP P i = some o) : (i, o) ∈ P := by
  induction P with
  | nil => cases h
  | cons p r ih =>
    obtain ⟨j, u⟩ := p
    simp only [lookP, nbeq] at h
    by_cases e : j = i
    · subst e; rw [decide_eq_true rfl, cond_true] at h; cases h; exact List.mem_cons_self
    · rw [decide_eq_false e] at h; exact List.mem_cons_of_mem _ (ih h)
/-- The state, as the laws tell it apart: who is in whose hands; where each client stands (0 waits, 1 wants the stripe, 2 has it, 3 and 5 done, 4 and 6 answered; 5, 6: it won); who has the stripe; how many are done, who was first. -/
structure Abs where
  row : Nat → Option Nat
  st : Nat → Nat
  hold : Option Nat
  k : Nat
  win : Nat
def CID (c : Nat) : Nat := 700 + 50 * c
def cellR : Option Nat → Value
  | none => .pointer none
  | some c => .pointer (some ⟨CID c + 2, 0, none⟩)
def rowC (f : Nat → Option Nat) : List Value := [cellR (f 0), cellR (f 1), cellR (f 2), cellR (f 3)]
def strV : Option Nat → Value
  | none => .int .i64 (-1)
  | some w => .int .i64 w
def strC (x : Option Nat) : List Value := [strV x, .int .i64 (-1), .int .i64 (-1), .int .i64 (-1)]
/-- A law's own data: the store and what hangs on it; each client; the events' slot in the server. -/
structure Lay where
  B : Nat → Nat → Part
  C : Nat → Nat → Part
  ev : Nat → Nat → Value
def srvC : List Value := [.pointer (some ⟨3, 0, none⟩), .pointer (some ⟨4, 0, none⟩), .pointer (some ⟨5, 0, none⟩), .int .i64 1, .slice (some ⟨6, 0, none⟩) 4 1000000004, .slice (some ⟨0, 0, none⟩) 4 4, .slice (some ⟨1, 0, none⟩) 4 4]
def srvO (e : Value) : SObj := .cells (srvC ++ [e]) 59 0 0 0
def rowO (l : List Value) : SObj := .cells l 60 0 0 0
def strO (l : List Value) : SObj := .cells l 3 0 0 0
def crowO : SObj := .cells [.pointer (some ⟨700, 0, none⟩), .pointer (some ⟨750, 0, none⟩), .pointer (some ⟨800, 0, none⟩), .pointer (some ⟨850, 0, none⟩)] 44 0 0 1
/-- What lies in memory. -/
def Lay.H (L : Lay) (a : Abs) : Nat → Option SObj := fun i =>
  if i = 0 then some (rowO (rowC a.row))
  else if i = 1 then some (strO (strC a.hold))
  else if i = 2 then some (srvO (L.ev a.k a.win))
  else if i = 6 then some crowO
  else if i < 700 then lookP (L.B a.k a.win) i
  else if i < 900 then lookP (L.C ((i - 700) / 50) (a.st ((i - 700) / 50))) i
  else none
def inB : Nat → Bool := fun i => Nat.ble 3 i && Nat.blt i 700 && !(Nat.beq i 6)
def inC (c : Nat) : Nat → Bool := fun i => Nat.ble (CID c) i && Nat.blt i (CID c + 50)
def wfB (P : Part) : Bool := P.all fun p => inB p.1 && okO inB p.2
def wfC (c : Nat) (P : Part) : Bool := P.all fun p => inC c p.1 && okO (inC c) p.2
def evOk (v : Value) : Bool := okV inB 9 v && oneV v && eqD v v
theorem inB_iff {i : Nat} : inB i = true ↔ 3 ≤ i ∧ i < 700 ∧ i ≠ 6 := by
  simp [inB, nble, nblt, nbeq, and_assoc]
theorem inC_iff {c i : Nat} : inC c i = true ↔ CID c ≤ i ∧ i < CID c + 50 := by
  simp [inC, nble, nblt]
theorem wfB_look {P : Part} (h : wfB P = true) {i : Nat} {o : SObj} (q : lookP P i = some o) : inB i = true ∧ okO inB o = true := by
  have := List.all_eq_true.1 h _ (lookP_mem q)
  rwa [Bool.and_eq_true] at this
theorem wfC_look {c : Nat} {P : Part} (h : wfC c P = true) {i : Nat} {o : SObj} (q : lookP P i = some o) : inC c i = true ∧ okO (inC c) o = true := by
  have := List.all_eq_true.1 h _ (lookP_mem q)
  rwa [Bool.and_eq_true] at this
theorem wfB_none {P : Part} (h : wfB P = true) {i : Nat} (hi : inB i = false) : lookP P i = none := by
  cases e : lookP P i with
  | none => rfl
  | some o => rw [(wfB_look h e).1] at hi; cases hi
theorem wfC_none {c : Nat} {P : Part} (h : wfC c P = true) {i : Nat} (hi : inC c i = false) : lookP P i = none := by
  cases e : lookP P i with
  | none => rfl
  | some o => rw [(wfC_look h e).1] at hi; cases hi
theorem inC_of {c i : Nat} (hc : c < 4) (h : inC c i = true) : (i - 700) / 50 = c ∧ 700 ≤ i ∧ i < 900 := by
  rw [inC_iff] at h
  unfold CID at h
  omega
theorem H_row {L : Lay} {a : Abs} : L.H a 0 = some (rowO (rowC a.row)) := rfl
theorem H_str {L : Lay} {a : Abs} : L.H a 1 = some (strO (strC a.hold)) := rfl
theorem H_srv {L : Lay} {a : Abs} : L.H a 2 = some (srvO (L.ev a.k a.win)) := rfl
theorem H_crow {L : Lay} {a : Abs} : L.H a 6 = some crowO := rfl
theorem H_B {L : Lay} {a : Abs} {i : Nat} (h : inB i = true) : L.H a i = lookP (L.B a.k a.win) i := by
  rw [inB_iff] at h
  unfold Lay.H
  rw [if_neg (by omega), if_neg (by omega), if_neg (by omega), if_neg (by omega), if_pos (by omega)]
theorem H_C {L : Lay} {a : Abs} {c i : Nat} (hc : c < 4) (h : inC c i = true) : L.H a i = lookP (L.C c (a.st c)) i := by
  obtain ⟨h1, h2, h3⟩ := inC_of hc h
  unfold Lay.H
  rw [if_neg (by omega), if_neg (by omega), if_neg (by omega), if_neg (by omega), if_neg (by omega), if_pos (by omega), h1]
/-- All ids, by their region. -/
theorem H_cases {L : Lay} {a : Abs} {i : Nat} {o : SObj} (h : L.H a i = some o) : i = 0 ∨ i = 1 ∨ i = 2 ∨ i = 6 ∨ inB i = true ∨ ∃ c, c < 4 ∧ inC c i = true := by
  unfold Lay.H at h
  split at h
  · left; assumption
  split at h
  · right; left; assumption
  split at h
  · right; right; left; assumption
  split at h
  · right; right; right; left; assumption
  split at h
  · right; right; right; right; left; rw [inB_iff]; omega
  split at h
  · right; right; right; right; right
    refine ⟨(i - 700) / 50, by omega, ?_⟩
    rw [inC_iff]; unfold CID; omega
  · cases h
end Go.Proofs.YtejebgdikoehmaaGreatDoor
/- Four clients, four workers: a small step, known by a run on a part. -/
namespace Go.Proofs.YtejebgdikoehmaaGreatDoor
open Go Go.RowKit
set_option linter.unusedVariables false
set_option linter.unusedSimpArgs false
def jsR (w : Nat) : List (Option Nat) := [if w = 0 then none else some 0, if w = 1 then none else some 1, if w = 2 then none else some 2, if w = 3 then none else some 3]
def jsS : List (Option Nat) := [none, none, none, none, none, none, none, some 4]
def rowP (w : Nat) (x : Option Nat) : List Value := hideC (jsR w) [cellR x, cellR x, cellR x, cellR x]
theorem rowP_eq {w : Nat} (hw : w < 4) (f : Nat → Option Nat) : hideC (jsR w) (rowC f) = rowP w (f w) := by
  rcases (show w = 0 ∨ w = 1 ∨ w = 2 ∨ w = 3 by omega) with rfl | rfl | rfl | rfl <;> rfl
theorem srvP_eq (e : Value) : hideC jsS (srvC ++ [e]) = srvC ++ [.chan (some 5)] := rfl
theorem jsR_at {w m j : Nat} (h : (jsR w)[m]? = some (some j)) : j = m ∧ m < 4 ∧ m ≠ w := by
  unfold jsR at h
  match m with
  | 0 => simp at h; omega
  | 1 => simp at h; omega
  | 2 => simp at h; omega
  | 3 => simp at h; omega
  | m + 4 => simp at h
theorem jsS_at {m j : Nat} (h : jsS[m]? = some (some j)) : j = 4 ∧ m = 7 := by
  unfold jsS at h
  match m with
  | 0 => simp at h
  | 1 => simp at h
  | 2 => simp at h
  | 3 => simp at h
  | 4 => simp at h
  | 5 => simp at h
  | 6 => simp at h
  | 7 => simp at h; exact ⟨h.symm, rfl⟩
  | m + 8 => simp at h
/-- The stripes: told, or hidden. -/
def strP : Option (Option Nat) → List Value
  | none => [.chan (some 6), .int .i64 (-1), .int .i64 (-1), .int .i64 (-1)]
  | some h => strC h
def smallP (w : Nat) (x : Option Nat) (h : Option (Option Nat)) (cs : Part) : Part := (0, rowO (rowP w x)) :: (1, strO (strP h)) :: (2, .cells (srvC ++ [.chan (some 5)]) 59 0 0 0) :: (6, crowO) :: cs
noncomputable def smallOk (L : Lay) (w c st st' : Nat) (x x' : Option Nat) (h h' : Option (Option Nat)) (arg : Value) (l : List (Nat × Nat)) (vok : Value → Bool) : Bool :=
  l.all (fun p => inC c p.1) && stepOk callB 13 [.pointer (some ⟨2, 0, none⟩), .int .i64 w, arg] (smallP w x h (L.C c st)) (smallP w x' h' (L.C c st')) l 1000 vok
theorem smallP_look {w : Nat} {x : Option Nat} {h : Option (Option Nat)} {cs : Part} {i : Nat} : lookP (smallP w x h cs) i = if i = 0 then some (rowO (rowP w x)) else if i = 1 then some (strO (strP h)) else if i = 2 then some (.cells (srvC ++ [.chan (some 5)]) 59 0 0 0) else if i = 6 then some crowO else lookP cs i := by
  unfold smallP
  simp only [lookP, nbeq]
  by_cases h0 : i = 0
  · subst h0; rfl
  rw [decide_eq_false (fun e => h0 e.symm), if_neg h0]
  by_cases h1 : i = 1
  · subst h1; rfl
  rw [decide_eq_false (fun e => h1 e.symm), if_neg h1]
  by_cases h2 : i = 2
  · subst h2; rfl
  rw [decide_eq_false (fun e => h2 e.symm), if_neg h2]
  by_cases h6 : i = 6
  · subst h6; rfl
  rw [decide_eq_false (fun e => h6 e.symm), if_neg h6]
  rfl
theorem strP_eq (x : Option Nat) : hideC [some 5] (strC x) = strP none := rfl
theorem strC_all {p : Nat → Bool} (x : Option Nat) : (strC x).all (fun v => okV p 9 v && oneV v) = true := by
  cases x <;> simp [strC, strV, okV, eqP, oneV]
theorem jsT_at {m j : Nat} (h : ([some 5] : List (Option Nat))[m]? = some (some j)) : j = 5 ∧ m = 0 := by
  match m with
  | 0 => simp at h; exact ⟨h.symm, rfl⟩
  | m + 1 => simp at h
theorem okV_row {p : Nat → Bool} {f : Nat → Option Nat} (h : ∀ j, j < 4 → ∀ c, f j = some c → p (CID c + 2) = true) : (rowC f).all (fun v => okV p 9 v && oneV v) = true := by
  have hc : ∀ j, j < 4 → (okV p 9 (cellR (f j)) && oneV (cellR (f j))) = true := by
    intro j hj
    cases e : f j with
    | none => rfl
    | some c => rw [Bool.and_eq_true]; exact ⟨h j hj c e, rfl⟩
  simp only [rowC, List.all_cons, List.all_nil, Bool.and_true]
  rw [hc 0 (by omega), hc 1 (by omega), hc 2 (by omega), hc 3 (by omega)]
  rfl
theorem all_okV {p : Nat → Bool} {l : List Value} (h : l.all (fun v => okV p 9 v && oneV v) = true) : l.all (fun v => okV p 9 v) = true :=
  List.all_eq_true.2 fun x hx => (Bool.and_eq_true _ _ ▸ List.all_eq_true.1 h x hx : _ ∧ _).1
theorem eqD_row (x : Option Nat) : eqD (cellR x) (cellR x) = true := by
  cases x with
  | none => rfl
  | some c => simp [cellR, eqD, nbeq]
theorem rowC_at {f : Nat → Option Nat} {m : Nat} {v : Value} (h : (rowC f)[m]? = some v) : m < 4 ∧ v = cellR (f m) := by
  unfold rowC at h
  match m with
  | 0 => simp at h; exact ⟨by omega, h.symm⟩
  | 1 => simp at h; exact ⟨by omega, h.symm⟩
  | 2 => simp at h; exact ⟨by omega, h.symm⟩
  | 3 => simp at h; exact ⟨by omega, h.symm⟩
  | m + 4 => simp at h
theorem kept_inC {c : Nat} {l : List (Nat × Nat)} (hl : l.all (fun p => inC c p.1) = true) {i : Nat} (hi : i < 1000) (h : inC c i = false) : kept 1000 l i = true := by
  simp only [kept, Bool.and_eq_true, nblt, decide_eq_true_eq, Bool.not_eq_true']
  refine ⟨hi, List.any_eq_false.2 fun q hq => ?_⟩
  rw [nbeq, decide_eq_true_eq]
  intro e
  have := List.all_eq_true.1 hl q hq
  rw [e, h] at this
  cases this
theorem kept_nil {i : Nat} (hi : i < 1000) : kept 1000 [] i = true := by
  simp [kept, nblt, hi]
theorem not_inC {c i : Nat} (h : i < CID c ∨ CID c + 50 ≤ i) : inC c i = false := by
  cases e : inC c i with
  | false => rfl
  | true => rw [inC_iff] at e; omega
theorem OR.cells_inv {σ : Rn} {k : Nat} {c : List Value} {e lo hi op : Nat} {ob : Obj} (h : OR σ k (.cells c e lo hi op) ob) : ∃ c' fr, ob = .cells c' e fr ∧ VRs σ c (c'.toList.take c.length) ∧ SzR k op c'.size c.length ∧ FR lo hi fr c'.size := by
  cases h with
  | cells h1 h2 h3 => exact ⟨_, _, rfl, h1, h2, h3⟩
def ωOf (r s t : List Value) : Nat → Value := fun j => if j < 4 then r.getD j undef else if j = 4 then s.getD 7 undef else t.getD 0 undef
set_option maxRecDepth 100000 in
/-- A SMALL STEP of a worker: one client, one worker's place, the stripe. -/
theorem small_step {L : Lay} {a a' : Abs} {w c : Nat} (hw : w < 4) (hc : c < 4) {arg arg' : Value} {l : List (Nat × Nat)} {vok : Value → Bool}
    {h0 h0' : Option (Option Nat)} (hs : smallOk L w c (a.st c) (a'.st c) (a.row w) (a'.row w) h0 h0' arg l vok = true) (hh : (h0 = none ∧ h0' = none ∧ a'.hold = a.hold) ∨ (h0 = some a.hold ∧ h0' = some a'.hold))
    (hB : wfB (L.B a.k a.win) = true) (hev : evOk (L.ev a.k a.win) = true) (hCs : ∀ c', c' < 4 → wfC c' (L.C c' (a.st c')) = true) (hC' : wfC c (L.C c (a'.st c)) = true)
    (ek : a'.k = a.k) (ewin : a'.win = a.win) (erow : ∀ j, j ≠ w → a'.row j = a.row j) (est : ∀ d, d ≠ c → a'.st d = a.st d)
    (hrow : ∀ j, j < 4 → ∀ d, a.row j = some d → d < 4 ∧ (j ≠ w → l = [] ∨ d ≠ c)) (hrow' : ∀ d, a'.row w = some d → d < 4)
    {σ : Rn} {W : World} {bs : Nat} (hW : WF σ (L.H a) 1000 W) (hbs : σ 2 = some bs) (harg : ∀ σ' : Rn, VR σ' arg arg') :
    UponR E0.P (fun v' w' => (∃ σ1 v, vok v = true ∧ VR σ1 v v') ∧ Fr (owns σ (L.H a)) W w' ∧ ∃ σ', WF σ' (L.H a') 1000 w' ∧ (∀ b, owns σ' (L.H a') b → owns σ (L.H a) b ∨ W.heap.size ≤ b) ∧ σ' 2 = some bs) ((callFunc 13 #[.pointer (some ⟨bs, 0, none⟩), .int .i64 w, arg']).run E0.P W) := by
  simp only [smallOk, Bool.and_eq_true] at hs
  obtain ⟨hl, hs⟩ := hs
  have hcid : CID c = 700 + 50 * c := rfl
  obtain ⟨b0, ob0, s0, w0, o0⟩ := hW.obj 0 _ H_row
  obtain ⟨b2, ob2, s2, w2, o2⟩ := hW.obj 2 _ H_srv
  obtain ⟨b1, ob1, s1, w1, o1⟩ := hW.obj 1 _ H_str
  unfold rowO at o0
  unfold srvO at o2
  unfold strO at o1
  obtain ⟨c0, f0, rfl, r1, r2, r3⟩ := o0.cells_inv
  obtain ⟨c2, f2, rfl, t1, t2, t3⟩ := o2.cells_inv
  obtain ⟨c1, f1, rfl, u1, u2, u3⟩ := o1.cells_inv
  have klow : ∀ i, i < 700 → kept 1000 l i = true := fun i hi => kept_inC hl (by omega) (not_inC (.inl (by omega)))
  have koth : ∀ d i, d < 4 → d ≠ c → inC d i = true → kept 1000 l i = true := fun d i hd hne hi => by
    have := (inC_of hd hi)
    refine kept_inC hl (by omega) ?_
    cases e : inC c i with
    | false => rfl
    | true => have := inC_of hc e; omega
  have kcell : ∀ j, j < 4 → j ≠ w → ∀ d, a.row j = some d → kept 1000 l (CID d + 2) = true := fun j hj hne d hd => by
    obtain ⟨h1, h2⟩ := hrow j hj d hd
    rcases h2 hne with h2 | h2
    · rw [h2]; exact kept_nil (by unfold CID; omega)
    · exact koth d _ h1 h2 (by rw [inC_iff]; omega)
  have hrl : (rowC a.row).length = 4 := rfl
  have hsl : (srvC ++ [L.ev a.k a.win]).length = 8 := rfl
  have hω4 : ∀ v', (c2.toList.take 8)[7]? = some v' → ωOf (c0.toList.take 4) (c2.toList.take 8) (c1.toList.take 4) 4 = v' := fun v' q => by
    simp only [ωOf, List.getD, q]; rfl
  have hω5 : ∀ v', (c1.toList.take 4)[0]? = some v' → ωOf (c0.toList.take 4) (c2.toList.take 8) (c1.toList.take 4) 5 = v' := fun v' q => by
    simp only [ωOf, List.getD, q]; rfl
  have hωr : ∀ m, m < 4 → ∀ v', (c0.toList.take 4)[m]? = some v' → ωOf (c0.toList.take 4) (c2.toList.take 8) (c1.toList.take 4) m = v' := fun m hm v' q => by
    simp only [ωOf, List.getD, q, if_pos hm]; rfl
  have evok : okV inB 9 (L.ev a.k a.win) = true ∧ oneV (L.ev a.k a.win) = true ∧ eqD (L.ev a.k a.win) (L.ev a.k a.win) = true := by
    unfold evOk at hev
    rw [Bool.and_eq_true, Bool.and_eq_true] at hev
    exact ⟨hev.1.1, hev.1.2, hev.2⟩
  have kB : ∀ i, inB i = true → kept 1000 l i = true := fun i hi => klow i (by rw [inB_iff] at hi; omega)
  have evk : okV (kept 1000 l) 9 (L.ev a.k a.win) = true := okV_mono kB 9 _ evok.1
  have srvk : ∀ p : Nat → Bool, (∀ i, i < 700 → p i = true) → (srvC ++ [L.ev a.k a.win]).all (fun v => okV p 9 v && oneV v) = true := by
    intro p hp
    rw [List.all_append, Bool.and_eq_true]
    refine ⟨?_, ?_⟩
    · simp [srvC, okV, oneV, eqP, hp]
    · simp only [List.all_cons, List.all_nil, Bool.and_true, Bool.and_eq_true]
      exact ⟨okV_mono (fun i hi => hp i (by rw [inB_iff] at hi; omega)) 9 _ evok.1, evok.2.1⟩
  have crowk : okO (fun i => Nat.blt i 1000) crowO = true := by decide
  have crowM : ∀ θ ζ, MO θ ζ id 1000 crowO crowO := fun θ ζ => okO_MO (fun i hi => ⟨rfl, by rw [nblt, decide_eq_true_eq] at hi; omega, by rw [nblt, decide_eq_true_eq] at hi; omega⟩) crowk
  have strM : ∀ θ ζ x, MO θ ζ id 1000 (strO (strC x)) (strO (strC x)) := fun θ ζ x => okO_MO (p := fun _ => false) (fun i hi => by cases hi) (by cases x <;> simp [strO, strC, strV, okO, okV, eqP])
  have pid : ∀ i, Nat.blt i 1000 = true → id i = i ∧ i < 1000 ∧ i < 1000000 := fun i hi => by rw [nblt, decide_eq_true_eq] at hi; exact ⟨rfl, hi, by omega⟩
  have inCid : ∀ d i, d < 4 → inC d i = true → Nat.blt i 1000 = true := fun d i hd hi => by have := inC_of hd hi; rw [nblt, decide_eq_true_eq]; omega
  refine (stepOk_sound callB_ok (by omega) hs (H' := L.H a') (ω := ωOf (c0.toList.take 4) (c2.toList.take 8) (c1.toList.take 4)) (ζ := fun j => if j < 4 ∧ j ≠ w then some (cellR (a.row j)) else if j = 4 then some (L.ev a.k a.win) else if j = 5 then some (strV a.hold) else none) hW ?_ ?_ ?_ ?_ ?_).mono ?_
  · -- what the vars stand for
    intro j x hj
    by_cases h4 : j < 4 ∧ j ≠ w
    · rw [if_pos h4] at hj
      cases hj
      obtain ⟨v', g1, g2⟩ := r1.get j (show (rowC a.row)[j]? = some (cellR (a.row j)) by
        rcases (show j = 0 ∨ j = 1 ∨ j = 2 ∨ j = 3 by omega) with rfl | rfl | rfl | rfl <;> rfl)
      rw [hωr j h4.1 v' g1]
      refine ⟨g2, ?_⟩
      cases e : a.row j with
      | none => rfl
      | some d => exact kcell j h4.1 h4.2 d e
    · rw [if_neg h4] at hj
      by_cases e4 : j = 4
      · subst e4
        rw [if_pos rfl] at hj
        cases hj
        obtain ⟨v', g1, g2⟩ := t1.get 7 (show (srvC ++ [L.ev a.k a.win])[7]? = some (L.ev a.k a.win) from rfl)
        rw [hω4 v' g1]
        exact ⟨g2, evk⟩
      · rw [if_neg e4] at hj
        by_cases e5 : j = 5
        · subst e5
          rw [if_pos rfl] at hj
          cases hj
          obtain ⟨v', g1, g2⟩ := u1.get 0 (show (strC a.hold)[0]? = some (strV a.hold) from rfl)
          rw [hω5 v' g1]
          exact ⟨g2, by cases a.hold <;> simp [strV, okV, eqP]⟩
        · rw [if_neg e5] at hj; cases hj
  · -- the part
    intro i o q
    rw [smallP_look] at q
    by_cases i0 : i = 0
    · subst i0
      rw [if_pos rfl] at q
      cases q
      refine ⟨_, H_row, fun b ob hb hob hO => ?_⟩
      rw [s0] at hb; cases hb
      rw [w0] at hob; cases hob
      rw [← rowP_eq hw]
      unfold rowO
      refine .cells ?_ (by rw [hideC_len]; exact r2) r3
      rw [hideC_len]
      exact hideC_in (p := fun i => Nat.blt i 1000) _ _ _ (okV_row fun j hj d hd => by
        have := (hrow j hj d hd).1
        simp only [nblt, decide_eq_true_eq]; unfold CID; omega) r1 (fun m j h v' h' => by
          obtain ⟨rfl, h2, h3⟩ := jsR_at h
          exact hωr _ h2 v' h') pid
    rw [if_neg i0] at q
    by_cases i1 : i = 1
    · subst i1
      rw [if_pos rfl] at q
      cases q
      rcases hh with ⟨rfl, rfl, hh⟩ | ⟨rfl, rfl⟩
      · refine ⟨_, H_str, fun b ob hb hob hO => ?_⟩
        rw [s1] at hb; cases hb
        rw [w1] at hob; cases hob
        rw [← strP_eq a.hold]
        refine .cells ?_ (by rw [hideC_len]; exact u2) u3
        rw [hideC_len]
        refine hideC_in (p := fun i => Nat.blt i 1000) _ _ _ (strC_all a.hold) u1 (fun m j h v' h' => ?_) pid
        obtain ⟨rfl, rfl⟩ := jsT_at h
        exact hω5 v' h'
      · exact ⟨_, H_str, fun b ob hb hob hO => strM (fun _ => none) (fun _ => none) _ _ _ _ _ (VarOk.non _ _) hO⟩
    rw [if_neg i1] at q
    by_cases i2 : i = 2
    · subst i2
      rw [if_pos rfl] at q
      cases q
      refine ⟨_, H_srv, fun b ob hb hob hO => ?_⟩
      rw [s2] at hb; cases hb
      rw [w2] at hob; cases hob
      rw [← srvP_eq (L.ev a.k a.win)]
      refine .cells ?_ (by rw [hideC_len]; exact t2) t3
      rw [hideC_len]
      exact hideC_in (p := fun i => Nat.blt i 1000) _ _ _ (srvk _ fun i hi => by rw [nblt, decide_eq_true_eq]; omega) t1 (fun m j h v' h' => by
          obtain ⟨rfl, rfl⟩ := jsS_at h
          exact hω4 v' h') pid
    rw [if_neg i2] at q
    by_cases i6 : i = 6
    · subst i6
      rw [if_pos rfl] at q
      cases q
      exact ⟨_, H_crow, fun b ob hb hob hO => crowM (fun _ => none) (fun _ => none) _ _ _ _ (VarOk.non _ _) hO⟩
    rw [if_neg i6] at q
    obtain ⟨q1, q2⟩ := wfC_look (hCs c hc) q
    exact ⟨o, by rw [H_C hc q1]; exact q, fun b ob hb hob hO => okO_MO (θ := fun _ => none) (ζ := fun _ => none) (fun i hi => pid i (inCid c i hc hi)) q2 _ _ _ _ (VarOk.non _ _) hO⟩
  · -- the rest
    intro i o q q'
    rw [smallP_look] at q'
    split at q'
    · cases q'
    split at q'
    · cases q'
    split at q'
    · cases q'
    split at q'
    · cases q'
    rename_i i0 i1 i2 i6
    have hn : lookP (smallP w (a'.row w) h0' (L.C c (a'.st c))) i = lookP (L.C c (a'.st c)) i := by
      rw [smallP_look, if_neg i0, if_neg i1, if_neg i2, if_neg i6]
    rcases H_cases q with h | h | h | h | h | ⟨d, hd, h⟩
    · exact (i0 h).elim
    · exact (i1 h).elim
    · exact (i2 h).elim
    · exact (i6 h).elim
    · refine ⟨by rw [hn]; exact wfC_none hC' (by rw [inB_iff] at h; exact not_inC (.inl (by omega))), ?_⟩
      rw [H_B h] at q
      exact okO_mono kB (wfB_look hB q).2
    · by_cases hdc : d = c
      · subst hdc
        rw [H_C hc h] at q
        rw [q'] at q
        cases q
      · refine ⟨by
          rw [hn]
          refine wfC_none hC' ?_
          cases e : inC c i with
          | false => rfl
          | true => have h1 := inC_of hc e; have h2 := inC_of hd h; omega, ?_⟩
        rw [H_C hd h] at q
        exact okO_mono (fun i hi => koth d i hd hdc hi) (wfC_look (hCs d hd) q).2
  · -- the whole behind it
    intro i u q
    rw [smallP_look, smallP_look]
    rcases H_cases q with h | h | h | h | h | ⟨d, hd, h⟩
    · subst h
      cases q
      left
      refine ⟨_, if_pos rfl, ?_⟩
      rw [← rowP_eq hw]
      apply mo_sound
      unfold rowO
      simp only [mo, Bool.and_eq_true, nbeq, decide_eq_true_eq]
      refine ⟨⟨⟨⟨?_, trivial⟩, trivial⟩, trivial⟩, trivial⟩
      refine hideC_out (p := fun i => Nat.blt i 1000) _ _ (all_okV (okV_row fun j hj d hd => ?_)) (fun m j v h1 h2 => ?_) pid
      · have : d < 4 := by
          by_cases e : j = w
          · subst e; exact hrow' d hd
          · rw [erow j e] at hd; exact (hrow j hj d hd).1
        simp only [nblt, decide_eq_true_eq]; unfold CID; omega
      · obtain ⟨rfl, h3, h4⟩ := jsR_at h1
        obtain ⟨_, rfl⟩ := rowC_at h2
        refine ⟨?_, eqD_row _⟩
        rw [if_pos ⟨h3, h4⟩, erow _ h4]
    · subst h
      cases q
      left
      refine ⟨_, by rw [if_neg (by omega), if_pos rfl], ?_⟩
      rcases hh with ⟨rfl, rfl, hh⟩ | ⟨rfl, rfl⟩
      · rw [hh, ← strP_eq a.hold]
        apply mo_sound
        unfold strO
        simp only [mo, Bool.and_eq_true, nbeq, decide_eq_true_eq]
        refine ⟨⟨⟨⟨?_, trivial⟩, trivial⟩, trivial⟩, trivial⟩
        refine hideC_out (p := fun i => Nat.blt i 1000) _ _ (all_okV (strC_all a.hold)) (fun m j v h1 h2 => ?_) pid
        obtain ⟨rfl, rfl⟩ := jsT_at h1
        have : v = strV a.hold := by simpa [strC] using h2.symm
        subst this
        exact ⟨by rw [if_neg (by omega), if_neg (by omega), if_pos rfl], by cases a.hold <;> simp [strV, eqD, eqP]⟩
      · exact strM _ _ _
    · subst h
      cases q
      left
      refine ⟨_, by rw [if_neg (by omega), if_neg (by omega), if_pos rfl], ?_⟩
      rw [ek, ewin, ← srvP_eq (L.ev a.k a.win)]
      apply mo_sound
      unfold srvO
      simp only [mo, Bool.and_eq_true, nbeq, decide_eq_true_eq]
      refine ⟨⟨⟨⟨?_, trivial⟩, trivial⟩, trivial⟩, trivial⟩
      refine hideC_out (p := fun i => Nat.blt i 1000) _ _ (all_okV (srvk _ fun i hi => by rw [nblt, decide_eq_true_eq]; omega)) (fun m j v h1 h2 => ?_) pid
      obtain ⟨rfl, rfl⟩ := jsS_at h1
      have : v = L.ev a.k a.win := by simpa [srvC] using h2.symm
      subst this
      exact ⟨by rw [if_neg (by omega), if_pos rfl], evok.2.2⟩
    · subst h
      cases q
      left
      exact ⟨_, by rw [if_neg (by omega), if_neg (by omega), if_neg (by omega), if_pos rfl], crowM _ _⟩
    · have hi := h
      rw [inB_iff] at hi
      right
      have n1 : inC c i = false := not_inC (.inl (by omega))
      rw [if_neg (by omega), if_neg (by omega), if_neg (by omega), if_neg (by omega), if_neg (by omega), if_neg (by omega), if_neg (by omega), if_neg (by omega)]
      refine ⟨wfC_none hC' n1, wfC_none (hCs c hc) n1, ?_⟩
      rw [H_B h, ← ek, ← ewin, ← H_B h]
      exact q
    · have hi := inC_of hd h
      rw [if_neg (by omega), if_neg (by omega), if_neg (by omega), if_neg (by omega), if_neg (by omega), if_neg (by omega), if_neg (by omega), if_neg (by omega)]
      rw [H_C hd h] at q
      by_cases hdc : d = c
      · subst hdc
        left
        exact ⟨u, q, okO_MO (fun i hi => pid i (inCid d i hd hi)) (wfC_look hC' q).2⟩
      · right
        have n1 : inC c i = false := by
          cases e : inC c i with
          | false => rfl
          | true => have := inC_of hc e; omega
        refine ⟨wfC_none hC' n1, wfC_none (hCs c hc) n1, ?_⟩
        rw [H_C hd h, ← est d hdc]
        exact q
  · -- the arguments
    have h2 : (ren σ id 1000 (ωOf (c0.toList.take 4) (c2.toList.take 8) (c1.toList.take 4))) 2 = some bs := (ren_id hW).2 hbs
    exact .cons (.ptr (a := ⟨2, 0, none⟩) h2) (.cons (.int _ _) (.cons (harg _) .nil))
  · rintro v' w' ⟨g1, g2, σ', g3, g4, g5⟩
    refine ⟨g1, g2, σ', g3, g4, g5 2 bs (fun hi => ?_) hbs⟩
    simp only [srcs, List.mem_map] at hi
    obtain ⟨p, h1, h2⟩ := hi
    have := List.all_eq_true.1 hl p h1
    rw [h2, inC_iff, hcid] at this
    omega
end Go.Proofs.YtejebgdikoehmaaGreatDoor
/- Four clients, four workers: a command is done, known by a run on the store and one client. -/
namespace Go.Proofs.YtejebgdikoehmaaGreatDoor
open Go Go.RowKit
set_option linter.unusedVariables false
set_option linter.unusedSimpArgs false
def doP (e : Value) (B C : Part) : Part := (2, srvO e) :: (B ++ C)
def doL (d : Nat) (l : List (Nat × Nat)) : Bool := l.all fun p => inB p.1 || (inC d p.1 && Nat.ble (CID d + 3) p.1)
noncomputable def doOk (L : Lay) (d st' k win k' win' : Nat) (l : List (Nat × Nat)) : Bool :=
  doL d l && stepOk callB 24 [.pointer (some ⟨2, 0, none⟩), .pointer (some ⟨CID d + 2, 0, none⟩)] (doP (L.ev k win) (L.B k win) (L.C d 2)) (doP (L.ev k' win') (L.B k' win') (L.C d st')) l 1000 (fun _ => true)
theorem doP_look {e : Value} {B C : Part} {i : Nat} : lookP (doP e B C) i = if i = 2 then some (srvO e) else match lookP B i with | some o => some o | none => lookP C i := by
  unfold doP
  simp only [lookP, nbeq]
  by_cases h : i = 2
  · subst h; rfl
  · rw [decide_eq_false (fun e => h e.symm), if_neg h]
    exact lookP_append B C i
theorem kept_do {d i : Nat} {l : List (Nat × Nat)} (hl : doL d l = true) (hi : i < 1000) (h1 : inB i = false) (h2 : ¬ (CID d + 3 ≤ i ∧ i < CID d + 50)) : kept 1000 l i = true := by
  simp only [kept, Bool.and_eq_true, nblt, decide_eq_true_eq, Bool.not_eq_true']
  refine ⟨hi, List.any_eq_false.2 fun q hq => ?_⟩
  rw [nbeq, decide_eq_true_eq]
  intro e
  have := List.all_eq_true.1 hl q hq
  rw [e, h1, Bool.false_or, Bool.and_eq_true, inC_iff, nble, decide_eq_true_eq] at this
  omega
theorem okO_row {p : Nat → Bool} {f : Nat → Option Nat} (h : ∀ j, j < 4 → ∀ c, f j = some c → p (CID c + 2) = true) : okO p (rowO (rowC f)) = true := all_okV (okV_row h)
theorem okO_str {p : Nat → Bool} (x : Option Nat) : okO p (strO (strC x)) = true := all_okV (strC_all x)
set_option maxRecDepth 100000 in
/-- A COMMAND IS DONE. -/
theorem do_step {L : Lay} {a a' : Abs} {d : Nat} (hd : d < 4) {l : List (Nat × Nat)} (hs : doOk L d (a'.st d) a.k a.win a'.k a'.win l = true) (h2 : a.st d = 2)
    (hB : wfB (L.B a.k a.win) = true) (hev : evOk (L.ev a.k a.win) = true) (hB' : wfB (L.B a'.k a'.win) = true) (hev' : evOk (L.ev a'.k a'.win) = true)
    (hCs : ∀ c', c' < 4 → wfC c' (L.C c' (a.st c')) = true) (hC' : wfC d (L.C d (a'.st d)) = true)
    (erow : a'.row = a.row) (ehold : a'.hold = a.hold) (est : ∀ c, c ≠ d → a'.st c = a.st c) (hrow : ∀ j, j < 4 → ∀ c, a.row j = some c → c < 4)
    {σ : Rn} {W : World} {bs bk : Nat} (hW : WF σ (L.H a) 1000 W) (hbs : σ 2 = some bs) (hbk : σ (CID d + 2) = some bk) :
    UponR E0.P (fun v' w' => Fr (owns σ (L.H a)) W w' ∧ ∃ σ', WF σ' (L.H a') 1000 w' ∧ (∀ b, owns σ' (L.H a') b → owns σ (L.H a) b ∨ W.heap.size ≤ b) ∧ σ' 2 = some bs) ((callFunc 24 #[.pointer (some ⟨bs, 0, none⟩), .pointer (some ⟨bk, 0, none⟩)]).run E0.P W) := by
  simp only [doOk, Bool.and_eq_true] at hs
  obtain ⟨hl, hs⟩ := hs
  have pid : ∀ i, Nat.blt i 1000 = true → id i = i ∧ i < 1000 ∧ i < 1000000 := fun i hi => by rw [nblt, decide_eq_true_eq] at hi; exact ⟨rfl, hi, by omega⟩
  have inCid : ∀ c i, c < 4 → inC c i = true → Nat.blt i 1000 = true := fun c i hc hi => by have := inC_of hc hi; rw [nblt, decide_eq_true_eq]; omega
  have inBid : ∀ i, inB i = true → Nat.blt i 1000 = true := fun i hi => by rw [inB_iff] at hi; rw [nblt, decide_eq_true_eq]; omega
  have nB : ∀ {i}, (i < 3 ∨ i = 6 ∨ 700 ≤ i) → inB i = false := fun {i} hi => by
    cases e : inB i with
    | false => rfl
    | true => rw [inB_iff] at e; omega
  have okB : ∀ k win, wfB (L.B k win) = true → ∀ i o, lookP (L.B k win) i = some o → MO (fun _ => none) (fun _ => none) id 1000 o o := fun k win h i o q => okO_MO (fun i hi => pid i (inBid i hi)) (wfB_look h q).2
  have okC : ∀ c P, c < 4 → wfC c P = true → ∀ i o, lookP P i = some o → MO (fun _ => none) (fun _ => none) id 1000 o o := fun c P hc h i o q => okO_MO (fun i hi => pid i (inCid c i hc hi)) (wfC_look h q).2
  have okS : ∀ e, evOk e = true → MO (fun _ => none) (fun _ => none) id 1000 (srvO e) (srvO e) := fun e he => by
    refine okO_MO pid ?_
    unfold evOk at he
    rw [Bool.and_eq_true, Bool.and_eq_true] at he
    show (srvC ++ [e]).all (okV _ 9) = true
    rw [List.all_append, Bool.and_eq_true]
    refine ⟨by decide, ?_⟩
    simp only [List.all_cons, List.all_nil, Bool.and_true]
    exact okV_mono inBid 9 _ he.1.1
  have koth : ∀ c i, c < 4 → c ≠ d → inC c i = true → kept 1000 l i = true := fun c i hc hne hi => by
    have h1 := inC_of hc hi
    refine kept_do hl (by omega) (nB (by omega)) (fun h => ?_)
    have := inC_of hd (show inC d i = true by rw [inC_iff]; omega)
    omega
  refine (stepOk_sound callB_ok (by omega) hs (H' := L.H a') (ω := undefω) (ζ := fun _ => none) hW ?_ ?_ ?_ ?_ ?_).mono ?_
  · intro j x hj; cases hj
  · intro i o q
    rw [doP_look] at q
    by_cases i2 : i = 2
    · subst i2
      rw [if_pos rfl] at q
      cases q
      exact ⟨_, H_srv, fun b ob hb hob hO => okS _ hev _ _ _ _ (VarOk.non _ _) hO⟩
    rw [if_neg i2] at q
    split at q
    · rename_i o' e
      cases q
      exact ⟨o, by rw [H_B (wfB_look hB e).1]; exact e, fun b ob hb hob hO => okB _ _ hB _ _ e _ _ _ _ (VarOk.non _ _) hO⟩
    · have h := hCs d hd
      rw [h2] at h
      exact ⟨o, by rw [H_C hd (wfC_look h q).1, h2]; exact q, fun b ob hb hob hO => okC _ _ hd h _ _ q _ _ _ _ (VarOk.non _ _) hO⟩
  · intro i o q q'
    rw [doP_look] at q' ⊢
    rcases H_cases q with h | h | h | h | h | ⟨c, hc, h⟩
    · subst h
      cases q
      refine ⟨by rw [if_neg (by omega), wfB_none hB' (nB (by omega))]; exact wfC_none hC' (not_inC (.inl (by unfold CID; omega))), ?_⟩
      refine okO_row fun j hj c hc => ?_
      have := hrow j hj c hc
      refine kept_do hl (by unfold CID; omega) (nB (by unfold CID; omega)) (fun h => ?_)
      unfold CID at h; omega
    · subst h
      cases q
      exact ⟨by rw [if_neg (by omega), wfB_none hB' (nB (by omega))]; exact wfC_none hC' (not_inC (.inl (by unfold CID; omega))), okO_str _⟩
    · rw [if_pos h] at q'; cases q'
    · subst h
      cases q
      refine ⟨by rw [if_neg (by omega), wfB_none hB' (nB (by omega))]; exact wfC_none hC' (not_inC (.inl (by unfold CID; omega))), ?_⟩
      have k7 : ∀ c, c < 4 → kept 1000 l (CID c) = true := fun c hc => kept_do hl (by unfold CID; omega) (nB (by unfold CID; omega)) (fun h => by unfold CID at h; omega)
      have a0 := k7 0 (by omega)
      have a1 := k7 1 (by omega)
      have a2 := k7 2 (by omega)
      have a3 := k7 3 (by omega)
      unfold CID at a0 a1 a2 a3
      simp only [crowO, okO, List.all_cons, List.all_nil, Bool.and_true, okV]
      simp only [Nat.mul_zero, Nat.add_zero, Nat.reduceMul, Nat.reduceAdd] at a0 a1 a2 a3
      rw [a0, a1, a2, a3]
      rfl
    · exfalso
      have hi := h
      rw [inB_iff] at hi
      rw [H_B h] at q
      rw [if_neg (by omega), q] at q'
      cases q'
    · have hi := inC_of hc h
      rw [H_C hc h] at q
      rw [if_neg (by omega), wfB_none hB (nB (by omega))] at q'
      by_cases hcd : c = d
      · exfalso
        subst hcd
        rw [h2] at q
        rw [q] at q'
        cases q'
      · refine ⟨by
          rw [if_neg (by omega), wfB_none hB' (nB (by omega))]
          refine wfC_none hC' ?_
          cases e : inC d i with
          | false => rfl
          | true => have h1 := inC_of hd e; omega, okO_mono (fun i hi => koth c i hc hcd hi) (wfC_look (hCs c hc) q).2⟩
  · intro i u q
    rw [doP_look, doP_look]
    rcases H_cases q with h | h | h | h | h | ⟨c, hc, h⟩
    · subst h
      cases q
      right
      refine ⟨by rw [if_neg (by omega), wfB_none hB' (nB (by omega))]; exact wfC_none hC' (not_inC (.inl (by unfold CID; omega))), by rw [if_neg (by omega), wfB_none hB (nB (by omega))]; exact wfC_none (c := d) (by have h := hCs d hd; rw [h2] at h; exact h) (not_inC (.inl (by unfold CID; omega))), ?_⟩
      rw [erow]; exact H_row
    · subst h
      cases q
      right
      refine ⟨by rw [if_neg (by omega), wfB_none hB' (nB (by omega))]; exact wfC_none hC' (not_inC (.inl (by unfold CID; omega))), by rw [if_neg (by omega), wfB_none hB (nB (by omega))]; exact wfC_none (c := d) (by have h := hCs d hd; rw [h2] at h; exact h) (not_inC (.inl (by unfold CID; omega))), ?_⟩
      rw [ehold]; exact H_str
    · subst h
      cases q
      left
      exact ⟨_, if_pos rfl, okS _ hev'⟩
    · subst h
      cases q
      right
      refine ⟨by rw [if_neg (by omega), wfB_none hB' (nB (by omega))]; exact wfC_none hC' (not_inC (.inl (by unfold CID; omega))), by rw [if_neg (by omega), wfB_none hB (nB (by omega))]; exact wfC_none (c := d) (by have h := hCs d hd; rw [h2] at h; exact h) (not_inC (.inl (by unfold CID; omega))), H_crow⟩
    · have hi := h
      rw [inB_iff] at hi
      rw [H_B h] at q
      left
      exact ⟨u, by rw [if_neg (by omega), q], okB _ _ hB' _ _ q⟩
    · have hi := inC_of hc h
      rw [H_C hc h] at q
      by_cases hcd : c = d
      · subst hcd
        left
        exact ⟨u, by rw [if_neg (by omega), wfB_none hB' (nB (by omega))]; exact q, okC _ _ hc hC' _ _ q⟩
      · right
        have n1 : inC d i = false := by
          cases e : inC d i with
          | false => rfl
          | true => have := inC_of hd e; omega
        refine ⟨by rw [if_neg (by omega), wfB_none hB' (nB (by omega))]; exact wfC_none hC' n1, by rw [if_neg (by omega), wfB_none hB (nB (by omega))]; exact wfC_none (c := d) (by have h := hCs d hd; rw [h2] at h; exact h) n1, ?_⟩
        rw [H_C hc h, ← est c hcd]
        exact q
  · exact .cons (.ptr (a := ⟨2, 0, none⟩) ((ren_id hW).2 hbs)) (.cons (.ptr (a := ⟨CID d + 2, 0, none⟩) ((ren_id hW).2 hbk)) .nil)
  · rintro v' w' ⟨g1, g2, σ', g3, g4, g5⟩
    refine ⟨g2, σ', g3, g4, g5 2 bs (fun hi => ?_) hbs⟩
    simp only [srcs, List.mem_map] at hi
    obtain ⟨p, h1, h2⟩ := hi
    have := List.all_eq_true.1 hl p h1
    rw [h2, nB (by omega), Bool.false_or, Bool.and_eq_true, inC_iff] at this
    unfold CID at this
    omega
end Go.Proofs.YtejebgdikoehmaaGreatDoor
