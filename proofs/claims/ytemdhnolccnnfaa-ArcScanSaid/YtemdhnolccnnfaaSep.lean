/- Structures that lie behind a world, each in blocks of its own; slices beside them. -/
import Derived.Test.YtemdhnolccnnfaaOwn
namespace Go.Proofs.Ytemdhnolccnnfaa
open Go.RowKit
set_option linter.unusedVariables false
/-- A structure behind w0 in the blocks S; what lay there lies as it lay. -/
structure Sep (P : World → (Nat → Prop) → Prop) (w0 w : World) (S : Nat → Prop) : Prop where
  at_ : P w S
  fr : Fr (From w0.heap.size) w0 w
  lo : ∀ b, S b → w0.heap.size ≤ b
  hi : ∀ b, S b → b < w.heap.size
section
variable {P P' : World → (Nat → Prop) → Prop} {w0 w w' : World} {S : Nat → Prop}
theorem Sep.next (h : Sep P w0 w S) (hA : P' w' (grow S w w')) (hF : Fr S w w') : Sep P' w0 w' (grow S w w') :=
  ⟨hA, h.fr.trans hF (fun b _ q => h.lo b q), fun b q => q.elim (h.lo b) (fun q => Nat.le_trans h.fr.size q.1), fun b q => q.elim (fun q => Nat.lt_of_lt_of_le (h.hi b q) hF.size) (fun q => q.2)⟩
theorem Sep.keep (h : Sep P w0 w S) {F : Nat → Prop} (hF : Fr F w w') (hd : ∀ b, b < w.heap.size → S b → ¬ F b) (h0 : ∀ b, b < w0.heap.size → ¬ F b) (hP : P w S → (∀ b, b < w.heap.size → S b → w'.heap[b]? = w.heap[b]?) → P w' S) : Sep P w0 w' S :=
  ⟨hP h.at_ (fun b hb hS => hF.block b hb (hd b hb hS)), h.fr.trans hF (fun b hb q => absurd q (h0 b hb)), h.lo, fun b q => Nat.lt_of_lt_of_le (h.hi b q) hF.size⟩
theorem Sep.new (hF : Fr (From w0.heap.size) w0 w) (hA : P w' S) (hS : ∀ b, S b → w.heap.size ≤ b ∧ b < w'.heap.size) (hG : Fr (fun _ => False) w w') : Sep P w0 w' S :=
  ⟨hA, hF.trans hG (fun _ _ q => q.elim), fun b q => Nat.le_trans hF.size (hS b q).1, fun b q => (hS b q).2⟩
theorem Sep.below (h : Sep P w0 w S) : Below w0.heap.size w0 w := h.fr.below (Nat.le_refl _) fun b _ q => q
theorem Sep.as (h : Sep P w0 w S) (hP : P w S → P' w S) : Sep P' w0 w S := ⟨hP h.at_, h.fr, h.lo, h.hi⟩
/-- A slice beside a structure. -/
def Held (w0 w : World) (S : Nat → Prop) (T : TypeId) (sz : Nat) (v : Value) (n : Nat) (xs : List Value) : Prop := Sl w (fun b => ¬ S b ∧ w0.heap.size ≤ b) T sz v n xs
theorem Held.step {T : TypeId} {sz : Nat} {v : Value} {n : Nat} {xs : List Value} (h : Held w0 w S T sz v n xs) (hF : Fr S w w') : Held w0 w' (grow S w w') T sz v n xs :=
  (Sl.mono h (S' := fun b => (¬ grow S w w' b ∧ w0.heap.size ≤ b) ∧ ¬ S b) fun b hb q => ⟨⟨fun g => g.elim q.1 (fun g => by omega), q.2⟩, q.1⟩).fr hF (fun b _ q => q.2) |>.mono fun b _ q => q.1
/-- It stays where what turns is not its own. -/
theorem Held.keep {T : TypeId} {sz : Nat} {v : Value} {n : Nat} {xs : List Value} (h : Held w0 w S T sz v n xs) {F : Nat → Prop} (hF : Fr F w w') (hd : ∀ b, b < w.heap.size → ¬ F b) : Held w0 w' S T sz v n xs :=
  Sl.fr h hF (fun b hb _ => hd b hb)
theorem Held.new {T : TypeId} {sz : Nat} {v : Value} {n : Nat} {xs : List Value} (hS : Sep P w0 w S) (h : Sl w' (fun b => w.heap.size ≤ b) T sz v n xs) : Held w0 w' S T sz v n xs :=
  h.mono fun b _ q => ⟨fun g => by have := hS.hi b g; omega, Nat.le_trans hS.fr.size q⟩
end
end Go.Proofs.Ytemdhnolccnnfaa
