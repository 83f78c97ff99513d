/- Two structures side by side, each in blocks of its own. -/
import Derived.Test.YtgdlndpjfejmcaaGreatPB
import Derived.Test.YtgdlndpjfejmcaaGreatChecked
namespace Go.Proofs.YtgdlndpjfejmcaaGreat
open Go.RowKit
set_option linter.unusedVariables false
set_option maxRecDepth 100000
/-- A structure that stays where its blocks stay. -/
def Frm (P : World → (Nat → Prop) → Prop) : Prop := ∀ (w w' : World) (S : Nat → Prop), w.heap.size ≤ w'.heap.size → (∀ b, b < w.heap.size → S b → w'.heap[b]? = w.heap[b]?) → P w S → P w' S
def Two (A B : World → (Nat → Prop) → Prop) (w : World) (S : Nat → Prop) : Prop :=
  ∃ S1 S2 : Nat → Prop, (∀ b, S1 b → S b) ∧ (∀ b, S2 b → S b) ∧ (∀ b, S1 b → S2 b → False) ∧ A w S1 ∧ B w S2
theorem two_frm {A B : World → (Nat → Prop) → Prop} (hA : Frm A) (hB : Frm B) : Frm (Two A B) := fun w w' S hz hf ⟨S1, S2, h1, h2, h3, a, b⟩ =>
  ⟨S1, S2, h1, h2, h3, hA w w' S1 hz (fun b hb q => hf b hb (h1 b q)) a, hB w w' S2 hz (fun b hb q => hf b hb (h2 b q)) b⟩
section
variable {w0 w w' : World} {S : Nat → Prop} {P A B A' B' : World → (Nat → Prop) → Prop} {F : FuncId} {av : Array Value} {R : Ending → Prop}
theorem sep_keep (hP : Frm P) (h : Sep P w0 w S) {F : Nat → Prop} (hF : Fr F w w') (hd : ∀ b, b < w.heap.size → S b → ¬ F b) (h0 : ∀ b, b < w0.heap.size → ¬ F b) : Sep P w0 w' S :=
  h.keep hF hd h0 (fun hA hf => hP _ _ _ hF.size hf hA)
theorem sep_drewN (hP : Frm P) (h : Sep P w0 w S) (k : Nat) : Sep P w0 (w.drewN k) S := ⟨hP w (w.drewN k) S (Nat.le_refl _) (fun _ _ _ => rfl) h.at_, h.fr.drewN k, h.lo, h.hi⟩
theorem sep_drew (hP : Frm P) (h : Sep P w0 w S) : Sep P w0 w.drew S := ⟨hP w w.drew S (Nat.le_refl _) (fun _ _ _ => rfl) h.at_, h.fr.drew, h.lo, h.hi⟩
theorem sep_fr (hP : Frm P) (h : Sep P w0 w S) (hF : Fr (fun b => w.heap.size ≤ b) w w') : Sep P w0 w' S := sep_keep hP h hF (fun b hb _ => by omega) (fun b hb => by have := h.fr.size; omega)
theorem sep_held_set (hP : Frm P) {T : TypeId} {b off m cap : Nat} {xs : List Value} (hS : Sep P w0 w S) (h : Held w0 w S T 1 (.slice (some ⟨b, off, none⟩) m cap) m xs) {i : Nat} (hi : i < m) (u : Value) :
    Held w0 (w.setCell ⟨b, off + i, none⟩ u) S T 1 (.slice (some ⟨b, off, none⟩) m cap) m (xs.set i u) ∧ Sep P w0 (w.setCell ⟨b, off + i, none⟩ u) S := by
  have hx : i < xs.length := by have := h.1; omega
  obtain ⟨b', off', cap', hv, hSb, _⟩ := Sl.pos h (by omega)
  simp at hv
  obtain ⟨⟨rfl, rfl⟩, rfl⟩ := hv
  exact ⟨Sl.set h hx u, sep_keep hP hS (F := fun k => k = b) (Fr.setCell (Fr.refl (fun k => k = b) w) (p := ⟨b, off + i, none⟩) (fun _ => rfl) u) (fun k _ s q => hSb.1 (q ▸ s)) (fun k hk q => by have := hSb.2; omega)⟩
/-- What is of another make stays. -/
theorem sl_set_beside {S2 : Nat → Prop} {T T2 : TypeId} {b off m cap sz n : Nat} {xs ys : List Value} {v : Value} (h : Sl w S T 1 (.slice (some ⟨b, off, none⟩) m cap) m xs) {i : Nat} (hi : i < m) (h2 : Sl w S2 T2 sz v n ys) (hT : T ≠ T2) (u : Value) : Sl (w.setCell ⟨b, off + i, none⟩ u) S2 T2 sz v n ys := by
  obtain ⟨h1, hh⟩ := h
  rcases hh with ⟨_, hh⟩ | ⟨b', off', cap', c, hv, hS, hb, _⟩
  · omega
  · simp at hv
    obtain ⟨⟨rfl, rfl⟩, rfl⟩ := hv
    exact h2.setCell_other hb hT _ _
theorem Held.keep' {T : TypeId} {sz : Nat} {v : Value} {n : Nat} {xs : List Value} (hS : Sep P w0 w S) (h : Held w0 w S T sz v n xs) (hF : Fr (fun b => w.heap.size ≤ b) w w') : Held w0 w' S T sz v n xs :=
  Held.keep h hF (fun b hb => by omega)
theorem two_left (hB : Frm B) (h : Sep (Two A B) w0 w S) (hc : ∀ S1, A w S1 → Calls Tryz.prog F av w fun e w' => R e ∧ A' w' (grow S1 w w') ∧ Fr S1 w w') :
    Calls Tryz.prog F av w fun e w' => R e ∧ Sep (Two A' B) w0 w' (grow S w w') ∧ Fr S w w' := by
  obtain ⟨S1, S2, h1, h2, h3, hA, hR⟩ := h.at_
  refine (hc S1 hA).mono fun e w' ⟨he, hA', hF⟩ => ?_
  have hF' : Fr S w w' := hF.mono fun b _ q => h1 b q
  exact ⟨he, h.next ⟨grow S1 w w', S2, fun b q => q.imp (h1 b) (fun q => q), fun b q => Or.inl (h2 b q), fun b q q2 => q.elim (fun q => h3 b q q2) (fun q => by have := h.hi b (h2 b q2); omega), hA', hB _ _ _ hF.size (fun b hb q => hF.block b hb (fun q2 => h3 b q2 q)) hR⟩ hF', hF'⟩
theorem two_right (hA : Frm A) (h : Sep (Two A B) w0 w S) (hc : ∀ S2, B w S2 → Calls Tryz.prog F av w fun e w' => R e ∧ B' w' (grow S2 w w') ∧ Fr S2 w w') :
    Calls Tryz.prog F av w fun e w' => R e ∧ Sep (Two A B') w0 w' (grow S w w') ∧ Fr S w w' := by
  obtain ⟨S1, S2, h1, h2, h3, ha, hR⟩ := h.at_
  refine (hc S2 hR).mono fun e w' ⟨he, hR', hF⟩ => ?_
  have hF' : Fr S w w' := hF.mono fun b _ q => h2 b q
  exact ⟨he, h.next ⟨S1, grow S2 w w', fun b q => Or.inl (h1 b q), fun b q => q.imp (h2 b) (fun q => q), fun b q q2 => q2.elim (fun q2 => h3 b q q2) (fun q2 => by have := h.hi b (h1 b q); omega), hA _ _ _ hF.size (fun b hb q => hF.block b hb (fun q2 => h3 b q q2)) ha, hR'⟩ hF', hF'⟩
theorem two_new {w1 w2 : World} (hA : Frm A) (hF0 : Fr (From w0.heap.size) w0 w1) (ha : A w1 (fun b => w.heap.size ≤ b ∧ b < w1.heap.size)) (hw0 : w0.heap.size ≤ w.heap.size) (hww : w.heap.size ≤ w1.heap.size) (hb : B w2 (fun b => w1.heap.size ≤ b ∧ b < w2.heap.size)) (hF2 : Fr (fun _ => False) w1 w2) :
    Sep (Two A B) w0 w2 (fun b => w.heap.size ≤ b ∧ b < w2.heap.size) := by
  have hz := hF2.size
  exact ⟨⟨_, _, fun b q => ⟨q.1, by omega⟩, fun b q => ⟨Nat.le_trans hww q.1, q.2⟩, fun b q q2 => by omega, hA _ _ _ hF2.size (fun b hb _ => hF2.block b hb (fun q => q)) ha, hb⟩, hF0.trans hF2 (fun _ _ q => q.elim), fun b q => Nat.le_trans hw0 q.1, fun b q => q.2⟩
end
end Go.Proofs.YtgdlndpjfejmcaaGreat
