/- One structure that lies behind a world, and what was there stays; masks. -/
import Derived.Test.YtemdhnolccnnfaaStore
import Derived.Laws.BitsAllLaws
import Derived.Laws.BitsLemmas
namespace Go.Proofs.Ytemdhnolccnnfaa
open Go.RowKit
set_option linter.unusedVariables false
/-- All that is new. -/
def From (n : Nat) (b : Nat) : Prop := n ≤ b
theorem Sl.two {w : World} {S : Nat → Prop} {T : TypeId} {v : Value} {x y : Value} (h : Sl w S T 1 v 2 [x, y]) :
    ∃ b off cap, v = .slice (some ⟨b, off, none⟩) 2 cap ∧ w.cell? ⟨b, off, none⟩ = some x ∧ w.cell? ⟨b, off + 1, none⟩ = some y := by
  obtain ⟨b, off, cap, hv, hS, hb, hc, hx, _⟩ := h.pos (by omega)
  exact ⟨b, off, cap, hv, hx 0 (by simp), hx 1 (by simp)⟩
theorem grow_from {B : Nat} {w w' : World} (hB : B ≤ w.heap.size) {b : Nat} (h : grow (From B) w w' b) : From B b := h.elim id (fun h => Nat.le_trans hB h.1)
/-- One structure that lies behind B, and what was there stays. -/
def Own (P : World → (Nat → Prop) → Prop) (w0 w : World) : Prop := P w (From w0.heap.size) ∧ Fr (From w0.heap.size) w0 w
theorem Own.start {P : World → (Nat → Prop) → Prop} {w0 w w' : World} {S : Nat → Prop} (hP : P w' S) (hS : ∀ b, S b → w.heap.size ≤ b) (hF : Fr (fun _ => False) w w') (h0 : Fr (From w0.heap.size) w0 w)
    (hm : ∀ S', P w' S → (∀ b, S b → S' b) → P w' S') : Own P w0 w' :=
  ⟨hm _ hP (fun b h => Nat.le_trans h0.size (hS b h)), h0.trans hF (fun _ _ h => h.elim)⟩
theorem Own.next {P P' : World → (Nat → Prop) → Prop} {w0 w w' : World} (h : Own P w0 w) (hP : P' w' (grow (From w0.heap.size) w w')) (hF : Fr (From w0.heap.size) w w')
    (hm : ∀ S', P' w' (grow (From w0.heap.size) w w') → (∀ b, grow (From w0.heap.size) w w' b → S' b) → P' w' S') : Own P' w0 w' :=
  ⟨hm _ hP (fun b hb => grow_from h.2.size hb), h.2.trans hF (fun _ _ h => h)⟩
theorem Below.fr {w w' : World} (h : Below w.heap.size w w') : Fr (fun b => w.heap.size ≤ b) w w' := Fr.of_below h
/-- What '& k' leaves is a number from 0 to k. -/
theorem and_mask (x : Int) (k : Nat) (hk : k < 4611686018427387904) : ∃ y : Nat, bits .and .i64 x (k : Int) = (y : Int) ∧ y ≤ k := by
  have hb : (BitVec.ofInt 64 (k : Int)).toNat = k := by
    rw [BitVec.ofInt_natCast, BitVec.toNat_ofNat]; exact Nat.mod_eq_of_lt (by omega)
  refine ⟨(BitVec.ofInt 64 x).toNat &&& k, ?_, Nat.and_le_right⟩
  show IntKind.i64.wrap ((BitVec.ofInt 64 x &&& BitVec.ofInt 64 (k : Int)).toNat : Int) = _
  rw [BitVec.toNat_and, hb, IntKind.wrap_i64]
  have : (BitVec.ofInt 64 x).toNat &&& k ≤ k := Nat.and_le_right
  omega
/-- The elements of a slice of integers. -/
theorem sl_at {w : World} {S : Nat → Prop} {T : TypeId} {v : Value} {l : List Int} (h : Sl w S T 1 v l.length (l.map (Value.int .i64))) :
    ∃ a cap, v = .slice a l.length cap ∧ ∀ k x, l[k]? = some x → ∃ b off, a = some ⟨b, off, none⟩ ∧ b < w.heap.size ∧ S b ∧ w.cell? ⟨b, off + k, none⟩ = some (.int .i64 x) ∧ w.frozen? ⟨b, off + k, none⟩ = false := by
  obtain ⟨a, cap, rfl, _⟩ := h.shape
  refine ⟨a, cap, rfl, fun k x hx => ?_⟩
  have hk := (List.getElem?_eq_some_iff.1 hx).1
  obtain ⟨b, off, cap', hv, hS, hb, _, hc, hf⟩ := h.pos (by omega)
  simp at hv
  exact ⟨b, off, hv.1, hb, hS, by rw [hc k (by simpa using hk)]; simp [hx], hf _⟩
end Go.Proofs.Ytemdhnolccnnfaa
