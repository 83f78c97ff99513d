/- What a law is told of a slice that came in: each element's cells, where they lie and what they hold. -/
import Derived.Test.YtemdhnolccnnfaaRows
import Derived.WalkKit
import Derived.ProofKit
import Derived.ChangeOld
import Derived.Deep.Slices
namespace Go.Proofs.Ytemdhnolccnnfaa
open Go.RowKit Go.WideShapes Go.Deep
set_option linter.unusedVariables false

/-- Element i of a slice at address a, of sz cells, which hold what C says. -/
def InAt (w : World) (a : Option Addr) (sz i : Nat) (C : List Value → Prop) : Prop :=
  ∃ b off cs, a = some ⟨b, off, none⟩ ∧ b < w.heap.size ∧ cs.length = sz ∧ C cs ∧ ∀ j, j < sz → w.cell? ⟨b, off + (i * sz + j), none⟩ = cs[j]?

theorem open_in {H : Type} {enc : TypeId × Value → H} {P : Program} {w : World} {base : Nat} {spare : Nat → Bool} {held : Bool} {t e : TypeId} {a : Option Addr} {len cap : Nat} {d : DataW H} {p : List MemPlace}
    (ht : P.underlying t = some (.slice e)) (h : DataW.Trod enc P w base spare held t (.slice a len cap) d p) (sz : Nat) (hsz : P.cellsOf e = sz) (hpos : 0 < sz) (C : List Value → Prop)
    (hC : ∀ n cs x, DataW.trod enc P w base spare held n e cs = some x → C cs) : len ≤ cap ∧ ∀ i, i < len → InAt w a sz i C := by
  obtain ⟨fuel, hf⟩ := h
  rcases open_slice ht hf with ⟨hcs, _⟩ | ⟨x, l, c, m, n, D, Pl, hcs, hb, hl, hm, hmm, hx, hi⟩
  · simp [Value.cells] at hcs
    obtain ⟨rfl, rfl, rfl⟩ := hcs
    exact ⟨Nat.le_refl _, fun i hi => absurd hi (Nat.not_lt_zero _)⟩
  · simp [Value.cells] at hcs
    obtain ⟨rfl, rfl, rfl⟩ := hcs
    refine ⟨hl, fun i him => ?_⟩
    have him' : i < m := by rw [hmm]; split <;> omega
    obtain ⟨cs', hc, ht'⟩ := hi i him'
    rw [hsz] at hc
    obtain ⟨_, hcl, hat⟩ := World.cells?_some hc
    have h0 := hat 0 hpos
    rw [List.getElem?_eq_getElem (by omega)] at h0
    have hspot : x.spot = none := by
      unfold World.cell? at h0
      split at h0
      · rename_i hh
        split at h0
        · cases h0
        · rename_i hs
          obtain ⟨xb, xo, xs⟩ := x
          cases xs with
          | none => rfl
          | some y =>
            have : (((⟨xb, xo, some y⟩ : Addr).add (i * sz)).add 0).spot.isSome = true ∨ i * sz ≠ 0 := by
              by_cases e : i * sz = 0
              · left; simp [Addr.add, e]
              · exact Or.inr e
            rcases this with h1 | h1
            · exact absurd h1 (by simpa using hs)
            · have hh0 := hi 0 (by omega)
              obtain ⟨cs0, hc0, _⟩ := hh0
              rw [hsz, Nat.zero_mul] at hc0
              obtain ⟨_, hcl0, hat0⟩ := World.cells?_some hc0
              have h00 := hat0 0 hpos
              rw [List.getElem?_eq_getElem (by omega)] at h00
              unfold World.cell? at h00
              split at h00
              · simp [Addr.add] at h00
              · cases h00
      · cases h0
    obtain ⟨xb, xo, xs⟩ := x
    simp at hspot
    subst hspot
    have hadd : ∀ k, (⟨xb, xo, none⟩ : Addr).add k = ⟨xb, xo + k, none⟩ := by intro k; unfold Addr.add; split <;> simp_all
    have hadd2 : ∀ o k, (⟨xb, o, none⟩ : Addr).add k = ⟨xb, o + k, none⟩ := by intro o k; unfold Addr.add; split <;> simp_all
    refine ⟨xb, xo, cs', rfl, ?_, hcl, hC _ _ _ ht', fun j hj => ?_⟩
    · rw [hadd, hadd2] at h0
      exact World.block_lt_of_cell? _ _ h0
    · have := hat j hj
      rw [hadd, hadd2] at this
      rw [← this]; congr 2; omega
theorem InAt.later {w w' : World} {a : Option Addr} {sz i : Nat} {C : List Value → Prop} (h : InAt w a sz i C) (hb : Below w.heap.size w w') : InAt w' a sz i C := by
  obtain ⟨b, off, cs, ha, hlt, hl, hc, hat⟩ := h
  exact ⟨b, off, cs, ha, Nat.lt_of_lt_of_le hlt hb.size, hl, hc, fun j hj => (hb.cell (p := ⟨b, off + (i * sz + j), none⟩) hlt).trans (hat j hj)⟩
/-- One cell an element. -/
theorem InAt.one {w : World} {a : Option Addr} {i : Nat} {C : List Value → Prop} (h : InAt w a 1 i C) : ∃ b off v, a = some ⟨b, off, none⟩ ∧ b < w.heap.size ∧ C [v] ∧ w.cell? ⟨b, off + i, none⟩ = some v := by
  obtain ⟨b, off, cs, ha, hlt, hl, hc, hat⟩ := h
  match cs, hl with
  | [v], _ => exact ⟨b, off, v, ha, hlt, hc, by have := hat 0 (by omega); simpa using this⟩
theorem InAt.three {w : World} {a : Option Addr} {i : Nat} {C : List Value → Prop} (h : InAt w a 3 i C) : ∃ b off u v x, a = some ⟨b, off, none⟩ ∧ b < w.heap.size ∧ C [u, v, x] ∧
    w.cell? ⟨b, off + i * 3, none⟩ = some u ∧ w.cell? ⟨b, off + i * 3 + 1, none⟩ = some v ∧ w.cell? ⟨b, off + i * 3 + 2, none⟩ = some x := by
  obtain ⟨b, off, cs, ha, hlt, hl, hc, hat⟩ := h
  match cs, hl with
  | [u, v, x], _ => exact ⟨b, off, u, v, x, ha, hlt, hc, by simpa using hat 0 (by omega), by simpa [Nat.add_assoc] using hat 1 (by omega), by simpa [Nat.add_assoc] using hat 2 (by omega)⟩
theorem InAt.two {w : World} {a : Option Addr} {i : Nat} {C : List Value → Prop} (h : InAt w a 2 i C) : ∃ b off u v, a = some ⟨b, off, none⟩ ∧ b < w.heap.size ∧ C [u, v] ∧
    w.cell? ⟨b, off + i * 2, none⟩ = some u ∧ w.cell? ⟨b, off + i * 2 + 1, none⟩ = some v := by
  obtain ⟨b, off, cs, ha, hlt, hl, hc, hat⟩ := h
  match cs, hl with
  | [u, v], _ => exact ⟨b, off, u, v, ha, hlt, hc, by simpa using hat 0 (by omega), by simpa [Nat.add_assoc] using hat 1 (by omega)⟩
end Go.Proofs.Ytemdhnolccnnfaa
