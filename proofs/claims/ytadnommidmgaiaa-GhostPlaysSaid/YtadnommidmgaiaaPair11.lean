/- A ghost and its reference, side by side. -/
import Derived.Test.YtadnommidmgaiaaRef11e
namespace Go.Proofs.Ytadnommidmgaiaa
open Go.RowKit
set_option linter.unusedVariables false
/-- Both lie behind w0, apart from each other; what was there stays. -/
structure Apart (w0 w : World) (S1 S2 : Nat → Prop) : Prop where
  lo1 : ∀ b, S1 b → w0.heap.size ≤ b
  hi1 : ∀ b, S1 b → b < w.heap.size
  lo2 : ∀ b, S2 b → w0.heap.size ≤ b
  hi2 : ∀ b, S2 b → b < w.heap.size
  dis : ∀ b, S1 b → S2 b → False
  fr : Fr (From w0.heap.size) w0 w
theorem Apart.left {w0 w w' : World} {S1 S2 : Nat → Prop} (h : Apart w0 w S1 S2) (hF : Fr S1 w w') : Apart w0 w' (grow S1 w w') S2 where
  lo1 := fun b hb => hb.elim (h.lo1 b) (fun q => Nat.le_trans h.fr.size q.1)
  hi1 := fun b hb => hb.elim (fun q => Nat.lt_of_lt_of_le (h.hi1 b q) hF.size) (fun q => q.2)
  lo2 := h.lo2
  hi2 := fun b hb => Nat.lt_of_lt_of_le (h.hi2 b hb) hF.size
  dis := fun b hb h2 => hb.elim (fun q => h.dis b q h2) (fun q => absurd (h.hi2 b h2) (by omega))
  fr := h.fr.trans hF (fun i _ hi => h.lo1 i hi)
theorem Apart.left' {w0 w w' : World} {S1 S2 : Nat → Prop} (h : Apart w0 w S1 S2) (hF : Fr S1 w w') : Apart w0 w' S1 S2 where
  lo1 := h.lo1
  hi1 := fun b hb => Nat.lt_of_lt_of_le (h.hi1 b hb) hF.size
  lo2 := h.lo2
  hi2 := fun b hb => Nat.lt_of_lt_of_le (h.hi2 b hb) hF.size
  dis := h.dis
  fr := h.fr.trans hF (fun i _ hi => h.lo1 i hi)
theorem Apart.swap {w0 w : World} {S1 S2 : Nat → Prop} (h : Apart w0 w S1 S2) : Apart w0 w S2 S1 := ⟨h.lo2, h.hi2, h.lo1, h.hi1, fun b q r => h.dis b r q, h.fr⟩
theorem Apart.right {w0 w w' : World} {S1 S2 : Nat → Prop} (h : Apart w0 w S1 S2) (hF : Fr S2 w w') : Apart w0 w' S1 (grow S2 w w') := (h.swap.left hF).swap
theorem Apart.keep {w0 w w' : World} {S1 S2 : Nat → Prop} (h : Apart w0 w S1 S2) {F : Nat → Prop} (hF : Fr F w w') (hd : ∀ b, b < w.heap.size → F b → False) : Apart w0 w' S1 S2 where
  lo1 := h.lo1
  hi1 := fun b hb => Nat.lt_of_lt_of_le (h.hi1 b hb) hF.size
  lo2 := h.lo2
  hi2 := fun b hb => Nat.lt_of_lt_of_le (h.hi2 b hb) hF.size
  dis := h.dis
  fr := h.fr.trans hF (fun i hi q => (hd i (Nat.lt_of_lt_of_le hi h.fr.size) q).elim)

theorem Fr.of_drew {S : Nat → Prop} {w w' : World} (h : Fr S w.drew w') : Fr S w w' := ⟨h.os, h.tape, h.output, h.size, h.block⟩
/-- A ghost and a reference that hold the same. -/
structure Both (w0 w : World) (S1 S2 : Nat → Prop) (g p : Nat) (most : Int) (L : List Int) (N : Nat) : Prop where
  one : GhostAt w S1 g most L N
  two : RefG w S2 p most L
  apart : Apart w0 w S1 S2
theorem Both.keep {w0 w w' : World} {S1 S2 : Nat → Prop} {g p : Nat} {most : Int} {L : List Int} {N : Nat} (h : Both w0 w S1 S2 g p most L N) {F : Nat → Prop} (hF : Fr F w w') (hd : ∀ b, b < w.heap.size → F b → False) : Both w0 w' S1 S2 g p most L N :=
  ⟨h.one.fr hF (fun b hb _ q => hd b hb q), h.two.fr hF (fun b hb _ q => hd b hb q), h.apart.keep hF hd⟩
theorem Both.len {w0 w : World} {S1 S2 : Nat → Prop} {g p : Nat} {most : Int} {L : List Int} {N : Nat} (h : Both w0 w S1 S2 g p most L N) : L.length ≤ N ∧ 0 ≤ most := ⟨h.one.len_le.1, h.one.len_le.2.2⟩
/-- A step of the ghost, then one of the reference. -/
theorem Both.step {w0 w w1 w2 : World} {S1 S2 : Nat → Prop} {g p : Nat} {most most' : Int} {L L' : List Int} {N N' : Nat} (h : Both w0 w S1 S2 g p most L N)
    (hG : GhostAt w1 (grow S1 w w1) g most' L' N') (hF1 : Fr S1 w w1) (hR : RefG w2 (grow S2 w1 w2) p most' L') (hF2 : Fr S2 w1 w2) : Both w0 w2 (grow S1 w w1) (grow S2 w1 w2) g p most' L' N' :=
  ⟨hG.fr hF2 (fun b hb q r => (h.apart.left hF1).dis b q r), hR, (h.apart.left hF1).right hF2⟩
theorem has_same (S : Nat → Prop) (g : Nat) (most : Int) (L : List Int) (N : Nat) (h : Int) (w : World) (hG : GhostAt w S g most L N) :
    Calls Try.prog 12 #[.pointer (some ⟨g, 0, none⟩), .int .u64 h] w fun e w' => e = .returned (.bool (decide (h ∈ L))) ∧ w' = w := (has_at S g most L N h w hG).mono fun e w' ⟨he, hw⟩ => ⟨he, hw.symm⟩
theorem len_same (S : Nat → Prop) (g : Nat) (most : Int) (L : List Int) (N : Nat) (w : World) (hG : GhostAt w S g most L N) :
    Calls Try.prog 11 #[.pointer (some ⟨g, 0, none⟩)] w fun e w' => e = .returned (.int .i64 L.length) ∧ w' = w := (len_at S g most L N w hG).mono fun e w' ⟨he, hw⟩ => ⟨he, hw.symm⟩
theorem rhas_same (S : Nat → Prop) (p : Nat) (most : Int) (L : List Int) (h : Int) (w : World) (hG : RefG w S p most L) (hN : L.length ≤ 1000000) :
    Calls Try.prog 20 #[.pointer (some ⟨p, 0, none⟩), .int .u64 h] w fun e w' => e = .returned (.bool (decide (h ∈ L))) ∧ w' = w := (rhas_at S p most L h w hG hN).mono fun e w' ⟨he, hw⟩ => ⟨he, hw.symm⟩
end Go.Proofs.Ytadnommidmgaiaa
