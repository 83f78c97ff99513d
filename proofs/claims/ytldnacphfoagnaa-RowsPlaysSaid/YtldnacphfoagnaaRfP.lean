/- Rows and their reference, side by side. -/
import Derived.Test.YtldnacphfoagnaaRfF
import Derived.Test.YtldnacphfoagnaaRfG
import Derived.Test.YtldnacphfoagnaaRowsSepB
namespace Go.Proofs.Ytldnacphfoagnaa
open Go.RowKit
set_option linter.unusedVariables false
def RP (g r n : Nat) (L1 L2 : Nat → List Int) (N : Nat) (w : World) (S : Nat → Prop) : Prop := ∃ S1 S2 : Nat → Prop, (∀ b, S1 b → S b) ∧ (∀ b, S2 b → S b) ∧ (∀ b, S1 b → S2 b → False) ∧ RowsAt w S1 g n L1 N ∧ Rf w S2 r n L2
section
variable {w0 w w' : World} {S : Nat → Prop} {g r n : Nat} {L1 L2 L1' L2' : Nat → List Int} {N N' : Nat} {F : FuncId} {av : Array Value} {R : Ending → Prop}
theorem RP.frame (h : RP g r n L1 L2 N w S) (hf : ∀ b, b < w.heap.size → S b → w'.heap[b]? = w.heap[b]?) : RP g r n L1 L2 N w' S := by
  obtain ⟨S1, S2, h1, h2, h3, hA, hR⟩ := h
  exact ⟨S1, S2, h1, h2, h3, hA.frame fun b hb q => hf b hb (h1 b q), hR.frame fun b hb q => hf b hb (h2 b q)⟩
theorem rp_keep (h : Sep (RP g r n L1 L2 N) w0 w S) {F : Nat → Prop} (hF : Fr F w w') (hd : ∀ b, b < w.heap.size → S b → ¬ F b) (h0 : ∀ b, b < w0.heap.size → ¬ F b) : Sep (RP g r n L1 L2 N) w0 w' S :=
  h.keep hF hd h0 (fun hA hf => RP.frame hA hf)
theorem rp_drewN (h : Sep (RP g r n L1 L2 N) w0 w S) (k : Nat) : Sep (RP g r n L1 L2 N) w0 (w.drewN k) S := ⟨RP.frame h.at_ fun _ _ _ => rfl, h.fr.drewN k, h.lo, h.hi⟩
theorem rp_drew (h : Sep (RP g r n L1 L2 N) w0 w S) : Sep (RP g r n L1 L2 N) w0 w.drew S := ⟨RP.frame h.at_ fun _ _ _ => rfl, h.fr.drew, h.lo, h.hi⟩
theorem rp_fr (h : Sep (RP g r n L1 L2 N) w0 w S) (hF : Fr (fun b => w.heap.size ≤ b) w w') : Sep (RP g r n L1 L2 N) w0 w' S := rp_keep h hF (fun b hb _ => by omega) (fun b hb => by have := h.fr.size; omega)
theorem rp_more (h : Sep (RP g r n L1 L2 N) w0 w S) (hN : N ≤ N') : Sep (RP g r n L1 L2 N') w0 w S := h.as (fun hA => by obtain ⟨S1, S2, h1, h2, h3, hA, hR⟩ := hA; exact ⟨S1, S2, h1, h2, h3, hA.more hN, hR⟩)
/-- A step of the rows. -/
theorem rp_left (h : Sep (RP g r n L1 L2 N) w0 w S) (hc : ∀ S1, RowsAt w S1 g n L1 N → Calls Try.prog F av w fun e w' => R e ∧ RowsAt w' (grow S1 w w') g n L1' N' ∧ Fr S1 w w') :
    Calls Try.prog F av w fun e w' => R e ∧ Sep (RP g r n L1' L2 N') w0 w' (grow S w w') ∧ Fr S w w' := by
  obtain ⟨S1, S2, h1, h2, h3, hA, hR⟩ := h.at_
  refine (hc S1 hA).mono fun e w' ⟨he, hA', hF⟩ => ?_
  have hF' : Fr S w w' := hF.mono fun b _ q => h1 b q
  exact ⟨he, h.next ⟨grow S1 w w', S2, fun b q => q.imp (h1 b) (fun q => q), fun b q => Or.inl (h2 b q), fun b q q2 => q.elim (fun q => h3 b q q2) (fun q => by have := h.hi b (h2 b q2); omega), hA', hR.fr hF (fun b _ q2 q => h3 b q q2)⟩ hF', hF'⟩
/-- A step of the reference. -/
theorem rp_right (h : Sep (RP g r n L1 L2 N) w0 w S) (hc : ∀ S2, Rf w S2 r n L2 → Calls Try.prog F av w fun e w' => R e ∧ Rf w' (grow S2 w w') r n L2' ∧ Fr S2 w w') :
    Calls Try.prog F av w fun e w' => R e ∧ Sep (RP g r n L1 L2' N) w0 w' (grow S w w') ∧ Fr S w w' := by
  obtain ⟨S1, S2, h1, h2, h3, hA, hR⟩ := h.at_
  refine (hc S2 hR).mono fun e w' ⟨he, hR', hF⟩ => ?_
  have hF' : Fr S w w' := hF.mono fun b _ q => h2 b q
  exact ⟨he, h.next ⟨S1, grow S2 w w', fun b q => Or.inl (h1 b q), fun b q => q.imp (h2 b) (fun q => q), fun b q q2 => q2.elim (fun q2 => h3 b q q2) (fun q2 => by have := h.hi b (h1 b q); omega), hA.fr hF (fun b _ q q2 => h3 b q q2), hR'⟩ hF', hF'⟩
theorem rp_rows (h : Sep (RP g r n L1 L2 N) w0 w S) : ∃ S1, RowsAt w S1 g n L1 N := by obtain ⟨S1, S2, h1, h2, h3, hA, hR⟩ := h.at_; exact ⟨S1, hA⟩
theorem rp_ref (h : Sep (RP g r n L1 L2 N) w0 w S) : ∃ S2, Rf w S2 r n L2 := by obtain ⟨S1, S2, h1, h2, h3, hA, hR⟩ := h.at_; exact ⟨S2, hR⟩
theorem rp_dsj (h : Sep (RP g r n L1 L2 N) w0 w S) : Dsj n L1 ∧ ∀ k, (L1 k).length ≤ N := by
  obtain ⟨S1, hA⟩ := rp_rows h
  exact ⟨fun a b ha hb x h1 h2 => hA.disj ha hb h1 h2, fun k => hA.len_le k⟩
theorem front_rp (h : Sep (RP g r n L1 L2 N) w0 w S) (row id : Int) (hN : N < 1000000) :
    Calls Try.prog 13 #[.pointer (some ⟨g, 0, none⟩), .int .i64 row, .int .i64 id] w fun e w' => e = .returned (.bool (mayIn n row id)) ∧ Sep (RP g r n (frontL n L1 row id) L2 (N + 1)) w0 w' (grow S w w') ∧ Fr S w w' :=
  rp_left h fun S1 hA => rows_front S1 g n L1 N row id w hA hN
theorem back_rp (h : Sep (RP g r n L1 L2 N) w0 w S) (row id : Int) (hN : N < 1000000) :
    Calls Try.prog 10 #[.pointer (some ⟨g, 0, none⟩), .int .i64 row, .int .i64 id] w fun e w' => e = .returned (.bool (mayIn n row id)) ∧ Sep (RP g r n (backL n L1 row id) L2 (N + 1)) w0 w' (grow S w w') ∧ Fr S w w' :=
  rp_left h fun S1 hA => rows_back S1 g n L1 N row id w hA hN
theorem take_rp (h : Sep (RP g r n L1 L2 N) w0 w S) (id : Int) (hN : N ≤ 1000000) :
    Calls Try.prog 17 #[.pointer (some ⟨g, 0, none⟩), .int .i64 id] w fun e w' => e = .returned (.bool (decide (0 ≤ rowOf n L1 id))) ∧ Sep (RP g r n (del L1 id) L2 N) w0 w' (grow S w w') ∧ Fr S w w' :=
  rp_left h fun S1 hA => rows_take S1 g n L1 N id w hA hN
theorem rfront_rp (h : Sep (RP g r n L1 L2 N) w0 w S) (row id : Int) (hN : ∀ k, (L2 k).length ≤ 1000000) (hd : Dsj n L2) :
    Calls Try.prog 15 #[.pointer (some ⟨r, 0, none⟩), .int .i64 row, .int .i64 id] w fun e w' => e = .returned (.bool (mayIn n row id)) ∧ Sep (RP g r n L1 (frontL n L2 row id) N) w0 w' (grow S w w') ∧ Fr S w w' :=
  rp_right h fun S2 hR => rf_front S2 r n L2 row id w hR hN hd
theorem rback_rp (h : Sep (RP g r n L1 L2 N) w0 w S) (row id : Int) (hN : ∀ k, (L2 k).length ≤ 1000000) (hd : Dsj n L2) :
    Calls Try.prog 16 #[.pointer (some ⟨r, 0, none⟩), .int .i64 row, .int .i64 id] w fun e w' => e = .returned (.bool (mayIn n row id)) ∧ Sep (RP g r n L1 (backL n L2 row id) N) w0 w' (grow S w w') ∧ Fr S w w' :=
  rp_right h fun S2 hR => rf_back S2 r n L2 row id w hR hN hd
theorem rtake_rp (h : Sep (RP g r n L1 L2 N) w0 w S) (id : Int) (hN : ∀ k, (L2 k).length ≤ 1000000) (hd : Dsj n L2) :
    Calls Try.prog 18 #[.pointer (some ⟨r, 0, none⟩), .int .i64 id] w fun e w' => e = .returned (.bool (decide (0 ≤ rowOf n L2 id))) ∧ Sep (RP g r n L1 (del L2 id) N) w0 w' (grow S w w') ∧ Fr S w w' :=
  rp_right h fun S2 hR => rf_take S2 r n L2 id w hR hN hd
theorem row_rp (h : Sep (RP g r n L1 L2 N) w0 w S) (id : Int) :
    Calls Try.prog 19 #[.pointer (some ⟨g, 0, none⟩), .int .i64 id] w fun e w' => e = .returned (.int .i64 (rowOf n L1 id)) ∧ w = w' := by obtain ⟨S1, hA⟩ := rp_rows h; exact rows_row S1 g n L1 N id w hA
theorem rrow_rp (h : Sep (RP g r n L1 L2 N) w0 w S) (id : Int) (hN : ∀ k, (L2 k).length ≤ 1000000) :
    Calls Try.prog 20 #[.pointer (some ⟨r, 0, none⟩), .int .i64 id] w fun e w' => e = .returned (.int .i64 (rowOf n L2 id)) ∧ w = w' := by obtain ⟨S2, hR⟩ := rp_ref h; exact rf_row S2 r n L2 id w hR hN
theorem len_rp (h : Sep (RP g r n L1 L2 N) w0 w S) (row : Int) :
    Calls Try.prog 23 #[.pointer (some ⟨g, 0, none⟩), .int .i64 row] w fun e w' => e = .returned (.int .i64 (rowL L1 row).length) ∧ w = w' := by obtain ⟨S1, hA⟩ := rp_rows h; exact rows_len S1 g n L1 N row w hA
theorem rlen_rp (h : Sep (RP g r n L1 L2 N) w0 w S) (row : Int) :
    Calls Try.prog 24 #[.pointer (some ⟨r, 0, none⟩), .int .i64 row] w fun e w' => e = .returned (.int .i64 (rowL L2 row).length) ∧ w = w' := by obtain ⟨S2, hR⟩ := rp_ref h; exact rf_len S2 r n L2 row w hR
theorem first_rp (h : Sep (RP g r n L1 L2 N) w0 w S) (row : Int) :
    Calls Try.prog 25 #[.pointer (some ⟨g, 0, none⟩), .int .i64 row] w fun e w' => e = .returned (.int .i64 (firstOf (rowL L1 row))) ∧ ∃ k, w' = w.drewN k := by obtain ⟨S1, hA⟩ := rp_rows h; exact rows_first S1 g n L1 N row w hA
theorem rfirst_rp (h : Sep (RP g r n L1 L2 N) w0 w S) (row : Int) (hN : (rowL L2 row).length ≤ 1000000) :
    Calls Try.prog 26 #[.pointer (some ⟨r, 0, none⟩), .int .i64 row] w fun e w' => e = .returned (.int .i64 (firstOf (rowL L2 row))) ∧ w = w' := by obtain ⟨S2, hR⟩ := rp_ref h; exact rf_first S2 r n L2 row w hR hN
theorem last_rp (h : Sep (RP g r n L1 L2 N) w0 w S) (row : Int) :
    Calls Try.prog 12 #[.pointer (some ⟨g, 0, none⟩), .int .i64 row] w fun e w' => e = .returned (.int .i64 (lastOf (rowL L1 row))) ∧ ∃ k, w' = w.drewN k := by obtain ⟨S1, hA⟩ := rp_rows h; exact rows_last S1 g n L1 N row w hA
theorem rlast_rp (h : Sep (RP g r n L1 L2 N) w0 w S) (row : Int) (hN : (rowL L2 row).length ≤ 1000000) :
    Calls Try.prog 27 #[.pointer (some ⟨r, 0, none⟩), .int .i64 row] w fun e w' => e = .returned (.int .i64 (lastOf (rowL L2 row))) ∧ w = w' := by obtain ⟨S2, hR⟩ := rp_ref h; exact rf_last S2 r n L2 row w hR hN
theorem all_rp (h : Sep (RP g r n L1 L2 N) w0 w S) (row : Int) (hN : N ≤ 1000000) :
    Calls Try.prog 11 #[.pointer (some ⟨g, 0, none⟩), .int .i64 row] w fun e w' => ∃ v, e = .returned v ∧ Held w0 w' S 3 1 v (rowL L1 row).length ((rowL L1 row).map (Value.int .i64)) ∧ Sep (RP g r n L1 L2 N) w0 w' S ∧ Fr (fun b => w.heap.size ≤ b) w w' := by
  obtain ⟨S1, hA⟩ := rp_rows h
  exact (rows_all S1 g n L1 N row w hA hN).mono fun e w' ⟨v, he, hs, hB⟩ => ⟨v, he, Held.new h hs, rp_fr h (Fr.of_below hB), Fr.of_below hB⟩
theorem rall_rp (h : Sep (RP g r n L1 L2 N) w0 w S) (row : Int) :
    Calls Try.prog 22 #[.pointer (some ⟨r, 0, none⟩), .int .i64 row] w fun e w' => ∃ a cap S2, e = .returned (.slice a (rowL L2 row).length cap) ∧ Sl w S2 3 1 (.slice a (rowL L2 row).length cap) (rowL L2 row).length ((rowL L2 row).map (Value.int .i64)) ∧ w = w' := by
  obtain ⟨S2, hR⟩ := rp_ref h
  exact (rf_all S2 r n L2 row w hR).mono fun e w' ⟨a, cap, he, hs, hw⟩ => ⟨a, cap, S2, he, hs, hw⟩
/-- A store into what is held. -/
theorem rp_held_set {T : TypeId} {b off m cap : Nat} {xs : List Value} (hS : Sep (RP g r n L1 L2 N) w0 w S) (h : Held w0 w S T 1 (.slice (some ⟨b, off, none⟩) m cap) m xs) {i : Nat} (hi : i < m) (u : Value) :
    Held w0 (w.setCell ⟨b, off + i, none⟩ u) S T 1 (.slice (some ⟨b, off, none⟩) m cap) m (xs.set i u) ∧ Sep (RP g r n L1 L2 N) w0 (w.setCell ⟨b, off + i, none⟩ u) S := by
  have hx : i < xs.length := by have := h.1; omega
  obtain ⟨b', off', cap', hv, hSb, _⟩ := Sl.pos h (by omega)
  simp at hv
  obtain ⟨⟨rfl, rfl⟩, rfl⟩ := hv
  exact ⟨Sl.set h hx u, rp_keep hS (F := fun k => k = b) (Fr.setCell (Fr.refl (fun k => k = b) w) (p := ⟨b, off + i, none⟩) (fun _ => rfl) u) (fun k _ s q => hSb.1 (q ▸ s)) (fun k hk q => by have := hSb.2; omega)⟩
end
end Go.Proofs.Ytldnacphfoagnaa
