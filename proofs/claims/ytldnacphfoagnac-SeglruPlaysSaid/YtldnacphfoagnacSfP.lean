/- Segmented rows and their reference, side by side. -/
import Derived.Test.YtldnacphfoagnacSfB
import Derived.Test.YtldnacphfoagnacSegShown
namespace Go.Proofs.Ytldnacphfoagnac
open Go.RowKit
set_option linter.unusedVariables false
def GP (p q : Nat) (L1 : Nat → List Int) (A : Int → Bool) (L2 : Nat → List Int) (Al : List Int) (N : Nat) (w : World) (S : Nat → Prop) : Prop := ∃ S1 S2 : Nat → Prop, (∀ b, S1 b → S b) ∧ (∀ b, S2 b → S b) ∧ (∀ b, S1 b → S2 b → False) ∧ SegAt w S1 p L1 A N ∧ Sf w S2 q L2 Al
section
variable {w0 w w' : World} {S : Nat → Prop} {p q : Nat} {L1 L2 L1' L2' : Nat → List Int} {A A' : Int → Bool} {Al Al' : List Int} {N N' : Nat} {F : FuncId} {av : Array Value} {R : Ending → Prop}
theorem GP.frame (h : GP p q L1 A L2 Al N w S) (hz : w.heap.size ≤ w'.heap.size) (hf : ∀ b, b < w.heap.size → S b → w'.heap[b]? = w.heap[b]?) : GP p q L1 A L2 Al N w' S := by
  obtain ⟨S1, S2, h1, h2, h3, hA, hR⟩ := h
  exact ⟨S1, S2, h1, h2, h3, hA.frame fun b hb q => hf b hb (h1 b q), hR.frame hz fun b hb q => hf b hb (h2 b q)⟩
theorem gp_keep (h : Sep (GP p q L1 A L2 Al N) w0 w S) {F : Nat → Prop} (hF : Fr F w w') (hd : ∀ b, b < w.heap.size → S b → ¬ F b) (h0 : ∀ b, b < w0.heap.size → ¬ F b) : Sep (GP p q L1 A L2 Al N) w0 w' S :=
  h.keep hF hd h0 (fun hA hf => GP.frame hA hF.size hf)
theorem gp_drewN (h : Sep (GP p q L1 A L2 Al N) w0 w S) (k : Nat) : Sep (GP p q L1 A L2 Al N) w0 (w.drewN k) S := ⟨GP.frame h.at_ (Nat.le_refl _) fun _ _ _ => rfl, h.fr.drewN k, h.lo, h.hi⟩
theorem gp_drew (h : Sep (GP p q L1 A L2 Al N) w0 w S) : Sep (GP p q L1 A L2 Al N) w0 w.drew S := ⟨GP.frame h.at_ (Nat.le_refl _) fun _ _ _ => rfl, h.fr.drew, h.lo, h.hi⟩
theorem gp_fr (h : Sep (GP p q L1 A L2 Al N) w0 w S) (hF : Fr (fun b => w.heap.size ≤ b) w w') : Sep (GP p q L1 A L2 Al N) w0 w' S := gp_keep h hF (fun b hb _ => by omega) (fun b hb => by have := h.fr.size; omega)
theorem gp_more (h : Sep (GP p q L1 A L2 Al N) w0 w S) (hN : N ≤ N') : Sep (GP p q L1 A L2 Al N') w0 w S := h.as (fun hA => by obtain ⟨S1, S2, h1, h2, h3, hA, hR⟩ := hA; exact ⟨S1, S2, h1, h2, h3, hA.more hN, hR⟩)
theorem gp_left (h : Sep (GP p q L1 A L2 Al N) w0 w S) (hc : ∀ S1, SegAt w S1 p L1 A N → Calls Try.prog F av w fun e w' => R e ∧ SegAt w' (grow S1 w w') p L1' A' N' ∧ Fr S1 w w') :
    Calls Try.prog F av w fun e w' => R e ∧ Sep (GP p q L1' A' L2 Al N') w0 w' (grow S w w') ∧ Fr S w w' := by
  obtain ⟨S1, S2, h1, h2, h3, hA, hR⟩ := h.at_
  refine (hc S1 hA).mono fun e w' ⟨he, hA', hF⟩ => ?_
  have hF' : Fr S w w' := hF.mono fun b _ q => h1 b q
  exact ⟨he, h.next ⟨grow S1 w w', S2, fun b q => q.imp (h1 b) (fun q => q), fun b q => Or.inl (h2 b q), fun b q q2 => q.elim (fun q => h3 b q q2) (fun q => by have := h.hi b (h2 b q2); omega), hA', hR.fr hF (fun b _ q2 q => h3 b q q2)⟩ hF', hF'⟩
theorem gp_right (h : Sep (GP p q L1 A L2 Al N) w0 w S) (hc : ∀ S2, Sf w S2 q L2 Al → Calls Try.prog F av w fun e w' => R e ∧ Sf w' (grow S2 w w') q L2' Al' ∧ Fr S2 w w') :
    Calls Try.prog F av w fun e w' => R e ∧ Sep (GP p q L1 A L2' Al' N) w0 w' (grow S w w') ∧ Fr S w w' := by
  obtain ⟨S1, S2, h1, h2, h3, hA, hR⟩ := h.at_
  refine (hc S2 hR).mono fun e w' ⟨he, hR', hF⟩ => ?_
  have hF' : Fr S w w' := hF.mono fun b _ q => h2 b q
  exact ⟨he, h.next ⟨S1, grow S2 w w', fun b q => Or.inl (h1 b q), fun b q => q.imp (h2 b) (fun q => q), fun b q q2 => q2.elim (fun q2 => h3 b q q2) (fun q2 => by have := h.hi b (h1 b q); omega), hA.frame fun b hb q => hF.block b hb (fun q2 => h3 b q q2), hR'⟩ hF', hF'⟩
theorem gp_seg (h : Sep (GP p q L1 A L2 Al N) w0 w S) : ∃ S1, SegAt w S1 p L1 A N := by obtain ⟨S1, S2, h1, h2, h3, hA, hR⟩ := h.at_; exact ⟨S1, hA⟩
theorem gp_ref (h : Sep (GP p q L1 A L2 Al N) w0 w S) : ∃ S2, Sf w S2 q L2 Al := by obtain ⟨S1, S2, h1, h2, h3, hA, hR⟩ := h.at_; exact ⟨S2, hR⟩
theorem gp_dsj (h : Sep (GP p q L1 A L2 Al N) w0 w S) : Dsj 3 L1 ∧ ∀ k, (L1 k).length ≤ N := by
  obtain ⟨S1, hA⟩ := gp_seg h
  obtain ⟨g, Sr, hR, _, _⟩ := SegAt.rowsAt hA
  exact ⟨fun a b ha hb x h1 h2 => hR.disj ha hb h1 h2, fun k => hR.len_le k⟩
theorem insert_gp (h : Sep (GP p q L1 A L2 Al N) w0 w S) (id : Int) (hN : N < 1000000) :
    Calls Try.prog 10 #[.pointer (some ⟨p, 0, none⟩), .int .i64 id] w fun e w' => e = .returned (.bool (decide (rowOf 3 L1 id < 0) && mayIn 3 0 id)) ∧ Sep (GP p q (insL L1 id) A L2 Al (N + 1)) w0 w' (grow S w w') ∧ Fr S w w' :=
  gp_left h fun S1 hA => seg_insert S1 p L1 A N id w hA hN
theorem touch_gp (h : Sep (GP p q L1 A L2 Al N) w0 w S) (id : Int) :
    Calls Try.prog 11 #[.pointer (some ⟨p, 0, none⟩), .int .i64 id] w fun e w' => e = .returned (.bool (decide (0 ≤ rowOf 3 L1 id))) ∧ Sep (GP p q L1 (touA L1 A id) L2 Al N) w0 w' (grow S w w') ∧ Fr S w w' :=
  gp_left h fun S1 hA => (seg_touch S1 p L1 A N id w hA).mono fun e w' ⟨he, hA', hF⟩ => ⟨he, hA'.mono fun b _ q => Or.inl q, hF⟩
theorem remove_gp (h : Sep (GP p q L1 A L2 Al N) w0 w S) (id : Int) (hN : N ≤ 1000000) :
    Calls Try.prog 14 #[.pointer (some ⟨p, 0, none⟩), .int .i64 id] w fun e w' => e = .returned (.bool (decide (0 ≤ rowOf 3 L1 id))) ∧ Sep (GP p q (del L1 id) (setB' A id false) L2 Al N) w0 w' (grow S w w') ∧ Fr S w w' :=
  gp_left h fun S1 hA => seg_remove S1 p L1 A N id w hA hN
theorem step_gp (h : Sep (GP p q L1 A L2 Al N) w0 w S) (hN : N < 1000000) :
    Calls Try.prog 12 #[.pointer (some ⟨p, 0, none⟩)] w fun e w' => e = .returned (.bool (decide (0 ≤ whoF L1 A))) ∧ Sep (GP p q (stepL L1 A) (stepA L1 A) L2 Al (N + 1)) w0 w' (grow S w w') ∧ Fr S w w' :=
  gp_left h fun S1 hA => seg_step S1 p L1 A N w hA hN
theorem victim_gp (h : Sep (GP p q L1 A L2 Al N) w0 w S) :
    Calls Try.prog 13 #[.pointer (some ⟨p, 0, none⟩)] w fun e w' => e = .returned (.int .i64 (vict L1)) ∧ ∃ k, w' = w.drewN k := by
  obtain ⟨S1, hA⟩ := gp_seg h; exact seg_victim S1 p L1 A N w hA
theorem active_gp (h : Sep (GP p q L1 A L2 Al N) w0 w S) (id : Int) :
    Calls Try.prog 16 #[.pointer (some ⟨p, 0, none⟩), .int .i64 id] w fun e w' => e = .returned (.bool (A id)) ∧ w = w' := by
  obtain ⟨S1, hA⟩ := gp_seg h; exact seg_active S1 p L1 A N id w hA
/-- The rows behind, and All. -/
theorem all_gp (h : Sep (GP p q L1 A L2 Al N) w0 w S) (hN : N ≤ 1000000) : ∃ g, w.cell? ⟨p, 0, none⟩ = some (.pointer (some ⟨g, 0, none⟩)) ∧ ∀ row, Calls Try.prog 15 #[.pointer (some ⟨g, 0, none⟩), .int .i64 row] w fun e w' =>
      ∃ v, e = .returned v ∧ Held w0 w' S 3 1 v (rowL L1 row).length ((rowL L1 row).map (Value.int .i64)) ∧ Sep (GP p q L1 A L2 Al N) w0 w' S := by
  obtain ⟨S1, hA⟩ := gp_seg h
  obtain ⟨g, Sr, hR, hc, _⟩ := SegAt.rowsAt hA
  exact ⟨g, hc, fun row => (rows_all Sr g 3 L1 N row w hR hN).mono fun e w' ⟨v, he, hs, hB⟩ => ⟨v, he, Held.new h hs, gp_fr h (Fr.of_below hB)⟩⟩
theorem rall_gp (h : Sep (GP p q L1 A L2 Al N) w0 w S) : ∃ r, w.cell? ⟨q, 0, none⟩ = some (.pointer (some ⟨r, 0, none⟩)) ∧ ∀ row, Calls Try.prog 25 #[.pointer (some ⟨r, 0, none⟩), .int .i64 row] w fun e w' =>
      ∃ a cap S2, e = .returned (.slice a (rowL L2 row).length cap) ∧ Sl w S2 3 1 (.slice a (rowL L2 row).length cap) (rowL L2 row).length ((rowL L2 row).map (Value.int .i64)) ∧ w = w' := by
  obtain ⟨S2, r, sv, Sr, Sa, hR⟩ := gp_ref h
  exact ⟨r, hR.cells.1, fun row => (rf_all Sr r 3 L2 row w hR.hR).mono fun e w' ⟨a, cap, he, hs, hw⟩ => ⟨a, cap, Sr, he, hs, hw⟩⟩
theorem rinsert_gp (h : Sep (GP p q L1 A L2 Al N) w0 w S) (id : Int) (hN : ∀ k, (L2 k).length ≤ 1000000) (hd : Dsj 3 L2) :
    Calls Try.prog 18 #[.pointer (some ⟨q, 0, none⟩), .int .i64 id] w fun e w' => e = .returned (.bool (decide (rowOf 3 L2 id < 0) && mayIn 3 0 id)) ∧ Sep (GP p q L1 A (insL L2 id) Al N) w0 w' (grow S w w') ∧ Fr S w w' :=
  gp_right h fun S2 hR => sf_insert S2 q L2 Al w hR hN hd id
theorem rtouch_gp (h : Sep (GP p q L1 A L2 Al N) w0 w S) (id : Int) (hN : ∀ k, (L2 k).length ≤ 1000000) (hd : Dsj 3 L2) (hA : Al.length ≤ 1000000) :
    Calls Try.prog 19 #[.pointer (some ⟨q, 0, none⟩), .int .i64 id] w fun e w' => e = .returned (.bool (decide (0 ≤ rowOf 3 L2 id))) ∧ Sep (GP p q L1 A L2 (if 0 ≤ rowOf 3 L2 id then Al.filter (· != id) ++ [id] else Al) N) w0 w' (grow S w w') ∧ Fr S w w' :=
  gp_right h fun S2 hR => sf_touch S2 q L2 Al w hR hN hd hA id
theorem rremove_gp (h : Sep (GP p q L1 A L2 Al N) w0 w S) (id : Int) (hN : ∀ k, (L2 k).length ≤ 1000000) (hd : Dsj 3 L2) (hA : Al.length ≤ 1000000) :
    Calls Try.prog 20 #[.pointer (some ⟨q, 0, none⟩), .int .i64 id] w fun e w' => e = .returned (.bool (decide (0 ≤ rowOf 3 L2 id))) ∧ Sep (GP p q L1 A (del L2 id) (Al.filter (· != id)) N) w0 w' (grow S w w') ∧ Fr S w w' :=
  gp_right h fun S2 hR => sf_remove S2 q L2 Al w hR hN hd hA id
theorem rstep_gp (h : Sep (GP p q L1 A L2 Al N) w0 w S) (hN : ∀ k, (L2 k).length ≤ 1000000) (hd : Dsj 3 L2) (hA : Al.length ≤ 1000000) :
    Calls Try.prog 21 #[.pointer (some ⟨q, 0, none⟩)] w fun e w' => e = .returned (.bool (decide (0 ≤ whoF L2 (actOf Al)))) ∧ Sep (GP p q L1 A (stepL L2 (actOf Al)) (if whoF L2 (actOf Al) < 0 then Al else Al.filter (· != whoF L2 (actOf Al))) N) w0 w' (grow S w w') ∧ Fr S w w' :=
  gp_right h fun S2 hR => sf_step S2 q L2 Al w hR hN hd hA
theorem rvictim_gp (h : Sep (GP p q L1 A L2 Al N) w0 w S) (hN : ∀ k, (L2 k).length ≤ 1000000) :
    Calls Try.prog 22 #[.pointer (some ⟨q, 0, none⟩)] w fun e w' => e = .returned (.int .i64 (vict L2)) ∧ w = w' := by
  obtain ⟨S2, hR⟩ := gp_ref h; exact sf_victim S2 q L2 Al w hR hN
theorem ractive_gp (h : Sep (GP p q L1 A L2 Al N) w0 w S) (id : Int) (hA : Al.length ≤ 1000000) :
    Calls Try.prog 23 #[.pointer (some ⟨q, 0, none⟩), .int .i64 id] w fun e w' => e = .returned (.bool (decide (id ∈ Al))) ∧ w = w' := by
  obtain ⟨S2, hR⟩ := gp_ref h; exact sf_active S2 q L2 Al id w hR hA
theorem gp_held_set {T : TypeId} {b off m cap : Nat} {xs : List Value} (hS : Sep (GP p q L1 A L2 Al N) w0 w S) (h : Held w0 w S T 1 (.slice (some ⟨b, off, none⟩) m cap) m xs) {i : Nat} (hi : i < m) (u : Value) :
    Held w0 (w.setCell ⟨b, off + i, none⟩ u) S T 1 (.slice (some ⟨b, off, none⟩) m cap) m (xs.set i u) ∧ Sep (GP p q L1 A L2 Al N) w0 (w.setCell ⟨b, off + i, none⟩ u) S := by
  have hx : i < xs.length := by have := h.1; omega
  obtain ⟨b', off', cap', hv, hSb, _⟩ := Sl.pos h (by omega)
  simp at hv
  obtain ⟨⟨rfl, rfl⟩, rfl⟩ := hv
  exact ⟨Sl.set h hx u, gp_keep hS (F := fun k => k = b) (Fr.setCell (Fr.refl (fun k => k = b) w) (p := ⟨b, off + i, none⟩) (fun _ => rfl) u) (fun k _ s q => hSb.1 (q ▸ s)) (fun k hk q => by have := hSb.2; omega)⟩
end
/-- Who is active, in both. -/
theorem act_out (Al : List Int) (id : Int) : setB' (actOf Al) id false = actOf (Al.filter (· != id)) := by
  funext x
  unfold setB' actOf
  by_cases e : x = id
  · rw [if_pos e]; symm; exact decide_eq_false (fun q => by have := (List.mem_filter.1 q).2; simp at this; exact this e)
  · rw [if_neg e]; exact decide_eq_decide.2 ⟨fun q => List.mem_filter.2 ⟨q, by simpa using e⟩, fun q => (List.mem_filter.1 q).1⟩
theorem act_in (L : Nat → List Int) (Al : List Int) (id : Int) : touA L (actOf Al) id = actOf (if 0 ≤ rowOf 3 L id then Al.filter (· != id) ++ [id] else Al) := by
  unfold touA
  by_cases hr : 0 ≤ rowOf 3 L id
  · rw [if_pos hr, if_pos hr]
    funext x
    unfold setB' actOf
    by_cases e : x = id
    · rw [if_pos e]; symm; exact decide_eq_true (by rw [e]; simp)
    · rw [if_neg e]; exact decide_eq_decide.2 ⟨fun q => List.mem_append_left _ (List.mem_filter.2 ⟨q, by simpa using e⟩), fun q => (List.mem_append.1 q).elim (fun q => (List.mem_filter.1 q).1) (fun q => absurd (List.mem_singleton.1 q) e)⟩
  · rw [if_neg hr, if_neg hr]
theorem act_step (L : Nat → List Int) (Al : List Int) : stepA L (actOf Al) = actOf (if whoF L (actOf Al) < 0 then Al else Al.filter (· != whoF L (actOf Al))) := by
  unfold stepA
  split
  · rfl
  · exact act_out Al _
end Go.Proofs.Ytldnacphfoagnac
