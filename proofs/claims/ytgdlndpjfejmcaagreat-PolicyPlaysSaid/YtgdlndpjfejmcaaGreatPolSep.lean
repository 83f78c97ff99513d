/- Layer 15 (policy) in blocks of its own: what each call does, to be taken one by one; of a known kind (PKs), of whatever kind (PX). -/
import Derived.Test.YtgdlndpjfejmcaaGreatPolVic
namespace Go.Proofs.YtgdlndpjfejmcaaGreat
open Go.RowKit
set_option linter.unusedVariables false
set_option maxRecDepth 100000
def PKs (p : Nat) (k : PK) (N M : Nat) (w : World) (S : Nat → Prop) : Prop := PolAt w S p k N M
def PX (p : Nat) (X : List Int) (N M : Nat) (w : World) (S : Nat → Prop) : Prop := ∃ k, PolAt w S p k N M ∧ Std k X
section
variable {w0 w w' : World} {S : Nat → Prop} {p : Nat} {k : PK} {X : List Int} {N N' M M' : Nat}
theorem px_drewN (h : Sep (PX p X N M) w0 w S) (j : Nat) : Sep (PX p X N M) w0 (w.drewN j) S := ⟨by obtain ⟨k, h1, h2⟩ := h.at_; exact ⟨k, h1.frame (Nat.le_refl _) fun _ _ _ => rfl, h2⟩, h.fr.drewN j, h.lo, h.hi⟩
theorem pks_drewN (h : Sep (PKs p k N M) w0 w S) (j : Nat) : Sep (PKs p k N M) w0 (w.drewN j) S := ⟨PolAt.frame h.at_ (Nat.le_refl _) fun _ _ _ => rfl, h.fr.drewN j, h.lo, h.hi⟩
theorem px_drew (h : Sep (PX p X N M) w0 w S) : Sep (PX p X N M) w0 w.drew S := ⟨by obtain ⟨k, h1, h2⟩ := h.at_; exact ⟨k, h1.frame (Nat.le_refl _) fun _ _ _ => rfl, h2⟩, h.fr.drew, h.lo, h.hi⟩
theorem px_keep (h : Sep (PX p X N M) w0 w S) {F : Nat → Prop} (hF : Fr F w w') (hd : ∀ b, b < w.heap.size → S b → ¬ F b) (h0 : ∀ b, b < w0.heap.size → ¬ F b) : Sep (PX p X N M) w0 w' S :=
  h.keep hF hd h0 (fun hA hf => by obtain ⟨k, h1, h2⟩ := hA; exact ⟨k, h1.frame hF.size hf, h2⟩)
theorem pks_keep (h : Sep (PKs p k N M) w0 w S) {F : Nat → Prop} (hF : Fr F w w') (hd : ∀ b, b < w.heap.size → S b → ¬ F b) (h0 : ∀ b, b < w0.heap.size → ¬ F b) : Sep (PKs p k N M) w0 w' S :=
  h.keep hF hd h0 (fun hA hf => PolAt.frame hA hF.size hf)
theorem px_below (h : Sep (PX p X N M) w0 w S) (hB : Below w.heap.size w w') : Sep (PX p X N M) w0 w' S :=
  px_keep h (Fr.of_below hB) (fun b hb _ => by omega) (fun b hb => by have := h.fr.size; omega)
theorem pks_below (h : Sep (PKs p k N M) w0 w S) (hB : Below w.heap.size w w') : Sep (PKs p k N M) w0 w' S :=
  pks_keep h (Fr.of_below hB) (fun b hb _ => by omega) (fun b hb => by have := h.fr.size; omega)
theorem px_alloc (h : Sep (PX p X N M) w0 w S) (o : Obj) : Sep (PX p X N M) w0 (w.alloc o) S := px_below h (((Fr.refl (fun _ => False) w).alloc o).belowAll)
theorem pks_alloc (h : Sep (PKs p k N M) w0 w S) (o : Obj) : Sep (PKs p k N M) w0 (w.alloc o) S := pks_below h (((Fr.refl (fun _ => False) w).alloc o).belowAll)
theorem px_more (h : Sep (PX p X N M) w0 w S) (hN : N ≤ N') (hM : M ≤ M') : Sep (PX p X N' M') w0 w S := h.as (fun hA => by obtain ⟨k, h1, h2⟩ := hA; exact ⟨k, h1.more hN hM, h2⟩)
theorem std_new (n : Nat) : Std (PK.new n) [] := by
  have e : (PK.new n).who = [] ∧ (PK.new n).Inv := by
    match n with
    | 0 => exact ⟨rfl, trivial⟩
    | 1 => exact ⟨rfl, trivial⟩
    | 2 => exact ⟨rfl, Int.le_refl 0, Int.le_refl 0, show (0 : Int) ≤ 1000000000000 by decide⟩
    | _ + 3 => exact ⟨rfl, trivial⟩
  exact ⟨List.nodup_nil, fun x => by rw [e.1], e.2⟩
theorem new_px (n : Nat) (hn : n ≤ 3) (hF : Fr (From w0.heap.size) w0 w) :
    Calls Tryz.prog 5 #[.int .i64 n] w fun e w' => ∃ p S, e = .returned (.pointer (some ⟨p, 0, none⟩)) ∧ Sep (PX p [] 0 0) w0 w' S ∧ (∀ b, S b → w.heap.size ≤ b) ∧ Fr (fun _ => False) w w' :=
  (pol_new n hn w).mono fun e w' ⟨p, he, hA, hG⟩ => ⟨p, _, he, Sep.new hF ⟨_, hA, std_new n⟩ (fun b q => q) hG, fun b q => q.1, hG⟩
theorem new_pks (n : Nat) (hn : n ≤ 3) (hF : Fr (From w0.heap.size) w0 w) :
    Calls Tryz.prog 5 #[.int .i64 n] w fun e w' => ∃ p S, e = .returned (.pointer (some ⟨p, 0, none⟩)) ∧ Sep (PKs p (PK.new n) 0 0) w0 w' S ∧ (∀ b, S b → w.heap.size ≤ b) ∧ Fr (fun _ => False) w w' :=
  (pol_new n hn w).mono fun e w' ⟨p, he, hA, hG⟩ => ⟨p, _, he, Sep.new hF hA (fun b q => q) hG, fun b q => q.1, hG⟩
theorem insert_pks (h : Sep (PKs p k N M) w0 w S) (id hh : Int) (hN : N < 1000000) (hM : M ≤ 1000000) (hk : k.fit) :
    Calls Tryz.prog 7 #[.pointer (some ⟨p, 0, none⟩), .int .i64 id, .int .u64 hh] w fun e w' => e = .returned (.bool (k.insB id)) ∧ Sep (PKs p (k.ins id hh) (N + 1) (M)) w0 w' (grow S w w') ∧ Fr S w w' :=
  (pk_insert h.at_ id hh hN hM hk).mono fun e w' ⟨he, hA, hF⟩ => ⟨he, h.next hA hF, hF⟩
theorem insert_px (h : Sep (PX p X N M) w0 w S) (id hh : Int) (hid : 0 ≤ id ∧ id ≤ 4194303) (hN : N < 1000000) (hM : M ≤ 1000000) :
    Calls Tryz.prog 7 #[.pointer (some ⟨p, 0, none⟩), .int .i64 id, .int .u64 hh] w fun e w' => e = .returned (.bool (decide (id ∉ X))) ∧ Sep (PX p (if id ∈ X then X else id :: X) (N + 1) (M)) w0 w' (grow S w w') ∧ Fr S w w' := by
  obtain ⟨k, hA0, hS⟩ := h.at_
  have ho := pol_ok hA0
  obtain ⟨e1, e2, e3⟩ := std_ins ho hS hh hid
  exact (pk_insert hA0 id hh hN hM e3).mono fun e w' ⟨he, hA, hF⟩ => ⟨e1 ▸ he, h.next ⟨_, hA, e2⟩ hF, hF⟩
theorem touch_pks (h : Sep (PKs p k N M) w0 w S) (id : Int) (hN : N < 1000000) :
    Calls Tryz.prog 9 #[.pointer (some ⟨p, 0, none⟩), .int .i64 id] w fun e w' => e = .returned (.bool (k.touB id)) ∧ Sep (PKs p (k.tou id) (N + 1) (M)) w0 w' (grow S w w') ∧ Fr S w w' :=
  (pk_touch h.at_ id hN).mono fun e w' ⟨he, hA, hF⟩ => ⟨he, h.next hA hF, hF⟩
theorem touch_px (h : Sep (PX p X N M) w0 w S) (id : Int) (hN : N < 1000000) :
    Calls Tryz.prog 9 #[.pointer (some ⟨p, 0, none⟩), .int .i64 id] w fun e w' => e = .returned (.bool (decide (id ∈ X))) ∧ Sep (PX p (X) (N + 1) (M)) w0 w' (grow S w w') ∧ Fr S w w' := by
  obtain ⟨k, hA0, hS⟩ := h.at_
  have ho := pol_ok hA0
  obtain ⟨e1, e2⟩ := std_tou ho hS id
  exact (pk_touch hA0 id hN).mono fun e w' ⟨he, hA, hF⟩ => ⟨e1 ▸ he, h.next ⟨_, hA, e2⟩ hF, hF⟩
theorem remove_pks (h : Sep (PKs p k N M) w0 w S) (id : Int) (hN : N ≤ 1000000) :
    Calls Tryz.prog 11 #[.pointer (some ⟨p, 0, none⟩), .int .i64 id] w fun e w' => e = .returned (.bool (k.hasB id)) ∧ Sep (PKs p (k.rem id) (N) (M)) w0 w' (grow S w w') ∧ Fr S w w' :=
  (pk_remove h.at_ id hN).mono fun e w' ⟨he, hA, hF⟩ => ⟨he, h.next hA hF, hF⟩
theorem remove_px (h : Sep (PX p X N M) w0 w S) (id : Int) (hN : N ≤ 1000000) :
    Calls Tryz.prog 11 #[.pointer (some ⟨p, 0, none⟩), .int .i64 id] w fun e w' => e = .returned (.bool (decide (id ∈ X))) ∧ Sep (PX p (X.filter (· != id)) (N) (M)) w0 w' (grow S w w') ∧ Fr S w w' := by
  obtain ⟨k, hA0, hS⟩ := h.at_
  have ho := pol_ok hA0
  exact (pk_remove hA0 id hN).mono fun e w' ⟨he, hA, hF⟩ => ⟨std_has hS id ▸ he, h.next ⟨_, hA, std_rem hS id⟩ hF, hF⟩
theorem evict_pks (h : Sep (PKs p k N M) w0 w S) (id : Int) (hN : N ≤ 1000000) (hM : M < 1000000) :
    Calls Tryz.prog 13 #[.pointer (some ⟨p, 0, none⟩), .int .i64 id] w fun e w' => e = .returned (.bool (k.hasB id)) ∧ Sep (PKs p (k.evi id) (N) (M + 1)) w0 w' (grow S w w') ∧ Fr S w w' :=
  (pk_evict h.at_ id hN hM).mono fun e w' ⟨he, hA, hF⟩ => ⟨he, h.next hA hF, hF⟩
theorem evict_px (h : Sep (PX p X N M) w0 w S) (id : Int) (hN : N ≤ 1000000) (hM : M < 1000000) :
    Calls Tryz.prog 13 #[.pointer (some ⟨p, 0, none⟩), .int .i64 id] w fun e w' => e = .returned (.bool (decide (id ∈ X))) ∧ Sep (PX p (X.filter (· != id)) (N) (M + 1)) w0 w' (grow S w w') ∧ Fr S w w' := by
  obtain ⟨k, hA0, hS⟩ := h.at_
  have ho := pol_ok hA0
  exact (pk_evict hA0 id hN hM).mono fun e w' ⟨he, hA, hF⟩ => ⟨std_has hS id ▸ he, h.next ⟨_, hA, std_evi hS id⟩ hF, hF⟩
theorem cap_pks (h : Sep (PKs p k N M) w0 w S) (n : Int) (hM : M ≤ 1000000) :
    Calls Tryz.prog 15 #[.pointer (some ⟨p, 0, none⟩), .int .i64 n] w fun e w' => e = .returned (.tuple #[]) ∧ Sep (PKs p (k.cap n) (N) (M)) w0 w' (grow S w w') ∧ Fr S w w' :=
  (pk_cap h.at_ n hM).mono fun e w' ⟨he, hA, hF⟩ => ⟨he, h.next hA hF, hF⟩
theorem cap_px (h : Sep (PX p X N M) w0 w S) (n : Int) (hn : n ≤ 1000000000000) (hM : M ≤ 1000000) :
    Calls Tryz.prog 15 #[.pointer (some ⟨p, 0, none⟩), .int .i64 n] w fun e w' => e = .returned (.tuple #[]) ∧ Sep (PX p (X) (N) (M)) w0 w' (grow S w w') ∧ Fr S w w' := by
  obtain ⟨k, hA0, hS⟩ := h.at_
  have ho := pol_ok hA0
  exact (pk_cap hA0 n hM).mono fun e w' ⟨he, hA, hF⟩ => ⟨he, h.next ⟨_, hA, std_cap hS n hn⟩ hF, hF⟩
theorem victim_pks (h : Sep (PKs p k N M) w0 w S) (hh : Int) (hN : N + k.cost < 1000000) :
    Calls Tryz.prog 18 #[.pointer (some ⟨p, 0, none⟩), .int .u64 hh] w fun e w' => e = .returned (.int .i64 (k.vicI hh)) ∧ Sep (PKs p (k.vicS) (N + k.cost) (M)) w0 w' (grow S w w') ∧ Fr S w w' :=
  (pk_victim h.at_ hh hN).mono fun e w' ⟨he, hA, hF⟩ => ⟨he, h.next hA hF, hF⟩
theorem victim_px (h : Sep (PX p X N M) w0 w S) (hh : Int) (hN : N + (3 * X.length + 5) < 1000000) :
    Calls Tryz.prog 18 #[.pointer (some ⟨p, 0, none⟩), .int .u64 hh] w fun e w' => ∃ v, e = .returned (.int .i64 v) ∧ (X = [] → v = -1) ∧ (X ≠ [] → v ∈ X) ∧ Sep (PX p (X) (N + (3 * X.length + 5)) (M)) w0 w' (grow S w w') ∧ Fr S w w' := by
  obtain ⟨k, hA0, hS⟩ := h.at_
  have ho := pol_ok hA0
  obtain ⟨e1, e2, e3, e4⟩ := std_vic ho hS hh
  exact (pk_victim hA0 hh (by omega)).mono fun e w' ⟨he, hA, hF⟩ => ⟨_, he, e2, e3, h.next ⟨_, hA.more (by omega) (Nat.le_refl _), e1⟩ hF, hF⟩
theorem has_pks (h : Sep (PKs p k N M) w0 w S) (id : Int) :
    Calls Tryz.prog 21 #[.pointer (some ⟨p, 0, none⟩), .int .i64 id] w fun e w' => e = .returned (.bool (k.hasB id)) ∧ ∃ j, w' = w.drewN j ∧ Sep (PKs p k N M) w0 w' S :=
  (pk_has h.at_ id).mono fun e w' ⟨he, j, hj⟩ => ⟨he, j, hj, hj ▸ pks_drewN h j⟩
theorem has_px (h : Sep (PX p X N M) w0 w S) (id : Int) :
    Calls Tryz.prog 21 #[.pointer (some ⟨p, 0, none⟩), .int .i64 id] w fun e w' => e = .returned (.bool (decide (id ∈ X))) ∧ ∃ j, w' = w.drewN j ∧ Sep (PX p X N M) w0 w' S := by
  obtain ⟨k, hA0, hS⟩ := h.at_
  exact (pk_has hA0 id).mono fun e w' ⟨he, j, hj⟩ => ⟨std_has hS id ▸ he, j, hj, hj ▸ px_drewN h j⟩
theorem len_pks (h : Sep (PKs p k N M) w0 w S) (hN : N ≤ 1000000) :
    Calls Tryz.prog 19 #[.pointer (some ⟨p, 0, none⟩)] w fun e w' => e = .returned (.int .i64 k.len) ∧ ∃ j, w' = w.drewN j ∧ Sep (PKs p k N M) w0 w' S :=
  (pk_len h.at_ hN).mono fun e w' ⟨he, j, hj⟩ => ⟨he, j, hj, hj ▸ pks_drewN h j⟩
theorem len_px (h : Sep (PX p X N M) w0 w S) (hN : N ≤ 1000000) :
    Calls Tryz.prog 19 #[.pointer (some ⟨p, 0, none⟩)] w fun e w' => e = .returned (.int .i64 X.length) ∧ ∃ j, w' = w.drewN j ∧ Sep (PX p X N M) w0 w' S := by
  obtain ⟨k, hA0, hS⟩ := h.at_
  exact (pk_len hA0 hN).mono fun e w' ⟨he, j, hj⟩ => ⟨std_len hS (pol_ok hA0) ▸ he, j, hj, hj ▸ px_drewN h j⟩
theorem px_nodup (h : Sep (PX p X N M) w0 w S) : X.Nodup := by obtain ⟨k, _, hS⟩ := h.at_; exact hS.nd
/-- A store into what is held. -/
theorem px_held_set {T : TypeId} {b off m cap : Nat} {xs : List Value} (hS : Sep (PX p X N M) w0 w S) (h : Held w0 w S T 1 (.slice (some ⟨b, off, none⟩) m cap) m xs) {i : Nat} (hi : i < m) (u : Value) :
    Held w0 (w.setCell ⟨b, off + i, none⟩ u) S T 1 (.slice (some ⟨b, off, none⟩) m cap) m (xs.set i u) ∧ Sep (PX p X N M) w0 (w.setCell ⟨b, off + i, none⟩ u) S := by
  have hx : i < xs.length := by have := h.1; omega
  obtain ⟨b', off', cap', hv, hSb, _⟩ := Sl.pos h (by omega)
  simp at hv
  obtain ⟨⟨rfl, rfl⟩, rfl⟩ := hv
  exact ⟨Sl.set h hx u, px_keep hS (F := fun k => k = b) (Fr.setCell (Fr.refl (fun k => k = b) w) (p := ⟨b, off + i, none⟩) (fun _ => rfl) u) (fun k _ s q => hSb.1 (q ▸ s)) (fun k hk q => by have := hSb.2; omega)⟩
theorem pks_held_set {T : TypeId} {b off m cap : Nat} {xs : List Value} (hS : Sep (PKs p k N M) w0 w S) (h : Held w0 w S T 1 (.slice (some ⟨b, off, none⟩) m cap) m xs) {i : Nat} (hi : i < m) (u : Value) :
    Held w0 (w.setCell ⟨b, off + i, none⟩ u) S T 1 (.slice (some ⟨b, off, none⟩) m cap) m (xs.set i u) ∧ Sep (PKs p k N M) w0 (w.setCell ⟨b, off + i, none⟩ u) S := by
  have hx : i < xs.length := by have := h.1; omega
  obtain ⟨b', off', cap', hv, hSb, _⟩ := Sl.pos h (by omega)
  simp at hv
  obtain ⟨⟨rfl, rfl⟩, rfl⟩ := hv
  exact ⟨Sl.set h hx u, pks_keep hS (F := fun k => k = b) (Fr.setCell (Fr.refl (fun k => k = b) w) (p := ⟨b, off + i, none⟩) (fun _ => rfl) u) (fun k _ s q => hSb.1 (q ▸ s)) (fun k hk q => by have := hSb.2; omega)⟩
end
end Go.Proofs.YtgdlndpjfejmcaaGreat
