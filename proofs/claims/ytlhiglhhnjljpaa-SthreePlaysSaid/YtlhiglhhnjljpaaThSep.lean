/- Layer 14 (sthree) in blocks of its own: what each call does, to be taken one by one. -/
import Derived.Test.YtlhiglhhnjljpaaTh4
namespace Go.Proofs.Ytlhiglhhnjljpaa
open Go.RowKit
set_option linter.unusedVariables false
def TH (p : Nat) (s : ThS) (N M : Nat) (w : World) (S : Nat → Prop) : Prop := ThAt w S p s N M
section
variable {w0 w w' : World} {S : Nat → Prop} {p : Nat} {s : ThS} {N N' M M' : Nat}
theorem th_drewN (h : Sep (TH p s N M) w0 w S) (k : Nat) : Sep (TH p s N M) w0 (w.drewN k) S := ⟨ThAt.frame h.at_ (Nat.le_refl _) fun _ _ _ => rfl, h.fr.drewN k, h.lo, h.hi⟩
theorem th_drew (h : Sep (TH p s N M) w0 w S) : Sep (TH p s N M) w0 w.drew S := ⟨ThAt.frame h.at_ (Nat.le_refl _) fun _ _ _ => rfl, h.fr.drew, h.lo, h.hi⟩
theorem th_keep (h : Sep (TH p s N M) w0 w S) {F : Nat → Prop} (hF : Fr F w w') (hd : ∀ b, b < w.heap.size → S b → ¬ F b) (h0 : ∀ b, b < w0.heap.size → ¬ F b) : Sep (TH p s N M) w0 w' S :=
  h.keep hF hd h0 (fun hA hf => ThAt.frame hA hF.size hf)
theorem th_below (h : Sep (TH p s N M) w0 w S) (hB : Below w.heap.size w w') : Sep (TH p s N M) w0 w' S :=
  th_keep h (Fr.of_below hB) (fun b hb _ => by omega) (fun b hb => by have := h.fr.size; omega)
theorem th_alloc (h : Sep (TH p s N M) w0 w S) (o : Obj) : Sep (TH p s N M) w0 (w.alloc o) S := th_below h (((Fr.refl (fun _ => False) w).alloc o).belowAll)
theorem th_more (h : Sep (TH p s N M) w0 w S) (hN : N ≤ N') (hM : M ≤ M') : Sep (TH p s N' M') w0 w S := h.as (fun hA => ThAt.more hA hN hM)
theorem new_th (hF : Fr (From w0.heap.size) w0 w) :
    Calls Try.prog 5 #[] w fun e w' => ∃ p S, e = .returned (.pointer (some ⟨p, 0, none⟩)) ∧ Sep (TH p th0 0 0) w0 w' S ∧ (∀ b, S b → w.heap.size ≤ b) ∧ Fr (fun _ => False) w w' :=
  (th_new w).mono fun e w' ⟨p, he, hA, hG⟩ => ⟨p, _, he, Sep.new hF hA (fun b q => q) hG, fun b q => q.1, hG⟩
theorem cap_th (h : Sep (TH p s N M) w0 w S) (n : Int) (hM : M ≤ 1000000) :
    Calls Try.prog 15 #[.pointer (some ⟨p, 0, none⟩), .int .i64 n] w fun e w' => e = .returned (.tuple #[]) ∧ Sep (TH p (capT s n) N M) w0 w' (grow S w w') ∧ Fr S w w' :=
  (Go.Proofs.Ytlhiglhhnjljpaa.th_cap S p s N M n w h.at_ hM).mono fun e w' ⟨he, hA, hF⟩ => ⟨he, h.next hA hF, hF⟩
theorem insert_th (h : Sep (TH p s N M) w0 w S) (id hh : Int) (hN : N < 1000000) (hM : M ≤ 1000000) :
    Calls Try.prog 16 #[.pointer (some ⟨p, 0, none⟩), .int .i64 id, .int .u64 hh] w fun e w' => e = .returned (.bool (inOk s id)) ∧ Sep (TH p (inT s id hh) (N + 1) M) w0 w' (grow S w w') ∧ Fr S w w' :=
  (th_insert S p s N M id hh w h.at_ hN hM).mono fun e w' ⟨he, hA, hF⟩ => ⟨he, h.next hA hF, hF⟩
theorem touch_th (h : Sep (TH p s N M) w0 w S) (id : Int) :
    Calls Try.prog 17 #[.pointer (some ⟨p, 0, none⟩), .int .i64 id] w fun e w' => e = .returned (.bool (s.K id).isSome) ∧ Sep (TH p (touchT s id) N M) w0 w' (grow S w w') ∧ Fr S w w' :=
  (th_touch S p s N M id w h.at_).mono fun e w' ⟨he, hA, hF, _⟩ => ⟨he, h.next (ThAt.mono hA fun b _ q => Or.inl q) hF, hF⟩
theorem remove_th (h : Sep (TH p s N M) w0 w S) (id : Int) (hN : N ≤ 1000000) :
    Calls Try.prog 26 #[.pointer (some ⟨p, 0, none⟩), .int .i64 id] w fun e w' => e = .returned (.bool (decide (0 ≤ rowOf 2 s.L id))) ∧ Sep (TH p (remT s id) N M) w0 w' (grow S w w') ∧ Fr S w w' :=
  (th_remove S p s N M id w h.at_ hN).mono fun e w' ⟨he, hA, hF⟩ => ⟨he, h.next hA hF, hF⟩
theorem evict_th (h : Sep (TH p s N M) w0 w S) (id : Int) (hN : N ≤ 1000000) (hM : M < 1000000) :
    Calls Try.prog 19 #[.pointer (some ⟨p, 0, none⟩), .int .i64 id] w fun e w' => e = .returned (.bool (decide (0 ≤ rowOf 2 s.L id))) ∧ Sep (TH p (evT s id) N (M + 1)) w0 w' (grow S w w') ∧ Fr S w w' :=
  (th_evict S p s N M id w h.at_ hN hM).mono fun e w' ⟨he, hA, hF⟩ => ⟨he, h.next hA hF, hF⟩
theorem victim_th (h : Sep (TH p s N M) w0 w S) (hN : N + measT s < 1000000) :
    Calls Try.prog 18 #[.pointer (some ⟨p, 0, none⟩)] w fun e w' => e = .returned (.int .i64 (vicT s).2) ∧ Sep (TH p (vicT s).1 (N + measT s) M) w0 w' (grow S w w') ∧ Fr S w w' :=
  (th_victim S p s N M w h.at_ hN).mono fun e w' ⟨he, hA, hF, _⟩ => ⟨he, h.next hA hF, hF⟩
theorem victim_th' (h : Sep (TH p s N M) w0 w S) (hN : N + measT s < 1000000) :
    Calls Try.prog 18 #[.pointer (some ⟨p, 0, none⟩)] w fun e w' => e = .returned (.int .i64 (vicT s).2) ∧ Sep (TH p (vicT s).1 (N + measT s) M) w0 w' (grow S w w') ∧ Fr S w w' ∧ w'.cell? ⟨p, 0, none⟩ = w.cell? ⟨p, 0, none⟩ :=
  (th_victim S p s N M w h.at_ hN).mono fun e w' ⟨he, hA, hF, hp⟩ => ⟨he, h.next hA hF, hF, World.cell?_of_block (w := w) hp⟩
theorem count_th (h : Sep (TH p s N M) w0 w S) (id : Int) :
    Calls Try.prog 10 #[.pointer (some ⟨p, 0, none⟩), .int .i64 id] w fun e w' => e = .returned (.int .i64 (countT s id)) ∧ w = w' := th_count S p s N M id w h.at_
theorem ghosts_th (h : Sep (TH p s N M) w0 w S) (hM : M ≤ 1000000) :
    Calls Try.prog 8 #[.pointer (some ⟨p, 0, none⟩)] w fun e w' => ∃ v, e = .returned v ∧ Held w0 w' S 29 1 v s.B.length (u64s s.B) ∧ Sep (TH p s N M) w0 w' S ∧ Fr (fun b => w.heap.size ≤ b) w w' :=
  (th_ghosts S p s N M w h.at_ hM).mono fun e w' ⟨v, he, hs, hF⟩ => ⟨v, he, Held.new h hs, th_below h (hF.below (Nat.le_refl _) fun _ _ q => q), hF⟩
theorem all_th (h : Sep (TH p s N M) w0 w S) (hN : N ≤ 1000000) :
    ∃ g, w.cell? ⟨p, 0, none⟩ = some (.pointer (some ⟨g, 0, none⟩)) ∧ (∀ row, Calls Try.prog 12 #[.pointer (some ⟨g, 0, none⟩), .int .i64 row] w fun e w' =>
      ∃ v, e = .returned v ∧ Held w0 w' S 3 1 v (rowL s.L row).length ((rowL s.L row).map (Value.int .i64)) ∧ Sep (TH p s N M) w0 w' S ∧ Fr (fun b => w.heap.size ≤ b) w w') ∧ S p := by
  obtain ⟨⟨g, b1, m, l, o, Sr, Sg, Sk, hO⟩, _⟩ := h.at_
  have c0 := cell_of_heap hO.hp 0
  simp at c0
  exact ⟨g, c0, fun row => (rows_all Sr g 2 s.L N row w hO.hR hN).mono fun e w' ⟨v, he, hs, hB⟩ => ⟨v, he, Held.new h hs, th_below h hB, Fr.of_below hB⟩, hO.hSp⟩
/-- All, where the rows lie at g. -/
theorem all_th_at (h : Sep (TH p s N M) w0 w S) (hN : N ≤ 1000000) {g : Nat} (hc : w.cell? ⟨p, 0, none⟩ = some (.pointer (some ⟨g, 0, none⟩))) (row : Int) :
    Calls Try.prog 12 #[.pointer (some ⟨g, 0, none⟩), .int .i64 row] w fun e w' =>
      ∃ v, e = .returned v ∧ Held w0 w' S 3 1 v (rowL s.L row).length ((rowL s.L row).map (Value.int .i64)) ∧ Sep (TH p s N M) w0 w' S ∧ Fr (fun b => w.heap.size ≤ b) w w' ∧ w'.cell? ⟨p, 0, none⟩ = some (.pointer (some ⟨g, 0, none⟩)) := by
  obtain ⟨g', hc', hA, hp⟩ := all_th h hN
  rw [hc] at hc'
  cases hc'
  refine (hA row).mono fun e w' ⟨v, he, hs, h', hF⟩ => ⟨v, he, hs, h', hF, ?_⟩
  exact (hF.cell (p := ⟨p, 0, none⟩) (h.hi p hp) (Nat.not_le.2 (h.hi p hp))).trans hc
theorem th_rows (h : Sep (TH p s N M) w0 w S) : (∀ r, r < 2 → (s.L r).Nodup) ∧ (∀ r q, r < 2 → q < 2 → ∀ x, x ∈ s.L r → x ∈ s.L q → q = r) ∧ (∀ r, (s.L r).length ≤ N) ∧ (∀ r, 2 ≤ r → s.L r = []) ∧ (∀ r x, r < 2 → x ∈ s.L r → 0 ≤ x ∧ x ≤ 4194303) ∧ ThIn s := by
  obtain ⟨⟨g, b1, m, l, o, Sr, Sg, Sk, hO⟩, hi⟩ := h.at_
  have hR := hO.hR
  exact ⟨fun r hr => hR.nodup hr, fun r s hr hs x h1 h2 => hR.disj hr hs h1 h2, hR.len_le, fun r hr => hR.nil hr, fun r x hr hx => hR.range hr hx, hi⟩
end
end Go.Proofs.Ytlhiglhhnjljpaa
