/- The reference of layer 10 (rows): Back, First. -/
import Derived.Test.YtldnacphfoagnaaRfE
namespace Go.Proofs.Ytldnacphfoagnaa
open Go.RowKit
set_option linter.unusedVariables false
set_option maxHeartbeats 4000000 in
theorem rf_back (S : Nat → Prop) (r n : Nat) (L : Nat → List Int) (row id : Int) (w : World) (h : Rf w S r n L) (hN : ∀ k, (L k).length ≤ 1000000) (hd : Dsj n L) :
    Calls Try.prog 16 #[.pointer (some ⟨r, 0, none⟩), .int .i64 row, .int .i64 id] w fun e w' => e = .returned (.bool (mayIn n row id)) ∧ Rf w' (grow S w w') r n (backL n L row id) ∧ Fr S w w' := by
  obtain ⟨i0, hi, hz0, hz1, hz2⟩ := info_parts info_i64
  have HM := Lib.hid (rf_may S r n L row id w h)
  have HT := Lib.hid (rf_take S r n L id w h hN hd)
  have HH := Lib.hid h
  obtain ⟨bm, hbm⟩ : ∃ bm, mayIn n row id = bm := ⟨_, rfl⟩
  have hiff := mayIn_iff hbm
  have hfl : backL n L row id = if bm then putB (del L id) row.toNat id else L := by unfold backL; rw [hbm]
  rw [hbm] at HM ⊢
  rw [hfl]
  clear hfl hbm h
  rcases bm with _ | _
  · clear hiff
    go_enter Try.func16, Try.ntmps16
    go_wp2_with fail
    refine HM.out.mono ?_
    rintro e w1 ⟨rfl, rfl⟩
    go_wp2
    go_ret
    exact ⟨rfl, HH.out.mono fun b _ q => Or.inl q, Fr.refl _ _⟩
  · obtain ⟨⟨hr0, hr1⟩, hid0, hid1⟩ := hiff.1 rfl
    obtain ⟨k, rfl⟩ : ∃ k : Nat, row = k := ⟨row.toNat, by omega⟩
    have hkn : k < n := by omega
    obtain ⟨bt, hbt⟩ : ∃ bt, decide (0 ≤ rowOf n L id) = bt := ⟨_, rfl⟩
    rw [hbt] at HT
    obtain ⟨l, hl⟩ : ∃ l, del L id k = l := ⟨_, rfl⟩
    have hll : l.length ≤ 1000000 := by rw [← hl]; exact Nat.le_trans (List.length_filter_le _ _) (hN k)
    clear hiff hr0 hid0 hid1 hN hd hbt
    go_enter Try.func16, Try.ntmps16
    go_wp2_with fail
    refine HM.out.mono ?_
    rintro e w0 ⟨rfl, rfl⟩
    go_wp2_with fail
    refine HT.out.mono ?_
    rintro e w1 ⟨rfl, hA, hF⟩
    obtain ⟨lb, cs, hO⟩ := hA
    obtain ⟨c0, _, hrb, hlb⟩ := hO.cell
    obtain ⟨a, cap, hc, hcap, hs, hfq⟩ := hO.row hkn
    rw [hl] at hc hcap hs
    have ea : ∀ (o : Obj) (j : Nat), (w1.drew.alloc o).cell? ⟨r, j, none⟩ = w1.cell? ⟨r, j, none⟩ := fun o j => World.cell?_of_block (w := w1) (a := ⟨r, j, none⟩) (heap_alloc_old (w := w1.drew) o hrb)
    have eb : ∀ (o : Obj) (j : Nat), (w1.drew.alloc o).cell? ⟨lb, j, none⟩ = w1.cell? ⟨lb, j, none⟩ := fun o j => World.cell?_of_block (w := w1) (a := ⟨lb, j, none⟩) (heap_alloc_old (w := w1.drew) o hlb)
    have H1 := Lib.hid (And.intro hO (And.intro hF (And.intro hs (And.intro c0 (And.intro hc hfq)))))
    have HN0 := Lib.hid (fun (X : World) (n : Nat) (hn : n = X.heap.size) => show Sl (X.alloc (.cells #[] 3)) (fun b => b = n) 3 1 (.slice (some ⟨n, 0, none⟩) 0 0) 0 [] from
      ⟨rfl, Or.inr ⟨n, 0, 0, #[], rfl, rfl, hn ▸ heap_alloc_new X _, Nat.le_refl _, by unfold maxLen; omega, by simp, fun i hi => absurd hi (by simp)⟩⟩)
    have HN1 := Lib.hid (fun (X : World) (n : Nat) (hn : n = X.heap.size) => show Sl (X.alloc (.cells #[.int .i64 id] 3)) (fun b => b = n) 3 1 (.slice (some ⟨n, 0, none⟩) 1 1) 1 [.int .i64 id] from
      ⟨rfl, Or.inr ⟨n, 0, 1, #[.int .i64 id], rfl, rfl, hn ▸ heap_alloc_new X _, Nat.le_refl _, by unfold maxLen; omega, by simp, fun i hi => (match i, hi with
        | 0, _ => rfl)⟩⟩)
    have eaa : ∀ (o o' : Obj) (j : Nat), ((w1.drew.alloc o).alloc o').cell? ⟨r, j, none⟩ = w1.cell? ⟨r, j, none⟩ := fun o o' j => World.cell?_of_block (w := w1) (a := ⟨r, j, none⟩) ((heap_alloc_old (w := w1.drew.alloc o) o' (by simp; omega)).trans (heap_alloc_old (w := w1.drew) o hrb))
    have ebb : ∀ (o o' : Obj) (j : Nat), ((w1.drew.alloc o).alloc o').cell? ⟨lb, j, none⟩ = w1.cell? ⟨lb, j, none⟩ := fun o o' j => World.cell?_of_block (w := w1) (a := ⟨lb, j, none⟩) ((heap_alloc_old (w := w1.drew.alloc o) o' (by simp; omega)).trans (heap_alloc_old (w := w1.drew) o hlb))
    clear hO hF hs
    go_wp2_with fail
    go_region_law (first
      | (refine step_append_from (S := _) rfl _ _ 22 rfl 3 i0 (.int .i64 0) 8 Try.underlying22 hi hz0 hz1 hz2 rfl _ l.length (l.map (Value.int .i64)) rfl X1.out.1 _ 1 [.int .i64 id] rfl Y1.out (ints_oneCell .i64 [id]) (by unfold maxLen; omega) (by omega) ?_; intro v3 w3 hs3 hf3; have hq3 : Fr (fun b => w1.heap.size ≤ b) w1 w3 := X1.out.2.trans hf3.arr (fun b _ q => q.1); have e03 := (hq3.cell (p := ⟨r, 0, none⟩) hrb (by simp; omega)).trans H1.out.2.2.2.1; have e13 := (hq3.cell (p := ⟨lb, k, none⟩) hlb (by simp; omega)).trans H1.out.2.2.2.2.1; have e23 := (hq3.fro (p := ⟨lb, k, none⟩) hlb (by simp; omega)).trans H1.out.2.2.2.2.2; obtain ⟨sb, scap3, rfl, _⟩ := hs3.shape; have HS2 := Lib.hid (And.intro (hs3.mono (S' := fun b => w1.heap.size ≤ b) (fun b _ q => q.elim (fun q => q.1) (fun q => by (have q1 := q.1; have := X1.out.2.size; omega)))) hq3); clear hs3 hf3 hq3)
      | (refine step_append_from (S := fun b => w1.heap.size ≤ b) rfl _ _ 22 rfl 3 i0 (.int .i64 0) 8 Try.underlying22 hi hz0 hz1 hz2 rfl _ l.length (l.map (Value.int .i64)) rfl (Sl.alloc X1.out.1 (.cells #[.int .i64 id] 3)) _ 1 [.int .i64 id] rfl (HN1.out w2 _ rfl) (ints_oneCell .i64 [id]) (by unfold maxLen; omega) (by omega) ?_; intro v3 w3 hs3 hf3; have hq3 : Fr (fun b => w1.heap.size ≤ b) w1 w3 := (X1.out.2.alloc (.cells #[.int .i64 id] 3)).trans hf3.arr (fun b _ q => q); have e03 := (hq3.cell (p := ⟨r, 0, none⟩) hrb (by simp; omega)).trans H1.out.2.2.2.1; have e13 := (hq3.cell (p := ⟨lb, k, none⟩) hlb (by simp; omega)).trans H1.out.2.2.2.2.1; have e23 := (hq3.fro (p := ⟨lb, k, none⟩) hlb (by simp; omega)).trans H1.out.2.2.2.2.2; obtain ⟨sb, scap3, rfl, _⟩ := hs3.shape; have HS2 := Lib.hid (And.intro (hs3.mono (S' := fun b => w1.heap.size ≤ b) (fun b _ q => q.elim (fun q => q) (fun q => by (have q1 := q.1; simp at q1; have := X1.out.2.size; omega)))) hq3); clear hs3 hf3 hq3)
      | (refine step_append_from (S := fun b => b = w1.heap.size) rfl _ _ 22 rfl 3 i0 (.int .i64 0) 8 Try.underlying22 hi hz0 hz1 hz2 rfl _ 0 [] rfl (HN0.out w1.drew _ rfl) _ l.length (l.map (Value.int .i64)) rfl (Sl.alloc (S := grow S w w1) (w := w1.drew) (Sl.frame H1.out.2.2.1 (fun _ _ _ => rfl)) _) (ints_oneCell .i64 l) (by unfold maxLen; omega) (by omega) ?_; intro v1 w2 hs1 hf1; rw [Nat.zero_add, List.nil_append] at hs1; have hq1 : Fr (fun b => w1.heap.size ≤ b) w1 w2 := ((Fr.refl (fun b => w1.heap.size ≤ b) w1).drew.alloc (.cells #[] 3)).trans hf1.arr (fun b _ q => by (have q' : b = w1.heap.size := q; omega)); have e01 := (hq1.cell (p := ⟨r, 0, none⟩) hrb (by simp; omega)).trans H1.out.2.2.2.1; have e11 := (hq1.cell (p := ⟨lb, k, none⟩) hlb (by simp; omega)).trans H1.out.2.2.2.2.1; have e21 := (hq1.fro (p := ⟨lb, k, none⟩) hlb (by simp; omega)).trans H1.out.2.2.2.2.2; have ec : ∀ (o : Obj), (w2.alloc o).cell? ⟨r, 0, none⟩ = some (.slice (some ⟨lb, 0, none⟩) n n) := fun o => (World.cell?_of_block (w := w2) (a := ⟨r, 0, none⟩) (heap_alloc_old (w := w2) o (Nat.lt_of_lt_of_le hrb hq1.size))).trans e01; obtain ⟨sa, scap, rfl, _⟩ := hs1.shape; have X1 := Lib.hid (And.intro (hs1.mono (S' := fun b => w1.heap.size ≤ b) (fun b _ q => q.elim (fun q => by (have q' : b = w1.heap.size := q; omega)) (fun q => by (have q1 := q.1; simp at q1; omega)))) hq1); clear hs1 hf1 hq1)
      | (refine step_append_from (S := fun b => b = w1.heap.size) rfl _ _ 22 rfl 3 i0 (.int .i64 0) 8 Try.underlying22 hi hz0 hz1 hz2 rfl _ 0 [] rfl (Sl.alloc (HN0.out w1.drew _ rfl) (.cells #[.int .i64 id] 3)) _ l.length (l.map (Value.int .i64)) rfl (Sl.alloc (S := grow S w w1) (Sl.alloc (w := w1.drew) (Sl.frame H1.out.2.2.1 (fun _ _ _ => rfl)) _) _) (ints_oneCell .i64 l) (by unfold maxLen; omega) (by omega) ?_; intro v1 w2 hs1 hf1; rw [Nat.zero_add, List.nil_append] at hs1; have hq1 : Fr (fun b => w1.heap.size ≤ b) w1 w2 := (((Fr.refl (fun b => w1.heap.size ≤ b) w1).drew.alloc (.cells #[] 3)).alloc (.cells #[.int .i64 id] 3)).trans hf1.arr (fun b _ q => by (have q' : b = w1.heap.size := q; omega)); have e01 := (hq1.cell (p := ⟨r, 0, none⟩) hrb (by simp; omega)).trans H1.out.2.2.2.1; have e11 := (hq1.cell (p := ⟨lb, k, none⟩) hlb (by simp; omega)).trans H1.out.2.2.2.2.1; have e21 := (hq1.fro (p := ⟨lb, k, none⟩) hlb (by simp; omega)).trans H1.out.2.2.2.2.2; have hy := (HN1.out (w1.drew.alloc (.cells #[] 3)) (w1.heap.size + 1) (by simp)).fr hf1.arr (fun b _ q r => by (have q' : b = w1.heap.size + 1 := q; have r' : b = w1.heap.size := r; omega)); obtain ⟨sa, scap, rfl, _⟩ := hs1.shape; have X1 := Lib.hid (And.intro (hs1.mono (S' := fun b => w1.heap.size ≤ b ∧ b ≠ w1.heap.size + 1) (fun b _ q => q.elim (fun q => by (have q' : b = w1.heap.size := q; omega)) (fun q => by (have q1 := q.1; simp at q1; omega)))) hq1); have Y1 := Lib.hid hy; clear hs1 hf1 hq1 hy)
      | (refine step_append_from (S := fun b => b = w1.heap.size + 1) rfl _ _ 22 rfl 3 i0 (.int .i64 0) 8 Try.underlying22 hi hz0 hz1 hz2 rfl _ 0 [] rfl (HN0.out (w1.drew.alloc (.cells #[.int .i64 id] 3)) (w1.heap.size + 1) (by simp)) _ l.length (l.map (Value.int .i64)) rfl (Sl.alloc (S := grow S w w1) (Sl.alloc (w := w1.drew) (Sl.frame H1.out.2.2.1 (fun _ _ _ => rfl)) _) _) (ints_oneCell .i64 l) (by unfold maxLen; omega) (by omega) ?_; intro v1 w2 hs1 hf1; rw [Nat.zero_add, List.nil_append] at hs1; have hq1 : Fr (fun b => w1.heap.size ≤ b) w1 w2 := (((Fr.refl (fun b => w1.heap.size ≤ b) w1).drew.alloc (.cells #[.int .i64 id] 3)).alloc (.cells #[] 3)).trans hf1.arr (fun b _ q => by (have q' : b = w1.heap.size + 1 := q; omega)); have e01 := (hq1.cell (p := ⟨r, 0, none⟩) hrb (by simp; omega)).trans H1.out.2.2.2.1; have e11 := (hq1.cell (p := ⟨lb, k, none⟩) hlb (by simp; omega)).trans H1.out.2.2.2.2.1; have e21 := (hq1.fro (p := ⟨lb, k, none⟩) hlb (by simp; omega)).trans H1.out.2.2.2.2.2; have hy := ((HN1.out w1.drew _ rfl).alloc (.cells #[] 3)).fr hf1.arr (fun b _ q r => by (have q' : b = w1.heap.size := q; have r' : b = w1.heap.size + 1 := r; omega)); obtain ⟨sa, scap, rfl, _⟩ := hs1.shape; have X1 := Lib.hid (And.intro (hs1.mono (S' := fun b => w1.heap.size ≤ b ∧ b ≠ w1.heap.size) (fun b _ q => q.elim (fun q => by (have q' : b = w1.heap.size + 1 := q; omega)) (fun q => by (have q1 := q.1; simp at q1; omega)))) hq1); have Y1 := Lib.hid hy; clear hs1 hf1 hq1 hy))
    all_goals
      go_wp2
      go_ret
      have h3 : Sl w3 (fun b => w1.heap.size ≤ b) 3 1 (.slice sb (l.length + 1) scap3) (l ++ [id]).length ((l ++ [id]).map (Value.int .i64)) := by
        rw [show (l ++ [id]).length = l.length + 1 from by simp, List.map_append]
        exact HS2.out.1
      have hput := H1.out.1.put HS2.out.2 hkn h3
      have hL : putB (del L id) k id = fun j => if j = k then l ++ [id] else del L id j := by
        funext j
        unfold putB
        by_cases e : j = k
        · rw [if_pos e, if_pos e, e, hl]
        · rw [if_neg e, if_neg e]
      rw [← hL] at hput
      exact ⟨rfl, hput.1.mono fun b _ q => grow_grow H1.out.2.1.size hput.2.size q, H1.out.2.1.grown hput.2⟩
end Go.Proofs.Ytldnacphfoagnaa
