/- Layer 10 (rows): New; what may not be. -/
import Derived.Test.YtemdhnolccnnfaaRowsEnds
import Derived.Laws.OwnMore
import Derived.Laws.MakeOwn
namespace Go.Proofs.Ytemdhnolccnnfaa
open Go.RowKit
set_option linter.unusedVariables false
theorem run_make_int (n : Nat) (hn : n ≤ 8) (w : World) : (Instr.makeSlice 29 (.int .i64 (n : Int)) (.int .i64 (n : Int))).run Try.prog w = .ok (.slice (some ⟨w.heap.size, 0, none⟩) n n) (w.alloc (.cells (List.replicate n (iv 0)).toArray 3)) := by
  obtain ⟨i, hi, hz0, hz1, hz2⟩ := info_parts info_i64
  have hb : (i.bytes : Int) * (n : Int) ≤ 281474976710656 := by rw [hz2]; omega
  have hr := run_make (P := Try.prog) w 29 3 i _ Try.underlying29 hi hz0 .i64 .i64 n n (by omega) (by omega) hb (by omega)
  simp only [Int.toNat_natCast] at hr
  rw [hr, hz1]
  have : madeCells (Value.int IntKind.i64 0).cells (n * 1) = (List.replicate n (iv 0)).toArray := by
    apply Array.toList_inj.1
    show (madeCells #[Value.int IntKind.i64 0] (n * 1)).toList = _
    rw [toList_madeCells_one, Nat.mul_one]
    rfl
  rw [this]
/-- The ends of so many rows, empty. -/
def ends (k : Nat) : List Lnk := (List.range k).map fun i => ⟨-1, i, i, i⟩
theorem ends_len (k : Nat) : (ends k).length = k := by simp [ends]
theorem ends_succ (k : Nat) : ends (k + 1) = ends k ++ [⟨-1, k, k, k⟩] := by simp [ends, List.range_succ]
theorem ends_get {k r : Nat} (h : r < k) : (ends k)[r]? = some ⟨-1, r, r, r⟩ := by simp [ends, h]
theorem ends_good (n : Nat) : Good n (ends n) [] [] (fun _ => []) := by
  refine ⟨by rw [ends_len]; omega, fun r hr => ?_, fun _ _ => List.nodup_nil, (fun _ _ _ h => by cases h), fun r hr => ?_, List.nodup_nil, (fun _ h => by cases h), List.nodup_nil, (fun _ _ h => by cases h), fun _ _ => rfl⟩
  · show lA (ends n) r = r ∧ lB (ends n) r = r
    unfold lA lB; rw [ends_get hr]; simp
  · unfold lI; rw [ends_get hr]; simp
set_option maxRecDepth 100000 in
set_option maxHeartbeats 2000000 in
theorem rows_new (n : Nat) (h1 : 1 ≤ n) (h8 : n ≤ 8) (w : World) :
    Calls Try.prog 13 #[.int .i64 n] w fun e w' => ∃ g, e = .returned (.pointer (some ⟨g, 0, none⟩)) ∧ RowsAt w' (fun b => w.heap.size ≤ b ∧ b < w'.heap.size) g n (fun _ => []) 0 ∧ Fr (fun _ => False) w w' := by
  have hmm := @run_makeMap Try.prog
  have hmk := run_make_int n h8
  have i1 : (1 : Int) ≤ n := by omega
  have i8 : decide ((8 : Int) < n) = false := decide_eq_false (by omega)
  obtain ⟨i0, hi, hz0, hz1, hz2⟩ := info_parts info_link
  go_enter Try.func13, Try.ntmps13
  go_wp2
  have hO : RowsO (((w.alloc (.map #[] 0)).alloc (.cells (List.replicate n (iv 0)).toArray 3)).alloc (.cells #[.slice none 0 0, .slice none 0 0, .map (some w.heap.size), .slice (some ⟨w.heap.size + 1, 0, none⟩) n n] 50)) (fun b => w.heap.size ≤ b) (w.heap.size + 1 + 1) n [] [] [] (List.replicate n 0) w.heap.size (w.heap.size + 1) (.slice none 0 0) (.slice none 0 0) (.map #[] 0) := by
    refine ⟨by omega, by omega, by omega, by simp, ?_, ?_, mapBlk_nil _, Sl.nil _ _ _ _, Sl.nil _ _ _ _, ?_⟩
    · have := heap_alloc_new ((w.alloc (.map #[] 0)).alloc (.cells (List.replicate n (iv 0)).toArray 3)) (.cells #[.slice none 0 0, .slice none 0 0, .map (some w.heap.size), .slice (some ⟨w.heap.size + 1, 0, none⟩) n n] 50)
      simpa using this
    · rw [heap_alloc_old _ (by simp; omega), heap_alloc_old _ (by simp), heap_alloc_new]
    · rw [heap_alloc_old _ (by simp)]
      have := heap_alloc_new (w.alloc (.map #[] 0)) (.cells (List.replicate n (iv 0)).toArray 3)
      simpa using this
  have hF : Fr (fun _ => False) w (((w.alloc (.map #[] 0)).alloc (.cells (List.replicate n (iv 0)).toArray 3)).alloc (.cells #[.slice none 0 0, .slice none 0 0, .map (some w.heap.size), .slice (some ⟨w.heap.size + 1, 0, none⟩) n n] 50)) :=
    (((Fr.refl _ w).alloc _).alloc _).alloc _
  have H0 := Lib.hid (And.intro hO hF)
  clear hO hF hmk hmm
  go_loopw [17, 4] (fun s t wr => ∃ k : Nat, k ≤ n ∧ s = .int .i64 k ∧ RowsM wr (fun b => w.heap.size ≤ b) (w.heap.size + 1 + 1) n (ends k) [] [] (List.replicate n 0) ∧ Fr (fun _ => False) w wr) (fun s _ _ => n - (intOf s).toNat)
  case atStart => exact ⟨0, by omega, rfl, H0.out.1.shut, H0.out.2⟩
  case round =>
    clear H0
    obtain ⟨k, hk, rfl, hM, hF⟩ := hrel
    by_cases hlt : k < n
    · obtain ⟨m, nb, lv, fv, o, hO⟩ := hM.opened
      have c0 := cell_of_heap hO.hg 0
      simp at c0
      obtain ⟨la, lcap, rfl, _⟩ := hO.hlk.shape
      have hel := ends_len k
      have HS := Lib.hid (And.intro hO hF)
      rw [hel] at c0
      have HE := Lib.hid hel
      clear hO hM hF hel
      go_wp2_with (first
        | (at_builtin; go_must (refine wpList_append_sl (S := fun b => w.heap.size ≤ b) rfl _ _ 48 rfl 52 i0 (.agg #[.int .i64 0, .int .i64 0, .int .i64 0, .int .i64 0]) 4 32 Try.underlying48 hi hz0 hz1 hz2 rfl (by decide) _ k (lcells (ends k)) rfl ((by have := HS.out.1.hlk; rw [HE.out] at this; exact this : Sl wr (fun b => w.heap.size ≤ b) 52 4 (.slice la k lcap) k (lcells (ends k))).alloc _) ⟨_, 0, none⟩ 1 1 [.int .i64 (-1), .int .i64 k, .int .i64 k, .int .i64 k] rfl rfl (cells_new _ #[.int .i64 (-1), .int .i64 k, .int .i64 k, .int .i64 k] _) (by simp [Value.oneCell']) (by unfold maxLen; omega) (by omega) ?_); intro v1 w3 hs1 hf1; obtain ⟨a1, cap1, rfl, _⟩ := hs1.shape; have hg1 := (HS.out.1.alloc _).appLinks_g hf1; have HS1 := Lib.hid (And.intro hs1 hf1); clear hs1 hf1; rw [heap_alloc_old _ (lt_of_heap HS.out.1.hg), HS.out.1.hg] at hg1; have e1 := cell_of_heap hg1 0; have e2 := fro_of_heap hg1 0; simp at e1; clear hg1))
      go_roundw
      case rel =>
        obtain ⟨hs1, hf1⟩ := HS1.out
        have hO1 := RowsO.appLinks (lk' := ends (k + 1)) (HS.out.1.alloc _) hf1 (by rw [ends_len, ends_succ]; simpa [lcells, iv] using hs1)
        refine ⟨k + 1, by omega, by go_num, (hO1.mono fun b hb h => ?_).shut, ?_⟩
        · have := HS.out.2.size
          exact h.elim (fun h => h) (fun h => by simp at h; omega)
        · have hz := HS.out.2.size
          exact ((HS.out.2.alloc _).trans hf1 (fun i hi h => by have := h.1; omega)).setCell (fun hb => by simp at hb; omega) _
      case measure => simp [intOf]; omega
    · obtain rfl : k = n := by omega
      have H1 := Lib.hid (And.intro hM hF)
      clear hM hF
      go_wp2
      go_ret
      refine ⟨_, rfl, ?_, H1.out.2⟩
      obtain ⟨m, nb, lv, fv, o, hO⟩ := H1.out.1.opened
      exact ⟨_, _, _, _, _, (hO.mono (fun b hb h => ⟨h, hb⟩)).shut, ends_good k, fun _ => rfl, fun r hr => by simp [hr], by rw [ends_len]; omega, h1, h8, fun _ => by simp⟩
theorem rows_new_no (n : Int) (h : n < 1 ∨ 8 < n) (w : World) : Calls Try.prog 13 #[.int .i64 n] w fun e w' => e = .returned (.pointer none) ∧ w = w' := by
  rcases h with h | h
  · go_enter Try.func13, Try.ntmps13
    go_wp2
    go_ret
    exact ⟨rfl, rfl⟩
  · have h1 : decide (n < 1) = false := decide_eq_false (by omega)
    go_enter Try.func13, Try.ntmps13
    go_wp2
    go_ret
    exact ⟨rfl, rfl⟩
end Go.Proofs.Ytemdhnolccnnfaa
