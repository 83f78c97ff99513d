/- The reference of layer 10 (rows): what each call that only looks tells. -/
import Derived.Test.YtldnacphfoagnacRfA
import Derived.Laws.MakeOwn
namespace Go.Proofs.Ytldnacphfoagnac
open Go.RowKit
set_option linter.unusedVariables false
theorem info_slint : (Try.prog.info? 28).map (fun i => (i.zero, i.size, i.bytes)) = some (some (.slice none 0 0), 1, 24) := by kernel_rfl
theorem run_make_rows (n : Nat) (hn : n ≤ 8) (w : World) : (Instr.makeSlice 54 (.int .i64 (n : Int)) (.int .i64 (n : Int))).run Try.prog w = .ok (.slice (some ⟨w.heap.size, 0, none⟩) n n) (w.alloc (.cells (List.replicate n (Value.slice none 0 0)).toArray 28)) := by
  obtain ⟨i, hi, hz0, hz1, hz2⟩ := info_parts info_slint
  have hb : (i.bytes : Int) * (n : Int) ≤ 281474976710656 := by rw [hz2]; omega
  have hr := run_make (P := Try.prog) w 54 28 i _ Try.underlying54 hi hz0 .i64 .i64 n n (by omega) (by omega) hb (by omega)
  simp only [Int.toNat_natCast] at hr
  rw [hr, hz1]
  have : madeCells (Value.slice none 0 0).cells (n * 1) = (List.replicate n (Value.slice none 0 0)).toArray := by
    apply Array.toList_inj.1
    show (madeCells #[Value.slice none 0 0] (n * 1)).toList = _
    rw [toList_madeCells_one, Nat.mul_one]
  rw [this]
theorem rf_new (n : Nat) (h1 : 1 ≤ n) (h8 : n ≤ 8) (w : World) :
    Calls Try.prog 34 #[.int .i64 n] w fun e w' => ∃ r, e = .returned (.pointer (some ⟨r, 0, none⟩)) ∧ Rf w' (fun b => w.heap.size ≤ b ∧ b < w'.heap.size) r n (fun _ => []) ∧ Fr (fun _ => False) w w' := by
  have hmk := run_make_rows n h8
  have hd1 : decide (n < 1) = false := decide_eq_false (by omega)
  have hd2 : decide ((n : Int) < 1) = false := decide_eq_false (by omega)
  have hd3 : decide (8 < n) = false := decide_eq_false (by omega)
  have hd4 : decide ((8 : Int) < n) = false := decide_eq_false (by omega)
  go_enter Try.func34, Try.ntmps34
  go_wp2
  go_ret
  have hl1 := heap_alloc_new w (.cells (List.replicate n (Value.slice none 0 0)).toArray 28)
  have hz : (w.alloc (.cells (List.replicate n (Value.slice none 0 0)).toArray 28)).heap.size = w.heap.size + 1 := by simp
  have hl2 := heap_alloc_new (w.alloc (.cells (List.replicate n (Value.slice none 0 0)).toArray 28)) (.cells #[.slice (some ⟨w.heap.size, 0, none⟩) n n] 56)
  rw [hz] at hl2
  refine ⟨_, rfl, ⟨w.heap.size, (List.replicate n (Value.slice none 0 0)).toArray, by simp <;> omega, by simp <;> omega, ?_, ?_, by simp, fun i hi => ⟨.slice none 0 0, by simp [hi], Sl.nil _ _ _ _⟩, fun i hi => rfl, h8⟩, ((Fr.refl _ w).alloc _).alloc _⟩
  · exact hl2
  · rw [heap_alloc_old _ (by simp)]; exact hl1
theorem rf_new_no (n : Int) (h : n < 1 ∨ 8 < n) (w : World) : Calls Try.prog 34 #[.int .i64 n] w fun e w' => e = .returned (.pointer none) ∧ w = w' := by
  rcases h with h | h
  · go_enter Try.func34, Try.ntmps34
    go_wp2
    go_ret
    exact ⟨rfl, rfl⟩
  · have hd : decide (n < 1) = false := decide_eq_false (by omega)
    go_enter Try.func34, Try.ntmps34
    go_wp2
    go_ret
    exact ⟨rfl, rfl⟩
theorem rf_may (S : Nat → Prop) (r n : Nat) (L : Nat → List Int) (row id : Int) (w : World) (h : Rf w S r n L) :
    Calls Try.prog 44 #[.pointer (some ⟨r, 0, none⟩), .int .i64 row, .int .i64 id] w fun e w' => e = .returned (.bool (mayIn n row id)) ∧ w = w' := by
  obtain ⟨lb, cs, h⟩ := h
  obtain ⟨c0, _, _, _⟩ := h.cell
  obtain ⟨bm, hbm⟩ : ∃ bm, mayIn n row id = bm := ⟨_, rfl⟩
  have hiff := mayIn_iff hbm
  rw [hbm]
  clear h hbm
  by_cases h0 : row < 0
  · have hd : decide (0 ≤ row) = false := decide_eq_false (by omega)
    have hb : bm = false := by rcases bm with _ | _; rfl; exact absurd (hiff.1 rfl).1.1 (by omega)
    subst hb
    clear hiff
    go_enter Try.func44, Try.ntmps44
    go_wp2
    go_ret
    exact ⟨rfl, rfl⟩
  · obtain ⟨k, rfl⟩ : ∃ k : Nat, row = k := ⟨row.toNat, by omega⟩
    have hd0 : decide ((0 : Int) ≤ k) = true := decide_eq_true (by omega)
    by_cases h1 : k < n
    · have hd1 : decide ((k : Int) < n) = true := decide_eq_true (by omega)
      by_cases h2 : id < 0
      · have hd2 : decide (0 ≤ id) = false := decide_eq_false (by omega)
        have hb : bm = false := by rcases bm with _ | _; rfl; exact absurd (hiff.1 rfl).2.1 (by omega)
        subst hb
        clear hiff
        go_enter Try.func44, Try.ntmps44
        go_wp2
        go_ret
        exact ⟨rfl, rfl⟩
      · have hd2 : decide (0 ≤ id) = true := decide_eq_true (by omega)
        have hb : bm = decide (id ≤ 4194303) := by
          rcases bm with _ | _
          · exact (decide_eq_false fun q => hiff.2 rfl ⟨⟨by omega, by omega⟩, by omega, q⟩).symm
          · exact (decide_eq_true (hiff.1 rfl).2.2).symm
        subst hb
        clear hiff
        go_enter Try.func44, Try.ntmps44
        go_wp2
        go_ret
        exact ⟨rfl, rfl⟩
    · have hd1 : decide ((k : Int) < n) = false := decide_eq_false (by omega)
      have hd1' : decide (k < n) = false := decide_eq_false (by omega)
      have hb : bm = false := by rcases bm with _ | _; rfl; exact absurd (hiff.1 rfl).1.2 (by omega)
      subst hb
      clear hiff
      go_enter Try.func44, Try.ntmps44
      go_wp2
      go_ret
      exact ⟨rfl, rfl⟩
theorem rf_all (S : Nat → Prop) (r n : Nat) (L : Nat → List Int) (row : Int) (w : World) (h : Rf w S r n L) :
    Calls Try.prog 25 #[.pointer (some ⟨r, 0, none⟩), .int .i64 row] w fun e w' => ∃ a cap, e = .returned (.slice a (rowL L row).length cap) ∧ Sl w S 3 1 (.slice a (rowL L row).length cap) (rowL L row).length ((rowL L row).map (Value.int .i64)) ∧ w = w' := by
  obtain ⟨lb, cs, h⟩ := h
  obtain ⟨c0, _, _, _⟩ := h.cell
  by_cases h0 : row < 0
  · have hd : decide (row < 0) = true := decide_eq_true h0
    have e : rowL L row = [] := by unfold rowL; rw [if_pos h0]
    rw [e]
    have HS := Lib.hid (Sl.nil w S 3 1)
    clear h e
    go_enter Try.func25, Try.ntmps25
    go_wp2
    go_ret
    exact ⟨_, _, rfl, HS.out, rfl⟩
  · obtain ⟨k, rfl⟩ : ∃ k : Nat, row = k := ⟨row.toNat, by omega⟩
    have hd0 : decide ((k : Int) < 0) = false := decide_eq_false (by omega)
    by_cases h1 : k < n
    · have hd1 : decide ((n : Int) ≤ k) = false := decide_eq_false (by omega)
      have hd1' : decide (n ≤ k) = false := decide_eq_false (by omega)
      obtain ⟨a, cap, hc, hcap, hs, _⟩ := h.row h1
      rw [rowL_nat]
      have HS := Lib.hid hs
      clear h hs
      go_enter Try.func25, Try.ntmps25
      go_wp2
      go_ret
      exact ⟨_, _, rfl, HS.out, rfl⟩
    · have hd1 : decide ((n : Int) ≤ k) = true := decide_eq_true (by omega)
      have hd1' : decide (n ≤ k) = true := decide_eq_true (by omega)
      rw [rowL_nat, h.hz k (by omega)]
      have HS := Lib.hid (Sl.nil w S 3 1)
      clear h
      go_enter Try.func25, Try.ntmps25
      go_wp2
      go_ret
      exact ⟨_, _, rfl, HS.out, rfl⟩
theorem rf_len (S : Nat → Prop) (r n : Nat) (L : Nat → List Int) (row : Int) (w : World) (h : Rf w S r n L) :
    Calls Try.prog 39 #[.pointer (some ⟨r, 0, none⟩), .int .i64 row] w fun e w' => e = .returned (.int .i64 (rowL L row).length) ∧ w = w' := by
  have HA := Lib.hid (rf_all S r n L row w h)
  clear h
  obtain ⟨l, hl⟩ : ∃ l, rowL L row = l := ⟨_, rfl⟩
  rw [hl] at HA ⊢
  clear hl
  go_enter Try.func39, Try.ntmps39
  go_wp2_with fail
  refine HA.out.mono ?_
  rintro e w1 ⟨a, cap, rfl, _, rfl⟩
  go_wp2
  go_ret
  exact ⟨rfl, rfl⟩
theorem rf_last (S : Nat → Prop) (r n : Nat) (L : Nat → List Int) (row : Int) (w : World) (h : Rf w S r n L) (hN : (rowL L row).length ≤ 1000000) :
    Calls Try.prog 40 #[.pointer (some ⟨r, 0, none⟩), .int .i64 row] w fun e w' => e = .returned (.int .i64 (lastOf (rowL L row))) ∧ w = w' := by
  have HA := Lib.hid (rf_all S r n L row w h)
  clear h
  obtain ⟨l, hl⟩ : ∃ l, rowL L row = l := ⟨_, rfl⟩
  rw [hl] at HA hN ⊢
  clear hl
  by_cases he : l = []
  · subst he
    go_enter Try.func40, Try.ntmps40
    go_wp2_with fail
    refine HA.out.mono ?_
    rintro e w1 ⟨a, cap, rfl, _, rfl⟩
    go_wp2
    go_ret
    exact ⟨rfl, rfl⟩
  · have hp := List.length_pos_iff.2 he
    have h0 : (l.length == 0) = false := by rw [beq_eq_false_iff_ne]; omega
    have h0' : ((l.length : Int) == 0) = false := by rw [beq_eq_false_iff_ne]; omega
    have hlast : l[l.length - 1]? = some (lastOf l) := by
      unfold lastOf
      rw [List.getLastD_eq_getLast?, List.getLast?_eq_getElem?]
      rw [List.getElem?_eq_getElem (by omega)]; rfl
    obtain ⟨vl, hvl⟩ : ∃ vl, lastOf l = vl := ⟨_, rfl⟩
    rw [hvl] at hlast ⊢
    have HLast := Lib.hid hlast
    have hw : (l.length : Int) - 1 = ((l.length - 1 : Nat) : Int) := by omega
    clear hlast hvl
    go_enter Try.func40, Try.ntmps40
    go_wp2_with fail
    refine HA.out.mono ?_
    rintro e w1 ⟨a, cap, rfl, hs, rfl⟩
    obtain ⟨a', cap', hv, hat⟩ := sl_at hs
    simp at hv
    obtain ⟨rfl, rfl⟩ := hv
    obtain ⟨b, off, rfl, hb, _, hc, _⟩ := hat (l.length - 1) _ HLast.out
    obtain ⟨m, hm⟩ : ∃ m, l.length - 1 = m := ⟨_, rfl⟩
    rw [hm] at hc hw
    have hml : m < l.length := by omega
    have hmi : (m : Int) < l.length := by omega
    clear hat hs hm
    go_wp2
    go_ret
    exact ⟨rfl, rfl⟩
end Go.Proofs.Ytldnacphfoagnac
