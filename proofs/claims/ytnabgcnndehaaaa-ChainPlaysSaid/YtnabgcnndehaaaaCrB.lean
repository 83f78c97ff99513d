/- The reference of layer 9 (chain): what each call does, one: New, old, row, at, put, Get, Moved. -/
import Derived.Test.YtnabgcnndehaaaaCrA
namespace Go.Proofs.Ytnabgcnndehaaaa
open Go.RowKit
set_option linter.unusedVariables false
def pw (k : Nat) : Int := 2 ^ k
theorem pw_succ (k : Nat) (p : Int) (h : (k : Int) < p) (hp : p ≤ 30) : IntKind.u64.wrap (2 * pw k) = pw (k + 1) := by
  have h1 := two_pow_pos k
  have h2 := two_pow_le k (by omega)
  have h3 : (2 : Int) ^ (k + 1) = 2 * 2 ^ k := by rw [Int.pow_succ]; omega
  unfold pw; rw [IntKind.wrap_u64, h3]; omega
theorem pw_mod (h p : Int) (k : Nat) (hk : (k : Int) = p) (hp : p ≤ 30) : wrap64 (h % pw k) = bkt h p := by
  have h1 := two_pow_pos k
  have h2 := two_pow_le k (by omega)
  have h3 := Int.emod_nonneg h (show (2 : Int) ^ k ≠ 0 by omega)
  have h4 := Int.emod_lt_of_pos h h1
  subst hk
  unfold bkt pw; rw [if_neg (by omega), Int.toNat_natCast]
  unfold wrap64; omega

set_option maxHeartbeats 400000 in
theorem refBucket_any (h p : Int) (w : World) (h0 : 0 ≤ h) (h1 : h < 18446744073709551616) :
    Calls Try.prog 39 #[.int .u64 h, .int .i64 p] w fun e w' => e = .returned (.int .i64 (bkt h p)) ∧ w = w' := by
  by_cases hp : p < 0 ∨ 30 < p
  · have H := Lib.hid (show bkt h p = 0 by unfold bkt; rw [if_pos hp])
    rcases hp with hp | hp
    all_goals
      go_enter Try.func39, Try.ntmps39
      go_wp2
      go_ret
      exact ⟨by rw [H.out]; rfl, rfl⟩
  · have hp' : 0 ≤ p ∧ p ≤ 30 := by omega
    obtain ⟨p0, p1⟩ := hp'
    clear hp h1
    go_enter Try.func39, Try.ntmps39
    go_wp2
    go_loop [5, 6] (fun x i => ∃ (k : Nat), (k : Int) ≤ p ∧ i = .int .i64 k ∧ x = .int .u64 (pw k)) (fun _ i => p.toNat - (intOf i).toNat)
    case atStart => exact ⟨0, by omega, rfl, rfl⟩
    case round =>
      obtain ⟨k, hk, rfl, rfl⟩ := hrel
      by_cases hlt : k < p
      · have H := Lib.hid (pw_succ k p hlt p1)
        go_wp2
        go_round
        case rel => exact ⟨k + 1, by omega, by go_num, by rw [H.out]⟩
        case measure => simp [intOf]; omega
      · have H := Lib.hid (pw_mod h p k (by omega) p1)
        have hz' : ¬ pw k = 0 := by have := two_pow_pos k; unfold pw; omega
        go_wp2
        go_ret
        exact ⟨by rw [← H.out]; rfl, rfl⟩
theorem info_slrow : (Try.prog.info? 68).map (fun i => (i.zero, i.size, i.bytes)) = some (some (.slice none 0 0), 1, 24) := by kernel_rfl
theorem run_make_rows (n : Nat) (hn : n ≤ 4194304) (w : World) : (Instr.makeSlice 51 (.int .i64 (n : Int)) (.int .i64 (n : Int))).run Try.prog w = .ok (.slice (some ⟨w.heap.size, 0, none⟩) n n) (w.alloc (.cells (List.replicate n (Value.slice none 0 0)).toArray 68)) := by
  obtain ⟨i, hi, hz0, hz1, hz2⟩ := info_parts' info_slrow
  have hb : (i.bytes : Int) * (n : Int) ≤ 281474976710656 := by rw [hz2]; omega
  have hr := run_make (P := Try.prog) w 51 68 i _ Try.underlying51 hi hz0 .i64 .i64 n n (by omega) (by omega) hb (by omega)
  simp only [Int.toNat_natCast] at hr
  rw [hr, hz1]
  have : madeCells (Value.slice none 0 0).cells (n * 1) = (List.replicate n (Value.slice none 0 0)).toArray := by
    apply Array.toList_inj.1
    show (madeCells #[Value.slice none 0 0] (n * 1)).toList = _
    rw [toList_madeCells_one, Nat.mul_one]
  rw [this]
set_option maxHeartbeats 1000000 in
theorem cr_new (w : World) :
    Calls Try.prog 21 #[] w fun e w' => ∃ u, e = .returned (.pointer (some ⟨u, 0, none⟩)) ∧ CrAt w' (fun b => w.heap.size ≤ b ∧ b < w'.heap.size) u ch0 ∧ Fr (fun _ => False) w w' := by
  have hm : (Instr.makeSlice 51 (.int .i64 4) (.int .i64 4)).run Try.prog w = .ok (.slice (some ⟨w.heap.size, 0, none⟩) 4 4) (w.alloc (.cells (List.replicate 4 (Value.slice none 0 0)).toArray 68)) := run_make_rows 4 (by decide) w
  obtain ⟨o, ho⟩ : ∃ o, Obj.cells (List.replicate 4 (Value.slice none 0 0)).toArray 68 = o := ⟨_, rfl⟩
  rw [ho] at hm
  go_enter Try.func21, Try.ntmps21
  go_wp2_with fail
  go_ret
  have hz : (w.alloc o).heap.size = w.heap.size + 1 := by simp
  obtain ⟨o2, ho2⟩ : ∃ o2, Obj.cells #[.int .i64 2, .bool false, .int .i64 0, .slice none 0 0, .slice (some ⟨w.heap.size, 0, none⟩) 4 4, .int .i64 0] 53 = o2 := ⟨_, rfl⟩
  rw [ho2]
  have hz2 : ((w.alloc o).alloc o2).heap.size = w.heap.size + 2 := by simp
  have h1 := heap_alloc_new (w.alloc o) o2
  rw [hz] at h1
  have h0 := (heap_alloc_old o2 (show w.heap.size < (w.alloc o).heap.size by omega)).trans (heap_alloc_new w o)
  refine ⟨_, rfl, ⟨ch0_w, w.heap.size, 0, List.replicate 4 (.slice none 0 0), [], 0, fun _ => 0, ⟨⟨by omega, by omega⟩, ⟨by omega, by omega⟩, ?_, ?_, by decide, ?_, fun h => absurd h (by decide)⟩⟩, ((Fr.refl _ w).alloc o).alloc o2⟩
  · rw [h1, ← ho2]; rfl
  · rw [h0, ← ho]
  · intro i v hv
    have := List.mem_of_getElem? hv
    rw [(List.mem_replicate.1 this).2]
    exact Sl.nil _ _ _ _
section
variable {w : World} {S : Nat → Prop} {u nb ob : Nat} {s : ChS} {xs ys : List Value} {dv : Int} {o : Nat → Nat}
theorem cr_moved (h : CrAt w S u s) : Calls Try.prog 23 #[.pointer (some ⟨u, 0, none⟩)] w fun e w' => e = .returned (.int .i64 (movedS s)) ∧ w = w' := by
  obtain ⟨_, nb, ob, xs, ys, dv, o, h⟩ := h
  obtain ⟨_, c1, c2, _, _, _, _, _⟩ := h.cells
  have hg := h.hg
  unfold movedS
  clear h
  obtain ⟨g, hgg⟩ : ∃ g, s.g = g := ⟨_, rfl⟩
  rw [hgg] at c1 hg ⊢
  rcases g with _ | _
  · simp only [Bool.false_eq_true, if_false]
    clear hg
    go_enter Try.func23, Try.ntmps23
    go_wp2
    go_ret
    exact ⟨rfl, rfl⟩
  · have hm := (hg rfl).1
    subst hm
    simp only [if_true]
    clear hg
    go_enter Try.func23, Try.ntmps23
    go_wp2
    go_ret
    exact ⟨rfl, rfl⟩
theorem refOf_fk (k : ByteArray) (hk : k.size ≤ 9223372036854775807) (W : World) : Calls Try.prog 40 #[.string k] W fun e w' => e = .returned (.int .u64 (fk k)) ∧ W = w' := refOf_any k W hk
theorem refBkt (h p v : Int) (W : World) (h0 : 0 ≤ h) (h1 : h < 18446744073709551616) (hv : bkt h p = v) : Calls Try.prog 39 #[.int .u64 h, .int .i64 p] W fun e w' => e = .returned (.int .i64 v) ∧ W = w' := by
  subst hv; exact refBucket_any h p W h0 h1
theorem refOf_q (k : ByteArray) (hk : k.size ≤ 9223372036854775807) (w : World) (n : Nat) : Calls Try.prog 40 #[.string k] (w.drewN n) fun e w' => e = .returned (.int .u64 (fk k)) ∧ w' = w.drewN n := (refOf_any k _ hk).mono fun e w' ⟨he, hw⟩ => ⟨he, hw.symm⟩
theorem refBkt_q (h p v : Int) (w : World) (h0 : 0 ≤ h) (h1 : h < 18446744073709551616) (hv : bkt h p = v) (n : Nat) : Calls Try.prog 39 #[.int .u64 h, .int .i64 p] (w.drewN n) fun e w' => e = .returned (.int .i64 v) ∧ w' = w.drewN n := (refBkt h p v _ h0 h1 hv).mono fun e w' ⟨he, hw⟩ => ⟨he, hw.symm⟩
/-- Which old bucket. -/
def oldI (s : ChS) (k : ByteArray) : Nat := if s.g then hx k (s.pw - 1) else 0
set_option maxHeartbeats 1000000 in
theorem cr_old (hW : ChW s) (h : CrO w S u s nb ob xs ys dv o) (k : ByteArray) (hk : k.size ≤ 9223372036854775807) :
    Calls Try.prog 41 #[.pointer (some ⟨u, 0, none⟩), .string k] w fun e w' => e = .returned (.tuple #[.int .i64 (oldI s k), .bool (decide (inOld s k))]) ∧ ∃ q, w' = w.drewN q := by
  obtain ⟨c0, c1, c2, _, _, _, _, _⟩ := h.cells
  have hg := h.hg
  have hp2 := hW.p2
  have hp20 := hW.p20
  have b2 := bkt_hx k (p := s.pw - 1) (by omega)
  rw [show ((s.pw - 1 : Nat) : Int) = (s.pw : Int) - 1 from by omega] at b2
  have fr := fk_range k
  have HO := Lib.hid (fun W n => refOf_q k hk W n)
  obtain ⟨h0, hh0⟩ : ∃ h0, fk k = h0 := ⟨_, rfl⟩
  rw [hh0] at HO b2 fr
  have hio : inOld s k ↔ s.g = true ∧ s.m ≤ hx k (s.pw - 1) := Iff.rfl
  unfold oldI
  have hdd : decide (inOld s k) = (s.g && decide (s.m ≤ hx k (s.pw - 1))) := by
    cases hgg : s.g
    · rw [decide_eq_false (fun q => by have := q.1; rw [hgg] at this; cases this)]; rfl
    · rw [Bool.true_and]; exact decide_eq_decide.2 ⟨fun q => q.2, fun q => ⟨hgg, q⟩⟩
  rw [hdd]
  obtain ⟨i2, hi2⟩ : ∃ i, hx k (s.pw - 1) = i := ⟨_, rfl⟩
  obtain ⟨g, hgg⟩ : ∃ g, s.g = g := ⟨_, rfl⟩
  obtain ⟨m, hm⟩ : ∃ m, s.m = m := ⟨_, rfl⟩
  obtain ⟨P, hP⟩ : ∃ P, s.pw = P := ⟨_, rfl⟩
  have hmv : g = true → dv = m := fun e => by rw [← hm]; exact (hg (hgg.trans e)).1
  rw [hi2] at b2
  rw [hP] at b2 c0 hp2 hp20
  rw [hgg] at c1
  rw [hi2, hgg, hm]
  have HB := Lib.hid (fun W n => refBkt_q h0 ((P : Int) - 1) i2 W fr.1 fr.2 b2 n)
  clear h hg hW b2 fr hio hdd hi2 hgg hm hP hh0
  have hwr : IntKind.i64.wrap ((P : Int) - 1) = (P : Int) - 1 := by rw [IntKind.wrap_i64]; omega
  rcases g with _ | _
  · go_enter Try.func41, Try.ntmps41
    go_wp2_with fail
    go_ret2
    exact ⟨rfl, 0, rfl⟩
  · have hmv := hmv rfl
    subst hmv
    go_enter Try.func41, Try.ntmps41
    go_wp2_with fail
    go_quiet ((first | (go_at_call 40; exact Calls.quiet_of_same (HO.out _ _)) | (go_at_call 39; exact Calls.quiet_of_same (HB.out _ _))))
    go_wp2_with fail
    go_quiet (fail)
    go_wp2_with fail
    go_ret2
    refine ⟨?_, _, rfl⟩
    simp
/-- What row gives: the slice of a key's bucket. -/
def RowOf (w : World) (S : Nat → Prop) (nb ob : Nat) (s : ChS) (o : Nat → Nat) (k : ByteArray) (v : Value) : Prop :=
  w.cell? ⟨slotB s k nb ob, slotI s k, none⟩ = some v ∧ w.frozen? ⟨slotB s k nb ob, slotI s k, none⟩ = false ∧ slotB s k nb ob < w.heap.size ∧ S (slotB s k nb ob) ∧ Sl w (fun b => S b ∧ o b = tagK s k) 73 2 v (home s k).length (ents (home s k))
theorem row_of (hW : ChW s) (h : CrO w S u s nb ob xs ys dv o) (k : ByteArray) : ∃ v, RowOf w S nb ob s o k v := by
  obtain ⟨vs, v, h1, h2, h3, h4⟩ := h.home_at hW k
  obtain ⟨k1, k2⟩ := arr_cells h1 h2
  exact ⟨v, k1, k2, lt_of_heap h1, h3, h4⟩
set_option maxHeartbeats 1000000 in
theorem cr_row (hW : ChW s) (h : CrO w S u s nb ob xs ys dv o) (k : ByteArray) (hk : k.size ≤ 9223372036854775807) {v : Value} (hv : RowOf w S nb ob s o k v) :
    Calls Try.prog 36 #[.pointer (some ⟨u, 0, none⟩), .string k] w fun e w' => e = .returned v ∧ ∃ q, w' = w.drewN q := by
  have HOld := Lib.hid (cr_old hW h k hk)
  obtain ⟨c0, _, _, c3, c4, _, _, _⟩ := h.cells
  have k1 := hv.1
  obtain ⟨va, vn, vc, rfl⟩ : ∃ a n c, v = .slice a n c := by obtain ⟨a, c, e, _⟩ := Sl.shape hv.2.2.2.2; exact ⟨_, _, _, e⟩
  have HO := Lib.hid (fun W n => refOf_q k hk W n)
  have fr := fk_range k
  have hp2 := hW.p2
  have hp20 := hW.p20
  have b1 := bkt_hx k (p := s.pw) (by omega)
  have l1 := hx_lt k s.pw
  have l2 := hx_lt k (s.pw - 1)
  obtain ⟨h0, hh0⟩ : ∃ h0, fk k = h0 := ⟨_, rfl⟩
  rw [hh0] at HO b1 fr
  by_cases hi : inOld s k
  · have hg := hi.1
    have e1 : slotB s k nb ob = ob := if_pos hi
    have e2 : slotI s k = hx k (s.pw - 1) := if_pos hi
    have e3 : oldI s k = hx k (s.pw - 1) := if_pos hg
    rw [decide_eq_true hi, e3] at HOld
    rw [e1, e2] at k1
    rw [hg] at c3
    simp only [if_true] at c3
    obtain ⟨M, hM⟩ : ∃ N, 2 ^ (s.pw - 1) = N := ⟨_, rfl⟩
    obtain ⟨i2, hi2⟩ : ∃ i, hx k (s.pw - 1) = i := ⟨_, rfl⟩
    rw [hM] at c3 l2
    rw [hi2] at k1 l2 HOld
    have j1 : (i2 : Int) < M := by omega
    clear h hv hW c0 c4 b1 l1 hi hg e1 e2 e3 hM hi2 fr hh0
    go_enter Try.func36, Try.ntmps36
    go_wp2_with fail
    refine HOld.out.mono ?_
    rintro e w1 ⟨rfl, q, rfl⟩
    go_wp2_with fail
    go_ret
    exact ⟨rfl, _, rfl⟩
  · have e1 : slotB s k nb ob = nb := if_neg hi
    have e2 : slotI s k = hx k s.pw := if_neg hi
    rw [decide_eq_false hi] at HOld
    rw [e1, e2] at k1
    obtain ⟨N, hN⟩ : ∃ N, 2 ^ s.pw = N := ⟨_, rfl⟩
    obtain ⟨i1, hi1⟩ : ∃ i, hx k s.pw = i := ⟨_, rfl⟩
    obtain ⟨P, hP⟩ : ∃ P, s.pw = P := ⟨_, rfl⟩
    obtain ⟨oi, hoi⟩ : ∃ P, oldI s k = P := ⟨_, rfl⟩
    rw [hN] at c4 l1
    rw [hi1] at k1 l1 b1
    rw [hP] at c0 b1 hp2 hp20
    rw [hoi] at HOld
    have HB := Lib.hid (fun W n => refBkt_q h0 (P : Int) i1 W fr.1 fr.2 b1 n)
    have j1 : (i1 : Int) < N := by omega
    clear h hv hW c3 b1 l2 hi e1 e2 hN hi1 hP hoi fr hh0
    go_enter Try.func36, Try.ntmps36
    go_wp2_with fail
    refine HOld.out.mono ?_
    rintro e w1 ⟨rfl, q, hwq⟩
    have d0 : w1.cell? ⟨u, 0, none⟩ = some (.int .i64 P) := by rw [hwq]; exact c0
    have d4 : w1.cell? ⟨u, 4, none⟩ = some (.slice (some ⟨nb, 0, none⟩) N N) := by rw [hwq]; exact c4
    have dk : w1.cell? ⟨nb, i1, none⟩ = some (.slice va vn vc) := by rw [hwq]; exact k1
    have HWQ := Lib.hid hwq
    clear hwq c0 c4 k1
    go_wp2_with fail
    go_quiet ((first | (go_at_call 40; exact Calls.quiet_of_same (HO.out _ _)) | (go_at_call 39; exact Calls.quiet_of_same (HB.out _ _))))
    go_wp2_with fail
    go_ret
    exact ⟨rfl, _, by rw [HWQ.out, World.drewN_drewN]⟩
set_option maxHeartbeats 1000000 in
theorem cr_put (hW : ChW s) (h : CrO w S u s nb ob xs ys dv o) (k : ByteArray) (hk : k.size ≤ 9223372036854775807) (va : Option Addr) (vn vc : Nat) :
    Calls Try.prog 38 #[.pointer (some ⟨u, 0, none⟩), .string k, .slice va vn vc] w fun e w' => e = .returned (.tuple #[]) ∧ ∃ q q', w' = ((w.drewN q).setCell ⟨slotB s k nb ob, slotI s k, none⟩ (.slice va vn vc)).drewN q' := by
  have HOld := Lib.hid (cr_old hW h k hk)
  obtain ⟨v0, hv0⟩ := row_of hW h k
  have k1 := hv0.1
  have k2 := hv0.2.1
  obtain ⟨c0, _, _, c3, c4, _, _, _⟩ := h.cells
  have HO := Lib.hid (fun W n => refOf_q k hk W n)
  have fr := fk_range k
  have hp2 := hW.p2
  have hp20 := hW.p20
  have b1 := bkt_hx k (p := s.pw) (by omega)
  have l1 := hx_lt k s.pw
  have l2 := hx_lt k (s.pw - 1)
  obtain ⟨h0, hh0⟩ : ∃ h0, fk k = h0 := ⟨_, rfl⟩
  rw [hh0] at HO b1 fr
  by_cases hi : inOld s k
  · have hg := hi.1
    have e1 : slotB s k nb ob = ob := if_pos hi
    have e2 : slotI s k = hx k (s.pw - 1) := if_pos hi
    have e3 : oldI s k = hx k (s.pw - 1) := if_pos hg
    rw [decide_eq_true hi, e3] at HOld
    rw [e1, e2] at k1 k2 ⊢
    rw [hg] at c3
    simp only [if_true] at c3
    obtain ⟨M, hM⟩ : ∃ N, 2 ^ (s.pw - 1) = N := ⟨_, rfl⟩
    obtain ⟨i2, hi2⟩ : ∃ i, hx k (s.pw - 1) = i := ⟨_, rfl⟩
    rw [hM] at c3 l2
    rw [hi2] at k1 k2 l2 HOld ⊢
    have j1 : (i2 : Int) < M := by omega
    clear h hv0 hW c0 c4 b1 l1 hi hg e1 e2 e3 hM hi2 fr hh0
    go_enter Try.func38, Try.ntmps38
    go_wp2_with fail
    refine HOld.out.mono ?_
    rintro e w1 ⟨rfl, q, rfl⟩
    go_wp2_with fail
    refine bodyPost_ret (results_none rfl _ _ _) rfl ?_
    exact ⟨rfl, q, 0, rfl⟩
  · have e1 : slotB s k nb ob = nb := if_neg hi
    have e2 : slotI s k = hx k s.pw := if_neg hi
    rw [decide_eq_false hi] at HOld
    rw [e1, e2] at k1 k2 ⊢
    obtain ⟨N, hN⟩ : ∃ N, 2 ^ s.pw = N := ⟨_, rfl⟩
    obtain ⟨i1, hi1⟩ : ∃ i, hx k s.pw = i := ⟨_, rfl⟩
    obtain ⟨P, hP⟩ : ∃ P, s.pw = P := ⟨_, rfl⟩
    obtain ⟨oi, hoi⟩ : ∃ P, oldI s k = P := ⟨_, rfl⟩
    rw [hN] at c4 l1
    rw [hi1] at k1 k2 l1 b1 ⊢
    rw [hP] at c0 b1 hp2 hp20
    rw [hoi] at HOld
    have HB := Lib.hid (fun W n => refBkt_q h0 (P : Int) i1 W fr.1 fr.2 b1 n)
    have j1 : (i1 : Int) < N := by omega
    clear h hv0 hW c3 b1 l2 hi e1 e2 hN hi1 hP hoi fr hh0
    go_enter Try.func38, Try.ntmps38
    go_wp2_with fail
    refine HOld.out.mono ?_
    rintro e w1 ⟨rfl, q, hwq⟩
    have d0 : w1.cell? ⟨u, 0, none⟩ = some (.int .i64 P) := by rw [hwq]; exact c0
    have d4 : w1.cell? ⟨u, 4, none⟩ = some (.slice (some ⟨nb, 0, none⟩) N N) := by rw [hwq]; exact c4
    have dk : w1.cell? ⟨nb, i1, none⟩ = some v0 := by rw [hwq]; exact k1
    have dk2 : w1.frozen? ⟨nb, i1, none⟩ = false := by rw [hwq]; exact k2
    have HWQ := Lib.hid hwq
    clear hwq c0 c4 k1 k2
    go_wp2_with fail
    go_quiet ((first | (go_at_call 40; exact Calls.quiet_of_same (HO.out _ _)) | (go_at_call 39; exact Calls.quiet_of_same (HB.out _ _))))
    go_wp2_with fail
    go_end0
    exact ⟨rfl, q + nq, 0, by rw [HWQ.out, World.drewN_drewN]; rfl⟩
/-- Where a key stands in a list. -/
def atK : List KN → ByteArray → Int → Int
  | [], _, _ => -1
  | e :: l, k, i => if e.1 = k then i else atK l k (i + 1)
theorem atK_none {k : ByteArray} : ∀ {l : List KN} {i : Int}, k ∉ ks l → atK l k i = -1
  | [], _, _ => rfl
  | e :: l, i, h => by
    have h1 : e.1 ≠ k := fun q => h (by rw [ks_cons, q]; simp)
    unfold atK
    rw [if_neg h1]
    exact atK_none fun q => h (by rw [ks_cons]; exact List.mem_cons_of_mem _ q)
theorem atK_at {k : ByteArray} {n : Int} {suf : List KN} : ∀ {pre : List KN} {i : Int}, k ∉ ks pre → atK (pre ++ (k, n) :: suf) k i = i + pre.length
  | [], i, _ => by simp [atK]
  | e :: l, i, h => by
    have h1 : e.1 ≠ k := fun q => h (by rw [ks_cons, q]; simp)
    show atK (e :: (l ++ (k, n) :: suf)) k i = _
    unfold atK
    rw [if_neg h1, atK_at fun q => h (by rw [ks_cons]; exact List.mem_cons_of_mem _ q)]
    simp only [List.length_cons]
    omega
theorem split_at {k : ByteArray} : ∀ {l : List KN}, k ∉ ks l ∨ ∃ pre n suf, l = pre ++ (k, n) :: suf ∧ k ∉ ks pre
  | [] => Or.inl (by simp [ks])
  | e :: l => by
    by_cases h1 : e.1 = k
    · exact Or.inr ⟨[], e.2, l, by rw [← h1]; rfl, by simp [ks]⟩
    · rcases split_at (l := l) with q | ⟨pre, n, suf, q1, q2⟩
      · exact Or.inl (by rw [ks_cons, List.mem_cons]; exact fun a => a.elim (fun a => h1 a.symm) q)
      · exact Or.inr ⟨e :: pre, n, suf, by rw [q1]; rfl, by rw [ks_cons, List.mem_cons]; exact fun a => a.elim (fun a => h1 a.symm) q2⟩
set_option maxHeartbeats 1000000 in
theorem cr_at {Q : Nat → Prop} (v : Value) (l : List KN) (hv : Sl w Q 73 2 v l.length (ents l)) (k : ByteArray) (hl : l.length ≤ 1000000) :
    Calls Try.prog 37 #[v, .string k] w fun e w' => e = .returned (.int .i64 (atK l k 0)) ∧ w = w' := by
  obtain ⟨a, cap, rfl, hcap, hc⟩ := ent_at hv
  have HV := Lib.hid hc
  clear hv hc
  go_enter Try.func37, Try.ntmps37
  go_wp2_with fail
  go_loop [5] (fun i => ∃ (j : Nat), j ≤ l.length ∧ i = .int .i64 j ∧ k ∉ ks (l.take j)) (fun i => l.length - (intOf i).toNat)
  case atStart => exact ⟨0, Nat.zero_le _, rfl, by simp [ks]⟩
  case round =>
    obtain ⟨j, hj, rfl, hno⟩ := hrel
    by_cases hlt : j < l.length
    · obtain ⟨e, he⟩ : ∃ e, l[j]? = some e := ⟨_, List.getElem?_eq_getElem hlt⟩
      obtain ⟨b, off, rfl, hb, _, hc0, _, _⟩ := HV.out j e he
      have htk : l = l.take j ++ e :: l.drop (j + 1) := by
        obtain ⟨hi, hv⟩ := List.getElem?_eq_some_iff.1 he
        rw [← hv, List.getElem_cons_drop, List.take_append_drop]
      have HE := Lib.hid (And.intro he (And.intro hno htk))
      have hlt' : (j : Int) < l.length := by omega
      clear he hno htk
      by_cases hek : e.1 = k
      · have hb1 : (e.1.toList == k.toList) = true := by rw [hek]; exact beq_self_eq_true _
        have hat : atK l k 0 = j := by
          have h3 : e = (k, e.2) := by rw [← hek]
          have h2 := HE.out.2.2
          rw [h3] at h2
          rw [h2, atK_at HE.out.2.1, List.length_take]
          omega
        have HA := Lib.hid hat
        clear hat hek
        go_wp2_with fail
        go_ret
        rw [HA.out]
        exact ⟨rfl, rfl⟩
      · have hb1 : (e.1.toList == k.toList) = false := bytes_ne hek
        have HK := Lib.hid hek
        clear hek
        go_wp2_with fail
        go_round
        case rel =>
          refine ⟨j + 1, by omega, by go_num, ?_⟩
          rw [List.take_add_one, HE.out.1, ks_app]
          intro q
          rcases List.mem_append.1 q with q | q
          · exact HE.out.2.1 q
          · simp [ks] at q; exact HK.out q.symm
        case measure => simp [intOf]; omega
    · have hno2 : atK l k 0 = -1 := atK_none (by rw [List.take_of_length_le (by omega)] at hno; exact hno)
      have HA := Lib.hid hno2
      clear hno hno2
      go_wp2_with fail
      go_ret
      rw [HA.out]
      exact ⟨rfl, rfl⟩
theorem look_split {s : ChS} {k : ByteArray} : (k ∉ ks (home s k) ∧ look s k = none ∧ atK (home s k) k 0 = -1) ∨ ∃ pre n suf, home s k = pre ++ (k, n) :: suf ∧ k ∉ ks pre ∧ look s k = some n ∧ atK (home s k) k 0 = pre.length := by
  rcases split_at (k := k) (l := home s k) with q | ⟨pre, n, suf, q1, q2⟩
  · exact Or.inl ⟨q, getN_none q, atK_none q⟩
  · refine Or.inr ⟨pre, n, suf, q1, q2, ?_, ?_⟩
    · unfold look; rw [q1]; exact getN_at q2
    · rw [q1, atK_at q2]; omega
set_option maxHeartbeats 1000000 in
theorem cr_get (h : CrAt w S u s) (k : ByteArray) (hk : k.size ≤ 9223372036854775807) (hl : (home s k).length ≤ 1000000) :
    Calls Try.prog 30 #[.pointer (some ⟨u, 0, none⟩), .string k] w fun e w' => e = .returned (.tuple #[.int .i64 ((look s k).getD 0), .bool (look s k).isSome]) ∧ ∃ q, w' = w.drewN q := by
  obtain ⟨hW, nb, ob, xs, ys, dv, o, h⟩ := h
  obtain ⟨v, hv⟩ := row_of hW h k
  have HR := Lib.hid (cr_row hW h k hk hv)
  obtain ⟨a, cap, hve, hcap, hc⟩ := ent_at hv.2.2.2.2
  subst hve
  have hAt := fun q => cr_at (w := w.drewN q) (Q := fun b => S b ∧ o b = tagK s k) _ (home s k) (hv.2.2.2.2.frame fun _ _ _ => rfl) k hl
  rcases look_split (s := s) (k := k) with ⟨q1, q2, q3⟩ | ⟨pre, n, suf, q1, q2, q3, q4⟩
  · rw [q3] at hAt
    have HA := Lib.hid hAt
    rw [q2]
    obtain ⟨ln, hln⟩ : ∃ n, (home s k).length = n := ⟨_, rfl⟩
    rw [hln] at HR HA
    clear h hv hc q1 q2 q3 hAt hW hl hln hcap
    go_enter Try.func30, Try.ntmps30
    go_wp2_with fail
    refine HR.out.mono ?_
    rintro e w1 ⟨rfl, q, rfl⟩
    go_wp2_with fail
    refine (HA.out q).mono ?_
    rintro e w1 ⟨rfl, rfl⟩
    go_wp2_with fail
    go_ret2
    exact ⟨rfl, _, rfl⟩
  · rw [q4] at hAt
    have HA := Lib.hid hAt
    rw [q3]
    have hpl : pre.length < (home s k).length := by rw [q1]; simp
    obtain ⟨b, off, rfl, hb, _, hc0, hc1, hfz⟩ := hc pre.length (k, n) (by rw [q1]; simp)
    obtain ⟨ln, hln⟩ : ∃ n, (home s k).length = n := ⟨_, rfl⟩
    rw [hln] at HR HA hpl
    obtain ⟨pl, hpl2⟩ : ∃ n, pre.length = n := ⟨_, rfl⟩
    rw [hpl2] at HA hpl hc1
    have hpl' : (pl : Int) < ln := by omega
    have hpl0 : (0 : Int) ≤ pl := by omega
    have hnn : decide ((pl : Int) < 0) = false := decide_eq_false (by omega)
    clear h hv hc q1 q2 q3 q4 hAt hW hl hln hcap hpl2 hc0 hfz hb
    go_enter Try.func30, Try.ntmps30
    go_wp2_with fail
    refine HR.out.mono ?_
    rintro e w1 ⟨rfl, q, rfl⟩
    go_wp2_with fail
    refine (HA.out q).mono ?_
    rintro e w1 ⟨rfl, rfl⟩
    have hc1' : (w.drewN q).cell? ⟨b, off + pl * 2 + 1, none⟩ = some (.int .i64 n) := hc1
    go_wp2_with fail
    go_ret2
    exact ⟨rfl, _, rfl⟩
end
end Go.Proofs.Ytnabgcnndehaaaa
