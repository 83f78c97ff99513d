/- The reference of layer 10 (rows): a list of lists. -/
import Derived.Test.YtgdlndpjfejmcaaGreatPRd
import Derived.Test.YtgdlndpjfejmcaaGreatPAp
import Derived.Laws.MakeOwn
import Derived.Deep.QuietTactic
import Derived.BigQuiet
import Derived.Deep.RegionLaw
namespace Go.Proofs.YtgdlndpjfejmcaaGreat
open Go.RowKit
set_option linter.unusedVariables false
set_option maxRecDepth 100000
structure RfO (w : World) (S : Nat → Prop) (r n : Nat) (L : Nat → List Int) (lb : Nat) (cs : Array Value) : Prop where
  hSr : S r
  hSl : S lb
  hr : w.heap[r]? = some (.cells #[.slice (some ⟨lb, 0, none⟩) n n] 97 (0, 0))
  hl : w.heap[lb]? = some (.cells cs 67 (0, 0))
  hn : cs.size = n
  hs : ∀ i, i < n → ∃ v, cs[i]? = some v ∧ Sl w S 3 1 v (L i).length ((L i).map (Value.int .i64))
  hz : ∀ i, n ≤ i → L i = []
  h8 : n ≤ 8
def Rf (w : World) (S : Nat → Prop) (r n : Nat) (L : Nat → List Int) : Prop := ∃ lb cs, RfO w S r n L lb cs
section
variable {w w' : World} {S S' : Nat → Prop} {r n : Nat} {L L' : Nat → List Int} {lb : Nat} {cs : Array Value}
theorem RfO.frame (h : RfO w S r n L lb cs) (hf : ∀ b, b < w.heap.size → S b → w'.heap[b]? = w.heap[b]?) : RfO w' S r n L lb cs :=
  ⟨h.hSr, h.hSl, (hf r (lt_of_heap h.hr) h.hSr).trans h.hr, (hf lb (lt_of_heap h.hl) h.hSl).trans h.hl, h.hn, fun i hi => by obtain ⟨v, h1, h2⟩ := h.hs i hi; exact ⟨v, h1, h2.frame hf⟩, h.hz, h.h8⟩
theorem RfO.mono (h : RfO w S r n L lb cs) (hS : ∀ b, b < w.heap.size → S b → S' b) : RfO w S' r n L lb cs :=
  ⟨hS r (lt_of_heap h.hr) h.hSr, hS lb (lt_of_heap h.hl) h.hSl, h.hr, h.hl, h.hn, fun i hi => by obtain ⟨v, h1, h2⟩ := h.hs i hi; exact ⟨v, h1, h2.mono hS⟩, h.hz, h.h8⟩
theorem Rf.frame (h : Rf w S r n L) (hf : ∀ b, b < w.heap.size → S b → w'.heap[b]? = w.heap[b]?) : Rf w' S r n L := by obtain ⟨lb, cs, h⟩ := h; exact ⟨lb, cs, h.frame hf⟩
theorem Rf.mono (h : Rf w S r n L) (hS : ∀ b, b < w.heap.size → S b → S' b) : Rf w S' r n L := by obtain ⟨lb, cs, h⟩ := h; exact ⟨lb, cs, h.mono hS⟩
theorem Rf.fr {F : Nat → Prop} (h : Rf w S r n L) (hf : Fr F w w') (hd : ∀ b, b < w.heap.size → S b → ¬ F b) : Rf w' S r n L := h.frame fun b hb q => hf.block b hb (hd b hb q)
theorem RfO.cell (h : RfO w S r n L lb cs) : w.cell? ⟨r, 0, none⟩ = some (.slice (some ⟨lb, 0, none⟩) n n) ∧ w.frozen? ⟨r, 0, none⟩ = false ∧ r < w.heap.size ∧ lb < w.heap.size := by
  have c0 := cell_of_heap h.hr 0
  exact ⟨by simpa only [List.getElem?_toArray, List.getElem?_cons_zero] using c0, fro_of_heap h.hr 0, lt_of_heap h.hr, lt_of_heap h.hl⟩
/-- A row's slice. -/
theorem RfO.row (h : RfO w S r n L lb cs) {i : Nat} (hi : i < n) : ∃ a cap, w.cell? ⟨lb, i, none⟩ = some (.slice a (L i).length cap) ∧ (L i).length ≤ cap ∧ Sl w S 3 1 (.slice a (L i).length cap) (L i).length ((L i).map (Value.int .i64)) ∧ w.frozen? ⟨lb, i, none⟩ = false := by
  obtain ⟨v, h1, h2⟩ := h.hs i hi
  obtain ⟨a, cap, rfl, hc⟩ := h2.shape
  exact ⟨a, cap, (cell_of_heap h.hl i).trans h1, hc, h2, fro_of_heap h.hl i⟩
/-- A row's slice turns. -/
theorem RfO.put (h : RfO w S r n L lb cs) (hF : Fr (fun b => w.heap.size ≤ b) w w') {i : Nat} (hi : i < n) {v : Value} {l : List Int} (hv : Sl w' (fun b => w.heap.size ≤ b) 3 1 v l.length (l.map (Value.int .i64))) :
    Rf (w'.setCell ⟨lb, i, none⟩ v) (grow S w (w'.setCell ⟨lb, i, none⟩ v)) r n (fun k => if k = i then l else L k) ∧ Fr S w (w'.setCell ⟨lb, i, none⟩ v) := by
  have hlb := lt_of_heap h.hl
  have hrb := lt_of_heap h.hr
  have hl' : w'.heap[lb]? = some (.cells cs 67 (0, 0)) := (hF.block lb hlb (by omega)).trans h.hl
  have hr' : w'.heap[r]? = _ := (hF.block r hrb (by omega)).trans h.hr
  have hne : r ≠ lb := fun e => by
    have h1 := h.hr
    rw [e, h.hl] at h1
    simp at h1
  have hz : (w'.setCell ⟨lb, i, none⟩ v).heap.size = w'.heap.size := by simp [World.setCell]
  refine ⟨⟨lb, cs.setIfInBounds i v, Or.inl h.hSr, Or.inl h.hSl, ?_, heap_setCell_same hl' i v, by simp [h.hn], fun k hk => ?_, fun k hk => ?_, h.h8⟩, ?_⟩
  · rw [heap_setCell_other hne]; exact hr'
  · by_cases e : k = i
    · rw [e]
      refine ⟨v, by simp [h.hn, hi], ?_⟩
      rw [if_pos rfl]
      exact (hv.setCell_other hl' (by decide) i v).mono fun b hb q => Or.inr ⟨q, hb⟩
    · obtain ⟨u, h1, h2⟩ := h.hs k hk
      refine ⟨u, ?_, ?_⟩
      · rw [← h1, Array.getElem?_setIfInBounds_ne (fun q => e q.symm)]
      · rw [if_neg e]
        exact ((h2.fr hF (fun b hb _ => by omega)).setCell_other hl' (by decide) i v).mono fun b hb q => Or.inl q
  · rw [if_neg (by omega)]; exact h.hz k hk
  · exact (hF.mono (T := S) (fun b hb q => absurd q (by omega))).setCell (p := ⟨lb, i, none⟩) (fun _ => h.hSl) v
end
end Go.Proofs.YtgdlndpjfejmcaaGreat
/- The reference of layer 10 (rows): what each call that only looks tells. -/
namespace Go.Proofs.YtgdlndpjfejmcaaGreat
open Go.RowKit
set_option linter.unusedVariables false
set_option maxRecDepth 100000
theorem info_slint : (Tryz.prog.info? 67).map (fun i => (i.zero, i.size, i.bytes)) = some (some (.slice none 0 0), 1, 24) := by kernel_rfl
theorem run_make_rows (n : Nat) (hn : n ≤ 8) (w : World) : (Instr.makeSlice 95 (.int .i64 (n : Int)) (.int .i64 (n : Int))).run Tryz.prog w = .ok (.slice (some ⟨w.heap.size, 0, none⟩) n n) (w.alloc (.cells (List.replicate n (Value.slice none 0 0)).toArray 67)) := by
  obtain ⟨i, hi, hz0, hz1, hz2⟩ := info_parts info_slint
  have hb : (i.bytes : Int) * (n : Int) ≤ 281474976710656 := by rw [hz2]; omega
  have hr := run_make (P := Tryz.prog) w 95 67 i _ Tryz.underlying95 hi hz0 .i64 .i64 n n (by omega) (by omega) hb (by omega)
  simp only [Int.toNat_natCast] at hr
  rw [hr, hz1]
  have : madeCells (Value.slice none 0 0).cells (n * 1) = (List.replicate n (Value.slice none 0 0)).toArray := by
    apply Array.toList_inj.1
    show (madeCells #[Value.slice none 0 0] (n * 1)).toList = _
    rw [toList_madeCells_one, Nat.mul_one]
  rw [this]
theorem rf_new (n : Nat) (h1 : 1 ≤ n) (h8 : n ≤ 8) (w : World) :
    Calls Tryz.prog 27 #[.int .i64 n] w fun e w' => ∃ r, e = .returned (.pointer (some ⟨r, 0, none⟩)) ∧ Rf w' (fun b => w.heap.size ≤ b ∧ b < w'.heap.size) r n (fun _ => []) ∧ Fr (fun _ => False) w w' := by
  have hmk := run_make_rows n h8
  have hd1 : decide (n < 1) = false := decide_eq_false (by omega)
  have hd2 : decide ((n : Int) < 1) = false := decide_eq_false (by omega)
  have hd3 : decide (8 < n) = false := decide_eq_false (by omega)
  have hd4 : decide ((8 : Int) < n) = false := decide_eq_false (by omega)
  go_enter Tryz.func27, Tryz.ntmps27
  go_wp2
  go_ret
  have hl1 := heap_alloc_new w (.cells (List.replicate n (Value.slice none 0 0)).toArray 67)
  have hz : (w.alloc (.cells (List.replicate n (Value.slice none 0 0)).toArray 67)).heap.size = w.heap.size + 1 := by simp
  have hl2 := heap_alloc_new (w.alloc (.cells (List.replicate n (Value.slice none 0 0)).toArray 67)) (.cells #[.slice (some ⟨w.heap.size, 0, none⟩) n n] 97)
  rw [hz] at hl2
  refine ⟨_, rfl, ⟨w.heap.size, (List.replicate n (Value.slice none 0 0)).toArray, by simp <;> omega, by simp <;> omega, ?_, ?_, by simp, fun i hi => ⟨.slice none 0 0, by simp [hi], Sl.nil _ _ _ _⟩, fun i hi => rfl, h8⟩, ((Fr.refl _ w).alloc _).alloc _⟩
  · exact hl2
  · rw [heap_alloc_old _ (by simp)]; exact hl1
theorem rf_new_no (n : Int) (h : n < 1 ∨ 8 < n) (w : World) : Calls Tryz.prog 27 #[.int .i64 n] w fun e w' => e = .returned (.pointer none) ∧ w = w' := by
  rcases h with h | h
  · go_enter Tryz.func27, Tryz.ntmps27
    go_wp2
    go_ret
    exact ⟨rfl, rfl⟩
  · have hd : decide (n < 1) = false := decide_eq_false (by omega)
    go_enter Tryz.func27, Tryz.ntmps27
    go_wp2
    go_ret
    exact ⟨rfl, rfl⟩
theorem rf_may (S : Nat → Prop) (r n : Nat) (L : Nat → List Int) (row id : Int) (w : World) (h : Rf w S r n L) :
    Calls Tryz.prog 55 #[.pointer (some ⟨r, 0, none⟩), .int .i64 row, .int .i64 id] w fun e w' => e = .returned (.bool (mayIn n row id)) ∧ w = w' := by
  obtain ⟨lb, cs, h⟩ := h
  obtain ⟨c0, _, _, _⟩ := h.cell
  obtain ⟨bm, hbm⟩ : ∃ bm, mayIn n row id = bm := ⟨_, rfl⟩
  have hiff := mayIn_iff hbm
  rw [hbm]
  clear h hbm
  by_cases h0 : row < 0
  · have hd : decide (0 ≤ row) = false := decide_eq_false (by omega)
    have hb : bm = false := by rcases bm with _ | _; rfl; exact absurd (hiff.1 rfl).1.1 (by omega)
    subst hb
    clear hiff
    go_enter Tryz.func55, Tryz.ntmps55
    go_wp2
    go_ret
    exact ⟨rfl, rfl⟩
  · obtain ⟨k, rfl⟩ : ∃ k : Nat, row = k := ⟨row.toNat, by omega⟩
    have hd0 : decide ((0 : Int) ≤ k) = true := decide_eq_true (by omega)
    by_cases h1 : k < n
    · have hd1 : decide ((k : Int) < n) = true := decide_eq_true (by omega)
      by_cases h2 : id < 0
      · have hd2 : decide (0 ≤ id) = false := decide_eq_false (by omega)
        have hb : bm = false := by rcases bm with _ | _; rfl; exact absurd (hiff.1 rfl).2.1 (by omega)
        subst hb
        clear hiff
        go_enter Tryz.func55, Tryz.ntmps55
        go_wp2
        go_ret
        exact ⟨rfl, rfl⟩
      · have hd2 : decide (0 ≤ id) = true := decide_eq_true (by omega)
        have hb : bm = decide (id ≤ 4194303) := by
          rcases bm with _ | _
          · exact (decide_eq_false fun q => hiff.2 rfl ⟨⟨by omega, by omega⟩, by omega, q⟩).symm
          · exact (decide_eq_true (hiff.1 rfl).2.2).symm
        subst hb
        clear hiff
        go_enter Tryz.func55, Tryz.ntmps55
        go_wp2
        go_ret
        exact ⟨rfl, rfl⟩
    · have hd1 : decide ((k : Int) < n) = false := decide_eq_false (by omega)
      have hd1' : decide (k < n) = false := decide_eq_false (by omega)
      have hb : bm = false := by rcases bm with _ | _; rfl; exact absurd (hiff.1 rfl).1.2 (by omega)
      subst hb
      clear hiff
      go_enter Tryz.func55, Tryz.ntmps55
      go_wp2
      go_ret
      exact ⟨rfl, rfl⟩
theorem rf_all (S : Nat → Prop) (r n : Nat) (L : Nat → List Int) (row : Int) (w : World) (h : Rf w S r n L) :
    Calls Tryz.prog 63 #[.pointer (some ⟨r, 0, none⟩), .int .i64 row] w fun e w' => ∃ a cap, e = .returned (.slice a (rowL L row).length cap) ∧ Sl w S 3 1 (.slice a (rowL L row).length cap) (rowL L row).length ((rowL L row).map (Value.int .i64)) ∧ w = w' := by
  obtain ⟨lb, cs, h⟩ := h
  obtain ⟨c0, _, _, _⟩ := h.cell
  by_cases h0 : row < 0
  · have hd : decide (row < 0) = true := decide_eq_true h0
    have e : rowL L row = [] := by unfold rowL; rw [if_pos h0]
    rw [e]
    have HS := Lib.hid (Sl.nil w S 3 1)
    clear h e
    go_enter Tryz.func63, Tryz.ntmps63
    go_wp2
    go_ret
    exact ⟨_, _, rfl, HS.out, rfl⟩
  · obtain ⟨k, rfl⟩ : ∃ k : Nat, row = k := ⟨row.toNat, by omega⟩
    have hd0 : decide ((k : Int) < 0) = false := decide_eq_false (by omega)
    by_cases h1 : k < n
    · have hd1 : decide ((n : Int) ≤ k) = false := decide_eq_false (by omega)
      have hd1' : decide (n ≤ k) = false := decide_eq_false (by omega)
      obtain ⟨a, cap, hc, hcap, hs, _⟩ := h.row h1
      rw [rowL_nat]
      have HS := Lib.hid hs
      clear h hs
      go_enter Tryz.func63, Tryz.ntmps63
      go_wp2
      go_ret
      exact ⟨_, _, rfl, HS.out, rfl⟩
    · have hd1 : decide ((n : Int) ≤ k) = true := decide_eq_true (by omega)
      have hd1' : decide (n ≤ k) = true := decide_eq_true (by omega)
      rw [rowL_nat, h.hz k (by omega)]
      have HS := Lib.hid (Sl.nil w S 3 1)
      clear h
      go_enter Tryz.func63, Tryz.ntmps63
      go_wp2
      go_ret
      exact ⟨_, _, rfl, HS.out, rfl⟩
theorem rf_len (S : Nat → Prop) (r n : Nat) (L : Nat → List Int) (row : Int) (w : World) (h : Rf w S r n L) :
    Calls Tryz.prog 51 #[.pointer (some ⟨r, 0, none⟩), .int .i64 row] w fun e w' => e = .returned (.int .i64 (rowL L row).length) ∧ w = w' := by
  have HA := Lib.hid (rf_all S r n L row w h)
  clear h
  obtain ⟨l, hl⟩ : ∃ l, rowL L row = l := ⟨_, rfl⟩
  rw [hl] at HA ⊢
  clear hl
  go_enter Tryz.func51, Tryz.ntmps51
  go_wp2_with fail
  refine HA.out.mono ?_
  rintro e w1 ⟨a, cap, rfl, _, rfl⟩
  go_wp2
  go_ret
  exact ⟨rfl, rfl⟩
theorem rf_last (S : Nat → Prop) (r n : Nat) (L : Nat → List Int) (row : Int) (w : World) (h : Rf w S r n L) (hN : (rowL L row).length ≤ 1000000) :
    Calls Tryz.prog 46 #[.pointer (some ⟨r, 0, none⟩), .int .i64 row] w fun e w' => e = .returned (.int .i64 (lastOf (rowL L row))) ∧ w = w' := by
  have HA := Lib.hid (rf_all S r n L row w h)
  clear h
  obtain ⟨l, hl⟩ : ∃ l, rowL L row = l := ⟨_, rfl⟩
  rw [hl] at HA hN ⊢
  clear hl
  by_cases he : l = []
  · subst he
    go_enter Tryz.func46, Tryz.ntmps46
    go_wp2_with fail
    refine HA.out.mono ?_
    rintro e w1 ⟨a, cap, rfl, _, rfl⟩
    go_wp2
    go_ret
    exact ⟨rfl, rfl⟩
  · have hp := List.length_pos_iff.2 he
    have h0 : (l.length == 0) = false := by rw [beq_eq_false_iff_ne]; omega
    have h0' : ((l.length : Int) == 0) = false := by rw [beq_eq_false_iff_ne]; omega
    have hlast : l[l.length - 1]? = some (lastOf l) := by
      unfold lastOf
      rw [List.getLastD_eq_getLast?, List.getLast?_eq_getElem?]
      rw [List.getElem?_eq_getElem (by omega)]; rfl
    obtain ⟨vl, hvl⟩ : ∃ vl, lastOf l = vl := ⟨_, rfl⟩
    rw [hvl] at hlast ⊢
    have HLast := Lib.hid hlast
    have hw : (l.length : Int) - 1 = ((l.length - 1 : Nat) : Int) := by omega
    clear hlast hvl
    go_enter Tryz.func46, Tryz.ntmps46
    go_wp2_with fail
    refine HA.out.mono ?_
    rintro e w1 ⟨a, cap, rfl, hs, rfl⟩
    obtain ⟨a', cap', hv, hat⟩ := sl_at hs
    simp at hv
    obtain ⟨rfl, rfl⟩ := hv
    obtain ⟨b, off, rfl, hb, _, hc, _⟩ := hat (l.length - 1) _ HLast.out
    obtain ⟨m, hm⟩ : ∃ m, l.length - 1 = m := ⟨_, rfl⟩
    rw [hm] at hc hw
    have hml : m < l.length := by omega
    have hmi : (m : Int) < l.length := by omega
    clear hat hs hm
    go_wp2
    go_ret
    exact ⟨rfl, rfl⟩
end Go.Proofs.YtgdlndpjfejmcaaGreat
/- The reference of layer 10 (rows): Row and Same. -/
namespace Go.Proofs.YtgdlndpjfejmcaaGreat
open Go.RowKit
set_option linter.unusedVariables false
set_option maxRecDepth 100000
theorem rowOf_first {n : Nat} {L : Nat → List Int} {id : Int} {i : Nat} (hi : i < n) (h : id ∈ L i) (hno : ∀ s, s < i → id ∉ L s) : rowOf n L id = i := by
  unfold rowOf
  rw [List.find?_range_eq_some.2 ⟨decide_eq_true h, List.mem_range.2 hi, fun j hj => by simpa using hno j hj⟩]
set_option maxHeartbeats 1000000 in
theorem rf_row (S : Nat → Prop) (r n : Nat) (L : Nat → List Int) (id : Int) (w : World) (h : Rf w S r n L) (hN : ∀ k, (L k).length ≤ 1000000) :
    Calls Tryz.prog 52 #[.pointer (some ⟨r, 0, none⟩), .int .i64 id] w fun e w' => e = .returned (.int .i64 (rowOf n L id)) ∧ w = w' := by
  obtain ⟨lb, cs, h⟩ := h
  obtain ⟨c0, _, _, _⟩ := h.cell
  have h8 := h.h8
  have H := Lib.hid (And.intro h hN)
  obtain ⟨rv, hrv⟩ : ∃ rv, rowOf n L id = rv := ⟨_, rfl⟩
  rw [hrv]
  have HR := Lib.hid hrv
  clear h hN hrv
  go_enter Tryz.func52, Tryz.ntmps52
  go_wp2_with fail
  go_loopw [5, 6] (fun s _ wr => ∃ i : Nat, i ≤ n ∧ s = .int .i64 i ∧ (∀ s, s < i → id ∉ L s) ∧ wr = w) (fun s _ _ => n - (intOf s).toNat)
  case atStart => exact ⟨0, by omega, rfl, fun s hs => absurd hs (Nat.not_lt_zero s), rfl⟩
  case round =>
    obtain ⟨i, hi, rfl, hno, rfl⟩ := hrel
    have HN := Lib.hid hno
    clear hno
    by_cases hlt : i < n
    · have hin : (i : Int) < n := by omega
      obtain ⟨a, cap, hc, hcap, hs, _⟩ := H.out.1.row hlt
      obtain ⟨l, hl⟩ : ∃ l, L i = l := ⟨_, rfl⟩
      rw [hl] at hc hcap hs
      have hll : l.length ≤ 1000000 := hl ▸ H.out.2 i
      have HL := Lib.hid (And.intro hl hs)
      clear hl hs
      go_wp2_with fail
      obtain ⟨wz, rfl⟩ : ∃ wz : World, wz = wr := ⟨_, rfl⟩
      go_loopw [6] (fun s wr => ∃ k : Nat, k ≤ l.length ∧ s = .int .i64 k ∧ id ∉ l.take k ∧ wr = wz) (fun s _ => l.length - (intOf s).toNat)
      case atStart => exact ⟨0, by omega, rfl, by simp, rfl⟩
      case round =>
        obtain ⟨k, hk, rfl, hnk, rfl⟩ := hrel
        have HK := Lib.hid hnk
        clear hnk
        by_cases hkl : k < l.length
        · obtain ⟨x, hx⟩ : ∃ x, l[k]? = some x := ⟨_, List.getElem?_eq_getElem hkl⟩
          obtain ⟨a', cap', hv, hat⟩ := sl_at HL.out.2
          simp at hv
          obtain ⟨rfl, rfl⟩ := hv
          obtain ⟨b, off, rfl, _, _, hcx, _⟩ := hat k x hx
          have HX := Lib.hid hx
          clear hx hat
          by_cases he : x = id
          · subst he
            have hm : rv = i := HR.out.symm.trans (rowOf_first hlt (by rw [HL.out.1]; exact List.mem_of_getElem? HX.out) HN.out)
            subst hm
            go_wp2
            go_ret
            exact ⟨rfl, rfl⟩
          · have hb : (x == id) = false := by simpa using he
            have HE := Lib.hid he
            clear he
            go_wp2_with fail
            go_roundw
            case rel =>
              refine ⟨k + 1, by omega, by go_num, ?_, trivial⟩
              rw [List.take_succ_eq_append_getElem hkl, List.mem_append]
              intro q
              rcases q with q | q
              · exact HK.out q
              · simp at q
                exact HE.out (by rw [q]; exact ((List.getElem?_eq_some_iff.1 HX.out).2).symm)
            case measure => simp [intOf]; omega
        · go_wp2_with fail
          go_roundw
          case rel =>
            refine ⟨i + 1, by omega, by go_num, fun s hs => ?_, trivial⟩
            by_cases e : s = i
            · rw [e, HL.out.1]
              have := HK.out
              rw [List.take_of_length_le (by omega)] at this
              exact this
            · exact HN.out s (by omega)
          case measure => simp [intOf]; omega
    · have hin : i = n := by omega
      subst hin
      have hm : rv = -1 := HR.out.symm.trans (rowOf_none HN.out)
      subst hm
      go_wp2
      go_ret
      exact ⟨rfl, rfl⟩
end Go.Proofs.YtgdlndpjfejmcaaGreat
/- The reference of layer 10 (rows): Take. -/
namespace Go.Proofs.YtgdlndpjfejmcaaGreat
open Go.RowKit
set_option linter.unusedVariables false
set_option maxRecDepth 100000
theorem filter_takeI {L : List Int} {h x : Int} {k : Nat} (hx : L[k]? = some x) : (L.take (k + 1)).filter (· != h) = (L.take k).filter (· != h) ++ if x = h then [] else [x] := by
  obtain ⟨hk, rfl⟩ := List.getElem?_eq_some_iff.1 hx
  rw [List.take_succ_eq_append_getElem hk, List.filter_append]
  congr 1
  by_cases e : L[k] = h <;> simp [e]
def Dsj (n : Nat) (L : Nat → List Int) : Prop := ∀ a b, a < n → b < n → ∀ x, x ∈ L a → x ∈ L b → b = a
set_option maxHeartbeats 2000000 in
theorem rf_take (S : Nat → Prop) (r n : Nat) (L : Nat → List Int) (id : Int) (w : World) (h : Rf w S r n L) (hN : ∀ k, (L k).length ≤ 1000000) (hd : Dsj n L) :
    Calls Tryz.prog 38 #[.pointer (some ⟨r, 0, none⟩), .int .i64 id] w fun e w' => e = .returned (.bool (decide (0 ≤ rowOf n L id))) ∧ Rf w' (grow S w w') r n (del L id) ∧ Fr S w w' := by
  obtain ⟨i0, hi, hz0, hz1, hz2⟩ := info_parts info_i64
  have HROW := Lib.hid (rf_row S r n L id w h hN)
  have HH := Lib.hid h
  by_cases hin : ∃ q, q < n ∧ id ∈ L q
  · obtain ⟨q, hq, hid⟩ := hin
    have hro : rowOf n L id = q := rowOf_some hq hid (fun s hs hx => hd q s hq hs id hid hx)
    have hdel : del L id = fun k => if k = q then (L q).filter (· != id) else L k := by
      funext k
      show (L k).filter (· != id) = _
      split
      · rename_i e; rw [e]
      · rename_i e
        refine filter_no fun hx => ?_
        by_cases hk : k < n
        · exact e (hd q k hq hk id hid hx)
        · obtain ⟨lb, cs, hO⟩ := h
          rw [hO.hz k (by omega)] at hx; cases hx
    obtain ⟨lb, cs, h⟩ := h
    obtain ⟨c0, _, hrb, hlb⟩ := h.cell
    obtain ⟨a, cap, hc, hcap, hs, hfq⟩ := h.row hq
    have h8 := h.h8
    obtain ⟨l, hl⟩ : ∃ l, L q = l := ⟨_, rfl⟩
    have hll : l.length ≤ 1000000 := hl ▸ hN q
    rw [hro] at HROW ⊢
    rw [hl] at hc hcap hs hdel
    have hdt : decide ((0 : Int) ≤ (q : Int)) = true := decide_eq_true (by omega)
    have hdf : decide ((q : Int) < 0) = false := decide_eq_false (by omega)
    rw [hdt, hdel]
    have hqn : (q : Int) < n := by omega
    have HL := Lib.hid (And.intro h (And.intro hs (And.intro hc (And.intro c0 hfq))))
    clear h hs hdel hro hid hd hN hc c0 hdt hfq
    go_enter Tryz.func38, Tryz.ntmps38
    go_wp2_with fail
    refine HROW.out.mono ?_
    rintro e w1 ⟨rfl, rfl⟩
    go_wp2_with fail
    go_loopw [6, 7] (fun s i wr => ∃ k : Nat, k ≤ l.length ∧ i = .int .i64 k ∧ Sl wr (fun b => w.heap.size ≤ b) 3 1 s ((l.take k).filter (· != id)).length (((l.take k).filter (· != id)).map (Value.int .i64)) ∧ Fr (fun b => w.heap.size ≤ b) w wr) (fun _ i _ => l.length - (intOf i).toNat)
    case atStart => exact ⟨0, by omega, rfl, Sl.nil _ _ _ _, Fr.refl _ _⟩
    case round =>
      obtain ⟨k, hk, rfl, hsl, hfr⟩ := hrel
      have c1 : wr.cell? ⟨r, 0, none⟩ = some (.slice (some ⟨lb, 0, none⟩) n n) := (hfr.cell (p := ⟨r, 0, none⟩) hrb (by simp; omega)).trans HL.out.2.2.2.1
      have c2 : wr.cell? ⟨lb, q, none⟩ = some (.slice a l.length cap) := (hfr.cell (p := ⟨lb, q, none⟩) hlb (by simp; omega)).trans HL.out.2.2.1
      have hfl : ((l.take k).filter (· != id)).length ≤ k := Nat.le_trans (List.length_filter_le _ _) (List.length_take_le _ _)
      have HS := Lib.hid (And.intro hsl hfr)
      obtain ⟨sa, scap, rfl, _⟩ := hsl.shape
      clear hsl
      by_cases hlt : k < l.length
      · obtain ⟨x, hxk⟩ : ∃ x, l[k]? = some x := ⟨_, List.getElem?_eq_getElem hlt⟩
        obtain ⟨a', cap', hv, hat⟩ := sl_at HL.out.2.1
        simp at hv
        obtain ⟨rfl, rfl⟩ := hv
        obtain ⟨b, off, rfl, hbl, _, hcx, _⟩ := hat k x hxk
        have hc' : wr.cell? ⟨b, off + k, none⟩ = some (.int .i64 x) := (hfr.cell (p := ⟨b, off + k, none⟩) hbl (by simp; omega)).trans hcx
        have HT := Lib.hid (filter_takeI (h := id) hxk)
        clear hcx hxk hfr hat
        by_cases he : x = id
        · subst he
          go_wp2
          go_roundw
          case rel =>
            refine ⟨k + 1, by omega, by go_num, ?_, HS.out.2⟩
            rw [HT.out, if_pos rfl, List.append_nil]; exact HS.out.1
          case measure => simp [intOf]; omega
        · have hb : (x != id) = true := by simpa using he
          go_wp2_with (at_builtin; refine wpList_append_sl (S := fun b => w.heap.size ≤ b) rfl _ _ 67 rfl 3 i0 (.int .i64 0) 1 8 Tryz.underlying67 hi hz0 hz1 hz2 rfl (by decide) _ _ _ rfl (HS.out.1.alloc _) ⟨_, 0, none⟩ 1 1 [.int .i64 x] rfl rfl (cell_one_at _ _ _ (by simp)) (ints_oneCell .i64 [x]) (by unfold maxLen; omega) (by omega) ?_; intro v1 q5 hs1 hf1; have HS1 := Lib.hid (And.intro hs1 hf1); clear hs1 hf1)
          go_roundw
          case rel =>
            obtain ⟨hs1, hf1⟩ := HS1.out
            have hsz := HS.out.2.size
            refine ⟨k + 1, by omega, by go_num, ?_, (HS.out.2.alloc _).trans hf1.arr (fun _ _ h => h)⟩
            rw [HT.out, if_neg he]
            have h2 := hs1.mono (S' := fun b => w.heap.size ≤ b) (fun b _ hb => hb.elim (fun q => q) (fun ⟨q, _⟩ => by simp at q; omega))
            simpa using h2
          case measure => simp [intOf]; omega
      · have hg : (l.take k).filter (· != id) = l.filter (· != id) := by rw [List.take_of_length_le (by omega)]
        have hf2 : wr.frozen? ⟨lb, q, none⟩ = false := (hfr.fro (p := ⟨lb, q, none⟩) hlb (by simp; omega)).trans HL.out.2.2.2.2
        have hput := HL.out.1.put (v := .slice sa ((l.take k).filter (· != id)).length scap) HS.out.2 hq HS.out.1
        rw [hg] at hput
        have HP := Lib.hid hput
        clear hfr hput
        go_wp2
        go_ret
        exact ⟨rfl, HP.out⟩
  · have hno : ∀ s, s < n → id ∉ L s := fun s hs hx => hin ⟨s, hs, hx⟩
    have hro : rowOf n L id = -1 := rowOf_none hno
    have hdel : del L id = L := del_none fun s hx => by
      by_cases hk : s < n
      · exact hno s hk hx
      · obtain ⟨lb, cs, hO⟩ := h
        rw [hO.hz s (by omega)] at hx; cases hx
    rw [hro] at HROW ⊢
    rw [hdel]
    clear hno hro hdel hin hd hN h
    go_enter Tryz.func38, Tryz.ntmps38
    go_wp2_with fail
    refine HROW.out.mono ?_
    rintro e w1 ⟨rfl, rfl⟩
    go_wp2
    go_ret
    exact ⟨rfl, HH.out.mono fun b _ q => Or.inl q, Fr.refl _ _⟩
end Go.Proofs.YtgdlndpjfejmcaaGreat
/- The reference of layer 10 (rows): Front. -/
namespace Go.Proofs.YtgdlndpjfejmcaaGreat
open Go.RowKit
set_option linter.unusedVariables false
set_option maxRecDepth 100000
theorem step_append_from {P : Program} {S S2 : Nat → Prop} {ops : Array Oper} {o : Oper} {a : Act} {w : World} {K : Act → World → Prop} {Q : Exit → Act → World → Prop} {E : Prop}
    (hg : o.guard = none) (s x : Operand) (t : TypeId) (hop : o.op = Op.call { callee := Callee.builtin Builtin.append, args := #[s, x], argTypes := #[t, t] })
    (e : TypeId) (i : TypeInfo) (z : Value) (bytes : Nat) (ht : P.underlying t = some (.slice e)) (h2 : P.info? e = some i) (h3 : i.zero = some z) (h4 : i.size = 1) (h5 : i.bytes = bytes) (h6 : z.cells.size = 1)
    (v : Value) (n : Nat) (xs : List Value) (hs : a.eval s = v) (hown : Sl w S e 1 v n xs) (u : Value) (m : Nat) (ys : List Value) (hx : a.eval x = u) (hsrc : Sl w S2 e 1 u m ys) (h1c : ∀ y ∈ ys, y.oneCell' = true)
    (b1 : n + m ≤ maxLen) (b2 : (n + m) * bytes ≤ 140737488355328)
    (hK : ∀ v' w', Sl w' (grow S w w') e 1 v' (n + m) (xs ++ ys) → Fr (Arr S w e) w w' → K (a.put o.dst v') w') :
    if Region.wanted o (yielded ops a.tmps) = true then Oper.wp P o a w K Q else E := by
  have hw : Region.wanted o (yielded ops a.tmps) = true := by simp [Region.wanted, hg]
  rw [if_pos hw]
  obtain ⟨v', w', hrun, r1, r2⟩ := run_append_from (P := P) t o.type e i z bytes ht h2 h3 h4 h5 h6 v n xs hown u m ys hsrc h1c b1 b2
  unfold Oper.wp
  simp [execOp, hop, resolve, invoke, builtin, hs, hx, hrun, Result.andThen]
  exact hK v' w' r1 r2
theorem Dsj.nodup {n : Nat} {L : Nat → List Int} (h : Dsj n L) : Dsj n L := h
set_option maxHeartbeats 4000000 in
theorem rf_front (S : Nat → Prop) (r n : Nat) (L : Nat → List Int) (row id : Int) (w : World) (h : Rf w S r n L) (hN : ∀ k, (L k).length ≤ 1000000) (hd : Dsj n L) :
    Calls Tryz.prog 31 #[.pointer (some ⟨r, 0, none⟩), .int .i64 row, .int .i64 id] w fun e w' => e = .returned (.bool (mayIn n row id)) ∧ Rf w' (grow S w w') r n (frontL n L row id) ∧ Fr S w w' := by
  obtain ⟨i0, hi, hz0, hz1, hz2⟩ := info_parts info_i64
  have HM := Lib.hid (rf_may S r n L row id w h)
  have HT := Lib.hid (rf_take S r n L id w h hN hd)
  have HH := Lib.hid h
  obtain ⟨bm, hbm⟩ : ∃ bm, mayIn n row id = bm := ⟨_, rfl⟩
  have hiff := mayIn_iff hbm
  have hfl : frontL n L row id = if bm then putF (del L id) row.toNat id else L := by unfold frontL; rw [hbm]
  rw [hbm] at HM ⊢
  rw [hfl]
  clear hfl hbm h
  rcases bm with _ | _
  · clear hiff
    go_enter Tryz.func31, Tryz.ntmps31
    go_wp2_with fail
    refine HM.out.mono ?_
    rintro e w1 ⟨rfl, rfl⟩
    go_wp2
    go_ret
    exact ⟨rfl, HH.out.mono fun b _ q => Or.inl q, Fr.refl _ _⟩
  · obtain ⟨⟨hr0, hr1⟩, hid0, hid1⟩ := hiff.1 rfl
    obtain ⟨k, rfl⟩ : ∃ k : Nat, row = k := ⟨row.toNat, by omega⟩
    have hkn : k < n := by omega
    obtain ⟨bt, hbt⟩ : ∃ bt, decide (0 ≤ rowOf n L id) = bt := ⟨_, rfl⟩
    rw [hbt] at HT
    obtain ⟨l, hl⟩ : ∃ l, del L id k = l := ⟨_, rfl⟩
    have hll : l.length ≤ 1000000 := by rw [← hl]; exact Nat.le_trans (List.length_filter_le _ _) (hN k)
    clear hiff hr0 hid0 hid1 hN hd hbt
    go_enter Tryz.func31, Tryz.ntmps31
    go_wp2_with fail
    refine HM.out.mono ?_
    rintro e w0 ⟨rfl, rfl⟩
    go_wp2_with fail
    refine HT.out.mono ?_
    rintro e w1 ⟨rfl, hA, hF⟩
    obtain ⟨lb, cs, hO⟩ := hA
    obtain ⟨c0, _, hrb, hlb⟩ := hO.cell
    obtain ⟨a, cap, hc, hcap, hs, hfq⟩ := hO.row hkn
    rw [hl] at hc hcap hs
    have ea : ∀ (o : Obj) (j : Nat), (w1.drew.alloc o).cell? ⟨r, j, none⟩ = w1.cell? ⟨r, j, none⟩ := fun o j => World.cell?_of_block (w := w1) (a := ⟨r, j, none⟩) (heap_alloc_old (w := w1.drew) o hrb)
    have eb : ∀ (o : Obj) (j : Nat), (w1.drew.alloc o).cell? ⟨lb, j, none⟩ = w1.cell? ⟨lb, j, none⟩ := fun o j => World.cell?_of_block (w := w1) (a := ⟨lb, j, none⟩) (heap_alloc_old (w := w1.drew) o hlb)
    have H1 := Lib.hid (And.intro hO (And.intro hF (And.intro hs (And.intro c0 (And.intro hc hfq)))))
    have HZ : ∀ o : Obj, Sl (w1.drew.alloc (.cells #[.int .i64 id] 3)) (fun b => w1.heap.size ≤ b) 3 1 (.slice (some ⟨w1.heap.size, 0, none⟩) 1 1) 1 [.int .i64 id] := fun o =>
      ⟨rfl, Or.inr ⟨w1.heap.size, 0, 1, #[.int .i64 id], rfl, Nat.le_refl _, heap_alloc_new w1.drew _, Nat.le_refl _, by unfold maxLen; omega, by simp, fun i hi => (match i, hi with
        | 0, _ => rfl)⟩⟩
    have HZ2 := Lib.hid (HZ (.cells #[] 0))
    clear HZ hO hF hs
    go_wp2_with fail
    go_region_law (refine step_append_from (S := fun b => w1.heap.size ≤ b) rfl _ _ 67 rfl 3 i0 (.int .i64 0) 8 Tryz.underlying67 hi hz0 hz1 hz2 rfl _ 1 [.int .i64 id] rfl HZ2.out _ l.length (l.map (Value.int .i64)) rfl (Sl.alloc (Sl.frame H1.out.2.2.1 (fun _ _ _ => rfl)) _) (ints_oneCell .i64 l) (by unfold maxLen; omega) (by omega) ?_; intro v2 w2 hs2 hf2; have hq : Fr (fun b => w1.heap.size ≤ b) w1 w2 := (((Fr.refl (fun b => w1.heap.size ≤ b) w1).drew).alloc (.cells #[.int .i64 id] 3)).trans hf2.arr (fun b _ q => q); have e0 := (hq.cell (p := ⟨r, 0, none⟩) hrb (by simp; omega)).trans H1.out.2.2.2.1; have e1 := (hq.cell (p := ⟨lb, k, none⟩) hlb (by simp; omega)).trans H1.out.2.2.2.2.1; have e2 := (hq.fro (p := ⟨lb, k, none⟩) hlb (by simp; omega)).trans H1.out.2.2.2.2.2; obtain ⟨sa, scap, rfl, _⟩ := hs2.shape; have HS2 := Lib.hid (And.intro hs2 hq); clear hs2 hf2 hq)
    all_goals
      go_wp2
      go_ret
      have h3 : Sl w2 (fun b => w1.heap.size ≤ b) 3 1 (.slice sa (1 + l.length) scap) (id :: l).length ((id :: l).map (Value.int .i64)) := by
        rw [show (id :: l).length = 1 + l.length from by rw [List.length_cons]; omega]
        exact HS2.out.1.mono fun b _ q => q.elim (fun q => q) (fun q => by have := q.1; simp at this; omega)
      have hput := H1.out.1.put HS2.out.2 hkn h3
      have hL : putF (del L id) k id = fun j => if j = k then id :: l else del L id j := by
        funext j
        unfold putF
        by_cases e : j = k
        · rw [if_pos e, if_pos e, e, hl]
        · rw [if_neg e, if_neg e]
      rw [← hL] at hput
      exact ⟨rfl, hput.1.mono fun b _ q => grow_grow H1.out.2.1.size hput.2.size q, H1.out.2.1.grown hput.2⟩
end Go.Proofs.YtgdlndpjfejmcaaGreat
