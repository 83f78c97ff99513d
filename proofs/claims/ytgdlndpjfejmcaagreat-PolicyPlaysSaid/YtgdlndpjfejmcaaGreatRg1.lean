/- Slices of numbers, read. -/
import Derived.Test.YtgdlndpjfejmcaaGreatPGh
namespace Go.Proofs.YtgdlndpjfejmcaaGreat
open Go.RowKit
set_option linter.unusedVariables false
set_option maxRecDepth 100000
theorem sl_ints {w : World} {S : Nat → Prop} {T : TypeId} {v : Value} {n : Nat} {L : List Int} (hsl : Sl w S T 1 v n (u64s L)) :
    ∃ a cap, v = .slice a n cap ∧ ∀ k x, L[k]? = some x → ∃ b off, a = some ⟨b, off, none⟩ ∧ b < w.heap.size ∧ w.cell? ⟨b, off + k, none⟩ = some (.int .u64 x) := by
  obtain ⟨a, cap, rfl, _⟩ := hsl.shape
  refine ⟨a, cap, rfl, fun k x h => ?_⟩
  have hk := (List.getElem?_eq_some_iff.1 h).1
  have hn : n = L.length := by have := hsl.1; simp [u64s] at this; omega
  obtain ⟨b, off, cap', hv, hS, hb, _, hx, _⟩ := hsl.pos (by omega)
  simp at hv
  exact ⟨b, off, hv.1, hb, by rw [hx k (by simpa [u64s] using hk)]; simp [u64s, h]⟩
theorem sl_intsS {w : World} {S : Nat → Prop} {T : TypeId} {v : Value} {n : Nat} {L : List Int} (hsl : Sl w S T 1 v n (u64s L)) :
    ∃ a cap, v = .slice a n cap ∧ n = L.length ∧ ∀ k x, L[k]? = some x → ∃ b off, a = some ⟨b, off, none⟩ ∧ S b ∧ b < w.heap.size ∧ w.cell? ⟨b, off + k, none⟩ = some (.int .u64 x) := by
  obtain ⟨a, cap, rfl, _⟩ := hsl.shape
  have hn : n = L.length := by have := hsl.1; simp [u64s] at this; omega
  refine ⟨a, cap, rfl, hn, fun k x h => ?_⟩
  have hk := (List.getElem?_eq_some_iff.1 h).1
  obtain ⟨b, off, cap', hv, hS, hb, _, hx, _⟩ := hsl.pos (by omega)
  simp at hv
  exact ⟨b, off, hv.1, hS, hb, by rw [hx k (by simpa [u64s] using hk)]; simp [u64s, h]⟩
end Go.Proofs.YtgdlndpjfejmcaaGreat
/- The reference of layer 11: what each call does. -/
namespace Go.Proofs.YtgdlndpjfejmcaaGreat
open Go.RowKit
set_option linter.unusedVariables false
set_option maxRecDepth 100000

/-- The reference: its limit and its numbers. -/
def RefG (w : World) (S : Nat → Prop) (p : Nat) (most : Int) (L : List Int) : Prop :=
  ∃ sv, S p ∧ w.heap[p]? = some (.cells #[.int .i64 most, sv] 102 (0, 0)) ∧ Sl w S 28 1 sv L.length (u64s L)
theorem RefG.frame {w w' : World} {S : Nat → Prop} {p : Nat} {most : Int} {L : List Int} (h : RefG w S p most L) (hf : ∀ b, b < w.heap.size → S b → w'.heap[b]? = w.heap[b]?) : RefG w' S p most L := by
  obtain ⟨sv, hS, hp, hs⟩ := h
  exact ⟨sv, hS, (hf p (lt_of_heap hp) hS).trans hp, hs.frame hf⟩
theorem RefG.fr {w w' : World} {S F : Nat → Prop} {p : Nat} {most : Int} {L : List Int} (h : RefG w S p most L) (hf : Fr F w w') (hd : ∀ b, b < w.heap.size → S b → ¬ F b) : RefG w' S p most L :=
  h.frame fun b hb hS => hf.block b hb (hd b hb hS)
theorem RefG.mono {w : World} {S S' : Nat → Prop} {p : Nat} {most : Int} {L : List Int} (h : RefG w S p most L) (hS : ∀ b, b < w.heap.size → S b → S' b) : RefG w S' p most L := by
  obtain ⟨sv, hSp, hp, hs⟩ := h
  exact ⟨sv, hS p (lt_of_heap hp) hSp, hp, hs.mono hS⟩

set_option maxHeartbeats 1000000 in
theorem rnew_at (n : Int) (w : World) :
    Calls Tryz.prog 54 #[.int .i64 n] w fun e w' => ∃ p, e = .returned (.pointer (some ⟨p, 0, none⟩)) ∧ RefG w' (fun b => w.heap.size ≤ b ∧ b < w'.heap.size) p (max 0 n) [] ∧ Fr (fun _ => False) w w' := by
  have fin : ∀ (u : Int), u = max 0 n → RefG (w.alloc (.cells #[.int .i64 u, .slice none 0 0] 102))
      (fun b => w.heap.size ≤ b ∧ b < (w.alloc (.cells #[.int .i64 u, .slice none 0 0] 102)).heap.size) w.heap.size (max 0 n) [] := by
    intro u hu
    subst hu
    exact ⟨_, by simp, heap_alloc_new w _, Sl.nil _ _ _ _⟩
  have HF := Lib.hid fin
  clear fin
  rcases Int.lt_trichotomy n 0 with hn | hn | hn
  all_goals
    first | subst hn | skip
    go_enter Tryz.func54, Tryz.ntmps54
    go_wp2
    go_ret
    exact ⟨_, rfl, HF.out _ (by omega), (Fr.refl _ w).alloc _⟩

theorem take_mem {L : List Int} {h x : Int} {k : Nat} (hx : L[k]? = some x) (hne : x ≠ h) (hn : h ∉ L.take k) : h ∉ L.take (k + 1) := by
  obtain ⟨hk, rfl⟩ := List.getElem?_eq_some_iff.1 hx
  rw [List.take_succ_eq_append_getElem hk]
  intro hm
  rcases List.mem_append.1 hm with h1 | h1
  · exact hn h1
  · simp at h1; exact hne h1.symm

set_option maxHeartbeats 1000000 in
theorem rhas_at (S : Nat → Prop) (p : Nat) (most : Int) (L : List Int) (h : Int) (w : World) (hG : RefG w S p most L) (hN : L.length ≤ 1000000) :
    Calls Tryz.prog 56 #[.pointer (some ⟨p, 0, none⟩), .int .u64 h] w fun e w' => e = .returned (.bool (decide (h ∈ L))) ∧ w = w' := by
  obtain ⟨sv, hS, hp, hs⟩ := hG
  obtain ⟨a, cap, rfl, _, hx⟩ := sl_intsS hs
  have c1 := cell_of_heap hp 1
  simp at c1
  have HX := Lib.hid hx
  clear hx hs hp
  go_enter Tryz.func56, Tryz.ntmps56
  go_wp2
  go_loop [5] (fun s => ∃ k : Nat, k ≤ L.length ∧ s = .int .i64 k ∧ Hid (h ∉ L.take k)) (fun s => L.length - (intOf s).toNat)
  case atStart => exact ⟨0, by omega, rfl, by show h ∉ L.take 0; simp⟩
  case round =>
    obtain ⟨k, hk, rfl, hno⟩ := hrel
    by_cases hlt : k < L.length
    · obtain ⟨x, hxk⟩ : ∃ x, L[k]? = some x := ⟨_, List.getElem?_eq_getElem hlt⟩
      obtain ⟨b, off, rfl, _, _, hc⟩ := HX.out k x hxk
      have HXK := Lib.hid hxk
      clear hxk
      by_cases he : x = h
      · subst he
        have HM := Lib.hid (decide_eq_true (List.mem_of_getElem? HXK.out))
        go_wp2
        go_ret
        exact ⟨by rw [HM.out]; rfl, rfl⟩
      · have hb : (x == h) = false := by simpa using he
        go_wp2
        go_round
        case rel => exact ⟨k + 1, by omega, by go_num, take_mem HXK.out he hno.out⟩
        case measure => simp [intOf]; omega
    · have HM : Hid (decide (h ∈ L) = false) := decide_eq_false (by have := hno.out; rwa [List.take_of_length_le (by omega)] at this)
      go_wp2
      go_ret
      exact ⟨by rw [HM.out]; rfl, rfl⟩

theorem filter_take {L : List Int} {h x : Int} {k : Nat} (hx : L[k]? = some x) : (L.take (k + 1)).filter (· != h) = (L.take k).filter (· != h) ++ if x = h then [] else [x] := by
  obtain ⟨hk, rfl⟩ := List.getElem?_eq_some_iff.1 hx
  rw [List.take_succ_eq_append_getElem hk, List.filter_append]
  congr 1
  by_cases e : L[k] = h <;> simp [e]

set_option maxHeartbeats 1000000 in
theorem rremove_at (S : Nat → Prop) (p : Nat) (most : Int) (L : List Int) (h : Int) (w : World) (hG : RefG w S p most L) (hN : L.length ≤ 1000000) :
    Calls Tryz.prog 57 #[.pointer (some ⟨p, 0, none⟩), .int .u64 h] w fun e w' => e = .returned (.bool (decide (h ∈ L))) ∧ RefG w' (grow S w w') p most (grem L h) ∧ Fr S w w' := by
  obtain ⟨i0, hi, hz0, hz1, hz2⟩ := info_parts info_u64
  have HG := Lib.hid hG
  obtain ⟨sv, hS, hp, hs⟩ := hG
  obtain ⟨a, cap, rfl, _, hx⟩ := sl_intsS hs
  have hpl := lt_of_heap hp
  have c1 := cell_of_heap hp 1
  simp at c1
  have HX := Lib.hid (And.intro hx (And.intro c1 hp))
  clear hx hs hp c1
  go_enter Tryz.func57, Tryz.ntmps57
  go_wp2_with (go_at_call 56; refine (rhas_at S p most L h _ HG.out hN).mono ?_; rintro e w8 ⟨rfl, rfl⟩)
  go_loopw [6, 7] (fun s i wr => ∃ k : Nat, k ≤ L.length ∧ i = .int .i64 k ∧ Sl wr (fun b => w.heap.size ≤ b) 28 1 s ((L.take k).filter (· != h)).length (u64s ((L.take k).filter (· != h))) ∧ Fr (fun b => w.heap.size ≤ b) w wr) (fun _ i _ => L.length - (intOf i).toNat)
  case atStart => exact ⟨0, by omega, rfl, Sl.nil _ _ _ _, Fr.refl _ _⟩
  case round =>
    obtain ⟨k, hk, rfl, hsl, hfr⟩ := hrel
    have c1 : wr.cell? ⟨p, 1, none⟩ = _ := (hfr.cell hpl (by simp; omega)).trans HX.out.2.1
    have hfl : ((L.take k).filter (· != h)).length ≤ k := Nat.le_trans (List.length_filter_le _ _) (List.length_take_le _ _)
    have HS := Lib.hid (And.intro hsl hfr)
    obtain ⟨sa, scap, rfl, _⟩ := hsl.shape
    clear hsl
    by_cases hlt : k < L.length
    · obtain ⟨x, hxk⟩ : ∃ x, L[k]? = some x := ⟨_, List.getElem?_eq_getElem hlt⟩
      obtain ⟨b, off, rfl, _, hbl, hc⟩ := HX.out.1 k x hxk
      have hc' : wr.cell? ⟨b, off + k, none⟩ = some (.int .u64 x) := (hfr.cell hbl (by simp; omega)).trans hc
      have HT := Lib.hid (filter_take (h := h) hxk)
      clear hc hxk hfr
      by_cases he : x = h
      · subst he
        go_wp2
        go_roundw
        case rel =>
          refine ⟨k + 1, by omega, by go_num, ?_, HS.out.2⟩
          rw [HT.out, if_pos rfl, List.append_nil]; exact HS.out.1
        case measure => simp [intOf]; omega
      · have hb : (x != h) = true := by simpa using he
        go_wp2_with (at_builtin; go_must (refine wpList_append_sl (S := fun b => w.heap.size ≤ b) rfl _ _ 100 rfl 28 i0 (.int .u64 0) 1 8 Tryz.underlying100 hi hz0 hz1 hz2 rfl (by decide) _ _ _ rfl (HS.out.1.alloc _) ⟨_, 0, none⟩ 1 1 [.int .u64 x] rfl rfl (cell_one_at _ _ _ (by simp)) (ints_oneCell .u64 [x]) (by unfold maxLen; omega) (by omega) ?_); intro v1 q5 hs1 hf1; have HS1 := Lib.hid (And.intro hs1 hf1); clear hs1 hf1)
        go_roundw
        case rel =>
          obtain ⟨hs1, hf1⟩ := HS1.out
          have hsz := HS.out.2.size
          refine ⟨k + 1, by omega, by go_num, ?_, (HS.out.2.alloc _).trans hf1.arr (fun _ _ h => h)⟩
          rw [HT.out, if_neg he]
          have h2 := hs1.mono (S' := fun b => w.heap.size ≤ b) (fun b _ hb => hb.elim id (fun ⟨q, _⟩ => by simp at q; omega))
          simpa [u64s] using h2
        case measure => simp [intOf]; omega
    · have hf1 : wr.frozen? ⟨p, 1, none⟩ = false := (hfr.fro hpl (by simp; omega)).trans (fro_of_heap HX.out.2.2 1)
      have hp1 : wr.heap[p]? = _ := (hfr.block p hpl (by simp; omega)).trans HX.out.2.2
      have HP := Lib.hid hp1
      have hg : (L.take k).filter (· != h) = grem L h := by rw [List.take_of_length_le (by omega)]; rfl
      have HGR := Lib.hid hg
      clear hfr hp1 hg
      go_wp2
      go_ret
      obtain ⟨hsl, hfr⟩ := HS.out
      rw [HGR.out] at hsl
      refine ⟨rfl, ⟨_, Or.inl hS, (heap_setCell_same HP.out 1 _).trans (by simp; rw [HGR.out]), ?_⟩, ?_⟩
      · have h2 := hsl.setCell_other HP.out (by decide) 1 (.slice sa (grem L h).length scap)
        rw [HGR.out]
        refine h2.mono (fun b hb hb2 => Or.inr ⟨hb2, hb⟩)
      · exact (hfr.mono (T := S) (fun k hk h => absurd h (by simp; omega))).setCell (p := ⟨p, 1, none⟩) (fun _ => hS) _
end Go.Proofs.YtgdlndpjfejmcaaGreat
