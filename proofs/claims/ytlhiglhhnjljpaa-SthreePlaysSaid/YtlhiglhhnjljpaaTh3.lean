/- Layer 14 (sthree): what each call does, three: Insert, Remove, Evict. -/
import Derived.Test.YtlhiglhhnjljpaaTh2
namespace Go.Proofs.Ytlhiglhhnjljpaa
open Go.RowKit
set_option linter.unusedVariables false
/-- Remove, off memory. -/
def remT (s : ThS) (id : Int) : ThS := { s with L := del s.L id, K := setK s.K id none }
theorem th_remove (S : Nat → Prop) (p : Nat) (s : ThS) (N M : Nat) (id : Int) (w : World) (h : ThAt w S p s N M) (hN : N ≤ 1000000) :
    Calls Try.prog 26 #[.pointer (some ⟨p, 0, none⟩), .int .i64 id] w fun e w' =>
      e = .returned (.bool (decide (0 ≤ rowOf 2 s.L id))) ∧ ThAt w' (grow S w w') p (remT s id) N M ∧ Fr S w w' := by
  obtain ⟨⟨g, b1, m, l, o, Sr, Sg, Sk, h⟩, hi⟩ := h
  have c0 := cell_of_heap h.hp 0
  have c3 := cell_of_heap h.hp 3
  simp at c0 c3
  have hmo := h.hmo
  have hmb := h.hmb
  have d0 := fun o' : Obj => cell_putObj (w := w) (b := m) o' (p := ⟨p, 0, none⟩) h.pm
  have HH := Lib.hid (And.intro h hi)
  clear h hi
  go_enter Try.func26, Try.ntmps26
  go_wp2_with (first
    | (at_delete; refine wpList_delete_imap rfl _ _ 47 3 rfl 60 .i64 Try.underlying47 Try.underlying3 m rfl o l hmo hmb id rfl ?_; intro o3 ho3; have HO := Lib.hid (HH.out.1.del id ho3); clear ho3)
    | (go_at_call 44; refine (rows_take Sr g 2 s.L N id _ HO.out.hR hN).mono ?_; rintro e w1 ⟨rfl, hA, hF⟩; have H1 := Lib.hid (And.intro hA hF); clear hA hF))
  go_ret
  have hsz : (w.putObj m o3).heap.size = w.heap.size := by simp
  refine ⟨rfl, ⟨⟨_, _, _, _, _, _, _, _, (HO.out.rows H1.out.1 H1.out.2).mono fun b _ q => q.imp (fun q => q) (fun q => by rw [hsz] at q; exact q)⟩, ⟨fun k => ?_, fun k hh c q => ?_⟩⟩, ?_⟩
  · show (setK s.K id none k).isSome = true ↔ (k ∈ del s.L id 0 ∨ k ∈ del s.L id 1)
    rw [mem_del2, ← HH.out.2.in_ k]
    by_cases e : k = id
    · subst e; rw [setK_same]; simp
    · rw [setK_ne e]; simp [e]
  · have q' : setK s.K id none k = some (hh, c) := q
    by_cases e : k = id
    · subst e; rw [setK_same] at q'; cases q'
    · rw [setK_ne e] at q'; exact HH.out.2.cnt k hh c q'
  · exact ((Fr.refl S w).putObj (fun _ => HH.out.1.hSm) o3).trans (H1.out.2.mono fun b _ q => HH.out.1.hSr b q) (fun _ _ q => q)
/-- Insert, off memory. -/
def inOk (s : ThS) (id : Int) : Bool := decide (s.K id = none ∧ 0 ≤ id ∧ id ≤ 4194303)
def inR (s : ThS) (h : Int) : Int := if h ∈ s.B then 1 else 0
def inT (s : ThS) (id h : Int) : ThS := if inOk s id then { s with B := grem s.B h, K := setK s.K id (some (h, 0)), L := frontL 2 s.L (inR s h) id } else s
set_option maxHeartbeats 2000000 in
theorem th_insert_no (S : Nat → Prop) (p : Nat) (s : ThS) (N M : Nat) (id hh : Int) (w : World) (h : ThAt w S p s N M) (hno : inOk s id = false) :
    Calls Try.prog 16 #[.pointer (some ⟨p, 0, none⟩), .int .i64 id, .int .u64 hh] w fun e w' => e = .returned (.bool false) ∧ w = w' := by
  obtain ⟨⟨g, b1, m, l, o, Sr, Sg, Sk, h⟩, hi⟩ := h
  have c3 := cell_of_heap h.hp 3
  simp at c3
  have hmo := h.hmo
  have hmb := h.hmb
  have hc := of_decide_eq_false hno
  rcases h.find id with ⟨hk, hv⟩ | ⟨b, h', c, hk, hv, hb, _⟩
  · have hc' : ¬ (0 ≤ id ∧ id ≤ 4194303) := fun q => hc ⟨hk, q⟩
    clear h hi hc hno hk
    by_cases h2 : id < 0
    · have h2' : decide (id < 0) = true := decide_eq_true h2
      clear hc' h2
      go_enter Try.func16, Try.ntmps16
      go_wp2_with (at_lookup; refine wpList_lookup_imap rfl _ _ 47 rfl 3 60 .i64 Try.underlying47 Try.underlying3 _ (zero_known _) m rfl o l hmo hmb id rfl ?_; rw [hv, Option.getD_none])
      go_ret
      exact ⟨rfl, rfl⟩
    · have h2' : decide (id < 0) = false := decide_eq_false h2
      have h3' : decide (4194303 < id) = true := decide_eq_true (by omega)
      clear hc' h2
      go_enter Try.func16, Try.ntmps16
      go_wp2_with (at_lookup; refine wpList_lookup_imap rfl _ _ 47 rfl 3 60 .i64 Try.underlying47 Try.underlying3 _ (zero_known _) m rfl o l hmo hmb id rfl ?_; rw [hv, Option.getD_none])
      go_ret
      exact ⟨rfl, rfl⟩
  · clear h hi hc hno hk hb
    go_enter Try.func16, Try.ntmps16
    go_wp2_with (at_lookup; refine wpList_lookup_imap rfl _ _ 47 rfl 3 60 .i64 Try.underlying47 Try.underlying3 _ (zero_known _) m rfl o l hmo hmb id rfl ?_; rw [hv, Option.getD_some])
    go_ret
    exact ⟨rfl, rfl⟩
set_option maxHeartbeats 2000000 in
theorem th_insert_ok (S : Nat → Prop) (p : Nat) (s : ThS) (N M : Nat) (id hh : Int) (w : World) (h : ThAt w S p s N M) (hok : inOk s id = true) (hN : N < 1000000) (hM : M ≤ 1000000) :
    Calls Try.prog 16 #[.pointer (some ⟨p, 0, none⟩), .int .i64 id, .int .u64 hh] w fun e w' => e = .returned (.bool true) ∧ ThAt w' (grow S w w') p { s with B := grem s.B hh, K := setK s.K id (some (hh, 0)), L := frontL 2 s.L (inR s hh) id } (N + 1) M ∧ Fr S w w' := by
  obtain ⟨⟨g, b1, m, l, o, Sr, Sg, Sk, h⟩, hi⟩ := h
  have c0 := cell_of_heap h.hp 0
  have c1 := cell_of_heap h.hp 1
  have c3 := cell_of_heap h.hp 3
  simp at c0 c1 c3
  have hmo := h.hmo
  have hmb := h.hmb
  have hc := of_decide_eq_true hok
  have hv : aget l id = none := by
    rcases h.find id with ⟨_, hv⟩ | ⟨b, h', c, hk, _⟩
    · exact hv
    · rw [hc.1] at hk; cases hk
  have h2' : decide (id < 0) = false := decide_eq_false (by omega)
  have h3' : decide (4194303 < id) = false := decide_eq_false (by omega)
  have HG := Lib.hid (remove_at Sg b1 s.mB s.B M hh w h.hG hM)
  have HH := Lib.hid (And.intro h (And.intro hi (And.intro hc hN)))
  clear h hi hc hok hN hM
  obtain ⟨r, hr⟩ : ∃ r, inR s hh = r := ⟨_, rfl⟩
  have hr01 : r = 0 ∨ r = 1 := by rw [← hr]; unfold inR; split <;> simp
  have HR := Lib.hid (And.intro hr hr01)
  rw [hr]
  obtain ⟨B, hB⟩ : ∃ B, grem s.B hh = B := ⟨_, rfl⟩
  rw [hB] at HG ⊢
  have hrd : (r = 1 ∧ decide (hh ∈ s.B) = true) ∨ (r = 0 ∧ decide (hh ∈ s.B) = false) := by
    rw [← hr]; unfold inR
    by_cases q : hh ∈ s.B
    · exact .inl ⟨if_pos q, decide_eq_true q⟩
    · exact .inr ⟨if_neg q, decide_eq_false q⟩
  clear hr hr01 hB
  rcases hrd with ⟨rfl, hd⟩ | ⟨rfl, hd⟩
  all_goals
    rw [hd] at HG
    clear hd
    go_enter Try.func16, Try.ntmps16
    go_wp2_with (first
      | (at_lookup; refine wpList_lookup_imap rfl _ _ 47 rfl 3 60 .i64 Try.underlying47 Try.underlying3 _ (zero_known _) m rfl o l hmo hmb id rfl ?_; rw [hv, Option.getD_none])
      | (go_at_call 36; fail))
    refine HG.out.mono ?_
    rintro e w1 ⟨rfl, hG, hF⟩
    have hO1 := HH.out.1.ghost (hG.mono fun b _ q => Or.inl q) hF
    have e0 := cell_of_heap hO1.hp 0
    have e3 := cell_of_heap hO1.hp 3
    simp at e0 e3
    have hmo1 := hO1.hmo
    have hne := hO1.pm
    have hlp := lt_of_heap hO1.hp
    have hlm := lt_of_heap hO1.hmo
    have hmo2 : (w1.alloc (knownB hh 0)).heap[m]? = some o := by rw [heap_alloc_old _ hlm]; exact hmo1
    have e0' : ∀ o' : Obj, ((w1.alloc (knownB hh 0)).putObj m o').cell? ⟨p, 0, none⟩ = some (.pointer (some ⟨g, 0, none⟩)) := fun o' => (cell_putObj o' hne).trans ((World.cell?_of_block (w := w1) (heap_alloc_old _ hlp)).trans e0)
    have e3' : (w1.alloc (knownB hh 0)).cell? ⟨p, 3, none⟩ = some (.map (some m)) := (World.cell?_of_block (w := w1) (heap_alloc_old _ hlp)).trans e3
    have H1 := Lib.hid (And.intro hO1 (hF.mono fun b _ q => HH.out.1.hSg b q))
    clear hG hF hO1 hne hlp hlm
    unfold knownB at hmo2 e0' e3'
    go_wp2_with (first
      | (at_mapUpdate; refine wpList_update_imap rfl _ _ _ 47 rfl 3 60 .i64 Try.underlying47 Try.underlying3 m rfl o l hmo2 hmb id rfl _ rfl ?_; intro o6 ho6; have HO := Lib.hid (H1.out.1.ins id hh ho6); clear ho6)
      | (go_at_call 37; refine (rows_front Sr g 2 s.L N _ id _ HO.out.hR HH.out.2.2.2).mono ?_; rintro e w2 ⟨rfl, hR, hF⟩; have H2 := Lib.hid (And.intro hR hF); clear hR hF))
    go_ret
    have hid := HH.out.2.2.1.2
    have hz1 : w.heap.size ≤ w1.heap.size := H1.out.2.size
    have hza : (w1.alloc (knownB hh 0)).heap.size = w1.heap.size + 1 := by simp
    have hzb : ((w1.alloc (knownB hh 0)).putObj m o6).heap.size = w1.heap.size + 1 := by simp
    have hz2 : w1.heap.size + 1 ≤ w2.heap.size := by have := H2.out.2.size; rw [← hzb]; exact this
    refine ⟨congrArg (fun b => Ending.returned (Value.bool b)) (decide_eq_true (by omega)), ⟨⟨_, _, _, _, _, _, _, _, (HO.out.rows H2.out.1 H2.out.2).mono fun b _ q => ?_⟩, ⟨fun k => ?_, fun k h' c q => ?_⟩⟩, ?_⟩
    · rcases q with ((q | q) | q) | q
      · exact Or.inl q
      · exact Or.inr ⟨q.1, by have := q.2; omega⟩
      · exact Or.inr ⟨by have := q.1; omega, by have := q.2; omega⟩
      · exact Or.inr ⟨by have h1 := q.1; rw [hzb] at h1; omega, q.2⟩
    · show (setK s.K id (some (hh, 0)) k).isSome = true ↔ _
      rw [mem_front2 (by decide) hid.1 hid.2 k, ← HH.out.2.1.in_ k]
      by_cases e : k = id
      · subst e; rw [setK_same]; simp
      · rw [setK_ne e]; simp [e]
    · have q' : setK s.K id (some (hh, 0)) k = some (h', c) := q
      by_cases e : k = id
      · subst e; rw [setK_same] at q'; cases q'; omega
      · rw [setK_ne e] at q'; exact HH.out.2.1.cnt k h' c q'
    · exact ((H1.out.2.alloc (knownB hh 0)).putObj (b := m) (fun _ => HH.out.1.hSm) o6).trans H2.out.2 (fun b _ q => HH.out.1.hSr b q)
theorem th_insert (S : Nat → Prop) (p : Nat) (s : ThS) (N M : Nat) (id hh : Int) (w : World) (h : ThAt w S p s N M) (hN : N < 1000000) (hM : M ≤ 1000000) :
    Calls Try.prog 16 #[.pointer (some ⟨p, 0, none⟩), .int .i64 id, .int .u64 hh] w fun e w' => e = .returned (.bool (inOk s id)) ∧ ThAt w' (grow S w w') p (inT s id hh) (N + 1) M ∧ Fr S w w' := by
  unfold inT
  rcases hok : inOk s id with _ | _
  · rw [if_neg (by simp)]
    refine (th_insert_no S p s N M id hh w h hok).mono fun e w' ⟨he, hw⟩ => ?_
    subst hw
    exact ⟨he, (h.mono fun b _ q => Or.inl q).more (Nat.le_succ _) (Nat.le_refl _), Fr.refl _ _⟩
  · rw [if_pos rfl]
    exact th_insert_ok S p s N M id hh w h hok hN hM
/-- Evict, off memory. -/
def numT (s : ThS) (id : Int) : Int := match s.K id with
  | some (h, _) => h
  | none => 0
def evT (s : ThS) (id : Int) : ThS := remT (if rowOf 2 s.L id = 0 then { s with B := gadd s.mB s.B (numT s id) } else s) id
set_option maxHeartbeats 2000000 in
theorem th_evict (S : Nat → Prop) (p : Nat) (s : ThS) (N M : Nat) (id : Int) (w : World) (h : ThAt w S p s N M) (hN : N ≤ 1000000) (hM : M < 1000000) :
    Calls Try.prog 19 #[.pointer (some ⟨p, 0, none⟩), .int .i64 id] w fun e w' =>
      e = .returned (.bool (decide (0 ≤ rowOf 2 s.L id))) ∧ ThAt w' (grow S w w') p (evT s id) N (M + 1) ∧ Fr S w w' := by
  have hw := h
  obtain ⟨⟨g, b1, m, l, o, Sr, Sg, Sk, h⟩, hi⟩ := h
  have c0 := cell_of_heap h.hp 0
  have c1 := cell_of_heap h.hp 1
  have c3 := cell_of_heap h.hp 3
  simp at c0 c1 c3
  have hmo := h.hmo
  have hmb := h.hmb
  have HC := Lib.hid (rows_row Sr g 2 s.L N id w h.hR)
  unfold evT
  by_cases hr : rowOf 2 s.L id = 0
  · have hm0 : id ∈ s.L 0 := by
      rcases rowOf_two h.hR id with ⟨_, q, _⟩ | ⟨q, _⟩ | ⟨q, _⟩
      · exact q
      · rw [hr] at q; cases q
      · rw [hr] at q; cases q
    rw [hr] at HC
    rw [if_pos hr]
    rcases h.find id with ⟨hk, hv⟩ | ⟨b, hh, c, hk, hv, hb, hSk⟩
    · have := (hi.in_ id).2 (.inl hm0)
      rw [hk] at this; cases this
    · have hn : numT s id = hh := by unfold numT; rw [hk]
      rw [hn]
      have d0 := cell_of_heap hb 0
      simp at d0
      have HA := Lib.hid (add_at Sg b1 s.mB s.B M hh w.drew (h.hG.frame fun _ _ _ => rfl) hM)
      have HH := Lib.hid (And.intro h (And.intro hi hN))
      clear h hi hr hN hM hm0 hk hn hb hSk hw
      go_enter Try.func19, Try.ntmps19
      go_wp2_with (go_at_call 40; refine HC.out.mono ?_; rintro e w1 ⟨rfl, rfl⟩)
      go_still_tail 13, (by kernel_rfl)
      refine wpStill_lookup_imap rfl _ _ 47 rfl 3 60 .i64 Try.underlying47 Try.underlying3 _ (zero_known _) m rfl o l hmo hmb id rfl ?_
      rw [hv, Option.getD_some]
      repeat still_step
      refine wpStill_nil ?_
      go_wp2_with fail
      refine HA.out.mono ?_
      rintro e w1 ⟨rfl, hG, hF⟩
      have H1 := Lib.hid (And.intro (ThO.ghost (w := w.drew) (HH.out.1.frame (Nat.le_refl _) fun _ _ _ => rfl) hG hF) (Fr.mono (T := S) hF (fun b _ q => HH.out.1.hSg b q)))
      clear hG hF
      go_wp2_with fail
      refine (th_remove _ p _ N (M + 1) id w1 ⟨⟨_, _, _, _, _, _, _, _, H1.out.1⟩, ⟨HH.out.2.1.in_, HH.out.2.1.cnt⟩⟩ HH.out.2.2).mono ?_
      rintro e w2 ⟨rfl, hA, hF⟩
      have H2 := Lib.hid (And.intro hA hF)
      clear hA hF
      go_wp2
      go_ret
      have hz1 : w.heap.size ≤ w1.heap.size := H1.out.2.size
      exact ⟨rfl, H2.out.1.mono (fun b _ q => grow_grow (a := w) (b := w1) hz1 H2.out.2.size q), Fr.grown (a := w) (b := w1) ((Fr.refl S w).drew.trans H1.out.2 (fun _ _ q => q)) H2.out.2⟩
  · rw [if_neg hr]
    obtain ⟨ro, hro⟩ : ∃ ro, rowOf 2 s.L id = ro := ⟨_, rfl⟩
    rw [hro] at HC hr
    have hr' : (ro == 0) = false := by rw [beq_eq_false_iff_ne]; exact hr
    have HW := Lib.hid (And.intro hw (And.intro hN hro))
    clear h hi hr hN hM hw hro
    go_enter Try.func19, Try.ntmps19
    go_wp2_with fail
    refine HC.out.mono ?_
    rintro e w1 ⟨rfl, rfl⟩
    go_wp2_with fail
    refine (th_remove S p s N M id w HW.out.1 HW.out.2.1).mono ?_
    rintro e w2 ⟨rfl, hA, hF⟩
    have H2 := Lib.hid (And.intro hA hF)
    clear hA hF
    go_wp2
    go_ret
    exact ⟨rfl, H2.out.1.more (Nat.le_refl _) (Nat.le_succ _), H2.out.2⟩
end Go.Proofs.Ytlhiglhhnjljpaa
