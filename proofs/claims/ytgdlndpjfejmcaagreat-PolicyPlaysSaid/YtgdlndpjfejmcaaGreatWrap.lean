/- Layer 15 (policy): the segmented kind and the three queues: what each call does. -/
import Derived.Test.YtgdlndpjfejmcaaGreatPSb
import Derived.Test.YtgdlndpjfejmcaaGreatPTb
import Derived.Test.YtgdlndpjfejmcaaGreatPlain
import Derived.WalkSpells
import Derived.WalkLawsBesides
namespace Go.Proofs.YtgdlndpjfejmcaaGreat
open Go.RowKit Seg Thr
set_option linter.unusedVariables false
set_option maxRecDepth 100000
section
variable (S : Nat → Prop) (p : Nat) (L : Nat → List Int) (A : Int → Bool) (N : Nat) (w : World)
theorem segm_cap (n : Int) : Calls Tryz.prog 101 #[.agg #[.pointer (some ⟨p, 0, none⟩)], .int .i64 n] w fun e w' => e = .returned (.tuple #[]) ∧ ∃ o, w' = w.alloc o := by
  go_enter Tryz.func101, Tryz.ntmps101
  go_wp2
  go_end0
  exact ⟨rfl, _, rfl⟩
theorem seg_alloc {S : Nat → Prop} {p : Nat} {L : Nat → List Int} {A : Int → Bool} {N : Nat} {w : World} (h : SegAt w S p L A N) (o : Obj) : SegAt (w.alloc o) S p L A N := h.frame fun b hb _ => heap_alloc_old _ hb
theorem th_alloc' {S : Nat → Prop} {p : Nat} {s : ThS} {N M : Nat} {w : World} (h : ThAt w S p s N M) (o : Obj) : ThAt (w.alloc o) S p s N M := h.frame (by simp) fun b hb _ => heap_alloc_old _ hb
theorem segm_evict (id : Int) (h : SegAt w S p L A N) (hN : N ≤ 1000000) :
    Calls Tryz.prog 102 #[.agg #[.pointer (some ⟨p, 0, none⟩)], .int .i64 id] w fun e w' => e = .returned (.bool (decide (0 ≤ rowOf 3 L id))) ∧ SegAt w' (grow S w w') p (del L id) (setB' A id false) N ∧ Fr S w w' := by
  have H := Lib.hid (fun o => seg_remove S p L A N id (w.alloc o) (seg_alloc h o) hN)
  clear h
  obtain ⟨b, hb⟩ : ∃ b, decide (0 ≤ rowOf 3 L id) = b := ⟨_, rfl⟩
  rw [hb] at H ⊢
  clear hb
  go_enter Tryz.func102, Tryz.ntmps102
  go_wp2_with fail
  refine (H.out _).mono ?_
  rintro e w1 ⟨rfl, hA, hF⟩
  have H1 := Lib.hid (And.intro hA hF)
  clear hA hF
  go_wp2
  go_ret
  exact ⟨rfl, H1.out.1.mono fun b _ q => grown_alloc _ b q, fr_alloc H1.out.2⟩
theorem segm_insert (id hh : Int) (h : SegAt w S p L A N) (hN : N < 1000000) :
    Calls Tryz.prog 103 #[.agg #[.pointer (some ⟨p, 0, none⟩)], .int .i64 id, .int .u64 hh] w fun e w' => e = .returned (.bool (decide (rowOf 3 L id < 0) && mayIn 3 0 id)) ∧ SegAt w' (grow S w w') p (insL L id) A (N + 1) ∧ Fr S w w' := by
  have H := Lib.hid (fun o => show Calls Tryz.prog 96 #[.pointer (some ⟨p, 0, none⟩), .int .i64 id] (w.alloc o) fun e w' => e = .returned (.bool (decide (rowOf 3 L id < 0) && mayIn 3 0 id)) ∧ SegAt w' (grow S (w.alloc o) w') p (insL L id) A (N + 1) ∧ Fr S (w.alloc o) w' from seg_insert S p L A N id (w.alloc o) (seg_alloc h o) hN)
  clear h
  obtain ⟨b, hb⟩ : ∃ b, (decide (rowOf 3 L id < 0) && mayIn 3 0 id) = b := ⟨_, rfl⟩
  rw [hb] at H ⊢
  clear hb
  go_enter Tryz.func103, Tryz.ntmps103
  go_wp2_with fail
  refine (H.out _).mono ?_
  rintro e w1 ⟨rfl, hA, hF⟩
  have H1 := Lib.hid (And.intro hA hF)
  clear hA hF
  go_wp2
  go_ret
  exact ⟨rfl, H1.out.1.mono fun b _ q => grown_alloc _ b q, fr_alloc H1.out.2⟩
/-- A step, on rows and who is active. -/
def stpP (q : (Nat → List Int) × (Int → Bool)) : (Nat → List Int) × (Int → Bool) := (stepL q.1 q.2, stepA q.1 q.2)
def stpN : Nat → (Nat → List Int) × (Int → Bool) → (Nat → List Int) × (Int → Bool)
  | 0, q => q
  | n + 1, q => stpN n (stpP q)
theorem stp_still {q : (Nat → List Int) × (Int → Bool)} (h : ¬ 0 ≤ whoF q.1 q.2) : ∀ n, stpN n q = q
  | 0 => rfl
  | n + 1 => by
    have e : stpP q = q := by unfold stpP stepL stepA; rw [if_pos (by omega), if_pos (by omega)]
    rw [stpN, e, stp_still h n]
theorem segm_victim (hh : Int) (h : SegAt w S p L A N) (hN : N + 5 < 1000000) :
    Calls Tryz.prog 104 #[.agg #[.pointer (some ⟨p, 0, none⟩)], .int .u64 hh] w fun e w' => e = .returned (.int .i64 (vict (stpN 5 (L, A)).1)) ∧ SegAt w' (grow S w w') p (stpN 5 (L, A)).1 (stpN 5 (L, A)).2 (N + 5) ∧ Fr S w w' := by
  obtain ⟨rv, hrv⟩ : ∃ rv, stpN 5 (L, A) = rv := ⟨_, rfl⟩
  rw [hrv]
  obtain ⟨S0, hS0⟩ : ∃ S0 : Nat → Prop, (fun b => S b ∧ b < w.heap.size) = S0 := ⟨_, rfl⟩
  have hs0 : ∀ b, S0 b → S b ∧ b < w.heap.size := fun b q => by rw [← hS0] at q; exact q
  have H := Lib.hid (And.intro (seg_alloc (h.mono (S' := S0) fun b hb q => hS0 ▸ ⟨q, hb⟩) (.cells #[.pointer (some ⟨p, 0, none⟩)] 48)) hrv)
  clear h hrv hS0
  go_enter Tryz.func104, Tryz.ntmps104
  go_wp2_with fail
  obtain ⟨w0, hw0⟩ : ∃ w0, w.alloc (.cells #[.pointer (some ⟨p, 0, none⟩)] 48) = w0 := ⟨_, rfl⟩
  have cb : w0.cell? ⟨w.heap.size, 0, none⟩ = some (.pointer (some ⟨p, 0, none⟩)) := by rw [← hw0]; have := cell_of_heap (heap_alloc_new w (.cells #[.pointer (some ⟨p, 0, none⟩)] 48)) 0; simpa only [List.getElem?_toArray, List.getElem?_cons_zero] using this
  have hz : w0.heap.size = w.heap.size + 1 := by rw [← hw0]; simp
  have cbs : ∀ wr, Fr S0 w0 wr → wr.cell? ⟨w.heap.size, 0, none⟩ = some (.pointer (some ⟨p, 0, none⟩)) := fun wr hF => (hF.cell (p := ⟨w.heap.size, 0, none⟩) (by show w.heap.size < _; omega) (fun q => by have := (hs0 _ q).2; simp at this)).trans cb
  have hend : ∀ wr L A N', SegAt wr (grow S0 w0 wr) p L A N' → N' ≤ N + 5 → Fr S0 w0 wr → SegAt wr (grow S w wr) p L A (N + 5) ∧ Fr S w wr := fun wr L A N' h hN hF => ⟨(h.mono fun b _ q => grown_alloc (.cells #[.pointer (some ⟨p, 0, none⟩)] 48) b (by rw [hw0]; exact q.imp (fun q => (hs0 b q).1) (fun q => q))).more hN, fr_alloc (o := .cells #[.pointer (some ⟨p, 0, none⟩)] 48) (by rw [hw0]; exact hF.mono fun b _ q => (hs0 b q).1)⟩
  rw [hw0] at H ⊢
  have HW := Lib.hid (And.intro hw0 (And.intro cbs hend))
  clear hw0 cb hz cbs hend hs0
  go_loopw [5] (fun i wr => ∃ (k : Nat) (q : (Nat → List Int) × (Int → Bool)), k ≤ 5 ∧ i = .int .i64 k ∧ SegAt wr (grow S0 w0 wr) p q.1 q.2 (N + k) ∧ Fr S0 w0 wr ∧ stpN (5 - k) q = rv) (fun i _ => 5 - (intOf i).toNat)
  case atStart => exact ⟨0, (L, A), by omega, rfl, H.out.1.mono fun b _ q => Or.inl q, Fr.refl _ _, H.out.2⟩
  case round =>
    obtain ⟨k, q, hk, rfl, hS, hF, hq⟩ := hrel
    have cb := HW.out.2.1 wr hF
    have HQ := Lib.hid (And.intro hS (And.intro hF hq))
    clear hS hF hq
    by_cases hlt : k < 5
    · go_wp2_with fail
      refine (seg_step _ p q.1 q.2 (N + k) wr HQ.out.1 (by omega)).mono ?_
      rintro e w1 ⟨rfl, hA, hG⟩
      have hG2 := HQ.out.2.1.grown hG
      have hA2 := hA.mono fun b _ q => grow_grow HQ.out.2.1.size hG.size q
      by_cases hw : 0 ≤ whoF q.1 q.2
      · have hd : decide (0 ≤ whoF q.1 q.2) = true := decide_eq_true hw
        rw [hd]
        have H2 := Lib.hid (And.intro hA2 hG2)
        clear hA hG hA2 hG2 hw hd
        go_wp2_with fail
        go_roundw
        case rel => exact ⟨k + 1, stpP q, by omega, by go_num, H2.out.1, H2.out.2, by have := HQ.out.2.2; rw [show 5 - k = (5 - (k + 1)) + 1 from by omega] at this; exact this⟩
        case measure => simp [intOf]; omega
      · have hd : decide (0 ≤ whoF q.1 q.2) = false := decide_eq_false hw
        rw [hd]
        have hst := stp_still hw (5 - k)
        have hqr : q = rv := hst.symm.trans HQ.out.2.2
        have e1 : stpP q = q := stp_still hw 1
        have eL : stepL q.1 q.2 = rv.1 := (congrArg Prod.fst e1).trans (congrArg Prod.fst hqr)
        have eA : stepA q.1 q.2 = rv.2 := (congrArg Prod.snd e1).trans (congrArg Prod.snd hqr)
        rw [eL, eA] at hA2
        have cb1 := HW.out.2.1 w1 hG2
        have H2 := Lib.hid (And.intro hA2 hG2)
        clear hA hG hA2 hG2 hw hd hst hqr e1 eL eA
        go_wp2_with fail
        refine (seg_victim _ p rv.1 rv.2 _ w1 H2.out.1).mono ?_
        rintro e w2 ⟨rfl, k2, rfl⟩
        go_wp2
        go_ret
        have := HW.out.2.2 (w1.drewN k2) rv.1 rv.2 (N + k + 1) (H2.out.1.frame fun _ _ _ => rfl) (by omega) (H2.out.2.drewN k2)
        exact ⟨rfl, this⟩
    · have hk5 : k = 5 := by omega
      subst hk5
      have hqr : q = rv := HQ.out.2.2
      subst hqr
      go_wp2_with fail
      refine (seg_victim _ p q.1 q.2 _ wr HQ.out.1).mono ?_
      rintro e w2 ⟨rfl, k2, rfl⟩
      go_wp2
      go_ret
      have := HW.out.2.2 (wr.drewN k2) q.1 q.2 (N + 5) (HQ.out.1.frame fun _ _ _ => rfl) (by omega) (HQ.out.2.1.drewN k2)
      exact ⟨rfl, this⟩
theorem three_victim (s : ThS) (M : Nat) (hh : Int) (h : ThAt w S p s N M) (hN : N + measT s < 1000000) :
    Calls Tryz.prog 124 #[.agg #[.pointer (some ⟨p, 0, none⟩)], .int .u64 hh] w fun e w' => e = .returned (.int .i64 (vicT s).2) ∧ ThAt w' (grow S w w') p (vicT s).1 (N + measT s) M ∧ Fr S w w' := by
  have H := Lib.hid (fun o => th_victim S p s N M (w.alloc o) (th_alloc' h o) hN)
  clear h
  obtain ⟨b, hb⟩ : ∃ b, vicT s = b := ⟨_, rfl⟩
  rw [hb] at H ⊢
  clear hb
  go_enter Tryz.func124, Tryz.ntmps124
  go_wp2_with fail
  refine (H.out _).mono ?_
  rintro e w1 ⟨rfl, hA, hF, _⟩
  have H1 := Lib.hid (And.intro hA hF)
  clear hA hF
  go_wp2
  go_ret
  exact ⟨rfl, H1.out.1.mono fun b _ q => grown_alloc _ b q, fr_alloc H1.out.2⟩
end
end Go.Proofs.YtgdlndpjfejmcaaGreat
