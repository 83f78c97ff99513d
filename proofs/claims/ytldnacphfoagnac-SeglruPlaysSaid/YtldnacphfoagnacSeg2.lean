/- Layer 12 (seglru): who goes, and steps. -/
import Derived.Test.YtldnacphfoagnacSeg
import Derived.Test.YtldnacphfoagnacRowsTwo
namespace Go.Proofs.Ytldnacphfoagnac
open Go.RowKit
set_option linter.unusedVariables false
/-- Who goes next. -/
def vict (L : Nat → List Int) : Int := if 0 ≤ lastOf (L 2) then lastOf (L 2) else if 0 ≤ lastOf (L 1) then lastOf (L 1) else lastOf (L 0)
/-- How many stand. -/
def tot (L : Nat → List Int) : Nat := (L 0).length + (L 1).length + (L 2).length
/-- Who a step is about. -/
def whoF (L : Nat → List Int) (A : Int → Bool) : Int :=
  if 20 * tot L / 100 < (L 0).length then lastOf (L 0) else if 40 * tot L / 100 < (L 1).length then lastOf (L 1) else if A (lastOf (L 2)) = true then lastOf (L 2) else -1
theorem rowL_2 (L : Nat → List Int) : rowL L 2 = L 2 := rowL_nat L 2
set_option maxHeartbeats 1000000 in
theorem seg_victim (S : Nat → Prop) (p : Nat) (L : Nat → List Int) (A : Int → Bool) (N : Nat) (w : World) (h : SegAt w S p L A N) :
    Calls Try.prog 13 #[.pointer (some ⟨p, 0, none⟩)] w fun e w' => e = .returned (.int .i64 (vict L)) ∧ ∃ k, w' = w.drewN k := by
  obtain ⟨g, m, l, o, Sr, h⟩ := h
  have c0 := cell_of_heap h.hp 0
  simp at c0
  have HR := Lib.hid h.hR
  have l0 := rows_last Sr g 3 L N 0 w h.hR
  have L0 := fun k => rows_last Sr g 3 L N 0 (w.drewN k) (row_drewN h.hR k)
  have L1 := fun k => rows_last Sr g 3 L N 1 (w.drewN k) (row_drewN h.hR k)
  have L2 := fun k => rows_last Sr g 3 L N 2 (w.drewN k) (row_drewN h.hR k)
  rw [rowL_0] at L0
  rw [rowL_1] at L1
  rw [rowL_2] at L2
  have HL := Lib.hid (And.intro L0 (And.intro L1 L2))
  obtain ⟨v0, h0⟩ : ∃ v, lastOf (L 0) = v := ⟨_, rfl⟩
  obtain ⟨v1, h1⟩ : ∃ v, lastOf (L 1) = v := ⟨_, rfl⟩
  obtain ⟨v2, h2⟩ : ∃ v, lastOf (L 2) = v := ⟨_, rfl⟩
  rw [h0, h1, h2] at HL
  have hv : vict L = if 0 ≤ v2 then v2 else if 0 ≤ v1 then v1 else v0 := by unfold vict; rw [h0, h1, h2]
  rw [hv]
  have hc : 0 ≤ v2 ∨ (v2 < 0 ∧ 0 ≤ v1) ∨ (v2 < 0 ∧ v1 < 0) := by omega
  clear h l0 L0 L1 L2 h0 h1 h2 hv
  go_enter Try.func13, Try.ntmps13
  go_wp2_with fail
  go_loopw [3, 4] (fun s t wr => ∃ k q : Nat, k ≤ 2 ∧ s = .int .i64 k ∧ (k ≤ 1 → v2 < 0) ∧ (k = 0 → v1 < 0) ∧ wr = w.drewN q) (fun s _ _ => (intOf s).toNat)
  case atStart => exact ⟨2, 0, by omega, rfl, by omega, by omega, rfl⟩
  case round =>
    obtain ⟨k, q, hk, rfl, hk1, hk0, rfl⟩ := hrel
    have c0' : (w.drewN q).cell? ⟨p, 0, none⟩ = some (.pointer (some ⟨g, 0, none⟩)) := c0
    match k, hk with
    | 2, _ =>
      rcases hc with h | h
      · go_wp2_with fail
        refine (HL.out.2.2 q).mono ?_
        rintro e w1 ⟨rfl, k1, rfl⟩
        go_wp2
        go_ret
        exact ⟨rfl, _, rfl⟩
      · have hlt : v2 < 0 := by omega
        go_wp2_with fail
        refine (HL.out.2.2 q).mono ?_
        rintro e w1 ⟨rfl, k1, rfl⟩
        go_wp2
        go_roundw
        case rel => exact ⟨1, _, by omega, rfl, fun _ => hlt, by omega, rfl⟩
        case measure => simp [intOf]
    | 1, _ =>
      have h2 := hk1 (by omega)
      by_cases h : 0 ≤ v1
      · go_wp2_with fail
        refine (HL.out.2.1 q).mono ?_
        rintro e w1 ⟨rfl, k1, rfl⟩
        go_wp2
        go_ret
        exact ⟨rfl, _, rfl⟩
      · have hlt : v1 < 0 := by omega
        go_wp2_with fail
        refine (HL.out.2.1 q).mono ?_
        rintro e w1 ⟨rfl, k1, rfl⟩
        go_wp2
        go_roundw
        case rel => exact ⟨0, _, by omega, rfl, fun _ => h2, fun _ => hlt, rfl⟩
        case measure => simp [intOf]
    | 0, _ =>
      have h2 := hk1 (by omega)
      have h1 := hk0 rfl
      go_wp2_with fail
      refine (HL.out.1 q).mono ?_
      rintro e w1 ⟨rfl, k1, rfl⟩
      go_wp2
      go_ret
      exact ⟨rfl, _, rfl⟩
theorem len_same {w : World} {S : Nat → Prop} {g n : Nat} {L : Nat → List Int} {N : Nat} (h : RowsAt w S g n L N) (row : Int) :
    Calls Try.prog 42 #[.pointer (some ⟨g, 0, none⟩), .int .i64 row] w fun e w' => e = .returned (.int .i64 (rowL L row).length) ∧ w' = w := (rows_len S g n L N row w h).mono fun _ _ ⟨a, b⟩ => ⟨a, b.symm⟩
set_option maxHeartbeats 1000000 in
theorem seg_who (S : Nat → Prop) (p : Nat) (L : Nat → List Int) (A : Int → Bool) (N : Nat) (w : World) (h : SegAt w S p L A N) (hN : N ≤ 1000000) :
    Calls Try.prog 29 #[.pointer (some ⟨p, 0, none⟩)] w fun e w' => e = .returned (.int .i64 (whoF L A)) ∧ ∃ k, w' = w.drewN k := by
  obtain ⟨g, m, l, o, Sr, h⟩ := h
  have c0 := cell_of_heap h.hp 0
  have c1 := cell_of_heap h.hp 1
  simp at c0 c1
  have hmo := h.hmo
  have hmb := h.hmb
  have hV := h.val
  have L0 := fun k => rows_last Sr g 3 L N 0 (w.drewN k) (row_drewN h.hR k)
  have L1 := fun k => rows_last Sr g 3 L N 1 (w.drewN k) (row_drewN h.hR k)
  have L2 := fun k => rows_last Sr g 3 L N 2 (w.drewN k) (row_drewN h.hR k)
  have NN := fun k row => len_same (row_drewN h.hR k) row
  rw [rowL_0] at L0
  rw [rowL_1] at L1
  rw [rowL_2] at L2
  have q0 : (rowL L 0).length = (L 0).length := by rw [rowL_0]
  have q1 : (rowL L 1).length = (L 1).length := by rw [rowL_1]
  have q2 : (rowL L 2).length = (L 2).length := by rw [rowL_2]
  have b0 := h.hR.len_le 0
  have b1 := h.hR.len_le 1
  have b2 := h.hR.len_le 2
  have HL := Lib.hid (And.intro L0 (And.intro L1 (And.intro L2 (And.intro NN hV))))
  obtain ⟨v0, h0⟩ : ∃ v, lastOf (L 0) = v := ⟨_, rfl⟩
  obtain ⟨v1, h1⟩ : ∃ v, lastOf (L 1) = v := ⟨_, rfl⟩
  obtain ⟨v2, h2⟩ : ∃ v, lastOf (L 2) = v := ⟨_, rfl⟩
  obtain ⟨n0, e0⟩ : ∃ v, (L 0).length = v := ⟨_, rfl⟩
  obtain ⟨n1, e1⟩ : ∃ v, (L 1).length = v := ⟨_, rfl⟩
  obtain ⟨n2, e2⟩ : ∃ v, (L 2).length = v := ⟨_, rfl⟩
  rw [h0, h1, h2] at HL
  rw [e0] at q0
  rw [e1] at q1
  rw [e2] at q2
  have hw : whoF L A = if 20 * (n0 + n1 + n2) / 100 < n0 then v0 else if 40 * (n0 + n1 + n2) / 100 < n1 then v1 else if A v2 = true then v2 else -1 := by
    unfold whoF tot; rw [h0, h1, h2, e0, e1, e2]
  rw [hw]
  rw [e0] at b0
  rw [e1] at b1
  rw [e2] at b2
  have i0 : ∀ W, (Instr.index 65 (.agg #[.int .i64 20, .int .i64 40]) (.int .i64 0)).run Try.prog W = .ok (.int .i64 20) W := fun _ => by kernel_rfl
  have i1 : ∀ W, (Instr.index 65 (.agg #[.int .i64 20, .int .i64 40]) (.int .i64 1)).run Try.prog W = .ok (.int .i64 40) W := fun _ => by kernel_rfl
  clear h L0 L1 L2 NN h0 h1 h2 e0 e1 e2 hV hw
  obtain ⟨n, hn⟩ : ∃ n, n0 + n1 + n2 = n := ⟨_, rfl⟩
  have hnn : (n0 : Int) + n1 + n2 = n := by omega
  rw [hn]
  obtain ⟨rv, hrv⟩ : ∃ rv, (if 20 * n / 100 < n0 then v0 else if 40 * n / 100 < n1 then v1 else if A v2 = true then v2 else -1) = rv := ⟨_, rfl⟩
  rw [hrv]
  have HRV := Lib.hid hrv
  clear hrv
  have hnb : n ≤ 3000000 := by omega
  have HN := Lib.hid hn
  clear hn
  go_enter Try.func29, Try.ntmps29
  go_wp2_with fail
  go_quiet ((go_at_call 42; exact Calls.quiet_of_same (HL.out.2.2.2.1 _ _)))
  rw [q0, q1, q2]
  go_wp2_with fail
  go_loopw [25, 4, 5] (fun s _ _ wr => ∃ k q : Nat, k ≤ 2 ∧ s = .int .i64 k ∧ (1 ≤ k → n0 ≤ 20 * n / 100) ∧ (2 ≤ k → n1 ≤ 40 * n / 100) ∧ wr = w.drewN q) (fun s _ _ _ => 2 - (intOf s).toNat)
  case atStart => exact ⟨0, nq, by omega, rfl, by omega, by omega, rfl⟩
  case round =>
    obtain ⟨k, q, hk, rfl, hk0, hk1, rfl⟩ := hrel
    have c0' : (w.drewN q).cell? ⟨p, 0, none⟩ = some (.pointer (some ⟨g, 0, none⟩)) := c0
    match k, hk with
    | 0, _ =>
      by_cases h : 20 * n / 100 < n0
      · have hd : 20 * (n : Int) / 100 < n0 := by omega
        go_wp2_with fail
        refine (HL.out.2.2.2.1 q 0).mono ?_
        rintro e w1 ⟨rfl, rfl⟩
        rw [q0]
        go_wp2_with fail
        refine (HL.out.1 q).mono ?_
        rintro e w1 ⟨rfl, k1, rfl⟩
        go_wp2
        go_ret
        exact ⟨by rw [← HRV.out, if_pos h]; rfl, _, rfl⟩
      · have hd : decide (20 * (n : Int) / 100 < n0) = false := decide_eq_false (by omega)
        have hle : n0 ≤ 20 * n / 100 := by omega
        go_wp2_with fail
        refine (HL.out.2.2.2.1 q 0).mono ?_
        rintro e w1 ⟨rfl, rfl⟩
        rw [q0]
        go_wp2_with fail
        go_roundw
        case rel => exact ⟨1, _, by omega, rfl, fun _ => hle, by omega, rfl⟩
        case measure => simp [intOf]
    | 1, _ =>
      have h0 := hk0 (by omega)
      by_cases h : 40 * n / 100 < n1
      · have hd : 40 * (n : Int) / 100 < n1 := by omega
        go_wp2_with fail
        refine (HL.out.2.2.2.1 q 1).mono ?_
        rintro e w1 ⟨rfl, rfl⟩
        rw [q1]
        go_wp2_with fail
        refine (HL.out.2.1 q).mono ?_
        rintro e w1 ⟨rfl, k1, rfl⟩
        go_wp2
        go_ret
        exact ⟨by rw [← HRV.out, if_neg (by omega), if_pos h]; rfl, _, rfl⟩
      · have hd : decide (40 * (n : Int) / 100 < n1) = false := decide_eq_false (by omega)
        have hle : n1 ≤ 40 * n / 100 := by omega
        go_wp2_with fail
        refine (HL.out.2.2.2.1 q 1).mono ?_
        rintro e w1 ⟨rfl, rfl⟩
        rw [q1]
        go_wp2_with fail
        go_roundw
        case rel => exact ⟨2, _, by omega, rfl, fun _ => h0, fun _ => hle, rfl⟩
        case measure => simp [intOf]
    | 2, _ =>
      have h0 := hk0 (by omega)
      have h1 := hk1 (by omega)
      have HW := Lib.hid (show (if 20 * n / 100 < n0 then v0 else if 40 * n / 100 < n1 then v1 else if A v2 = true then v2 else -1) = if A v2 = true then v2 else -1 from by rw [if_neg (by omega), if_neg (by omega)])
      go_wp2_with fail
      refine (HL.out.2.2.1 q).mono ?_
      rintro e w1 ⟨rfl, k1, rfl⟩
      have hmo' : (w.drewN (q + k1)).heap[m]? = some o := hmo
      rcases hA : A v2 with _ | _
      all_goals
        go_wp2_with (at_lookup; refine wpList_lookup_imap rfl _ _ 32 rfl 3 4 .i64 Try.underlying32 Try.underlying3 _ (zero_bool _) m rfl o l hmo' hmb v2 rfl ?_; rw [HL.out.2.2.2.2 v2, hA])
        go_ret
        exact ⟨by rw [← HRV.out, HW.out, hA]; rfl, _, rfl⟩
/-- Who is about to go where. -/
def stepL (L : Nat → List Int) (A : Int → Bool) : Nat → List Int := if whoF L A < 0 then L else frontL 3 L (if A (whoF L A) = true then 1 else 2) (whoF L A)
def stepA (L : Nat → List Int) (A : Int → Bool) : Int → Bool := if whoF L A < 0 then A else setB' A (whoF L A) false
theorem lastOf_mem0 {l : List Int} (h : 0 ≤ lastOf l) : lastOf l ∈ l := by
  unfold lastOf at *
  rw [List.getLastD_eq_getLast?] at *
  rcases e : l.getLast? with _ | x
  · rw [e] at h; simp at h
  · exact List.mem_of_getLast? e
theorem whoF_in {L : Nat → List Int} {A : Int → Bool} (h : 0 ≤ whoF L A) : ∃ r, r < 3 ∧ whoF L A ∈ L r := by
  unfold whoF at *
  split
  · rename_i h1; rw [if_pos h1] at h; exact ⟨0, by decide, lastOf_mem0 h⟩
  · rename_i h1
    rw [if_neg h1] at h
    split
    · rename_i h2; rw [if_pos h2] at h; exact ⟨1, by decide, lastOf_mem0 h⟩
    · rename_i h2
      rw [if_neg h2] at h
      split
      · rename_i h3; rw [if_pos h3] at h; exact ⟨2, by decide, lastOf_mem0 h⟩
      · rename_i h3; rw [if_neg h3] at h; simp at h
set_option maxHeartbeats 1000000 in
theorem seg_step (S : Nat → Prop) (p : Nat) (L : Nat → List Int) (A : Int → Bool) (N : Nat) (w : World) (h : SegAt w S p L A N) (hN : N < 1000000) :
    Calls Try.prog 12 #[.pointer (some ⟨p, 0, none⟩)] w fun e w' => e = .returned (.bool (decide (0 ≤ whoF L A))) ∧ SegAt w' (grow S w w') p (stepL L A) (stepA L A) (N + 1) ∧ Fr S w w' := by
  have HW := Lib.hid (seg_who S p L A N w h (by omega))
  unfold stepL stepA
  obtain ⟨id, hid⟩ : ∃ id, whoF L A = id := ⟨_, rfl⟩
  have hin := whoF_in (L := L) (A := A)
  rw [hid] at HW hin ⊢
  clear hid
  by_cases h0 : id < 0
  · have hd : decide (0 ≤ id) = false := decide_eq_false (by omega)
    rw [hd, if_pos h0, if_pos h0]
    have HH := Lib.hid h
    clear h hd hin
    go_enter Try.func12, Try.ntmps12
    go_wp2_with fail
    refine HW.out.mono ?_
    rintro e w1 ⟨rfl, k1, rfl⟩
    go_wp2
    go_ret
    exact ⟨rfl, ((SegAt.frame (w' := w.drewN k1) HH.out fun _ _ _ => rfl).mono fun b _ q => Or.inl q).more (Nat.le_succ _), (Fr.refl S w).drewN _⟩
  · have hd : decide (0 ≤ id) = true := decide_eq_true (by omega)
    have h1 : decide (id < 0) = false := decide_eq_false h0
    rw [hd, if_neg h0, if_neg h0]
    obtain ⟨r, hr, hm⟩ := hin (by omega)
    obtain ⟨g, m, l, o, Sr, h⟩ := h
    have hrg := h.hR.range hr hm
    have c0 := cell_of_heap h.hp 0
    have c1 := cell_of_heap h.hp 1
    simp at c0 c1
    have hmo := h.hmo
    have hmb := h.hmb
    have hV := h.val id
    have HH := Lib.hid (And.intro h (And.intro hV hrg))
    clear h hd hin hm hrg hV h0
    have may1 : mayIn 3 1 id = true := decide_eq_true ⟨by decide, by decide, HH.out.2.2⟩
    have may2 : mayIn 3 2 id = true := decide_eq_true ⟨by decide, by decide, HH.out.2.2⟩
    have HM := Lib.hid (And.intro may1 may2)
    clear may1 may2
    rcases hA : A id with _ | _
    all_goals
      have HA := Lib.hid hA
      clear hA
      go_enter Try.func12, Try.ntmps12
      go_wp2_with fail
      refine HW.out.mono ?_
      rintro e w1 ⟨rfl, k1, rfl⟩
      have hmo' : (w.drewN k1).heap[m]? = some o := hmo
      have c0' : (w.drewN k1).cell? ⟨p, 0, none⟩ = some (.pointer (some ⟨g, 0, none⟩)) := c0
      have d0 := fun o' : Obj => (cell_putObj (w := w.drewN k1) (b := m) o' (p := ⟨p, 0, none⟩) HH.out.1.pm).trans c0'
      go_wp2_with (first
        | (at_lookup; refine wpList_lookup_imap rfl _ _ 32 rfl 3 4 .i64 Try.underlying32 Try.underlying3 _ (zero_bool _) m rfl o l hmo' hmb id rfl ?_; rw [HH.out.2.1, HA.out])
        | (at_delete; refine wpList_delete_imap rfl _ _ 32 3 rfl 4 .i64 Try.underlying32 Try.underlying3 m rfl o l hmo' hmb id rfl ?_; intro o3 ho3; have HO := Lib.hid ((HH.out.1.frame (w' := w.drewN k1) fun _ _ _ => rfl).off id ho3); clear ho3)
        | (go_at_call 28; refine (rows_front Sr g 3 L N _ id _ HO.out.hR hN).mono ?_; rintro e w2 ⟨rfl, hA, hF⟩; have H1 := Lib.hid (And.intro hA hF); clear hA hF))
      go_ret
      have hsz : ((w.drewN k1).putObj m o3).heap.size = w.heap.size := by simp
      refine ⟨by first | (rw [HM.out.1]; rfl) | (rw [HM.out.2]; rfl), (HO.out.rows H1.out.1 H1.out.2).shut.mono (fun b _ q => q.imp (fun q => q) (fun q => by rw [hsz] at q; exact q)), ?_⟩
      exact (((Fr.refl S w).drewN k1).putObj (fun _ => HH.out.1.hSm) o3).trans (HO.out.fr H1.out.2) (fun _ _ q => q)
end Go.Proofs.Ytldnacphfoagnac
