/- Layer 10 (rows): Take. -/
import Derived.Test.YtemdhnolccnnfaaRows2
import Derived.Test.YtemdhnolccnnfaaRowsMem2
import Derived.Deep.RegionHeld3
import Derived.RegionTactic
import Derived.StillTailTactics
import Derived.BigRegion
namespace Go.Proofs.Ytemdhnolccnnfaa
open Go.RowKit
set_option linter.unusedVariables false
/-- An id less. -/
def del (L : Nat → List Int) (id : Int) : Nat → List Int := fun s => (L s).filter (· != id)
theorem del_none {L : Nat → List Int} {id : Int} (h : ∀ s, id ∉ L s) : del L id = L := by
  funext s
  unfold del
  rw [List.filter_eq_self]
  intro x hx
  simp only [bne_iff_ne, ne_eq]
  intro e; subst e; exact h s hx
theorem RowsAt.mono {w : World} {S S' : Nat → Prop} {g n : Nat} {L : Nat → List Int} {N : Nat} (h : RowsAt w S g n L N) (hS : ∀ b, b < w.heap.size → S b → S' b) : RowsAt w S' g n L N := by
  obtain ⟨lk, free, l, Ps, cnt, h1, r⟩ := h
  obtain ⟨m, nb, lv, fv, o, hO⟩ := h1.opened
  exact ⟨lk, free, l, Ps, cnt, (hO.mono hS).shut, r⟩
theorem RowsAt.fr {w w' : World} {S F : Nat → Prop} {g n : Nat} {L : Nat → List Int} {N : Nat} (h : RowsAt w S g n L N) (hf : Fr F w w') (hd : ∀ b, b < w.heap.size → S b → ¬ F b) : RowsAt w' S g n L N :=
  h.frame fun b hb hS => hf.block b hb (hd b hb hS)
theorem RowsAt.more {w : World} {S : Nat → Prop} {g n : Nat} {L : Nat → List Int} {N N' : Nat} (h : RowsAt w S g n L N) (hN : N ≤ N') : RowsAt w S g n L N' := by
  obtain ⟨lk, free, l, Ps, cnt, h1, h2, h3, h4, h5, h6, h7, h8⟩ := h
  exact ⟨lk, free, l, Ps, cnt, h1, h2, h3, h4, by omega, h6, h7, fun r => by have := h8 r; omega⟩
theorem RowsAt.len_le {w : World} {S : Nat → Prop} {g n : Nat} {L : Nat → List Int} {N : Nat} (h : RowsAt w S g n L N) (r : Nat) : (L r).length ≤ N := by
  obtain ⟨lk, free, l, Ps, cnt, h1, h2, h3, h4, h5, h6, h7, h8⟩ := h
  exact h8 r
theorem ls_unlink (lk : List Lnk) (Ps : Nat → List Nat) (p : Nat) (r : Nat) : Ls (unlink lk p) Ps r = Ls lk Ps r := by
  unfold Ls
  apply List.map_congr_left
  intro x _
  exact ((l_setB _ _ _ x).2.1).trans (l_setA _ _ _ x).2.1
/-- What stands behind a Take. -/
theorem ls_take {n : Nat} {lk : List Lnk} {free : List Nat} {l : List (Int × Value)} {Ps : Nat → List Nat} (h : Good n lk free l Ps) {r p : Nat} (hr : r < n) (hp : p ∈ Ps r) (s : Nat) :
    Ls (unlink lk p) (fun s => (Ps s).filter (· != p)) s = (Ls lk Ps s).filter (· != lI lk p) := by
  rw [ls_unlink]
  unfold Ls
  rw [List.filter_map]
  congr 1
  apply List.filter_congr
  intro x hx
  rw [Bool.eq_iff_iff]
  simp only [bne_iff_ne, ne_eq, Function.comp]
  constructor
  · intro hne e
    by_cases hs : s < n
    · exact hne (h.same hs hr hx hp e).1
    · rw [h.none_ s (by omega)] at hx; cases hx
  · intro hne e; subst e; exact hne rfl
theorem len_take {l : List Int} (hn : l.Nodup) {id : Int} (h : id ∈ l) : ((l.filter (· != id)).length : Int) = (l.length : Int) - 1 := by
  obtain ⟨u, v, rfl⟩ := List.append_of_mem h
  have h1 : ∀ x ∈ u, x ≠ id := fun x hx e => (List.nodup_append.1 hn).2.2 x hx id (by simp) e
  have h2 : ∀ x ∈ v, x ≠ id := fun x hx e => by subst e; exact (List.nodup_cons.1 (List.nodup_append.1 hn).2.1).1 hx
  rw [List.filter_append, List.filter_cons, if_neg (by simp), List.filter_eq_self.2 (fun x hx => by simpa using h1 x hx), List.filter_eq_self.2 (fun x hx => by simpa using h2 x hx)]
  simp; omega
theorem take_at {w : World} {S : Nat → Prop} {g n : Nat} {L : Nat → List Int} {N : Nat} {lk : List Lnk} {free : List Nat} {l : List (Int × Value)} {Ps : Nat → List Nat} {cnt : List Int} {id : Int} {q p : Nat}
    (hG : Good n lk free l Ps) (hL : ∀ r, L r = Ls lk Ps r) (hcnt : ∀ r, r < n → cnt[r]? = some ((L r).length : Int)) (hLN : ∀ r, (L r).length ≤ N) (hN : lk.length ≤ n + N) (hn0 : 0 < n) (hn8 : n ≤ 8) (hq : q < n) (hp : p ∈ Ps q) (he : lI lk p = id)
    (hM : RowsM w S g n (unlink lk p) (free ++ [p]) (adel l id) (cnt.set q ((L q).length - 1))) : RowsAt w S g n (del L id) N := by
  have hG' := hG.take hq hp
  rw [he] at hG'
  have hmem : id ∈ L q := by rw [hL]; exact List.mem_map.2 ⟨p, hp, he⟩
  refine ⟨_, _, _, _, _, hM, hG', fun r => ?_, fun r hr => ?_, ?_, hn0, hn8, fun r => ?_⟩
  · rw [ls_take hG hq hp r, he, ← hL]; rfl
  · by_cases e : r = q
    · subst e
      have hl : r < cnt.length := by
        rcases Nat.lt_or_ge r cnt.length with h | h
        · exact h
        · have := hcnt r hr; rw [List.getElem?_eq_none h] at this; cases this
      rw [List.getElem?_set_self hl]
      have := len_take (l := L r) (by rw [hL]; exact Ls_nodup hG hr) hmem
      show _ = some (((L r).filter (· != id)).length : Int)
      rw [this]
    · rw [List.getElem?_set_ne (fun h => e h.symm), hcnt r hr]
      have : (del L id) r = L r := by
        unfold del
        rw [List.filter_eq_self]
        intro x hx
        simp only [bne_iff_ne, ne_eq]
        intro ex; subst ex
        rw [hL] at hx hmem
        exact e (Ls_disj hG hq hr hmem hx)
      rw [this]
  · have : (unlink lk p).length = lk.length := by unfold unlink; rw [setB_len, setA_len]
    omega
  · have h1 := List.length_filter_le (· != id) (L r)
    have h2 := hLN r
    show ((L r).filter (· != id)).length ≤ N
    omega
set_option maxHeartbeats 1000000 in
theorem rows_take_none (S : Nat → Prop) (g n : Nat) (L : Nat → List Int) (N : Nat) (id : Int) (w : World) (hG : RowsAt w S g n L N) (hno : ∀ r, r < n → id ∉ L r) :
    Calls Try.prog 28 #[.pointer (some ⟨g, 0, none⟩), .int .i64 id] w fun e w' => e = .returned (.bool false) ∧ w = w' := by
  obtain ⟨lk, free, l, Ps, cnt, hM, hG, hL, hcnt, hN, hn0, hn8, hLN⟩ := hG
  obtain ⟨m, nb, lv, fv, o, hO⟩ := hM.opened
  have ha : aget l id = none := by
    rcases ha : aget l id with _ | v
    · rfl
    · obtain ⟨r, hr, p, hp, rfl, he⟩ := hG.at_ id v ha
      exact absurd (by rw [hL]; exact List.mem_map.2 ⟨p, hp, he⟩) (hno r hr)
  have c2 := cell_of_heap hO.hg 2
  simp at c2
  have hmo := hO.hmo
  have hmb := hO.hmb
  clear hO hM hG hL hcnt hLN hno
  go_enter Try.func28, Try.ntmps28
  go_wp2_with (first
    | (at_lookup; refine wpList_lookupOk_imap rfl _ _ 47 rfl 3 3 .i64 Try.underlying47 Try.underlying3 _ (zero_i64 _) m rfl o l hmo hmb id rfl ?_; rw [ha]))
  go_ret
  exact ⟨rfl, rfl⟩
set_option maxHeartbeats 4000000 in
theorem rows_take_some (S : Nat → Prop) (g n : Nat) (L : Nat → List Int) (N : Nat) (id : Int) (w : World) (hG : RowsAt w S g n L N) (hN1 : N ≤ 1000000) (q : Nat) (hq : q < n) (hid : id ∈ L q) :
    Calls Try.prog 28 #[.pointer (some ⟨g, 0, none⟩), .int .i64 id] w fun e w' => e = .returned (.bool true) ∧ RowsAt w' (grow S w w') g n (del L id) N ∧ Fr S w w' := by
  obtain ⟨lk, free, l, Ps, cnt, hM, hG, hL, hcnt, hN, hn0, hn8, hLN⟩ := hG
  obtain ⟨m, nb, lv, fv, o, hO⟩ := hM.opened
  obtain ⟨p, hp, he⟩ := List.mem_map.1 (by have := hid; rw [hL] at this; exact this)
  obtain ⟨p1, p2, p3, p4, p5, p6, p7⟩ := hG.place q hq p hp
  rw [he] at p7
  have ha := p7
  unfold iv at ha
  obtain ⟨b, off, cap, rfl, hSb, hb, hcap, hx, hf⟩ := links_at hO.hlk (by have := hG.len; omega)
  obtain ⟨hx0, hx1, hx2, hx3⟩ := hx p p2
  obtain ⟨na, nb1, _, _⟩ := hG.near hq (List.mem_cons_of_mem _ hp)
  obtain ⟨A, hA⟩ : ∃ A, lA lk p = A := ⟨_, rfl⟩
  obtain ⟨B, hB⟩ : ∃ B, lB lk p = B := ⟨_, rfl⟩
  rw [hA] at hx3 na
  rw [hB] at hx2 nb1
  rw [p3] at hx1
  unfold iv at hx0 hx1 hx2 hx3
  have c0 := cell_of_heap hO.hg 0
  have c1 := cell_of_heap hO.hg 1
  have c2 := cell_of_heap hO.hg 2
  have c3 := cell_of_heap hO.hg 3
  simp at c0 c1 c2 c3
  have hmo := hO.hmo
  have hmb := hO.hmb
  have fB := hf (off + B * 4 + 3)
  have fA := hf (off + A * 4 + 2)
  obtain ⟨_, _, _, eB⟩ := hx B nb1
  obtain ⟨_, _, eA, _⟩ := hx A na
  have hgl := lt_of_heap hO.hg
  have HH := Lib.hid (And.intro hM (And.intro hG (And.intro hL (And.intro hcnt (And.intro hLN (And.intro hO (And.intro he (And.intro hA (And.intro hB (And.intro p7 hp))))))))))
  clear hM hG hL hcnt hLN hO hf hx p7 hp hA hB
  go_enter Try.func28, Try.ntmps28
  go_upto_region 5 with (first
    | (at_lookup; refine wpList_lookupOk_imap rfl _ _ 47 rfl 3 3 .i64 Try.underlying47 Try.underlying3 _ (zero_i64 _) m rfl o l hmo hmb id rfl ?_; rw [ha]))
  obtain ⟨xb, hxb⟩ : ∃ xb, w.heap.size = xb := ⟨_, rfl⟩
  have hO1 := HH.out.2.2.2.2.2.1.alloc (.cells #[.int .i64 id, .int .i64 q, .int .i64 B, .int .i64 A] 52)
  have hF1 := (Fr.refl S w).alloc (.cells #[.int .i64 id, .int .i64 q, .int .i64 B, .int .i64 A] 52)
  have x1 : (w.alloc (.cells #[.int .i64 id, .int .i64 q, .int .i64 B, .int .i64 A] 52)).cell? ⟨w.heap.size, 1, none⟩ = some (.int .i64 q) := by simp
  have x2 : (w.alloc (.cells #[.int .i64 id, .int .i64 q, .int .i64 B, .int .i64 A] 52)).cell? ⟨w.heap.size, 2, none⟩ = some (.int .i64 B) := by simp
  have x3 : (w.alloc (.cells #[.int .i64 id, .int .i64 q, .int .i64 B, .int .i64 A] 52)).cell? ⟨w.heap.size, 3, none⟩ = some (.int .i64 A) := by simp
  have hbx : b ≠ w.heap.size := by omega
  have hgx : g ≠ w.heap.size := by omega
  have hsz : w.heap.size < (w.alloc (.cells #[.int .i64 id, .int .i64 q, .int .i64 B, .int .i64 A] 52)).heap.size := by simp
  rw [hxb] at x1 x2 x3 hbx hgx hsz ⊢
  obtain ⟨w1, hw1⟩ : ∃ w1, w.alloc (.cells #[.int .i64 id, .int .i64 q, .int .i64 B, .int .i64 A] 52) = w1 := ⟨_, rfl⟩
  have hxh := heap_alloc_new w (.cells #[.int .i64 id, .int .i64 q, .int .i64 B, .int .i64 A] 52)
  rw [hxb] at hxh
  rw [hw1] at hO1 hF1 x1 x2 x3 hsz hxh ⊢
  have HX := Lib.hid hxh
  clear hxh
  have hbg : b ≠ g := fun e => by
    subst e; obtain ⟨c, hc⟩ := hO1.blk; have := hO1.hg; rw [hc] at this; simp at this
  clear c0 c1 c2 c3 fA fB eA eB hxb hw1 hmo
  have c0 := cell_of_heap hO1.hg 0
  simp at c0
  obtain ⟨b', off', cap', hv, _, _, _, hx, hf⟩ := links_at hO1.hlk (by omega)
  simp at hv
  obtain ⟨⟨rfl, rfl⟩, rfl⟩ := hv
  have fB := hf (off + B * 4 + 3)
  have fA := hf (off + A * 4 + 2)
  obtain ⟨_, _, _, eB⟩ := hx B nb1
  obtain ⟨_, _, eA, _⟩ := hx A na
  have H1 := Lib.hid (And.intro hO1 hF1)
  clear hO1 hF1 hx hf
  unfold iv at eA eB
  have iA : (A : Int) < lk.length := by omega
  have iB : (B : Int) < lk.length := by omega
  have iA0 : (0 : Int) ≤ A := by omega
  have iB0 : (0 : Int) ≤ B := by omega
  go_cut [26] (fun s wx => wx.heap[xb]? = some (.cells #[.int .i64 id, .int .i64 q, .int .i64 B, .int .i64 A] 52 (0, 0)) ∧ RowsM wx S g n (unlink lk p) free l cnt ∧ Fr S w wx)
  case first =>
    go_region_held3 (fun w' => w'.cell? ⟨g, 0, none⟩ = some (.slice (some ⟨b, off, none⟩) lk.length cap) ∧ w'.cell? ⟨xb, 2, none⟩ = some (.int .i64 B) ∧ w'.cell? ⟨xb, 3, none⟩ = some (.int .i64 A)) (go_keep) (fail)
    all_goals
      go_wp2_with fail
      go_meet
      have ht := (H1.out.1.two nb1 na A B).shut
      obtain ⟨hA, hB, _⟩ := HH.out.2.2.2.2.2.2.2
      refine ⟨(heap_setCell_other (fun e => hbx e.symm) _).trans ((heap_setCell_other (fun e => hbx e.symm) _).trans HX.out), ?_, ?_⟩
      · unfold unlink; rw [hA, hB]; exact ht
      · exact ((H1.out.2.setCell (fun _ => hSb) _).setCell (fun _ => hSb) _).drewN _
  case rest =>
    obtain ⟨hx1, hM2, hF2⟩ := hcut
    obtain ⟨m2, nb2, lv2, fv2, o2, hO2⟩ := hM2.opened
    obtain ⟨w2, rfl⟩ : ∃ w2 : World, w2 = wc := ⟨_, rfl⟩
    have c1 := cell_of_heap hO2.hg 1
    have hfl : free.length ≤ 1000008 := by
      have := nodup_lt_len lk.length free HH.out.2.1.fnodup (fun x hx => (HH.out.2.1.fplace x hx).2)
      omega
    simp at c1
    obtain ⟨fa, fcap, rfl, _⟩ := hO2.hfr.shape
    have HSL := Lib.hid hO2.hfr
    have hxl := lt_of_heap hx1
    have H2 := Lib.hid (And.intro hO2 (And.intro hF2 hx1))
    obtain ⟨i0, hi, hz0, hz1, hz2⟩ := info_parts info_i64
    clear hO2 hF2 hM2 hx1
    go_upto_region 7 with (first
      | (at_builtin; go_must (refine wpList_append_sl (S := fun b => S b ∧ b ≠ nb2) rfl _ _ 29 rfl 3 i0 (.int .i64 0) 1 8 Try.underlying29 hi hz0 hz1 hz2 rfl (by decide) _ free.length _ rfl (HSL.out.alloc _) ⟨_, 0, none⟩ 1 1 [.int .i64 p] rfl rfl (cell_one_at _ _ _ (by simp)) (ints_oneCell .i64 [(p : Int)]) (by unfold maxLen; omega) (by omega) ?_); intro v1 w3 hs1 hf1; obtain ⟨a1, cap1, rfl, _⟩ := hs1.shape; have hg1 := (H2.out.1.alloc _).appFree_g hf1; have HS1 := Lib.hid (And.intro hs1 hf1); clear hs1 hf1; rw [heap_alloc_old _ (lt_of_heap H2.out.1.hg), H2.out.1.hg] at hg1; have e1 := cell_of_heap hg1 1; have e2 := fro_of_heap hg1 1; simp at e1; clear hg1))
    obtain ⟨hs1, hf1⟩ := HS1.out
    have hO3 := RowsO.appFree (free' := free ++ [p]) (H2.out.1.alloc _) hf1 (by simpa [iv] using hs1)
    obtain ⟨w4, hw4⟩ : ∃ w4, w3.setCell ⟨g, 1, none⟩ (.slice a1 (free.length + 1) cap1) = w4 := ⟨_, rfl⟩
    have hx3 : w4.heap[xb]? = some (.cells #[.int .i64 id, .int .i64 q, .int .i64 B, .int .i64 A] 52 (0, 0)) := by
      rw [← hw4, heap_setCell_other (fun e => hgx e.symm)]
      exact hf1.other ((heap_alloc_old _ hxl).trans H2.out.2.2) (fun c hc => by cases hc)
    have hF4 : Fr S w w4 := by
      rw [← hw4]
      exact ((H2.out.2.1.alloc _).trans (Fr.mono hf1 fun _ _ h => h.1.1) (fun _ _ h => h)).setCell (fun _ => H2.out.1.hSg) _
    have hsz4 : w2.heap.size ≤ (w2.alloc (.cells #[.int .i64 p] 3)).heap.size ∧ w3.heap.size = w4.heap.size := by rw [← hw4]; simp [World.setCell]
    rw [hw4] at hO3 ⊢
    have hcq : cnt[q]? = some ((L q).length : Int) := HH.out.2.2.2.1 q hq
    have hlq : (L q).length ≤ 1000000 := by have := HH.out.2.2.2.2.1 q; omega
    have hlq0 : 0 < (L q).length := List.length_pos_of_mem hid
    have c3 := cell_of_heap hO3.hg 3
    have cq : w4.cell? ⟨nb2, q, none⟩ = some (.int .i64 (L q).length) := by rw [cell_of_heap hO3.hnb]; simp [iv, hcq]
    have fq := fro_of_heap hO3.hnb q
    have cx := cell_of_heap hx3 1
    simp at c3 cx
    have iq : (q : Int) < n := by omega
    have H4 := Lib.hid (And.intro hO3 (And.intro hF4 (And.intro hsz4 hcq)))
    clear hO3 hF4 hsz4 hx3 hcq hs1 hf1 e1 e2 hw4 hid
    have c2 := cell_of_heap H4.out.1.hg 2
    simp at c2
    have hgn := H4.out.1.gn
    have HMX : ∀ (X : World) (u : Value), X.heap = w4.heap → (X.setCell ⟨nb2, q, none⟩ u).heap[m2]? = some o2 := fun X u hX => by
      rw [heap_setCell_other (fun e => H4.out.1.nm e.symm), hX]; exact H4.out.1.hmo
    have HM := Lib.hid HMX
    clear HMX
    go_still_tail 10, (by kernel_rfl)
    go_wp2_with (first
      | (at_delete; refine wpList_delete_imap rfl _ _ 47 3 rfl 3 .i64 Try.underlying47 Try.underlying3 m2 rfl o2 l (HM.out _ _ rfl) H4.out.1.hmb id rfl ?_; intro o3 ho3; have HO3 := Lib.hid ho3; clear ho3))
    go_ret
    refine ⟨rfl, ?_, ?_⟩
    · have hO5 := ((H4.out.1.frame (w' := w4.drew) (fun _ _ _ => rfl)).setCount q ((L q).length - 1)).setMap HO3.out
      refine RowsAt.mono (take_at HH.out.2.1 HH.out.2.2.1 HH.out.2.2.2.1 HH.out.2.2.2.2.1 hN hn0 hn8 hq HH.out.2.2.2.2.2.2.2.2.2.2 HH.out.2.2.2.2.2.2.1 hO5.shut) fun b _ h => ?_
      rcases h with h | ⟨h1, h2⟩
      · exact Or.inl h
      · refine Or.inr ⟨by have := H2.out.2.1.size; have := H4.out.2.2.1.1; omega, ?_⟩
        have := H4.out.2.2.1.2
        simp [World.setCell]; omega
    · exact ((H4.out.2.1.drew).setCell (fun _ => H2.out.1.hSn) _).putObj (fun _ => H2.out.1.hSm) _
/-- Take (J1). -/
theorem rows_take (S : Nat → Prop) (g n : Nat) (L : Nat → List Int) (N : Nat) (id : Int) (w : World) (hG : RowsAt w S g n L N) (hN1 : N ≤ 1000000) :
    Calls Try.prog 28 #[.pointer (some ⟨g, 0, none⟩), .int .i64 id] w fun e w' => e = .returned (.bool (decide (0 ≤ rowOf n L id))) ∧ RowsAt w' (grow S w w') g n (del L id) N ∧ Fr S w w' := by
  by_cases h : ∃ q, q < n ∧ id ∈ L q
  · obtain ⟨q, hq, hid⟩ := h
    refine (rows_take_some S g n L N id w hG hN1 q hq hid).mono fun e w' ⟨he, hA, hF⟩ => ⟨?_, hA, hF⟩
    rw [he, rowOf_some hq hid (fun s hs h => hG.disj hq hs hid h), decide_eq_true (by omega)]
  · have hno : ∀ r, r < n → id ∉ L r := fun r hr h1 => h ⟨r, hr, h1⟩
    refine (rows_take_none S g n L N id w hG hno).mono fun e w' ⟨he, hw⟩ => ?_
    subst hw
    rw [he, rowOf_none hno, del_none (fun s hs => by
      by_cases hsn : s < n
      · exact hno s hsn hs
      · rw [hG.nil (by omega)] at hs; cases hs)]
    exact ⟨rfl, hG.mono (fun b _ h => Or.inl h), Fr.refl _ _⟩
end Go.Proofs.Ytemdhnolccnnfaa
