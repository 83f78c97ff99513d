/- Layer 10 (rows): Take. -/
import Derived.Test.YtgdlndpjfejmcaaGreatPRb
import Derived.Deep.RegionHeld3
import Derived.RegionTactic
import Derived.StillTailTactics
import Derived.BigRegion
import Derived.Laws.OwnMore
import Derived.Laws.MakeOwn
namespace Go.Proofs.YtgdlndpjfejmcaaGreat
open Go.RowKit
set_option linter.unusedVariables false
set_option maxRecDepth 100000
/-- An id less. -/
def del (L : Nat → List Int) (id : Int) : Nat → List Int := fun s => (L s).filter (· != id)
theorem del_none {L : Nat → List Int} {id : Int} (h : ∀ s, id ∉ L s) : del L id = L := by
  funext s
  unfold del
  rw [List.filter_eq_self]
  intro x hx
  simp only [bne_iff_ne, ne_eq]
  intro e; subst e; exact h s hx
theorem RowsAt.mono {w : World} {S S' : Nat → Prop} {g n : Nat} {L : Nat → List Int} {N : Nat} (h : RowsAt w S g n L N) (hS : ∀ b, b < w.heap.size → S b → S' b) : RowsAt w S' g n L N := by
  obtain ⟨lk, free, l, Ps, cnt, h1, r⟩ := h
  obtain ⟨m, nb, lv, fv, o, hO⟩ := h1.opened
  exact ⟨lk, free, l, Ps, cnt, (hO.mono hS).shut, r⟩
theorem RowsAt.fr {w w' : World} {S F : Nat → Prop} {g n : Nat} {L : Nat → List Int} {N : Nat} (h : RowsAt w S g n L N) (hf : Fr F w w') (hd : ∀ b, b < w.heap.size → S b → ¬ F b) : RowsAt w' S g n L N :=
  h.frame fun b hb hS => hf.block b hb (hd b hb hS)
theorem RowsAt.more {w : World} {S : Nat → Prop} {g n : Nat} {L : Nat → List Int} {N N' : Nat} (h : RowsAt w S g n L N) (hN : N ≤ N') : RowsAt w S g n L N' := by
  obtain ⟨lk, free, l, Ps, cnt, h1, h2, h3, h4, h5, h6, h7, h8⟩ := h
  exact ⟨lk, free, l, Ps, cnt, h1, h2, h3, h4, by omega, h6, h7, fun r => by have := h8 r; omega⟩
theorem RowsAt.len_le {w : World} {S : Nat → Prop} {g n : Nat} {L : Nat → List Int} {N : Nat} (h : RowsAt w S g n L N) (r : Nat) : (L r).length ≤ N := by
  obtain ⟨lk, free, l, Ps, cnt, h1, h2, h3, h4, h5, h6, h7, h8⟩ := h
  exact h8 r
theorem ls_unlink (lk : List Lnk) (Ps : Nat → List Nat) (p : Nat) (r : Nat) : Ls (unlink lk p) Ps r = Ls lk Ps r := by
  unfold Ls
  apply List.map_congr_left
  intro x _
  exact ((l_setB _ _ _ x).2.1).trans (l_setA _ _ _ x).2.1
/-- What stands behind a Take. -/
theorem ls_take {n : Nat} {lk : List Lnk} {free : List Nat} {l : List (Int × Value)} {Ps : Nat → List Nat} (h : Good n lk free l Ps) {r p : Nat} (hr : r < n) (hp : p ∈ Ps r) (s : Nat) :
    Ls (unlink lk p) (fun s => (Ps s).filter (· != p)) s = (Ls lk Ps s).filter (· != lI lk p) := by
  rw [ls_unlink]
  unfold Ls
  rw [List.filter_map]
  congr 1
  apply List.filter_congr
  intro x hx
  rw [Bool.eq_iff_iff]
  simp only [bne_iff_ne, ne_eq, Function.comp]
  constructor
  · intro hne e
    by_cases hs : s < n
    · exact hne (h.same hs hr hx hp e).1
    · rw [h.none_ s (by omega)] at hx; cases hx
  · intro hne e; subst e; exact hne rfl
theorem len_take {l : List Int} (hn : l.Nodup) {id : Int} (h : id ∈ l) : ((l.filter (· != id)).length : Int) = (l.length : Int) - 1 := by
  obtain ⟨u, v, rfl⟩ := List.append_of_mem h
  have h1 : ∀ x ∈ u, x ≠ id := fun x hx e => (List.nodup_append.1 hn).2.2 x hx id (by simp) e
  have h2 : ∀ x ∈ v, x ≠ id := fun x hx e => by subst e; exact (List.nodup_cons.1 (List.nodup_append.1 hn).2.1).1 hx
  rw [List.filter_append, List.filter_cons, if_neg (by simp), List.filter_eq_self.2 (fun x hx => by simpa using h1 x hx), List.filter_eq_self.2 (fun x hx => by simpa using h2 x hx)]
  simp; omega
theorem take_at {w : World} {S : Nat → Prop} {g n : Nat} {L : Nat → List Int} {N : Nat} {lk : List Lnk} {free : List Nat} {l : List (Int × Value)} {Ps : Nat → List Nat} {cnt : List Int} {id : Int} {q p : Nat}
    (hG : Good n lk free l Ps) (hL : ∀ r, L r = Ls lk Ps r) (hcnt : ∀ r, r < n → cnt[r]? = some ((L r).length : Int)) (hLN : ∀ r, (L r).length ≤ N) (hN : lk.length ≤ n + N) (hn0 : 0 < n) (hn8 : n ≤ 8) (hq : q < n) (hp : p ∈ Ps q) (he : lI lk p = id)
    (hM : RowsM w S g n (unlink lk p) (free ++ [p]) (adel l id) (cnt.set q ((L q).length - 1))) : RowsAt w S g n (del L id) N := by
  have hG' := hG.take hq hp
  rw [he] at hG'
  have hmem : id ∈ L q := by rw [hL]; exact List.mem_map.2 ⟨p, hp, he⟩
  refine ⟨_, _, _, _, _, hM, hG', fun r => ?_, fun r hr => ?_, ?_, hn0, hn8, fun r => ?_⟩
  · rw [ls_take hG hq hp r, he, ← hL]; rfl
  · by_cases e : r = q
    · subst e
      have hl : r < cnt.length := by
        rcases Nat.lt_or_ge r cnt.length with h | h
        · exact h
        · have := hcnt r hr; rw [List.getElem?_eq_none h] at this; cases this
      rw [List.getElem?_set_self hl]
      have := len_take (l := L r) (by rw [hL]; exact Ls_nodup hG hr) hmem
      show _ = some (((L r).filter (· != id)).length : Int)
      rw [this]
    · rw [List.getElem?_set_ne (fun h => e h.symm), hcnt r hr]
      have : (del L id) r = L r := by
        unfold del
        rw [List.filter_eq_self]
        intro x hx
        simp only [bne_iff_ne, ne_eq]
        intro ex; subst ex
        rw [hL] at hx hmem
        exact e (Ls_disj hG hq hr hmem hx)
      rw [this]
  · have : (unlink lk p).length = lk.length := by unfold unlink; rw [setB_len, setA_len]
    omega
  · have h1 := List.length_filter_le (· != id) (L r)
    have h2 := hLN r
    show ((L r).filter (· != id)).length ≤ N
    omega
set_option maxHeartbeats 1000000 in
theorem rows_take_none (S : Nat → Prop) (g n : Nat) (L : Nat → List Int) (N : Nat) (id : Int) (w : World) (hG : RowsAt w S g n L N) (hno : ∀ r, r < n → id ∉ L r) :
    Calls Tryz.prog 92 #[.pointer (some ⟨g, 0, none⟩), .int .i64 id] w fun e w' => e = .returned (.bool false) ∧ w = w' := by
  obtain ⟨lk, free, l, Ps, cnt, hM, hG, hL, hcnt, hN, hn0, hn8, hLN⟩ := hG
  obtain ⟨m, nb, lv, fv, o, hO⟩ := hM.opened
  have ha : aget l id = none := by
    rcases ha : aget l id with _ | v
    · rfl
    · obtain ⟨r, hr, p, hp, rfl, he⟩ := hG.at_ id v ha
      exact absurd (by rw [hL]; exact List.mem_map.2 ⟨p, hp, he⟩) (hno r hr)
  have c2 := cell_of_heap hO.hg 2
  simp at c2
  have hmo := hO.hmo
  have hmb := hO.hmb
  clear hO hM hG hL hcnt hLN hno
  go_enter Tryz.func92, Tryz.ntmps92
  go_wp2_with (first
    | (at_lookup; refine wpList_lookupOk_imap rfl _ _ 77 rfl 3 3 .i64 Tryz.underlying77 Tryz.underlying3 _ (zero_i64 _) m rfl o l hmo hmb id rfl ?_; rw [ha]))
  go_ret
  exact ⟨rfl, rfl⟩
set_option maxHeartbeats 4000000 in
theorem rows_take_some (S : Nat → Prop) (g n : Nat) (L : Nat → List Int) (N : Nat) (id : Int) (w : World) (hG : RowsAt w S g n L N) (hN1 : N ≤ 1000000) (q : Nat) (hq : q < n) (hid : id ∈ L q) :
    Calls Tryz.prog 92 #[.pointer (some ⟨g, 0, none⟩), .int .i64 id] w fun e w' => e = .returned (.bool true) ∧ RowsAt w' (grow S w w') g n (del L id) N ∧ Fr S w w' := by
  obtain ⟨lk, free, l, Ps, cnt, hM, hG, hL, hcnt, hN, hn0, hn8, hLN⟩ := hG
  obtain ⟨m, nb, lv, fv, o, hO⟩ := hM.opened
  obtain ⟨p, hp, he⟩ := List.mem_map.1 (by have := hid; rw [hL] at this; exact this)
  obtain ⟨p1, p2, p3, p4, p5, p6, p7⟩ := hG.place q hq p hp
  rw [he] at p7
  have ha := p7
  unfold iv at ha
  obtain ⟨b, off, cap, rfl, hSb, hb, hcap, hx, hf⟩ := links_at hO.hlk (by have := hG.len; omega)
  obtain ⟨hx0, hx1, hx2, hx3⟩ := hx p p2
  obtain ⟨na, nb1, _, _⟩ := hG.near hq (List.mem_cons_of_mem _ hp)
  obtain ⟨A, hA⟩ : ∃ A, lA lk p = A := ⟨_, rfl⟩
  obtain ⟨B, hB⟩ : ∃ B, lB lk p = B := ⟨_, rfl⟩
  rw [hA] at hx3 na
  rw [hB] at hx2 nb1
  rw [p3] at hx1
  unfold iv at hx0 hx1 hx2 hx3
  have c0 := cell_of_heap hO.hg 0
  have c1 := cell_of_heap hO.hg 1
  have c2 := cell_of_heap hO.hg 2
  have c3 := cell_of_heap hO.hg 3
  simp at c0 c1 c2 c3
  have hmo := hO.hmo
  have hmb := hO.hmb
  have fB := hf (off + B * 4 + 3)
  have fA := hf (off + A * 4 + 2)
  obtain ⟨_, _, _, eB⟩ := hx B nb1
  obtain ⟨_, _, eA, _⟩ := hx A na
  have hgl := lt_of_heap hO.hg
  have HH := Lib.hid (And.intro hM (And.intro hG (And.intro hL (And.intro hcnt (And.intro hLN (And.intro hO (And.intro he (And.intro hA (And.intro hB (And.intro p7 hp))))))))))
  clear hM hG hL hcnt hLN hO hf hx p7 hp hA hB
  go_enter Tryz.func92, Tryz.ntmps92
  go_upto_region 5 with (first
    | (at_lookup; refine wpList_lookupOk_imap rfl _ _ 77 rfl 3 3 .i64 Tryz.underlying77 Tryz.underlying3 _ (zero_i64 _) m rfl o l hmo hmb id rfl ?_; rw [ha]))
  obtain ⟨xb, hxb⟩ : ∃ xb, w.heap.size = xb := ⟨_, rfl⟩
  have hO1 := HH.out.2.2.2.2.2.1.alloc (.cells #[.int .i64 id, .int .i64 q, .int .i64 B, .int .i64 A] 82)
  have hF1 := (Fr.refl S w).alloc (.cells #[.int .i64 id, .int .i64 q, .int .i64 B, .int .i64 A] 82)
  have x1 : (w.alloc (.cells #[.int .i64 id, .int .i64 q, .int .i64 B, .int .i64 A] 82)).cell? ⟨w.heap.size, 1, none⟩ = some (.int .i64 q) := by simp
  have x2 : (w.alloc (.cells #[.int .i64 id, .int .i64 q, .int .i64 B, .int .i64 A] 82)).cell? ⟨w.heap.size, 2, none⟩ = some (.int .i64 B) := by simp
  have x3 : (w.alloc (.cells #[.int .i64 id, .int .i64 q, .int .i64 B, .int .i64 A] 82)).cell? ⟨w.heap.size, 3, none⟩ = some (.int .i64 A) := by simp
  have hbx : b ≠ w.heap.size := by omega
  have hgx : g ≠ w.heap.size := by omega
  have hsz : w.heap.size < (w.alloc (.cells #[.int .i64 id, .int .i64 q, .int .i64 B, .int .i64 A] 82)).heap.size := by simp
  rw [hxb] at x1 x2 x3 hbx hgx hsz ⊢
  obtain ⟨w1, hw1⟩ : ∃ w1, w.alloc (.cells #[.int .i64 id, .int .i64 q, .int .i64 B, .int .i64 A] 82) = w1 := ⟨_, rfl⟩
  have hxh := heap_alloc_new w (.cells #[.int .i64 id, .int .i64 q, .int .i64 B, .int .i64 A] 82)
  rw [hxb] at hxh
  rw [hw1] at hO1 hF1 x1 x2 x3 hsz hxh ⊢
  have HX := Lib.hid hxh
  clear hxh
  have hbg : b ≠ g := fun e => by
    subst e; obtain ⟨c, hc⟩ := hO1.blk; have := hO1.hg; rw [hc] at this; simp at this
  clear c0 c1 c2 c3 fA fB eA eB hxb hw1 hmo
  have c0 := cell_of_heap hO1.hg 0
  simp at c0
  obtain ⟨b', off', cap', hv, _, _, _, hx, hf⟩ := links_at hO1.hlk (by omega)
  simp at hv
  obtain ⟨⟨rfl, rfl⟩, rfl⟩ := hv
  have fB := hf (off + B * 4 + 3)
  have fA := hf (off + A * 4 + 2)
  obtain ⟨_, _, _, eB⟩ := hx B nb1
  obtain ⟨_, _, eA, _⟩ := hx A na
  have H1 := Lib.hid (And.intro hO1 hF1)
  clear hO1 hF1 hx hf
  unfold iv at eA eB
  have iA : (A : Int) < lk.length := by omega
  have iB : (B : Int) < lk.length := by omega
  have iA0 : (0 : Int) ≤ A := by omega
  have iB0 : (0 : Int) ≤ B := by omega
  go_cut [26] (fun s wx => wx.heap[xb]? = some (.cells #[.int .i64 id, .int .i64 q, .int .i64 B, .int .i64 A] 82 (0, 0)) ∧ RowsM wx S g n (unlink lk p) free l cnt ∧ Fr S w wx)
  case first =>
    go_region_held3 (fun w' => w'.cell? ⟨g, 0, none⟩ = some (.slice (some ⟨b, off, none⟩) lk.length cap) ∧ w'.cell? ⟨xb, 2, none⟩ = some (.int .i64 B) ∧ w'.cell? ⟨xb, 3, none⟩ = some (.int .i64 A)) (go_keep) (fail)
    all_goals
      go_wp2_with fail
      go_meet
      have ht := (H1.out.1.two nb1 na A B).shut
      obtain ⟨hA, hB, _⟩ := HH.out.2.2.2.2.2.2.2
      refine ⟨(heap_setCell_other (fun e => hbx e.symm) _).trans ((heap_setCell_other (fun e => hbx e.symm) _).trans HX.out), ?_, ?_⟩
      · unfold unlink; rw [hA, hB]; exact ht
      · exact ((H1.out.2.setCell (fun _ => hSb) _).setCell (fun _ => hSb) _).drewN _
  case rest =>
    obtain ⟨hx1, hM2, hF2⟩ := hcut
    obtain ⟨m2, nb2, lv2, fv2, o2, hO2⟩ := hM2.opened
    obtain ⟨w2, rfl⟩ : ∃ w2 : World, w2 = wc := ⟨_, rfl⟩
    have c1 := cell_of_heap hO2.hg 1
    have hfl : free.length ≤ 1000008 := by
      have := nodup_lt_len lk.length free HH.out.2.1.fnodup (fun x hx => (HH.out.2.1.fplace x hx).2)
      omega
    simp at c1
    obtain ⟨fa, fcap, rfl, _⟩ := hO2.hfr.shape
    have HSL := Lib.hid hO2.hfr
    have hxl := lt_of_heap hx1
    have H2 := Lib.hid (And.intro hO2 (And.intro hF2 hx1))
    obtain ⟨i0, hi, hz0, hz1, hz2⟩ := info_parts info_i64
    clear hO2 hF2 hM2 hx1
    go_upto_region 7 with (first
      | (at_builtin; go_must (refine wpList_append_sl (S := fun b => S b ∧ b ≠ nb2) rfl _ _ 67 rfl 3 i0 (.int .i64 0) 1 8 Tryz.underlying67 hi hz0 hz1 hz2 rfl (by decide) _ free.length _ rfl (HSL.out.alloc _) ⟨_, 0, none⟩ 1 1 [.int .i64 p] rfl rfl (cell_one_at _ _ _ (by simp)) (ints_oneCell .i64 [(p : Int)]) (by unfold maxLen; omega) (by omega) ?_); intro v1 w3 hs1 hf1; obtain ⟨a1, cap1, rfl, _⟩ := hs1.shape; have hg1 := (H2.out.1.alloc _).appFree_g hf1; have HS1 := Lib.hid (And.intro hs1 hf1); clear hs1 hf1; rw [heap_alloc_old _ (lt_of_heap H2.out.1.hg), H2.out.1.hg] at hg1; have e1 := cell_of_heap hg1 1; have e2 := fro_of_heap hg1 1; simp at e1; clear hg1))
    obtain ⟨hs1, hf1⟩ := HS1.out
    have hO3 := RowsO.appFree (free' := free ++ [p]) (H2.out.1.alloc _) hf1 (by simpa [iv] using hs1)
    obtain ⟨w4, hw4⟩ : ∃ w4, w3.setCell ⟨g, 1, none⟩ (.slice a1 (free.length + 1) cap1) = w4 := ⟨_, rfl⟩
    have hx3 : w4.heap[xb]? = some (.cells #[.int .i64 id, .int .i64 q, .int .i64 B, .int .i64 A] 82 (0, 0)) := by
      rw [← hw4, heap_setCell_other (fun e => hgx e.symm)]
      exact hf1.other ((heap_alloc_old _ hxl).trans H2.out.2.2) (fun c hc => by cases hc)
    have hF4 : Fr S w w4 := by
      rw [← hw4]
      exact ((H2.out.2.1.alloc _).trans (Fr.mono hf1 fun _ _ h => h.1.1) (fun _ _ h => h)).setCell (fun _ => H2.out.1.hSg) _
    have hsz4 : w2.heap.size ≤ (w2.alloc (.cells #[.int .i64 p] 3)).heap.size ∧ w3.heap.size = w4.heap.size := by rw [← hw4]; simp [World.setCell]
    rw [hw4] at hO3 ⊢
    have hcq : cnt[q]? = some ((L q).length : Int) := HH.out.2.2.2.1 q hq
    have hlq : (L q).length ≤ 1000000 := by have := HH.out.2.2.2.2.1 q; omega
    have hlq0 : 0 < (L q).length := List.length_pos_of_mem hid
    have c3 := cell_of_heap hO3.hg 3
    have cq : w4.cell? ⟨nb2, q, none⟩ = some (.int .i64 (L q).length) := by rw [cell_of_heap hO3.hnb]; simp [iv, hcq]
    have fq := fro_of_heap hO3.hnb q
    have cx := cell_of_heap hx3 1
    simp at c3 cx
    have iq : (q : Int) < n := by omega
    have H4 := Lib.hid (And.intro hO3 (And.intro hF4 (And.intro hsz4 hcq)))
    clear hO3 hF4 hsz4 hx3 hcq hs1 hf1 e1 e2 hw4 hid
    have c2 := cell_of_heap H4.out.1.hg 2
    simp at c2
    have hgn := H4.out.1.gn
    have HMX : ∀ (X : World) (u : Value), X.heap = w4.heap → (X.setCell ⟨nb2, q, none⟩ u).heap[m2]? = some o2 := fun X u hX => by
      rw [heap_setCell_other (fun e => H4.out.1.nm e.symm), hX]; exact H4.out.1.hmo
    have HM := Lib.hid HMX
    clear HMX
    go_still_tail 10, (by kernel_rfl)
    go_wp2_with (first
      | (at_delete; refine wpList_delete_imap rfl _ _ 77 3 rfl 3 .i64 Tryz.underlying77 Tryz.underlying3 m2 rfl o2 l (HM.out _ _ rfl) H4.out.1.hmb id rfl ?_; intro o3 ho3; have HO3 := Lib.hid ho3; clear ho3))
    go_ret
    refine ⟨rfl, ?_, ?_⟩
    · have hO5 := ((H4.out.1.frame (w' := w4.drew) (fun _ _ _ => rfl)).setCount q ((L q).length - 1)).setMap HO3.out
      refine RowsAt.mono (take_at HH.out.2.1 HH.out.2.2.1 HH.out.2.2.2.1 HH.out.2.2.2.2.1 hN hn0 hn8 hq HH.out.2.2.2.2.2.2.2.2.2.2 HH.out.2.2.2.2.2.2.1 hO5.shut) fun b _ h => ?_
      rcases h with h | ⟨h1, h2⟩
      · exact Or.inl h
      · refine Or.inr ⟨by have := H2.out.2.1.size; have := H4.out.2.2.1.1; omega, ?_⟩
        have := H4.out.2.2.1.2
        simp [World.setCell]; omega
    · exact ((H4.out.2.1.drew).setCell (fun _ => H2.out.1.hSn) _).putObj (fun _ => H2.out.1.hSm) _
/-- Take (J1). -/
theorem rows_take (S : Nat → Prop) (g n : Nat) (L : Nat → List Int) (N : Nat) (id : Int) (w : World) (hG : RowsAt w S g n L N) (hN1 : N ≤ 1000000) :
    Calls Tryz.prog 92 #[.pointer (some ⟨g, 0, none⟩), .int .i64 id] w fun e w' => e = .returned (.bool (decide (0 ≤ rowOf n L id))) ∧ RowsAt w' (grow S w w') g n (del L id) N ∧ Fr S w w' := by
  by_cases h : ∃ q, q < n ∧ id ∈ L q
  · obtain ⟨q, hq, hid⟩ := h
    refine (rows_take_some S g n L N id w hG hN1 q hq hid).mono fun e w' ⟨he, hA, hF⟩ => ⟨?_, hA, hF⟩
    rw [he, rowOf_some hq hid (fun s hs h => hG.disj hq hs hid h), decide_eq_true (by omega)]
  · have hno : ∀ r, r < n → id ∉ L r := fun r hr h1 => h ⟨r, hr, h1⟩
    refine (rows_take_none S g n L N id w hG hno).mono fun e w' ⟨he, hw⟩ => ?_
    subst hw
    rw [he, rowOf_none hno, del_none (fun s hs => by
      by_cases hsn : s < n
      · exact hno s hsn hs
      · rw [hG.nil (by omega)] at hs; cases hs)]
    exact ⟨rfl, hG.mono (fun b _ h => Or.inl h), Fr.refl _ _⟩
end Go.Proofs.YtgdlndpjfejmcaaGreat
/- Layer 10 (rows): put. -/
namespace Go.Proofs.YtgdlndpjfejmcaaGreat
open Go.RowKit
set_option linter.unusedVariables false
set_option maxRecDepth 100000
/-- A place is at hand: k, which is free. -/
def Hand (S : Nat → Prop) (g n : Nat) (lk : List Lnk) (l : List (Int × Value)) (Ps : Nat → List Nat) (cnt : List Int) (w : World) (k : Nat) (wx : World) : Prop :=
  ∃ lk0 free0, RowsM wx (grow S w wx) g n lk0 free0 l cnt ∧ Good n lk0 (free0 ++ [k]) l Ps ∧ (∀ r, Ls lk0 Ps r = Ls lk Ps r) ∧ lk0.length ≤ lk.length + 1 ∧ Fr S w wx
theorem info_link : (Tryz.prog.info? 82).map (fun i => (i.zero, i.size, i.bytes)) = some (some (.agg #[.int .i64 0, .int .i64 0, .int .i64 0, .int .i64 0]), 4, 32) := by kernel_rfl
theorem snoc_of {l : List Nat} (h : 0 < l.length) : ∃ a k, l = a ++ [k] := ⟨l.dropLast, l.getLast (by intro e; simp [e] at h), (List.dropLast_concat_getLast _).symm⟩
theorem cells_new (w : World) (cs : Array Value) (T : TypeId) (j : Nat) (u : Value) (h : cs.toList[j]? = some u) : (w.alloc (.cells cs T)).cell? ((⟨w.heap.size, 0, none⟩ : Addr).add j) = some u := by
  have ha : (⟨w.heap.size, 0, none⟩ : Addr).add j = ⟨w.heap.size, j, none⟩ := by unfold Addr.add; split <;> simp_all
  rw [ha, cell_of_heap (heap_alloc_new w (.cells cs T))]
  simpa using h
theorem Hand.old {S : Nat → Prop} {g n : Nat} {lk : List Lnk} {free0 : List Nat} {l : List (Int × Value)} {Ps : Nat → List Nat} {cnt : List Int} {w wx : World} {k : Nat} (hM : RowsM wx S g n lk free0 l cnt) (hG : Good n lk (free0 ++ [k]) l Ps) (hF : Fr S w wx) : Hand S g n lk l Ps cnt w k wx := by
  obtain ⟨m, nb, lv, fv, o, hO⟩ := hM.opened
  exact ⟨lk, free0, (hO.mono fun b _ h => Or.inl h).shut, hG, fun _ => rfl, Nat.le_succ _, hF⟩
theorem ls_more {n : Nat} {lk : List Lnk} {free : List Nat} {l : List (Int × Value)} {Ps : Nat → List Nat} (h : Good n lk free l Ps) (z : Lnk) (r : Nat) : Ls (lk ++ [z]) Ps r = Ls lk Ps r := by
  unfold Ls
  apply List.map_congr_left
  intro x hx
  have : x < lk.length := by
    by_cases hr : r < n
    · exact (h.place r hr x hx).2.1
    · rw [h.none_ r (by omega)] at hx; cases hx
  unfold lI
  rw [List.getElem?_append_left this]
theorem lI_linkin {lk : List Lnk} {k : Nat} (hk : k < lk.length) (x : Lnk) (j : Nat) : lI (linkin lk k x) j = if j = k then x.id else lI lk j := by
  refine ((l_setB _ _ _ j).2.1).trans (((l_setA _ _ _ j).2.1).trans ?_)
  unfold lI
  by_cases e : j = k
  · subst e; rw [List.getElem?_set_self hk]; simp
  · rw [List.getElem?_set_ne (fun q => e q.symm), if_neg e]
theorem ls_put {n : Nat} {lk lk0 : List Lnk} {free : List Nat} {l : List (Int × Value)} {Ps : Nat → List Nat} {k r : Nat} (h : Good n lk0 (free ++ [k]) l Ps) (hr : r < n) {u v : List Nat} (huv : Ps r = u ++ v) (hLs : ∀ s, Ls lk0 Ps s = Ls lk Ps s) (id : Int) (x y : Nat) (s : Nat) :
    Ls (linkin lk0 k ⟨id, r, x, y⟩) (fun s => if s = r then u ++ k :: v else Ps s) s = if s = r then u.map (lI lk) ++ id :: v.map (lI lk) else Ls lk Ps s := by
  obtain ⟨hkn, hkl⟩ := h.fplace k (by simp)
  have hp : ∀ s p, p ∈ Ps s → p ≠ k := fun s p hp e => by
    by_cases hs : s < n
    · exact (h.place s hs p hp).2.2.2.2.2.1 (by simp [e])
    · rw [h.none_ s (by omega)] at hp; cases hp
  have hI : ∀ s p, p ∈ Ps s → lI (linkin lk0 k ⟨id, r, x, y⟩) p = lI lk p := fun s p hps => by
    rw [lI_linkin hkl, if_neg (hp s p hps)]
    have := hLs s
    unfold Ls at this
    exact List.map_inj_left.1 this p hps
  by_cases e : s = r
  · subst e
    unfold Ls
    simp only [if_pos]
    rw [List.map_append, List.map_cons, lI_linkin hkl, if_pos rfl]
    congr 1
    · exact List.map_congr_left fun p hp => hI s p (by rw [huv]; simp [hp])
    · congr 1
      exact List.map_congr_left fun p hp => hI s p (by rw [huv]; simp [hp])
  · unfold Ls
    simp only [if_neg e]
    exact List.map_congr_left fun p hp => hI s p hp
set_option maxRecDepth 100000 in
set_option maxHeartbeats 4000000 in
theorem rows_put (S : Nat → Prop) (g n : Nat) (lk : List Lnk) (free : List Nat) (l : List (Int × Value)) (Ps : Nat → List Nat) (cnt : List Int) (w : World) (hM : RowsM w S g n lk free l cnt) (hG : Good n lk free l Ps) (hlk : lk.length ≤ 1000008)
    (r : Nat) (hr : r < n) (u v : List Nat) (huv : Ps r = u ++ v) (id : Int) (hid : 0 ≤ id ∧ id ≤ 4194303) (hno : aget l id = none) (c : Int) (hc : cnt[r]? = some c) (hc0 : 0 ≤ c) (hc1 : c ≤ 1000000) :
    Calls Tryz.prog 95 #[.pointer (some ⟨g, 0, none⟩), .int .i64 r, .int .i64 id, .int .i64 (lastOr r u)] w fun e w' => e = .returned (.tuple #[]) ∧
      (∃ lk' free' l' k, RowsM w' (grow S w w') g n lk' free' l' (cnt.set r (c + 1)) ∧ Good n lk' free' l' (fun s => if s = r then u ++ k :: v else Ps s) ∧ (∀ s, Ls lk' (fun s => if s = r then u ++ k :: v else Ps s) s = if s = r then u.map (lI lk) ++ id :: v.map (lI lk) else Ls lk Ps s) ∧ lk'.length ≤ lk.length + 1) ∧ Fr S w w' := by
  obtain ⟨m, nb, lv, fv, o, hO⟩ := hM.opened
  have c0 := cell_of_heap hO.hg 0
  have c1 := cell_of_heap hO.hg 1
  have f0 := fro_of_heap hO.hg 0
  have f1 := fro_of_heap hO.hg 1
  simp at c0 c1
  have hfl : free.length ≤ 1000008 := by
    have := nodup_lt_len lk.length free hG.fnodup (fun x hx => (hG.fplace x hx).2)
    omega
  obtain ⟨fa, fcap, rfl, hfc⟩ := hO.hfr.shape
  obtain ⟨la, lcap, rfl, hlc⟩ := hO.hlk.shape
  obtain ⟨bef, hbef⟩ : ∃ bef, lastOr r u = bef := ⟨_, rfl⟩
  rw [hbef]
  have HH := Lib.hid (And.intro hO (And.intro hG (And.intro huv (And.intro hid (And.intro hno (And.intro hc (And.intro hM hbef)))))))
  clear hM hG huv hno hc hbef
  go_enter Tryz.func95, Tryz.ntmps95
  go_upto_if 22 with fail
  go_cut [8, 9] (fun s t wx => ∃ k : Nat, s = .int .i64 k ∧ Hand S g n lk l Ps cnt w k wx)
  case first =>
    by_cases hfr : 0 < free.length
    · obtain ⟨free0, k, rfl⟩ := snoc_of hfr
      have hfs := hO.hfr
      simp only [List.length_append, List.length_singleton] at hfl hfs hfc ⊢
      obtain ⟨fb, foff, fcap', hv, hSf, hfbl, _, hfx, hff⟩ := hfs.pos (by omega)
      simp at hv
      obtain ⟨rfl, rfl⟩ := hv
      have hfk := hfx free0.length (by simp)
      simp [iv] at hfk
      have hfs2 : Sl w (fun b => S b ∧ b ≠ nb) 3 1 (.slice (some ⟨fb, foff, none⟩) free0.length fcap) free0.length (free0.map fun (k : Nat) => iv (k : Int)) := by
        rw [List.map_append] at hfs
        exact Sl.front hfs
      have HS := Lib.hid (And.intro hfs2 hO)
      have hfc0 : (0 : Int) ≤ (free0.length : Int) + 1 - 1 := by omega
      have hfc1 : (free0.length : Int) < (free0.length : Int) + 1 := by omega
      have hfc2 : (free0.length : Int) ≤ fcap := by omega
      clear hfx hff hfs hfs2 hO c0 f0 hfr
      go_upto_region 3 with fail
      have hwr : IntKind.i64.wrap (free0.length : Int) = free0.length := by rw [IntKind.wrap_i64]; omega
      go_still_tail 19, (by kernel_rfl)
      go_wp2_with fail
      go_meet
      have hO1 := (HS.out.2.frame (w' := w.drew) (fun _ _ _ => rfl)).setFree (free' := free0) HS.out.1
      exact ⟨k, rfl, Hand.old hO1.shut HH.out.2.1 ((Fr.refl S w).drew.setCell (fun _ => HS.out.2.hSg) _)⟩
    · have hf0 : free = [] := List.eq_nil_of_length_eq_zero (by omega)
      subst hf0
      have HS := Lib.hid hO
      obtain ⟨i0, hi, hz0, hz1, hz2⟩ := info_parts info_link
      clear hO hfr c1 f1
      go_wp2_with (first
        | (at_builtin; go_must (refine wpList_append_sl (S := S) rfl _ _ 78 rfl 82 i0 (.agg #[.int .i64 0, .int .i64 0, .int .i64 0, .int .i64 0]) 4 32 Tryz.underlying78 hi hz0 hz1 hz2 rfl (by decide) _ lk.length _ rfl (HS.out.hlk.alloc _) ⟨_, 0, none⟩ 1 1 [.int .i64 0, .int .i64 0, .int .i64 0, .int .i64 0] rfl rfl (cells_new _ #[.int .i64 0, .int .i64 0, .int .i64 0, .int .i64 0] _) (by simp [Value.oneCell']) (by unfold maxLen; omega) (by omega) ?_); intro v1 w3 hs1 hf1; obtain ⟨a1, cap1, rfl, _⟩ := hs1.shape; have hg1 := (HS.out.alloc _).appLinks_g hf1; have HS1 := Lib.hid (And.intro hs1 hf1); clear hs1 hf1; rw [heap_alloc_old _ (lt_of_heap HS.out.hg), HS.out.hg] at hg1; have e1 := cell_of_heap hg1 0; have e2 := fro_of_heap hg1 0; simp at e1; clear hg1))
      go_meet
      obtain ⟨hs1, hf1⟩ := HS1.out
      have hO1 := RowsO.appLinks (lk' := lk ++ [⟨0, 0, 0, 0⟩]) (HS.out.alloc _) hf1 (by simpa [lcells, iv] using hs1)
      refine ⟨lk.length, rfl, lk ++ [⟨0, 0, 0, 0⟩], [], (hO1.mono fun b hb h => ?_).shut, HH.out.2.1.more _, fun r => ls_more HH.out.2.1 _ r, by simp, ?_⟩
      · exact h.imp (fun h => h) (fun ⟨h1, h2⟩ => ⟨by simp at h1; omega, by simpa [World.setCell] using h2⟩)
      · exact ((Fr.refl S w).alloc _ |>.trans (Fr.mono hf1 fun _ _ h => h.1) (fun _ _ h => h)).setCell (fun _ => HS.out.hSg) _
  case rest =>
    clear hO c0 c1 f0 f1 hfl hfc hlc
    obtain ⟨k, rfl, lk0, free0, hM0, hG0, hLs, hlen, hF0⟩ := hcut
    obtain ⟨w2, rfl⟩ : ∃ w2 : World, w2 = wc := ⟨_, rfl⟩
    obtain ⟨m2, nb2, lv2, fv2, o2, hO2⟩ := hM0.opened
    have c0 := cell_of_heap hO2.hg 0
    simp at c0
    obtain ⟨b2, off2, cap2, rfl, hSb, hb2, hcap2, hx, hf⟩ := links_at hO2.hlk (by have := hG0.len; omega)
    obtain ⟨hkn, hkl⟩ := hG0.fplace k (by simp)
    have hbm : bef ∈ r :: Ps r := by
      rw [← HH.out.2.2.2.2.2.2.2, HH.out.2.2.1]
      rcases List.mem_cons.1 (lastOr_mem r u) with q | q
      · rw [q]; simp
      · exact List.mem_cons_of_mem _ (List.mem_append_left _ q)
    have hbl : bef < lk0.length := by
      rcases List.mem_cons.1 hbm with q | q
      · have := hG0.len; omega
      · exact (hG0.place r hr bef q).2.1
    obtain ⟨hyl, _, hym, _⟩ := hG0.near hr hbm
    obtain ⟨_, _, _, e3⟩ := hx bef hbl
    obtain ⟨y, hy⟩ : ∃ y, lA lk0 bef = y := ⟨_, rfl⟩
    rw [hy] at e3 hyl hym
    obtain ⟨k0, k1, k2, k3⟩ := hx k hkl
    have q0 := hf (off2 + k * 4)
    have q1 := hf (off2 + k * 4 + 1)
    have q2 := hf (off2 + k * 4 + 2)
    have q3 := hf (off2 + k * 4 + 3)
    unfold iv at e3 k0 k1 k2 k3
    have ik : (k : Int) < lk0.length := by omega
    have ib : (bef : Int) < lk0.length := by omega
    have iy : (y : Int) < lk0.length := by omega
    have H2 := Lib.hid (And.intro hO2 (And.intro hG0 (And.intro hLs (And.intro hlen (And.intro hF0 (And.intro hy (And.intro hym hx)))))))
    clear hO2 hM0 hG0 hLs hF0 hx hf hy hym hbm
    go_upto_region 7 with fail
    have hO3 := H2.out.1.setStruct hkl ⟨id, r, bef, y⟩
    obtain ⟨w3, hw3⟩ : ∃ w3, (((w2.setCell ⟨b2, off2 + k * 4, none⟩ (.int .i64 id)).setCell ⟨b2, off2 + k * 4 + 1, none⟩ (.int .i64 r)).setCell ⟨b2, off2 + k * 4 + 2, none⟩ (.int .i64 bef)).setCell ⟨b2, off2 + k * 4 + 3, none⟩ (.int .i64 y) = w3 := ⟨_, rfl⟩
    have hO4 : RowsO w3 (grow S w w2) g n (lk0.set k ⟨id, r, bef, y⟩) free0 l cnt m2 nb2 (.slice (some ⟨b2, off2, none⟩) (lk0.set k ⟨id, r, bef, y⟩).length cap2) fv2 o2 := by
      rw [List.length_set, ← hw3]; exact hO3
    have hF3 : Fr S w w3 := by
      rw [← hw3]
      have hs : b2 < w.heap.size → S b2 := fun h => hSb.elim (fun h => h) (fun h' => by omega)
      exact ((((H2.out.2.2.2.2.1).setCell hs _).setCell hs _).setCell hs _).setCell hs _
    have hz3 : w2.heap.size = w3.heap.size := by rw [← hw3]; simp [World.setCell]
    rw [hw3]
    clear hO3 hw3 c0 e3 k0 k1 k2 k3 q0 q1 q2 q3
    have c0 := cell_of_heap hO4.hg 0
    simp at c0
    have hlen1 : (lk0.set k ⟨id, r, bef, y⟩).length = lk0.length := List.length_set
    obtain ⟨b', off', cap', hv, _, _, _, hx, hf⟩ := links_at hO4.hlk (by omega)
    simp at hv
    obtain ⟨⟨rfl, rfl⟩, rfl⟩ := hv
    obtain ⟨_, _, _, e3⟩ := hx bef (by omega)
    obtain ⟨_, _, e2, _⟩ := hx y (by omega)
    have q3 := hf (off2 + bef * 4 + 3)
    have q2 := hf (off2 + y * 4 + 2)
    unfold iv at e2 e3
    have hbg : b2 ≠ g := fun e => by
      subst e; obtain ⟨cc, hc⟩ := hO4.blk; have := hO4.hg; rw [hc] at this; simp at this
    have H3 := Lib.hid (And.intro hO4 (And.intro hF3 (And.intro hz3 (And.intro hSb hlen1))))
    clear hO4 hF3 hz3 hSb hlen1 hx hf
    have ik0 : (0 : Int) ≤ k := by omega
    have ib0 : (0 : Int) ≤ bef := by omega
    have iy0 : (0 : Int) ≤ y := by omega
    go_cut [11] (fun s wx => RowsM wx (grow S w w2) g n (linkin lk0 k ⟨id, r, bef, y⟩) free0 l cnt ∧ Fr S w wx ∧ w2.heap.size = wx.heap.size)
    case first =>
      go_region_held3 (fun w' => w'.cell? ⟨g, 0, none⟩ = some (.slice (some ⟨b2, off2, none⟩) lk0.length cap2)) (go_keep) (fail)
      all_goals
        go_wp2_with fail
        go_meet
        obtain ⟨hO4, hF3, hz3, hSb, hlen1⟩ := H3.out
        have hs : b2 < w.heap.size → S b2 := fun h => hSb.elim (fun h => h) (fun h' => by omega)
        have ht := hO4.two (i := bef) (j := y) (by omega) (by omega) k k
        refine ⟨?_, ?_, ?_⟩
        · exact (ht.frame (fun _ _ _ => rfl)).shut
        · exact ((hF3.setCell hs _).setCell hs _).drewN _
        · rw [hz3]; simp [World.setCell]
    case rest =>
      clear c0 e2 e3 q2 q3
      obtain ⟨hM5, hF5, hz5⟩ := hcut
      obtain ⟨w5, rfl⟩ : ∃ w5 : World, w5 = wc := ⟨_, rfl⟩
      obtain ⟨m5, nb5, lv5, fv5, o5, hO5⟩ := hM5.opened
      have hmo := hO5.hmo
      have hmb := hO5.hmb
      have c2 := cell_of_heap hO5.hg 2
      have c3 := cell_of_heap hO5.hg 3
      have hcr := HH.out.2.2.2.2.2.1
      have cr : w5.cell? ⟨nb5, r, none⟩ = some (.int .i64 c) := by rw [cell_of_heap hO5.hnb]; simp [iv, hcr]
      have fr := fro_of_heap hO5.hnb r
      simp at c2 c3
      have d0 := fun o' : Obj => cell_putObj (w := w5) (b := m5) o' (p := ⟨g, 3, none⟩) hO5.gm
      have d1 := fun o' : Obj => cell_putObj (w := w5) (b := m5) o' (p := ⟨nb5, r, none⟩) hO5.nm
      have d2 := fun o' : Obj => fro_putObj (w := w5) (b := m5) o' (p := ⟨nb5, r, none⟩) hO5.nm
      have H5 := Lib.hid (And.intro hO5 (And.intro hF5 (And.intro hz5 hcr)))
      have ir : (r : Int) < n := by omega
      clear hO5 hF5 hz5 hM5 hcr
      go_wp2_with (first
        | (at_mapUpdate; refine wpList_update_imap rfl _ _ _ 77 rfl 3 3 .i64 Tryz.underlying77 Tryz.underlying3 m5 rfl o5 l hmo hmb id rfl _ rfl ?_; intro o6 ho6; have HO6 := Lib.hid ho6; clear ho6))
      go_end0
      obtain ⟨hO2, hG0, hLs, hlen, hF0, hy, hym, hx⟩ := H2.out
      obtain ⟨hO5, hF5, hz5, hcr⟩ := H5.out
      obtain ⟨_, _, huv, _, hno, _, _, hbef⟩ := HH.out
      have hP := hG0.put hr huv hid hno
      rw [hbef, hy] at hP
      have hO6 := (hO5.setMap HO6.out).setCount r (c + 1)
      refine ⟨rfl, ⟨_, _, _, k, (hO6.mono fun b hb h => ?_).shut, hP, ls_put hG0 hr huv hLs _ _ _, ?_⟩, ?_⟩
      · exact h.imp (fun h => h) (fun ⟨h1, h2⟩ => ⟨h1, by simp [World.setCell]; omega⟩)
      · unfold linkin; rw [setB_len, setA_len, List.length_set]; exact hlen
      · have hgr : ∀ b, grow S w w2 b → b < w.heap.size → S b := fun b h hb => h.elim (fun h => h) (fun h' => by omega)
        exact (hF5.putObj (fun hb => hgr _ hO5.hSm hb) _).setCell (fun hb => hgr _ hO5.hSn hb) _
end Go.Proofs.YtgdlndpjfejmcaaGreat
/- Layer 10 (rows): Front. -/
namespace Go.Proofs.YtgdlndpjfejmcaaGreat
open Go.RowKit
set_option linter.unusedVariables false
set_option maxRecDepth 100000
/-- An id more, at a row's front; at its end. -/
def putF (L : Nat → List Int) (r : Nat) (id : Int) : Nat → List Int := fun s => if s = r then id :: L s else L s
def putB (L : Nat → List Int) (r : Nat) (id : Int) : Nat → List Int := fun s => if s = r then L s ++ [id] else L s
theorem put_at {w : World} {S : Nat → Prop} {g n : Nat} {L : Nat → List Int} {N : Nat} {lk lk' : List Lnk} {free free' : List Nat} {l l' : List (Int × Value)} {Ps : Nat → List Nat} {cnt : List Int} {id : Int} {r k : Nat} {u v : List Nat}
    (hG : Good n lk free l Ps) (hL : ∀ r, L r = Ls lk Ps r) (hcnt : ∀ r, r < n → cnt[r]? = some ((L r).length : Int)) (hLN : ∀ r, (L r).length ≤ N) (hN : lk.length ≤ n + N) (hn0 : 0 < n) (hn8 : n ≤ 8) (hr : r < n) (huv : Ps r = u ++ v)
    (hM : RowsM w S g n lk' free' l' (cnt.set r (((L r).length : Int) + 1))) (hG' : Good n lk' free' l' (fun s => if s = r then u ++ k :: v else Ps s))
    (hLs : ∀ s, Ls lk' (fun s => if s = r then u ++ k :: v else Ps s) s = if s = r then u.map (lI lk) ++ id :: v.map (lI lk) else Ls lk Ps s) (hlen : lk'.length ≤ lk.length + 1) :
    RowsAt w S g n (fun s => if s = r then u.map (lI lk) ++ id :: v.map (lI lk) else L s) (N + 1) := by
  have hl1 : (L r).length = (u ++ v).length := by rw [hL, ← huv]; simp [Ls]
  have hll : ∀ s, ((fun s => if s = r then u.map (lI lk) ++ id :: v.map (lI lk) else L s) s).length = if s = r then (L s).length + 1 else (L s).length := fun s => by
    by_cases e : s = r
    · subst e; simp only [if_pos]; rw [hl1]; simp; omega
    · simp only [if_neg e]
  refine ⟨_, _, _, _, _, hM, hG', fun s => ?_, fun s hs => ?_, by omega, hn0, hn8, fun s => ?_⟩
  · rw [hLs]
    by_cases e : s = r
    · simp only [if_pos e]
    · simp only [if_neg e]; exact hL s
  · rw [hll]
    by_cases e : s = r
    · subst e
      have hl : s < cnt.length := by
        rcases Nat.lt_or_ge s cnt.length with h | h
        · exact h
        · have := hcnt s hs; rw [List.getElem?_eq_none h] at this; cases this
      rw [List.getElem?_set_self hl, if_pos rfl]
      simp
    · rw [List.getElem?_set_ne (fun h => e h.symm), hcnt s hs, if_neg e]
  · rw [hll]
    have := hLN s
    split <;> omega
theorem aget_no {n : Nat} {lk : List Lnk} {free : List Nat} {l : List (Int × Value)} {Ps : Nat → List Nat} (h : Good n lk free l Ps) {id : Int} (hno : ∀ s, id ∉ Ls lk Ps s) : aget l id = none := by
  rcases ha : aget l id with _ | v
  · rfl
  · obtain ⟨r, hr, p, hp, rfl, he⟩ := h.at_ id v ha
    exact absurd (List.mem_map.2 ⟨p, hp, he⟩) (hno r)
/-- put, at the front. -/
theorem rows_putF (S : Nat → Prop) (g n : Nat) (L : Nat → List Int) (N : Nat) (r : Nat) (id : Int) (w : World) (hG : RowsAt w S g n L N) (hr : r < n) (hid : 0 ≤ id ∧ id ≤ 4194303) (hno : ∀ s, id ∉ L s) (hN1 : N < 1000000) :
    Calls Tryz.prog 95 #[.pointer (some ⟨g, 0, none⟩), .int .i64 r, .int .i64 id, .int .i64 r] w fun e w' => e = .returned (.tuple #[]) ∧ RowsAt w' (grow S w w') g n (putF L r id) (N + 1) ∧ Fr S w w' := by
  obtain ⟨lk, free, l, Ps, cnt, hM, hG, hL, hcnt, hN, hn0, hn8, hLN⟩ := hG
  refine (rows_put S g n lk free l Ps cnt w hM hG (by omega) r hr [] (Ps r) rfl id hid (aget_no hG (fun s => by rw [← hL]; exact hno s)) _ (hcnt r hr) (by omega) (by have := hLN r; omega)).mono ?_
  rintro e w' ⟨he, ⟨lk', free', l', k, hM', hG', hLs, hlen⟩, hF⟩
  refine ⟨he, ?_, hF⟩
  have := put_at hG hL hcnt hLN hN hn0 hn8 hr (u := []) (v := Ps r) rfl hM' hG' hLs hlen
  have e : (fun s => if s = r then [].map (lI lk) ++ id :: (Ps r).map (lI lk) else L s) = putF L r id := by
    funext s
    unfold putF
    by_cases e : s = r
    · subst e; simp only [if_pos]; rw [hL]; rfl
    · simp only [if_neg e]
  rw [e] at this
  exact this
theorem not_in_del (L : Nat → List Int) (id : Int) (s : Nat) : id ∉ del L id s := by simp [del]
/-- May an id be put into a row? -/
def mayIn (n : Nat) (row id : Int) : Bool := decide (0 ≤ row ∧ row < n ∧ 0 ≤ id ∧ id ≤ 4194303)
theorem mayIn_iff {n : Nat} {row id : Int} {b : Bool} (h : mayIn n row id = b) : (b = true → (0 ≤ row ∧ row < n) ∧ 0 ≤ id ∧ id ≤ 4194303) ∧ (b = false → ¬ ((0 ≤ row ∧ row < n) ∧ 0 ≤ id ∧ id ≤ 4194303)) := by
  subst h
  unfold mayIn
  exact ⟨fun h => by have := of_decide_eq_true h; exact ⟨⟨this.1, this.2.1⟩, this.2.2⟩, fun h q => of_decide_eq_false h ⟨q.1.1, q.1.2, q.2⟩⟩
set_option maxHeartbeats 1000000 in
theorem rows_front_ok (S : Nat → Prop) (g n : Nat) (L : Nat → List Int) (N : Nat) (r : Nat) (id : Int) (w : World) (hG : RowsAt w S g n L N) (hr : r < n) (hid : 0 ≤ id ∧ id ≤ 4194303) (hN1 : N < 1000000) :
    Calls Tryz.prog 93 #[.pointer (some ⟨g, 0, none⟩), .int .i64 r, .int .i64 id] w fun e w' => e = .returned (.bool true) ∧ RowsAt w' (grow S w w') g n (putF (del L id) r id) (N + 1) ∧ Fr S w w' := by
  have hn8 : n ≤ 8 := by obtain ⟨_, _, _, _, _, _, _, _, _, _, _, h, _⟩ := hG; exact h
  have HC := Lib.hid (rows_has S g n L N r w hG)
  have HT := Lib.hid (rows_take S g n L N id w hG (by omega))
  have hd : decide (0 ≤ (r : Int) ∧ (r : Int) < (n : Int)) = true := decide_eq_true (by omega)
  have HD := Lib.hid hd
  have HG := Lib.hid hG
  obtain ⟨hid0, hid1⟩ := hid
  have hid2 : decide (4194303 < id) = false := decide_eq_false (by omega)
  have hid3 : decide (id < 0) = false := decide_eq_false (by omega)
  clear hd hG
  go_enter Tryz.func93, Tryz.ntmps93
  go_wp2_with (first
    | (go_at_call 85; refine HC.out.mono ?_; rintro e w' ⟨rfl, rfl⟩; rw [HD.out])
    | (go_at_call 92; refine HT.out.mono ?_; rintro e w1 ⟨rfl, hG1, hF1⟩; have H1 := Lib.hid (And.intro hG1 hF1); clear hG1 hF1)
    | (go_at_call 95; refine (rows_putF _ g n _ N r id w1 H1.out.1 hr ⟨hid0, hid1⟩ (not_in_del L id) hN1).mono ?_; rintro e w2 ⟨rfl, hG2, hF2⟩; have H2 := Lib.hid (And.intro hG2 hF2); clear hG2 hF2))
  go_ret
  refine ⟨rfl, H2.out.1.mono (fun b hb h => ?_), H1.out.2.trans H2.out.2 (fun i hi h => h.elim (fun h => h) (fun h => by omega))⟩
  rcases h with (h | h) | h
  · exact Or.inl h
  · exact Or.inr ⟨h.1, hb⟩
  · exact Or.inr ⟨Nat.le_trans H1.out.2.size h.1, hb⟩
end Go.Proofs.YtgdlndpjfejmcaaGreat
/- Layer 10 (rows): New; what may not be. -/
namespace Go.Proofs.YtgdlndpjfejmcaaGreat
open Go.RowKit
set_option linter.unusedVariables false
set_option maxRecDepth 100000
theorem run_make_int (n : Nat) (hn : n ≤ 8) (w : World) : (Instr.makeSlice 67 (.int .i64 (n : Int)) (.int .i64 (n : Int))).run Tryz.prog w = .ok (.slice (some ⟨w.heap.size, 0, none⟩) n n) (w.alloc (.cells (List.replicate n (iv 0)).toArray 3)) := by
  obtain ⟨i, hi, hz0, hz1, hz2⟩ := info_parts info_i64
  have hb : (i.bytes : Int) * (n : Int) ≤ 281474976710656 := by rw [hz2]; omega
  have hr := run_make (P := Tryz.prog) w 67 3 i _ Tryz.underlying67 hi hz0 .i64 .i64 n n (by omega) (by omega) hb (by omega)
  simp only [Int.toNat_natCast] at hr
  rw [hr, hz1]
  have : madeCells (Value.int IntKind.i64 0).cells (n * 1) = (List.replicate n (iv 0)).toArray := by
    apply Array.toList_inj.1
    show (madeCells #[Value.int IntKind.i64 0] (n * 1)).toList = _
    rw [toList_madeCells_one, Nat.mul_one]
    rfl
  rw [this]
/-- The ends of so many rows, empty. -/
def ends (k : Nat) : List Lnk := (List.range k).map fun i => ⟨-1, i, i, i⟩
theorem ends_len (k : Nat) : (ends k).length = k := by simp [ends]
theorem ends_succ (k : Nat) : ends (k + 1) = ends k ++ [⟨-1, k, k, k⟩] := by simp [ends, List.range_succ]
theorem ends_get {k r : Nat} (h : r < k) : (ends k)[r]? = some ⟨-1, r, r, r⟩ := by simp [ends, h]
theorem ends_good (n : Nat) : Good n (ends n) [] [] (fun _ => []) := by
  refine ⟨by rw [ends_len]; omega, fun r hr => ?_, fun _ _ => List.nodup_nil, (fun _ _ _ h => by cases h), fun r hr => ?_, List.nodup_nil, (fun _ h => by cases h), List.nodup_nil, (fun _ _ h => by cases h), fun _ _ => rfl⟩
  · show lA (ends n) r = r ∧ lB (ends n) r = r
    unfold lA lB; rw [ends_get hr]; simp
  · unfold lI; rw [ends_get hr]; simp
set_option maxRecDepth 100000 in
set_option maxHeartbeats 2000000 in
theorem rows_new (n : Nat) (h1 : 1 ≤ n) (h8 : n ≤ 8) (w : World) :
    Calls Tryz.prog 23 #[.int .i64 n] w fun e w' => ∃ g, e = .returned (.pointer (some ⟨g, 0, none⟩)) ∧ RowsAt w' (fun b => w.heap.size ≤ b ∧ b < w'.heap.size) g n (fun _ => []) 0 ∧ Fr (fun _ => False) w w' := by
  have hmm := @run_makeMap Tryz.prog
  have hmk := run_make_int n h8
  have i1 : (1 : Int) ≤ n := by omega
  have i8 : decide ((8 : Int) < n) = false := decide_eq_false (by omega)
  obtain ⟨i0, hi, hz0, hz1, hz2⟩ := info_parts info_link
  go_enter Tryz.func23, Tryz.ntmps23
  go_wp2
  have hO : RowsO (((w.alloc (.map #[] 0)).alloc (.cells (List.replicate n (iv 0)).toArray 3)).alloc (.cells #[.slice none 0 0, .slice none 0 0, .map (some w.heap.size), .slice (some ⟨w.heap.size + 1, 0, none⟩) n n] 80)) (fun b => w.heap.size ≤ b) (w.heap.size + 1 + 1) n [] [] [] (List.replicate n 0) w.heap.size (w.heap.size + 1) (.slice none 0 0) (.slice none 0 0) (.map #[] 0) := by
    refine ⟨by omega, by omega, by omega, by simp, ?_, ?_, mapBlk_nil _, Sl.nil _ _ _ _, Sl.nil _ _ _ _, ?_⟩
    · have := heap_alloc_new ((w.alloc (.map #[] 0)).alloc (.cells (List.replicate n (iv 0)).toArray 3)) (.cells #[.slice none 0 0, .slice none 0 0, .map (some w.heap.size), .slice (some ⟨w.heap.size + 1, 0, none⟩) n n] 80)
      simpa using this
    · rw [heap_alloc_old _ (by simp; omega), heap_alloc_old _ (by simp), heap_alloc_new]
    · rw [heap_alloc_old _ (by simp)]
      have := heap_alloc_new (w.alloc (.map #[] 0)) (.cells (List.replicate n (iv 0)).toArray 3)
      simpa using this
  have hF : Fr (fun _ => False) w (((w.alloc (.map #[] 0)).alloc (.cells (List.replicate n (iv 0)).toArray 3)).alloc (.cells #[.slice none 0 0, .slice none 0 0, .map (some w.heap.size), .slice (some ⟨w.heap.size + 1, 0, none⟩) n n] 80)) :=
    (((Fr.refl _ w).alloc _).alloc _).alloc _
  have H0 := Lib.hid (And.intro hO hF)
  clear hO hF hmk hmm
  go_loopw [17, 4] (fun s t wr => ∃ k : Nat, k ≤ n ∧ s = .int .i64 k ∧ RowsM wr (fun b => w.heap.size ≤ b) (w.heap.size + 1 + 1) n (ends k) [] [] (List.replicate n 0) ∧ Fr (fun _ => False) w wr) (fun s _ _ => n - (intOf s).toNat)
  case atStart => exact ⟨0, by omega, rfl, H0.out.1.shut, H0.out.2⟩
  case round =>
    clear H0
    obtain ⟨k, hk, rfl, hM, hF⟩ := hrel
    by_cases hlt : k < n
    · obtain ⟨m, nb, lv, fv, o, hO⟩ := hM.opened
      have c0 := cell_of_heap hO.hg 0
      simp at c0
      obtain ⟨la, lcap, rfl, _⟩ := hO.hlk.shape
      have hel := ends_len k
      have HS := Lib.hid (And.intro hO hF)
      rw [hel] at c0
      have HE := Lib.hid hel
      clear hO hM hF hel
      go_wp2_with (first
        | (at_builtin; go_must (refine wpList_append_sl (S := fun b => w.heap.size ≤ b) rfl _ _ 78 rfl 82 i0 (.agg #[.int .i64 0, .int .i64 0, .int .i64 0, .int .i64 0]) 4 32 Tryz.underlying78 hi hz0 hz1 hz2 rfl (by decide) _ k (lcells (ends k)) rfl ((by have := HS.out.1.hlk; rw [HE.out] at this; exact this : Sl wr (fun b => w.heap.size ≤ b) 82 4 (.slice la k lcap) k (lcells (ends k))).alloc _) ⟨_, 0, none⟩ 1 1 [.int .i64 (-1), .int .i64 k, .int .i64 k, .int .i64 k] rfl rfl (cells_new _ #[.int .i64 (-1), .int .i64 k, .int .i64 k, .int .i64 k] _) (by simp [Value.oneCell']) (by unfold maxLen; omega) (by omega) ?_); intro v1 w3 hs1 hf1; obtain ⟨a1, cap1, rfl, _⟩ := hs1.shape; have hg1 := (HS.out.1.alloc _).appLinks_g hf1; have HS1 := Lib.hid (And.intro hs1 hf1); clear hs1 hf1; rw [heap_alloc_old _ (lt_of_heap HS.out.1.hg), HS.out.1.hg] at hg1; have e1 := cell_of_heap hg1 0; have e2 := fro_of_heap hg1 0; simp at e1; clear hg1))
      go_roundw
      case rel =>
        obtain ⟨hs1, hf1⟩ := HS1.out
        have hO1 := RowsO.appLinks (lk' := ends (k + 1)) (HS.out.1.alloc _) hf1 (by rw [ends_len, ends_succ]; simpa [lcells, iv] using hs1)
        refine ⟨k + 1, by omega, by go_num, (hO1.mono fun b hb h => ?_).shut, ?_⟩
        · have := HS.out.2.size
          exact h.elim (fun h => h) (fun h => by simp at h; omega)
        · have hz := HS.out.2.size
          exact ((HS.out.2.alloc _).trans hf1 (fun i hi h => by have := h.1; omega)).setCell (fun hb => by simp at hb; omega) _
      case measure => simp [intOf]; omega
    · obtain rfl : k = n := by omega
      have H1 := Lib.hid (And.intro hM hF)
      clear hM hF
      go_wp2
      go_ret
      refine ⟨_, rfl, ?_, H1.out.2⟩
      obtain ⟨m, nb, lv, fv, o, hO⟩ := H1.out.1.opened
      exact ⟨_, _, _, _, _, (hO.mono (fun b hb h => ⟨h, hb⟩)).shut, ends_good k, fun _ => rfl, fun r hr => by simp [hr], by rw [ends_len]; omega, h1, h8, fun _ => by simp⟩
theorem rows_new_no (n : Int) (h : n < 1 ∨ 8 < n) (w : World) : Calls Tryz.prog 23 #[.int .i64 n] w fun e w' => e = .returned (.pointer none) ∧ w = w' := by
  rcases h with h | h
  · go_enter Tryz.func23, Tryz.ntmps23
    go_wp2
    go_ret
    exact ⟨rfl, rfl⟩
  · have h1 : decide (n < 1) = false := decide_eq_false (by omega)
    go_enter Tryz.func23, Tryz.ntmps23
    go_wp2
    go_ret
    exact ⟨rfl, rfl⟩
end Go.Proofs.YtgdlndpjfejmcaaGreat
