/- Layer 10 (rows): put. -/
import Derived.Test.YtemdhnolccnnfaaRowsTakeW
namespace Go.Proofs.Ytemdhnolccnnfaa
open Go.RowKit
set_option linter.unusedVariables false
/-- A place is at hand: k, which is free. -/
def Hand (S : Nat → Prop) (g n : Nat) (lk : List Lnk) (l : List (Int × Value)) (Ps : Nat → List Nat) (cnt : List Int) (w : World) (k : Nat) (wx : World) : Prop :=
  ∃ lk0 free0, RowsM wx (grow S w wx) g n lk0 free0 l cnt ∧ Good n lk0 (free0 ++ [k]) l Ps ∧ (∀ r, Ls lk0 Ps r = Ls lk Ps r) ∧ lk0.length ≤ lk.length + 1 ∧ Fr S w wx
theorem info_link : (Try.prog.info? 52).map (fun i => (i.zero, i.size, i.bytes)) = some (some (.agg #[.int .i64 0, .int .i64 0, .int .i64 0, .int .i64 0]), 4, 32) := by kernel_rfl
theorem snoc_of {l : List Nat} (h : 0 < l.length) : ∃ a k, l = a ++ [k] := ⟨l.dropLast, l.getLast (by intro e; simp [e] at h), (List.dropLast_concat_getLast _).symm⟩
theorem cells_new (w : World) (cs : Array Value) (T : TypeId) (j : Nat) (u : Value) (h : cs.toList[j]? = some u) : (w.alloc (.cells cs T)).cell? ((⟨w.heap.size, 0, none⟩ : Addr).add j) = some u := by
  have ha : (⟨w.heap.size, 0, none⟩ : Addr).add j = ⟨w.heap.size, j, none⟩ := by unfold Addr.add; split <;> simp_all
  rw [ha, cell_of_heap (heap_alloc_new w (.cells cs T))]
  simpa using h
theorem Hand.old {S : Nat → Prop} {g n : Nat} {lk : List Lnk} {free0 : List Nat} {l : List (Int × Value)} {Ps : Nat → List Nat} {cnt : List Int} {w wx : World} {k : Nat} (hM : RowsM wx S g n lk free0 l cnt) (hG : Good n lk (free0 ++ [k]) l Ps) (hF : Fr S w wx) : Hand S g n lk l Ps cnt w k wx := by
  obtain ⟨m, nb, lv, fv, o, hO⟩ := hM.opened
  exact ⟨lk, free0, (hO.mono fun b _ h => Or.inl h).shut, hG, fun _ => rfl, Nat.le_succ _, hF⟩
theorem ls_more {n : Nat} {lk : List Lnk} {free : List Nat} {l : List (Int × Value)} {Ps : Nat → List Nat} (h : Good n lk free l Ps) (z : Lnk) (r : Nat) : Ls (lk ++ [z]) Ps r = Ls lk Ps r := by
  unfold Ls
  apply List.map_congr_left
  intro x hx
  have : x < lk.length := by
    by_cases hr : r < n
    · exact (h.place r hr x hx).2.1
    · rw [h.none_ r (by omega)] at hx; cases hx
  unfold lI
  rw [List.getElem?_append_left this]
theorem lI_linkin {lk : List Lnk} {k : Nat} (hk : k < lk.length) (x : Lnk) (j : Nat) : lI (linkin lk k x) j = if j = k then x.id else lI lk j := by
  refine ((l_setB _ _ _ j).2.1).trans (((l_setA _ _ _ j).2.1).trans ?_)
  unfold lI
  by_cases e : j = k
  · subst e; rw [List.getElem?_set_self hk]; simp
  · rw [List.getElem?_set_ne (fun q => e q.symm), if_neg e]
theorem ls_put {n : Nat} {lk lk0 : List Lnk} {free : List Nat} {l : List (Int × Value)} {Ps : Nat → List Nat} {k r : Nat} (h : Good n lk0 (free ++ [k]) l Ps) (hr : r < n) {u v : List Nat} (huv : Ps r = u ++ v) (hLs : ∀ s, Ls lk0 Ps s = Ls lk Ps s) (id : Int) (x y : Nat) (s : Nat) :
    Ls (linkin lk0 k ⟨id, r, x, y⟩) (fun s => if s = r then u ++ k :: v else Ps s) s = if s = r then u.map (lI lk) ++ id :: v.map (lI lk) else Ls lk Ps s := by
  obtain ⟨hkn, hkl⟩ := h.fplace k (by simp)
  have hp : ∀ s p, p ∈ Ps s → p ≠ k := fun s p hp e => by
    by_cases hs : s < n
    · exact (h.place s hs p hp).2.2.2.2.2.1 (by simp [e])
    · rw [h.none_ s (by omega)] at hp; cases hp
  have hI : ∀ s p, p ∈ Ps s → lI (linkin lk0 k ⟨id, r, x, y⟩) p = lI lk p := fun s p hps => by
    rw [lI_linkin hkl, if_neg (hp s p hps)]
    have := hLs s
    unfold Ls at this
    exact List.map_inj_left.1 this p hps
  by_cases e : s = r
  · subst e
    unfold Ls
    simp only [if_pos]
    rw [List.map_append, List.map_cons, lI_linkin hkl, if_pos rfl]
    congr 1
    · exact List.map_congr_left fun p hp => hI s p (by rw [huv]; simp [hp])
    · congr 1
      exact List.map_congr_left fun p hp => hI s p (by rw [huv]; simp [hp])
  · unfold Ls
    simp only [if_neg e]
    exact List.map_congr_left fun p hp => hI s p hp
set_option maxRecDepth 100000 in
set_option maxHeartbeats 4000000 in
theorem rows_put (S : Nat → Prop) (g n : Nat) (lk : List Lnk) (free : List Nat) (l : List (Int × Value)) (Ps : Nat → List Nat) (cnt : List Int) (w : World) (hM : RowsM w S g n lk free l cnt) (hG : Good n lk free l Ps) (hlk : lk.length ≤ 1000008)
    (r : Nat) (hr : r < n) (u v : List Nat) (huv : Ps r = u ++ v) (id : Int) (hid : 0 ≤ id ∧ id ≤ 4194303) (hno : aget l id = none) (c : Int) (hc : cnt[r]? = some c) (hc0 : 0 ≤ c) (hc1 : c ≤ 1000000) :
    Calls Try.prog 29 #[.pointer (some ⟨g, 0, none⟩), .int .i64 r, .int .i64 id, .int .i64 (lastOr r u)] w fun e w' => e = .returned (.tuple #[]) ∧
      (∃ lk' free' l' k, RowsM w' (grow S w w') g n lk' free' l' (cnt.set r (c + 1)) ∧ Good n lk' free' l' (fun s => if s = r then u ++ k :: v else Ps s) ∧ (∀ s, Ls lk' (fun s => if s = r then u ++ k :: v else Ps s) s = if s = r then u.map (lI lk) ++ id :: v.map (lI lk) else Ls lk Ps s) ∧ lk'.length ≤ lk.length + 1) ∧ Fr S w w' := by
  obtain ⟨m, nb, lv, fv, o, hO⟩ := hM.opened
  have c0 := cell_of_heap hO.hg 0
  have c1 := cell_of_heap hO.hg 1
  have f0 := fro_of_heap hO.hg 0
  have f1 := fro_of_heap hO.hg 1
  simp at c0 c1
  have hfl : free.length ≤ 1000008 := by
    have := nodup_lt_len lk.length free hG.fnodup (fun x hx => (hG.fplace x hx).2)
    omega
  obtain ⟨fa, fcap, rfl, hfc⟩ := hO.hfr.shape
  obtain ⟨la, lcap, rfl, hlc⟩ := hO.hlk.shape
  obtain ⟨bef, hbef⟩ : ∃ bef, lastOr r u = bef := ⟨_, rfl⟩
  rw [hbef]
  have HH := Lib.hid (And.intro hO (And.intro hG (And.intro huv (And.intro hid (And.intro hno (And.intro hc (And.intro hM hbef)))))))
  clear hM hG huv hno hc hbef
  go_enter Try.func29, Try.ntmps29
  go_upto_if 22 with fail
  go_cut [8, 9] (fun s t wx => ∃ k : Nat, s = .int .i64 k ∧ Hand S g n lk l Ps cnt w k wx)
  case first =>
    by_cases hfr : 0 < free.length
    · obtain ⟨free0, k, rfl⟩ := snoc_of hfr
      have hfs := hO.hfr
      simp only [List.length_append, List.length_singleton] at hfl hfs hfc ⊢
      obtain ⟨fb, foff, fcap', hv, hSf, hfbl, _, hfx, hff⟩ := hfs.pos (by omega)
      simp at hv
      obtain ⟨rfl, rfl⟩ := hv
      have hfk := hfx free0.length (by simp)
      simp [iv] at hfk
      have hfs2 : Sl w (fun b => S b ∧ b ≠ nb) 3 1 (.slice (some ⟨fb, foff, none⟩) free0.length fcap) free0.length (free0.map fun (k : Nat) => iv (k : Int)) := by
        rw [List.map_append] at hfs
        exact Sl.front hfs
      have HS := Lib.hid (And.intro hfs2 hO)
      have hfc0 : (0 : Int) ≤ (free0.length : Int) + 1 - 1 := by omega
      have hfc1 : (free0.length : Int) < (free0.length : Int) + 1 := by omega
      have hfc2 : (free0.length : Int) ≤ fcap := by omega
      clear hfx hff hfs hfs2 hO c0 f0 hfr
      go_upto_region 3 with fail
      have hwr : IntKind.i64.wrap (free0.length : Int) = free0.length := by rw [IntKind.wrap_i64]; omega
      go_still_tail 19, (by kernel_rfl)
      go_wp2_with fail
      go_meet
      have hO1 := (HS.out.2.frame (w' := w.drew) (fun _ _ _ => rfl)).setFree (free' := free0) HS.out.1
      exact ⟨k, rfl, Hand.old hO1.shut HH.out.2.1 ((Fr.refl S w).drew.setCell (fun _ => HS.out.2.hSg) _)⟩
    · have hf0 : free = [] := List.eq_nil_of_length_eq_zero (by omega)
      subst hf0
      have HS := Lib.hid hO
      obtain ⟨i0, hi, hz0, hz1, hz2⟩ := info_parts info_link
      clear hO hfr c1 f1
      go_wp2_with (first
        | (at_builtin; go_must (refine wpList_append_sl (S := S) rfl _ _ 48 rfl 52 i0 (.agg #[.int .i64 0, .int .i64 0, .int .i64 0, .int .i64 0]) 4 32 Try.underlying48 hi hz0 hz1 hz2 rfl (by decide) _ lk.length _ rfl (HS.out.hlk.alloc _) ⟨_, 0, none⟩ 1 1 [.int .i64 0, .int .i64 0, .int .i64 0, .int .i64 0] rfl rfl (cells_new _ #[.int .i64 0, .int .i64 0, .int .i64 0, .int .i64 0] _) (by simp [Value.oneCell']) (by unfold maxLen; omega) (by omega) ?_); intro v1 w3 hs1 hf1; obtain ⟨a1, cap1, rfl, _⟩ := hs1.shape; have hg1 := (HS.out.alloc _).appLinks_g hf1; have HS1 := Lib.hid (And.intro hs1 hf1); clear hs1 hf1; rw [heap_alloc_old _ (lt_of_heap HS.out.hg), HS.out.hg] at hg1; have e1 := cell_of_heap hg1 0; have e2 := fro_of_heap hg1 0; simp at e1; clear hg1))
      go_meet
      obtain ⟨hs1, hf1⟩ := HS1.out
      have hO1 := RowsO.appLinks (lk' := lk ++ [⟨0, 0, 0, 0⟩]) (HS.out.alloc _) hf1 (by simpa [lcells, iv] using hs1)
      refine ⟨lk.length, rfl, lk ++ [⟨0, 0, 0, 0⟩], [], (hO1.mono fun b hb h => ?_).shut, HH.out.2.1.more _, fun r => ls_more HH.out.2.1 _ r, by simp, ?_⟩
      · exact h.imp (fun h => h) (fun ⟨h1, h2⟩ => ⟨by simp at h1; omega, by simpa [World.setCell] using h2⟩)
      · exact ((Fr.refl S w).alloc _ |>.trans (Fr.mono hf1 fun _ _ h => h.1) (fun _ _ h => h)).setCell (fun _ => HS.out.hSg) _
  case rest =>
    clear hO c0 c1 f0 f1 hfl hfc hlc
    obtain ⟨k, rfl, lk0, free0, hM0, hG0, hLs, hlen, hF0⟩ := hcut
    obtain ⟨w2, rfl⟩ : ∃ w2 : World, w2 = wc := ⟨_, rfl⟩
    obtain ⟨m2, nb2, lv2, fv2, o2, hO2⟩ := hM0.opened
    have c0 := cell_of_heap hO2.hg 0
    simp at c0
    obtain ⟨b2, off2, cap2, rfl, hSb, hb2, hcap2, hx, hf⟩ := links_at hO2.hlk (by have := hG0.len; omega)
    obtain ⟨hkn, hkl⟩ := hG0.fplace k (by simp)
    have hbm : bef ∈ r :: Ps r := by
      rw [← HH.out.2.2.2.2.2.2.2, HH.out.2.2.1]
      rcases List.mem_cons.1 (lastOr_mem r u) with q | q
      · rw [q]; simp
      · exact List.mem_cons_of_mem _ (List.mem_append_left _ q)
    have hbl : bef < lk0.length := by
      rcases List.mem_cons.1 hbm with q | q
      · have := hG0.len; omega
      · exact (hG0.place r hr bef q).2.1
    obtain ⟨hyl, _, hym, _⟩ := hG0.near hr hbm
    obtain ⟨_, _, _, e3⟩ := hx bef hbl
    obtain ⟨y, hy⟩ : ∃ y, lA lk0 bef = y := ⟨_, rfl⟩
    rw [hy] at e3 hyl hym
    obtain ⟨k0, k1, k2, k3⟩ := hx k hkl
    have q0 := hf (off2 + k * 4)
    have q1 := hf (off2 + k * 4 + 1)
    have q2 := hf (off2 + k * 4 + 2)
    have q3 := hf (off2 + k * 4 + 3)
    unfold iv at e3 k0 k1 k2 k3
    have ik : (k : Int) < lk0.length := by omega
    have ib : (bef : Int) < lk0.length := by omega
    have iy : (y : Int) < lk0.length := by omega
    have H2 := Lib.hid (And.intro hO2 (And.intro hG0 (And.intro hLs (And.intro hlen (And.intro hF0 (And.intro hy (And.intro hym hx)))))))
    clear hO2 hM0 hG0 hLs hF0 hx hf hy hym hbm
    go_upto_region 7 with fail
    have hO3 := H2.out.1.setStruct hkl ⟨id, r, bef, y⟩
    obtain ⟨w3, hw3⟩ : ∃ w3, (((w2.setCell ⟨b2, off2 + k * 4, none⟩ (.int .i64 id)).setCell ⟨b2, off2 + k * 4 + 1, none⟩ (.int .i64 r)).setCell ⟨b2, off2 + k * 4 + 2, none⟩ (.int .i64 bef)).setCell ⟨b2, off2 + k * 4 + 3, none⟩ (.int .i64 y) = w3 := ⟨_, rfl⟩
    have hO4 : RowsO w3 (grow S w w2) g n (lk0.set k ⟨id, r, bef, y⟩) free0 l cnt m2 nb2 (.slice (some ⟨b2, off2, none⟩) (lk0.set k ⟨id, r, bef, y⟩).length cap2) fv2 o2 := by
      rw [List.length_set, ← hw3]; exact hO3
    have hF3 : Fr S w w3 := by
      rw [← hw3]
      have hs : b2 < w.heap.size → S b2 := fun h => hSb.elim (fun h => h) (fun h' => by omega)
      exact ((((H2.out.2.2.2.2.1).setCell hs _).setCell hs _).setCell hs _).setCell hs _
    have hz3 : w2.heap.size = w3.heap.size := by rw [← hw3]; simp [World.setCell]
    rw [hw3]
    clear hO3 hw3 c0 e3 k0 k1 k2 k3 q0 q1 q2 q3
    have c0 := cell_of_heap hO4.hg 0
    simp at c0
    have hlen1 : (lk0.set k ⟨id, r, bef, y⟩).length = lk0.length := List.length_set
    obtain ⟨b', off', cap', hv, _, _, _, hx, hf⟩ := links_at hO4.hlk (by omega)
    simp at hv
    obtain ⟨⟨rfl, rfl⟩, rfl⟩ := hv
    obtain ⟨_, _, _, e3⟩ := hx bef (by omega)
    obtain ⟨_, _, e2, _⟩ := hx y (by omega)
    have q3 := hf (off2 + bef * 4 + 3)
    have q2 := hf (off2 + y * 4 + 2)
    unfold iv at e2 e3
    have hbg : b2 ≠ g := fun e => by
      subst e; obtain ⟨cc, hc⟩ := hO4.blk; have := hO4.hg; rw [hc] at this; simp at this
    have H3 := Lib.hid (And.intro hO4 (And.intro hF3 (And.intro hz3 (And.intro hSb hlen1))))
    clear hO4 hF3 hz3 hSb hlen1 hx hf
    have ik0 : (0 : Int) ≤ k := by omega
    have ib0 : (0 : Int) ≤ bef := by omega
    have iy0 : (0 : Int) ≤ y := by omega
    go_cut [11] (fun s wx => RowsM wx (grow S w w2) g n (linkin lk0 k ⟨id, r, bef, y⟩) free0 l cnt ∧ Fr S w wx ∧ w2.heap.size = wx.heap.size)
    case first =>
      go_region_held3 (fun w' => w'.cell? ⟨g, 0, none⟩ = some (.slice (some ⟨b2, off2, none⟩) lk0.length cap2)) (go_keep) (fail)
      all_goals
        go_wp2_with fail
        go_meet
        obtain ⟨hO4, hF3, hz3, hSb, hlen1⟩ := H3.out
        have hs : b2 < w.heap.size → S b2 := fun h => hSb.elim (fun h => h) (fun h' => by omega)
        have ht := hO4.two (i := bef) (j := y) (by omega) (by omega) k k
        refine ⟨?_, ?_, ?_⟩
        · exact (ht.frame (fun _ _ _ => rfl)).shut
        · exact ((hF3.setCell hs _).setCell hs _).drewN _
        · rw [hz3]; simp [World.setCell]
    case rest =>
      clear c0 e2 e3 q2 q3
      obtain ⟨hM5, hF5, hz5⟩ := hcut
      obtain ⟨w5, rfl⟩ : ∃ w5 : World, w5 = wc := ⟨_, rfl⟩
      obtain ⟨m5, nb5, lv5, fv5, o5, hO5⟩ := hM5.opened
      have hmo := hO5.hmo
      have hmb := hO5.hmb
      have c2 := cell_of_heap hO5.hg 2
      have c3 := cell_of_heap hO5.hg 3
      have hcr := HH.out.2.2.2.2.2.1
      have cr : w5.cell? ⟨nb5, r, none⟩ = some (.int .i64 c) := by rw [cell_of_heap hO5.hnb]; simp [iv, hcr]
      have fr := fro_of_heap hO5.hnb r
      simp at c2 c3
      have d0 := fun o' : Obj => cell_putObj (w := w5) (b := m5) o' (p := ⟨g, 3, none⟩) hO5.gm
      have d1 := fun o' : Obj => cell_putObj (w := w5) (b := m5) o' (p := ⟨nb5, r, none⟩) hO5.nm
      have d2 := fun o' : Obj => fro_putObj (w := w5) (b := m5) o' (p := ⟨nb5, r, none⟩) hO5.nm
      have H5 := Lib.hid (And.intro hO5 (And.intro hF5 (And.intro hz5 hcr)))
      have ir : (r : Int) < n := by omega
      clear hO5 hF5 hz5 hM5 hcr
      go_wp2_with (first
        | (at_mapUpdate; refine wpList_update_imap rfl _ _ _ 47 rfl 3 3 .i64 Try.underlying47 Try.underlying3 m5 rfl o5 l hmo hmb id rfl _ rfl ?_; intro o6 ho6; have HO6 := Lib.hid ho6; clear ho6))
      go_end0
      obtain ⟨hO2, hG0, hLs, hlen, hF0, hy, hym, hx⟩ := H2.out
      obtain ⟨hO5, hF5, hz5, hcr⟩ := H5.out
      obtain ⟨_, _, huv, _, hno, _, _, hbef⟩ := HH.out
      have hP := hG0.put hr huv hid hno
      rw [hbef, hy] at hP
      have hO6 := (hO5.setMap HO6.out).setCount r (c + 1)
      refine ⟨rfl, ⟨_, _, _, k, (hO6.mono fun b hb h => ?_).shut, hP, ls_put hG0 hr huv hLs _ _ _, ?_⟩, ?_⟩
      · exact h.imp (fun h => h) (fun ⟨h1, h2⟩ => ⟨h1, by simp [World.setCell]; omega⟩)
      · unfold linkin; rw [setB_len, setA_len, List.length_set]; exact hlen
      · have hgr : ∀ b, grow S w w2 b → b < w.heap.size → S b := fun b h hb => h.elim (fun h => h) (fun h' => by omega)
        exact (hF5.putObj (fun hb => hgr _ hO5.hSm hb) _).setCell (fun hb => hgr _ hO5.hSn hb) _
end Go.Proofs.Ytemdhnolccnnfaa
