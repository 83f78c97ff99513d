/- Layer 12 (seglru) in memory: rows, and who is active. -/
import Derived.Test.YtgdlndpjfejmcaaGreatPRd
import Derived.WalkSpells
import Derived.WalkLawsBesides
namespace Go.Proofs.YtgdlndpjfejmcaaGreat.Seg
open Go.RowKit
set_option linter.unusedVariables false
set_option maxRecDepth 100000
structure SegO (w : World) (S : Nat → Prop) (p : Nat) (L : Nat → List Int) (A : Int → Bool) (N g m : Nat) (l : List (Int × Value)) (o : Obj) (Sr : Nat → Prop) : Prop where
  hSp : S p
  hSm : S m
  hSr : ∀ b, Sr b → S b
  hpr : ¬ Sr p
  hmr : ¬ Sr m
  hp : w.heap[p]? = some (.cells #[.pointer (some ⟨g, 0, none⟩), .map (some m)] 85 (0, 0))
  hmo : w.heap[m]? = some o
  hmb : MapBlk .i64 l o
  hl : ∀ k v, aget l k = some v → v = .bool true
  hA : ∀ k, A k = (aget l k).isSome
  hR : RowsAt w Sr g 3 L N
def SegAt (w : World) (S : Nat → Prop) (p : Nat) (L : Nat → List Int) (A : Int → Bool) (N : Nat) : Prop := ∃ g m l o Sr, SegO w S p L A N g m l o Sr
/-- Who is active behind a change. -/
def setB' (A : Int → Bool) (id : Int) (b : Bool) : Int → Bool := fun k => if k = id then b else A k
section
variable {w w' : World} {S : Nat → Prop} {p : Nat} {L L' : Nat → List Int} {A : Int → Bool} {N N' g m : Nat} {l : List (Int × Value)} {o : Obj} {Sr : Nat → Prop}
theorem SegO.pm (h : SegO w S p L A N g m l o Sr) : p ≠ m := fun e => by
  subst e; obtain ⟨es, clk, e, _⟩ := h.hmb; have h1 := h.hp; rw [h.hmo, e] at h1; cases h1
theorem SegO.frame (h : SegO w S p L A N g m l o Sr) (hf : ∀ b, b < w.heap.size → S b → w'.heap[b]? = w.heap[b]?) : SegO w' S p L A N g m l o Sr :=
  ⟨h.hSp, h.hSm, h.hSr, h.hpr, h.hmr, (hf p (lt_of_heap h.hp) h.hSp).trans h.hp, (hf m (lt_of_heap h.hmo) h.hSm).trans h.hmo, h.hmb, h.hl, h.hA, h.hR.frame fun b hb hS => hf b hb (h.hSr b hS)⟩
theorem SegAt.frame (h : SegAt w S p L A N) (hf : ∀ b, b < w.heap.size → S b → w'.heap[b]? = w.heap[b]?) : SegAt w' S p L A N := by
  obtain ⟨g, m, l, o, Sr, h⟩ := h; exact ⟨g, m, l, o, Sr, h.frame hf⟩
theorem SegAt.mono {S' : Nat → Prop} (h : SegAt w S p L A N) (hS : ∀ b, b < w.heap.size → S b → S' b) : SegAt w S' p L A N := by
  obtain ⟨g, m, l, o, Sr, h⟩ := h
  exact ⟨g, m, l, o, fun b => Sr b ∧ b < w.heap.size, hS _ (lt_of_heap h.hp) h.hSp, hS _ (lt_of_heap h.hmo) h.hSm, fun b q => hS b q.2 (h.hSr b q.1), fun q => h.hpr q.1, fun q => h.hmr q.1, h.hp, h.hmo, h.hmb, h.hl, h.hA, h.hR.mono fun b hb q => ⟨q, hb⟩⟩
theorem SegAt.more (h : SegAt w S p L A N) (hN : N ≤ N') : SegAt w S p L A N' := by
  obtain ⟨g, m, l, o, Sr, h⟩ := h
  exact ⟨g, m, l, o, Sr, h.hSp, h.hSm, h.hSr, h.hpr, h.hmr, h.hp, h.hmo, h.hmb, h.hl, h.hA, h.hR.more hN⟩
/-- The rows turn. -/
theorem SegO.rows (h : SegO w S p L A N g m l o Sr) (hR : RowsAt w' (grow Sr w w') g 3 L' N') (hF : Fr Sr w w') : SegO w' (grow S w w') p L' A N' g m l o (grow Sr w w') :=
  ⟨Or.inl h.hSp, Or.inl h.hSm, fun b q => q.imp (h.hSr b) (fun q => q), fun q => q.elim h.hpr (fun q => by have := lt_of_heap h.hp; omega), fun q => q.elim h.hmr (fun q => by have := lt_of_heap h.hmo; omega),
   (hF.block p (lt_of_heap h.hp) h.hpr).trans h.hp, (hF.block m (lt_of_heap h.hmo) h.hmr).trans h.hmo, h.hmb, h.hl, h.hA, hR⟩
theorem SegO.fr (h : SegO w S p L A N g m l o Sr) (hF : Fr Sr w w') : Fr S w w' := hF.mono fun b _ q => h.hSr b q
/-- The map turns. -/
theorem SegO.map {l' : List (Int × Value)} {o' : Obj} {A' : Int → Bool} (h : SegO w S p L A N g m l o Sr) (ho : MapBlk .i64 l' o') (hl : ∀ k v, aget l' k = some v → v = .bool true) (hA : ∀ k, A' k = (aget l' k).isSome) : SegO (w.putObj m o') S p L A' N g m l' o' Sr :=
  ⟨h.hSp, h.hSm, h.hSr, h.hpr, h.hmr, (World.putObj_heap_other h.pm).trans h.hp, World.putObj_heap_same (lt_of_heap h.hmo), ho, hl, hA,
   h.hR.frame fun b hb q => World.putObj_heap_other fun e => h.hmr (e ▸ q)⟩
theorem SegO.on {o' : Obj} (h : SegO w S p L A N g m l o Sr) (id : Int) (ho : MapBlk .i64 (aset l id (.bool true)) o') : SegO (w.putObj m o') S p L (setB' A id true) N g m (aset l id (.bool true)) o' Sr :=
  h.map ho (fun k v q => by rw [aget_aset h.hmb.keys] at q; split at q; exact (Option.some.inj q).symm; exact h.hl k v q)
    (fun k => by rw [aget_aset h.hmb.keys]; unfold setB'; split; rfl; exact h.hA k)
theorem SegO.off {o' : Obj} (h : SegO w S p L A N g m l o Sr) (id : Int) (ho : MapBlk .i64 (adel l id) o') : SegO (w.putObj m o') S p L (setB' A id false) N g m (adel l id) o' Sr :=
  h.map ho (fun k v q => by rw [aget_adel h.hmb.keys] at q; split at q; cases q; exact h.hl k v q)
    (fun k => by rw [aget_adel h.hmb.keys]; unfold setB'; split; rfl; exact h.hA k)
theorem SegO.val (h : SegO w S p L A N g m l o Sr) (k : Int) : (aget l k).getD (.bool false) = .bool (A k) := by
  rw [h.hA k]
  rcases e : aget l k with _ | v
  · rfl
  · rw [h.hl k v e]; rfl
theorem SegO.shut (h : SegO w S p L A N g m l o Sr) : SegAt w S p L A N := ⟨g, m, l, o, Sr, h⟩
theorem SegAt.rowsAt (h : SegAt w S p L A N) : ∃ g Sr, RowsAt w Sr g 3 L N ∧ w.cell? ⟨p, 0, none⟩ = some (.pointer (some ⟨g, 0, none⟩)) ∧ (∀ b, Sr b → S b) := by
  obtain ⟨g, m, l, o, Sr, h⟩ := h
  have c0 := cell_of_heap h.hp 0
  simp at c0
  exact ⟨g, Sr, h.hR, c0, h.hSr⟩
end
end Go.Proofs.YtgdlndpjfejmcaaGreat.Seg
/- Layer 12 (seglru): what each call does. -/
namespace Go.Proofs.YtgdlndpjfejmcaaGreat.Seg
open Go.RowKit
set_option linter.unusedVariables false
set_option maxRecDepth 100000
theorem zero_bool (w : World) : (zeroValue 4).run Tryz.prog w = .ok (.bool false) w := by kernel_rfl
theorem seg_new (w : World) :
    Calls Tryz.prog 24 #[] w fun e w' => ∃ p, e = .returned (.pointer (some ⟨p, 0, none⟩)) ∧ SegAt w' (fun b => w.heap.size ≤ b ∧ b < w'.heap.size) p (fun _ => []) (fun _ => false) 0 ∧ Fr (fun _ => False) w w' := by
  have hmm := @run_makeMap Tryz.prog
  go_enter Tryz.func24, Tryz.ntmps24
  go_wp2_with fail
  refine (rows_new 3 (by decide) (by decide) w).mono ?_
  rintro e w1 ⟨g, rfl, hA, hF⟩
  have H1 := Lib.hid (And.intro hA hF)
  clear hA hF
  go_wp2
  go_ret
  obtain ⟨hA, hF⟩ := H1.out
  have hz := hF.size
  refine ⟨_, rfl, ⟨g, w1.heap.size, [], .map #[] 0, fun b => w.heap.size ≤ b ∧ b < w1.heap.size, ?_, ?_, ?_, ?_, ?_, ?_, ?_, mapBlk_nil _, (fun k v h => by cases h), (fun k => rfl), ?_⟩, (hF.alloc _).alloc _⟩
  · simp; omega
  · simp; omega
  · intro b q; simp; omega
  · exact fun q => absurd q.2 (by simp)
  · exact fun q => absurd q.2 (by simp)
  · have := heap_alloc_new (w1.alloc (.map #[] 0)) (.cells #[.pointer (some ⟨g, 0, none⟩), .map (some w1.heap.size)] 85)
    simpa using this
  · rw [heap_alloc_old _ (by simp), heap_alloc_new]
  · exact hA.frame fun b hb _ => by rw [heap_alloc_old _ (by simp; omega), heap_alloc_old _ hb]
theorem seg_insert (S : Nat → Prop) (p : Nat) (L : Nat → List Int) (A : Int → Bool) (N : Nat) (id : Int) (w : World) (h : SegAt w S p L A N) (hN : N < 1000000) :
    Calls Tryz.prog 96 #[.pointer (some ⟨p, 0, none⟩), .int .i64 id] w fun e w' =>
      e = .returned (.bool (decide (rowOf 3 L id < 0) && mayIn 3 0 id)) ∧ SegAt w' (grow S w w') p (if rowOf 3 L id < 0 then frontL 3 L 0 id else L) A (N + 1) ∧ Fr S w w' := by
  obtain ⟨g, m, l, o, Sr, h⟩ := h
  have c0 := cell_of_heap h.hp 0
  simp at c0
  have HC := Lib.hid (rows_row Sr g 3 L N id w h.hR)
  have HF := Lib.hid (rows_front Sr g 3 L N 0 id w h.hR hN)
  have HH := Lib.hid h
  clear h
  by_cases hr : rowOf 3 L id < 0
  · have hd : decide (rowOf 3 L id < 0) = true := decide_eq_true hr
    rw [hd, if_pos hr]
    obtain ⟨ro, hro⟩ : ∃ ro, rowOf 3 L id = ro := ⟨_, rfl⟩
    rw [hro] at hr HC
    obtain ⟨bm, hbm⟩ : ∃ bm, mayIn 3 0 id = bm := ⟨_, rfl⟩
    rw [hbm] at HF ⊢
    clear hd hro hbm
    go_enter Tryz.func96, Tryz.ntmps96
    go_wp2_with fail
    refine HC.out.mono ?_
    rintro e w1 ⟨rfl, rfl⟩
    go_wp2_with fail
    refine HF.out.mono ?_
    rintro e w1 ⟨rfl, hA, hF⟩
    have H1 := Lib.hid (And.intro hA hF)
    clear hA hF
    go_wp2
    go_ret
    exact ⟨rfl, (HH.out.rows H1.out.1 H1.out.2).shut, HH.out.fr H1.out.2⟩
  · have hd : decide (rowOf 3 L id < 0) = false := decide_eq_false hr
    rw [hd, if_neg hr]
    obtain ⟨ro, hro⟩ : ∃ ro, rowOf 3 L id = ro := ⟨_, rfl⟩
    rw [hro] at hr HC
    clear hd hro
    go_enter Tryz.func96, Tryz.ntmps96
    go_wp2_with fail
    refine HC.out.mono ?_
    rintro e w1 ⟨rfl, rfl⟩
    go_wp2
    go_ret
    exact ⟨rfl, (HH.out.shut.mono fun b _ q => Or.inl q).more (Nat.le_succ _), Fr.refl _ _⟩
theorem seg_touch (S : Nat → Prop) (p : Nat) (L : Nat → List Int) (A : Int → Bool) (N : Nat) (id : Int) (w : World) (h : SegAt w S p L A N) :
    Calls Tryz.prog 99 #[.pointer (some ⟨p, 0, none⟩), .int .i64 id] w fun e w' =>
      e = .returned (.bool (decide (0 ≤ rowOf 3 L id))) ∧ SegAt w' S p L (if 0 ≤ rowOf 3 L id then setB' A id true else A) N ∧ Fr S w w' := by
  obtain ⟨g, m, l, o, Sr, h⟩ := h
  have c0 := cell_of_heap h.hp 0
  have c1 := cell_of_heap h.hp 1
  simp at c0 c1
  have HC := Lib.hid (rows_row Sr g 3 L N id w h.hR)
  have hmo := h.hmo
  have hmb := h.hmb
  have HH := Lib.hid h
  clear h
  by_cases hr : 0 ≤ rowOf 3 L id
  · have hd : decide (0 ≤ rowOf 3 L id) = true := decide_eq_true hr
    rw [hd, if_pos hr]
    obtain ⟨ro, hro⟩ : ∃ ro, rowOf 3 L id = ro := ⟨_, rfl⟩
    rw [hro] at hr HC
    have hr2 : decide (ro < 0) = false := decide_eq_false (by omega)
    clear hd hro
    go_enter Tryz.func99, Tryz.ntmps99
    go_wp2_with (first
      | (go_at_call 84; refine HC.out.mono ?_; rintro e w1 ⟨rfl, rfl⟩)
      | (at_mapUpdate; refine wpList_update_imap rfl _ _ _ 83 rfl 3 4 .i64 Tryz.underlying83 Tryz.underlying3 m rfl o l hmo hmb id rfl _ rfl ?_; intro o6 ho6; have HO6 := Lib.hid ho6; clear ho6))
    go_ret
    exact ⟨rfl, (HH.out.on id HO6.out).shut, (Fr.refl S w).putObj (fun _ => HH.out.hSm) _⟩
  · have hd : decide (0 ≤ rowOf 3 L id) = false := decide_eq_false hr
    rw [hd, if_neg hr]
    obtain ⟨ro, hro⟩ : ∃ ro, rowOf 3 L id = ro := ⟨_, rfl⟩
    rw [hro] at hr HC
    have hr2 : ro < 0 := by omega
    clear hd hro
    go_enter Tryz.func99, Tryz.ntmps99
    go_wp2_with (go_at_call 84; refine HC.out.mono ?_; rintro e w1 ⟨rfl, rfl⟩)
    go_ret
    exact ⟨rfl, HH.out.shut, Fr.refl _ _⟩
theorem seg_remove (S : Nat → Prop) (p : Nat) (L : Nat → List Int) (A : Int → Bool) (N : Nat) (id : Int) (w : World) (h : SegAt w S p L A N) (hN : N ≤ 1000000) :
    Calls Tryz.prog 97 #[.pointer (some ⟨p, 0, none⟩), .int .i64 id] w fun e w' =>
      e = .returned (.bool (decide (0 ≤ rowOf 3 L id))) ∧ SegAt w' (grow S w w') p (del L id) (setB' A id false) N ∧ Fr S w w' := by
  obtain ⟨g, m, l, o, Sr, h⟩ := h
  have c0 := cell_of_heap h.hp 0
  have c1 := cell_of_heap h.hp 1
  simp at c0 c1
  have hmo := h.hmo
  have hmb := h.hmb
  have d0 := fun o' : Obj => cell_putObj (w := w) (b := m) o' (p := ⟨p, 0, none⟩) h.pm
  have HH := Lib.hid h
  clear h
  go_enter Tryz.func97, Tryz.ntmps97
  go_wp2_with (first
    | (at_delete; refine wpList_delete_imap rfl _ _ 83 3 rfl 4 .i64 Tryz.underlying83 Tryz.underlying3 m rfl o l hmo hmb id rfl ?_; intro o3 ho3; have HO := Lib.hid (HH.out.off id ho3); clear ho3)
    | (go_at_call 92; refine (rows_take Sr g 3 L N id _ HO.out.hR hN).mono ?_; rintro e w1 ⟨rfl, hA, hF⟩; have H1 := Lib.hid (And.intro hA hF); clear hA hF))
  go_ret
  have hsz : (w.putObj m o3).heap.size = w.heap.size := by simp
  refine ⟨rfl, (HO.out.rows H1.out.1 H1.out.2).shut.mono (fun b _ q => q.imp (fun q => q) (fun q => by rw [hsz] at q; exact q)), ?_⟩
  exact ((Fr.refl S w).putObj (fun _ => HH.out.hSm) o3).trans (HO.out.fr H1.out.2) (fun _ _ q => q)
end Go.Proofs.YtgdlndpjfejmcaaGreat.Seg
/- Layer 12 (seglru): who goes, and steps. -/
namespace Go.Proofs.YtgdlndpjfejmcaaGreat.Seg
open Go.RowKit
set_option linter.unusedVariables false
set_option maxRecDepth 100000
/-- Who goes next. -/
def vict (L : Nat → List Int) : Int := if 0 ≤ lastOf (L 2) then lastOf (L 2) else if 0 ≤ lastOf (L 1) then lastOf (L 1) else lastOf (L 0)
/-- How many stand. -/
def tot (L : Nat → List Int) : Nat := (L 0).length + (L 1).length + (L 2).length
/-- Who a step is about. -/
def whoF (L : Nat → List Int) (A : Int → Bool) : Int :=
  if 20 * tot L / 100 < (L 0).length then lastOf (L 0) else if 40 * tot L / 100 < (L 1).length then lastOf (L 1) else if A (lastOf (L 2)) = true then lastOf (L 2) else -1
theorem rowL_2 (L : Nat → List Int) : rowL L 2 = L 2 := rowL_nat L 2
set_option maxHeartbeats 1000000 in
theorem seg_victim (S : Nat → Prop) (p : Nat) (L : Nat → List Int) (A : Int → Bool) (N : Nat) (w : World) (h : SegAt w S p L A N) :
    Calls Tryz.prog 100 #[.pointer (some ⟨p, 0, none⟩)] w fun e w' => e = .returned (.int .i64 (vict L)) ∧ ∃ k, w' = w.drewN k := by
  obtain ⟨g, m, l, o, Sr, h⟩ := h
  have c0 := cell_of_heap h.hp 0
  simp at c0
  have HR := Lib.hid h.hR
  have l0 := rows_last Sr g 3 L N 0 w h.hR
  have L0 := fun k => rows_last Sr g 3 L N 0 (w.drewN k) (row_drewN h.hR k)
  have L1 := fun k => rows_last Sr g 3 L N 1 (w.drewN k) (row_drewN h.hR k)
  have L2 := fun k => rows_last Sr g 3 L N 2 (w.drewN k) (row_drewN h.hR k)
  rw [rowL_0] at L0
  rw [rowL_1] at L1
  rw [rowL_2] at L2
  have HL := Lib.hid (And.intro L0 (And.intro L1 L2))
  obtain ⟨v0, h0⟩ : ∃ v, lastOf (L 0) = v := ⟨_, rfl⟩
  obtain ⟨v1, h1⟩ : ∃ v, lastOf (L 1) = v := ⟨_, rfl⟩
  obtain ⟨v2, h2⟩ : ∃ v, lastOf (L 2) = v := ⟨_, rfl⟩
  rw [h0, h1, h2] at HL
  have hv : vict L = if 0 ≤ v2 then v2 else if 0 ≤ v1 then v1 else v0 := by unfold vict; rw [h0, h1, h2]
  rw [hv]
  have hc : 0 ≤ v2 ∨ (v2 < 0 ∧ 0 ≤ v1) ∨ (v2 < 0 ∧ v1 < 0) := by omega
  clear h l0 L0 L1 L2 h0 h1 h2 hv
  go_enter Tryz.func100, Tryz.ntmps100
  go_wp2_with fail
  go_loopw [3, 4] (fun s t wr => ∃ k q : Nat, k ≤ 2 ∧ s = .int .i64 k ∧ (k ≤ 1 → v2 < 0) ∧ (k = 0 → v1 < 0) ∧ wr = w.drewN q) (fun s _ _ => (intOf s).toNat)
  case atStart => exact ⟨2, 0, by omega, rfl, by omega, by omega, rfl⟩
  case round =>
    obtain ⟨k, q, hk, rfl, hk1, hk0, rfl⟩ := hrel
    have c0' : (w.drewN q).cell? ⟨p, 0, none⟩ = some (.pointer (some ⟨g, 0, none⟩)) := c0
    match k, hk with
    | 2, _ =>
      rcases hc with h | h
      · go_wp2_with fail
        refine (HL.out.2.2 q).mono ?_
        rintro e w1 ⟨rfl, k1, rfl⟩
        go_wp2
        go_ret
        exact ⟨rfl, _, rfl⟩
      · have hlt : v2 < 0 := by omega
        go_wp2_with fail
        refine (HL.out.2.2 q).mono ?_
        rintro e w1 ⟨rfl, k1, rfl⟩
        go_wp2
        go_roundw
        case rel => exact ⟨1, _, by omega, rfl, fun _ => hlt, by omega, rfl⟩
        case measure => simp [intOf]
    | 1, _ =>
      have h2 := hk1 (by omega)
      by_cases h : 0 ≤ v1
      · go_wp2_with fail
        refine (HL.out.2.1 q).mono ?_
        rintro e w1 ⟨rfl, k1, rfl⟩
        go_wp2
        go_ret
        exact ⟨rfl, _, rfl⟩
      · have hlt : v1 < 0 := by omega
        go_wp2_with fail
        refine (HL.out.2.1 q).mono ?_
        rintro e w1 ⟨rfl, k1, rfl⟩
        go_wp2
        go_roundw
        case rel => exact ⟨0, _, by omega, rfl, fun _ => h2, fun _ => hlt, rfl⟩
        case measure => simp [intOf]
    | 0, _ =>
      have h2 := hk1 (by omega)
      have h1 := hk0 rfl
      go_wp2_with fail
      refine (HL.out.1 q).mono ?_
      rintro e w1 ⟨rfl, k1, rfl⟩
      go_wp2
      go_ret
      exact ⟨rfl, _, rfl⟩
theorem len_same {w : World} {S : Nat → Prop} {g n : Nat} {L : Nat → List Int} {N : Nat} (h : RowsAt w S g n L N) (row : Int) :
    Calls Tryz.prog 83 #[.pointer (some ⟨g, 0, none⟩), .int .i64 row] w fun e w' => e = .returned (.int .i64 (rowL L row).length) ∧ w' = w := (rows_len S g n L N row w h).mono fun _ _ ⟨a, b⟩ => ⟨a, b.symm⟩
set_option maxHeartbeats 1000000 in
theorem seg_who (S : Nat → Prop) (p : Nat) (L : Nat → List Int) (A : Int → Bool) (N : Nat) (w : World) (h : SegAt w S p L A N) (hN : N ≤ 1000000) :
    Calls Tryz.prog 105 #[.pointer (some ⟨p, 0, none⟩)] w fun e w' => e = .returned (.int .i64 (whoF L A)) ∧ ∃ k, w' = w.drewN k := by
  obtain ⟨g, m, l, o, Sr, h⟩ := h
  have c0 := cell_of_heap h.hp 0
  have c1 := cell_of_heap h.hp 1
  simp at c0 c1
  have hmo := h.hmo
  have hmb := h.hmb
  have hV := h.val
  have L0 := fun k => rows_last Sr g 3 L N 0 (w.drewN k) (row_drewN h.hR k)
  have L1 := fun k => rows_last Sr g 3 L N 1 (w.drewN k) (row_drewN h.hR k)
  have L2 := fun k => rows_last Sr g 3 L N 2 (w.drewN k) (row_drewN h.hR k)
  have NN := fun k row => len_same (row_drewN h.hR k) row
  rw [rowL_0] at L0
  rw [rowL_1] at L1
  rw [rowL_2] at L2
  have q0 : (rowL L 0).length = (L 0).length := by rw [rowL_0]
  have q1 : (rowL L 1).length = (L 1).length := by rw [rowL_1]
  have q2 : (rowL L 2).length = (L 2).length := by rw [rowL_2]
  have b0 := h.hR.len_le 0
  have b1 := h.hR.len_le 1
  have b2 := h.hR.len_le 2
  have HL := Lib.hid (And.intro L0 (And.intro L1 (And.intro L2 (And.intro NN hV))))
  obtain ⟨v0, h0⟩ : ∃ v, lastOf (L 0) = v := ⟨_, rfl⟩
  obtain ⟨v1, h1⟩ : ∃ v, lastOf (L 1) = v := ⟨_, rfl⟩
  obtain ⟨v2, h2⟩ : ∃ v, lastOf (L 2) = v := ⟨_, rfl⟩
  obtain ⟨n0, e0⟩ : ∃ v, (L 0).length = v := ⟨_, rfl⟩
  obtain ⟨n1, e1⟩ : ∃ v, (L 1).length = v := ⟨_, rfl⟩
  obtain ⟨n2, e2⟩ : ∃ v, (L 2).length = v := ⟨_, rfl⟩
  rw [h0, h1, h2] at HL
  rw [e0] at q0
  rw [e1] at q1
  rw [e2] at q2
  have hw : whoF L A = if 20 * (n0 + n1 + n2) / 100 < n0 then v0 else if 40 * (n0 + n1 + n2) / 100 < n1 then v1 else if A v2 = true then v2 else -1 := by
    unfold whoF tot; rw [h0, h1, h2, e0, e1, e2]
  rw [hw]
  rw [e0] at b0
  rw [e1] at b1
  rw [e2] at b2
  have i0 : ∀ W, (Instr.index 130 (.agg #[.int .i64 20, .int .i64 40]) (.int .i64 0)).run Tryz.prog W = .ok (.int .i64 20) W := fun _ => by kernel_rfl
  have i1 : ∀ W, (Instr.index 130 (.agg #[.int .i64 20, .int .i64 40]) (.int .i64 1)).run Tryz.prog W = .ok (.int .i64 40) W := fun _ => by kernel_rfl
  clear h L0 L1 L2 NN h0 h1 h2 e0 e1 e2 hV hw
  obtain ⟨n, hn⟩ : ∃ n, n0 + n1 + n2 = n := ⟨_, rfl⟩
  have hnn : (n0 : Int) + n1 + n2 = n := by omega
  rw [hn]
  obtain ⟨rv, hrv⟩ : ∃ rv, (if 20 * n / 100 < n0 then v0 else if 40 * n / 100 < n1 then v1 else if A v2 = true then v2 else -1) = rv := ⟨_, rfl⟩
  rw [hrv]
  have HRV := Lib.hid hrv
  clear hrv
  have hnb : n ≤ 3000000 := by omega
  have HN := Lib.hid hn
  clear hn
  go_enter Tryz.func105, Tryz.ntmps105
  go_wp2_with fail
  go_quiet ((go_at_call 83; exact Calls.quiet_of_same (HL.out.2.2.2.1 _ _)))
  rw [q0, q1, q2]
  go_wp2_with fail
  go_loopw [25, 4, 5] (fun s _ _ wr => ∃ k q : Nat, k ≤ 2 ∧ s = .int .i64 k ∧ (1 ≤ k → n0 ≤ 20 * n / 100) ∧ (2 ≤ k → n1 ≤ 40 * n / 100) ∧ wr = w.drewN q) (fun s _ _ _ => 2 - (intOf s).toNat)
  case atStart => exact ⟨0, nq, by omega, rfl, by omega, by omega, rfl⟩
  case round =>
    obtain ⟨k, q, hk, rfl, hk0, hk1, rfl⟩ := hrel
    have c0' : (w.drewN q).cell? ⟨p, 0, none⟩ = some (.pointer (some ⟨g, 0, none⟩)) := c0
    match k, hk with
    | 0, _ =>
      by_cases h : 20 * n / 100 < n0
      · have hd : 20 * (n : Int) / 100 < n0 := by omega
        go_wp2_with fail
        refine (HL.out.2.2.2.1 q 0).mono ?_
        rintro e w1 ⟨rfl, rfl⟩
        rw [q0]
        go_wp2_with fail
        refine (HL.out.1 q).mono ?_
        rintro e w1 ⟨rfl, k1, rfl⟩
        go_wp2
        go_ret
        exact ⟨by rw [← HRV.out, if_pos h]; rfl, _, rfl⟩
      · have hd : decide (20 * (n : Int) / 100 < n0) = false := decide_eq_false (by omega)
        have hle : n0 ≤ 20 * n / 100 := by omega
        go_wp2_with fail
        refine (HL.out.2.2.2.1 q 0).mono ?_
        rintro e w1 ⟨rfl, rfl⟩
        rw [q0]
        go_wp2_with fail
        go_roundw
        case rel => exact ⟨1, _, by omega, rfl, fun _ => hle, by omega, rfl⟩
        case measure => simp [intOf]
    | 1, _ =>
      have h0 := hk0 (by omega)
      by_cases h : 40 * n / 100 < n1
      · have hd : 40 * (n : Int) / 100 < n1 := by omega
        go_wp2_with fail
        refine (HL.out.2.2.2.1 q 1).mono ?_
        rintro e w1 ⟨rfl, rfl⟩
        rw [q1]
        go_wp2_with fail
        refine (HL.out.2.1 q).mono ?_
        rintro e w1 ⟨rfl, k1, rfl⟩
        go_wp2
        go_ret
        exact ⟨by rw [← HRV.out, if_neg (by omega), if_pos h]; rfl, _, rfl⟩
      · have hd : decide (40 * (n : Int) / 100 < n1) = false := decide_eq_false (by omega)
        have hle : n1 ≤ 40 * n / 100 := by omega
        go_wp2_with fail
        refine (HL.out.2.2.2.1 q 1).mono ?_
        rintro e w1 ⟨rfl, rfl⟩
        rw [q1]
        go_wp2_with fail
        go_roundw
        case rel => exact ⟨2, _, by omega, rfl, fun _ => h0, fun _ => hle, rfl⟩
        case measure => simp [intOf]
    | 2, _ =>
      have h0 := hk0 (by omega)
      have h1 := hk1 (by omega)
      have HW := Lib.hid (show (if 20 * n / 100 < n0 then v0 else if 40 * n / 100 < n1 then v1 else if A v2 = true then v2 else -1) = if A v2 = true then v2 else -1 from by rw [if_neg (by omega), if_neg (by omega)])
      go_wp2_with fail
      refine (HL.out.2.2.1 q).mono ?_
      rintro e w1 ⟨rfl, k1, rfl⟩
      have hmo' : (w.drewN (q + k1)).heap[m]? = some o := hmo
      rcases hA : A v2 with _ | _
      all_goals
        go_wp2_with (at_lookup; refine wpList_lookup_imap rfl _ _ 83 rfl 3 4 .i64 Tryz.underlying83 Tryz.underlying3 _ (zero_bool _) m rfl o l hmo' hmb v2 rfl ?_; rw [HL.out.2.2.2.2 v2, hA])
        go_ret
        exact ⟨by rw [← HRV.out, HW.out, hA]; rfl, _, rfl⟩
/-- Who is about to go where. -/
def stepL (L : Nat → List Int) (A : Int → Bool) : Nat → List Int := if whoF L A < 0 then L else frontL 3 L (if A (whoF L A) = true then 1 else 2) (whoF L A)
def stepA (L : Nat → List Int) (A : Int → Bool) : Int → Bool := if whoF L A < 0 then A else setB' A (whoF L A) false
theorem lastOf_mem0 {l : List Int} (h : 0 ≤ lastOf l) : lastOf l ∈ l := by
  unfold lastOf at *
  rw [List.getLastD_eq_getLast?] at *
  rcases e : l.getLast? with _ | x
  · rw [e] at h; simp at h
  · exact List.mem_of_getLast? e
theorem whoF_in {L : Nat → List Int} {A : Int → Bool} (h : 0 ≤ whoF L A) : ∃ r, r < 3 ∧ whoF L A ∈ L r := by
  unfold whoF at *
  split
  · rename_i h1; rw [if_pos h1] at h; exact ⟨0, by decide, lastOf_mem0 h⟩
  · rename_i h1
    rw [if_neg h1] at h
    split
    · rename_i h2; rw [if_pos h2] at h; exact ⟨1, by decide, lastOf_mem0 h⟩
    · rename_i h2
      rw [if_neg h2] at h
      split
      · rename_i h3; rw [if_pos h3] at h; exact ⟨2, by decide, lastOf_mem0 h⟩
      · rename_i h3; rw [if_neg h3] at h; simp at h
set_option maxHeartbeats 1000000 in
theorem seg_step (S : Nat → Prop) (p : Nat) (L : Nat → List Int) (A : Int → Bool) (N : Nat) (w : World) (h : SegAt w S p L A N) (hN : N < 1000000) :
    Calls Tryz.prog 98 #[.pointer (some ⟨p, 0, none⟩)] w fun e w' => e = .returned (.bool (decide (0 ≤ whoF L A))) ∧ SegAt w' (grow S w w') p (stepL L A) (stepA L A) (N + 1) ∧ Fr S w w' := by
  have HW := Lib.hid (seg_who S p L A N w h (by omega))
  unfold stepL stepA
  obtain ⟨id, hid⟩ : ∃ id, whoF L A = id := ⟨_, rfl⟩
  have hin := whoF_in (L := L) (A := A)
  rw [hid] at HW hin ⊢
  clear hid
  by_cases h0 : id < 0
  · have hd : decide (0 ≤ id) = false := decide_eq_false (by omega)
    rw [hd, if_pos h0, if_pos h0]
    have HH := Lib.hid h
    clear h hd hin
    go_enter Tryz.func98, Tryz.ntmps98
    go_wp2_with fail
    refine HW.out.mono ?_
    rintro e w1 ⟨rfl, k1, rfl⟩
    go_wp2
    go_ret
    exact ⟨rfl, ((SegAt.frame (w' := w.drewN k1) HH.out fun _ _ _ => rfl).mono fun b _ q => Or.inl q).more (Nat.le_succ _), (Fr.refl S w).drewN _⟩
  · have hd : decide (0 ≤ id) = true := decide_eq_true (by omega)
    have h1 : decide (id < 0) = false := decide_eq_false h0
    rw [hd, if_neg h0, if_neg h0]
    obtain ⟨r, hr, hm⟩ := hin (by omega)
    obtain ⟨g, m, l, o, Sr, h⟩ := h
    have hrg := h.hR.range hr hm
    have c0 := cell_of_heap h.hp 0
    have c1 := cell_of_heap h.hp 1
    simp at c0 c1
    have hmo := h.hmo
    have hmb := h.hmb
    have hV := h.val id
    have HH := Lib.hid (And.intro h (And.intro hV hrg))
    clear h hd hin hm hrg hV h0
    have may1 : mayIn 3 1 id = true := decide_eq_true ⟨by decide, by decide, HH.out.2.2⟩
    have may2 : mayIn 3 2 id = true := decide_eq_true ⟨by decide, by decide, HH.out.2.2⟩
    have HM := Lib.hid (And.intro may1 may2)
    clear may1 may2
    rcases hA : A id with _ | _
    all_goals
      have HA := Lib.hid hA
      clear hA
      go_enter Tryz.func98, Tryz.ntmps98
      go_wp2_with fail
      refine HW.out.mono ?_
      rintro e w1 ⟨rfl, k1, rfl⟩
      have hmo' : (w.drewN k1).heap[m]? = some o := hmo
      have c0' : (w.drewN k1).cell? ⟨p, 0, none⟩ = some (.pointer (some ⟨g, 0, none⟩)) := c0
      have d0 := fun o' : Obj => (cell_putObj (w := w.drewN k1) (b := m) o' (p := ⟨p, 0, none⟩) HH.out.1.pm).trans c0'
      go_wp2_with (first
        | (at_lookup; refine wpList_lookup_imap rfl _ _ 83 rfl 3 4 .i64 Tryz.underlying83 Tryz.underlying3 _ (zero_bool _) m rfl o l hmo' hmb id rfl ?_; rw [HH.out.2.1, HA.out])
        | (at_delete; refine wpList_delete_imap rfl _ _ 83 3 rfl 4 .i64 Tryz.underlying83 Tryz.underlying3 m rfl o l hmo' hmb id rfl ?_; intro o3 ho3; have HO := Lib.hid ((HH.out.1.frame (w' := w.drewN k1) fun _ _ _ => rfl).off id ho3); clear ho3)
        | (go_at_call 93; refine (rows_front Sr g 3 L N _ id _ HO.out.hR hN).mono ?_; rintro e w2 ⟨rfl, hA, hF⟩; have H1 := Lib.hid (And.intro hA hF); clear hA hF))
      go_ret
      have hsz : ((w.drewN k1).putObj m o3).heap.size = w.heap.size := by simp
      refine ⟨by first | (rw [HM.out.1]; rfl) | (rw [HM.out.2]; rfl), (HO.out.rows H1.out.1 H1.out.2).shut.mono (fun b _ q => q.imp (fun q => q) (fun q => by rw [hsz] at q; exact q)), ?_⟩
      exact (((Fr.refl S w).drewN k1).putObj (fun _ => HH.out.1.hSm) o3).trans (HO.out.fr H1.out.2) (fun _ _ q => q)
end Go.Proofs.YtgdlndpjfejmcaaGreat.Seg
