/- Layer 9 (chain): what each call does, five: Bucket, Keys. -/
import Derived.Test.YtnabgcnndehaaaaChAll
import Derived.Deep.RegionHeld3
namespace Go.Proofs.Ytnabgcnndehaaaa
open Go.RowKit Go.Shelf
set_option linter.unusedVariables false
attribute [local go_sem] Oper.semAt_some
def strs (l : List ByteArray) : List Value := l.map Value.string
def bucketS (s : ChS) (i : Int) : List ByteArray := if 0 ≤ i ∧ i < ((2 ^ s.pw : Nat) : Int) then ks (s.R i.toNat) else []
theorem bucketS_nat {s : ChS} {r : Nat} (h : r < 2 ^ s.pw) : bucketS s r = ks (s.R r) := by unfold bucketS; rw [if_pos ⟨by omega, by omega⟩]; rfl
theorem zero_string (w : World) : (zeroValue 9).run Try.prog w = .ok (.string ByteArray.empty) w := by kernel_rfl
theorem info_string : (Try.prog.info? 9).map (fun i => (i.zero, i.size, i.bytes)) = some (some (.string ByteArray.empty), 1, 16) := by kernel_rfl
theorem info_parts' {P : Program} {t : TypeId} {z : Value} {n m : Nat} (h : (P.info? t).map (fun i => (i.zero, i.size, i.bytes)) = some (some z, n, m)) : ∃ i, P.info? t = some i ∧ i.zero = some z ∧ i.size = n ∧ i.bytes = m := by
  cases hi : P.info? t with
  | none => rw [hi] at h; cases h
  | some i => rw [hi] at h; simp at h; exact ⟨i, rfl, h.1, h.2.1, h.2.2⟩
theorem Fr.belowAll' {w w' : World} (h : Fr (fun _ => False) w w') : Below w.heap.size w w' := h.below (Nat.le_refl _) (fun _ _ h => h.elim)
theorem ownsRow_low' {W : World} {base base' : Nat} {e : TypeId} {size : Nat} {v : Value} {k : Nat} {xs : List Value} (h : W.ownsRow base e size v k xs) (hb : base' ≤ base) : W.ownsRow base' e size v k xs := by
  obtain ⟨h1, h2⟩ := h
  refine ⟨h1, ?_⟩
  rcases h2 with h2 | ⟨g, cap, cur, hv, hg, r⟩
  · exact Or.inl h2
  · exact Or.inr ⟨g, cap, cur, hv, Nat.le_trans hb hg, r⟩
theorem keptK_append {W w1 : World} {n₁ B : Nat} {t e : TypeId} {size : Nat} {v v' : Value} {k m : Nat} {xs ys : List Value} {tmp : Obj} (hv : Boxed W B t v) (hrow : W.ownsRow n₁ e size v k xs) (hown' : w1.ownsRow n₁ e size v' m ys) (hgrow : (W.alloc tmp).grownBy w1 v.ownBlock) :
    KeptK B n₁ W (w1.setCell ⟨B, 0, none⟩ v') := by
  refine Fr.setCell (((Fr.refl _ W).alloc tmp).trans (Fr.of_grown hgrow) fun i _ h => ?_) (fun _ => Or.inl rfl) v'
  rcases hrow.2 with ⟨rfl, _⟩ | ⟨g, cap, cur, rfl, hg, _⟩
  · cases h
  · obtain rfl : i = g := by simpa [Value.ownBlock] using h
    exact Or.inr hg
set_option maxHeartbeats 1000000 in
theorem bucket_none (S : Nat → Prop) (t : Nat) (s : ChS) (i : Int) (w : World) (h : ChAt w S t s) (hno : ¬ (0 ≤ i ∧ i < ((2 ^ s.pw : Nat) : Int))) :
    Calls Try.prog 18 #[.pointer (some ⟨t, 0, none⟩), .int .i64 i] w fun e w' => e = .returned (.slice none 0 0) ∧ Fr (fun _ => False) w w' := by
  obtain ⟨hW, rb, ob, xs, ys, mvv, h⟩ := h
  have ht := lt_of_heap h.hp
  obtain ⟨_, _, c2, _, _, _, _⟩ := h.cells
  obtain ⟨N, hN⟩ : ∃ N, 2 ^ s.pw = N := ⟨_, rfl⟩
  rw [hN] at c2 hno
  have c2' : (w.alloc (.cells #[.slice none 0 0] 30)).cell? ⟨t, 2, none⟩ = some (.slice (some ⟨rb, 0, none⟩) N N) := (World.cell?_of_block (heap_alloc_old _ ht)).trans c2
  clear h hW c2 hN
  by_cases h0 : 0 ≤ i
  · have hd : decide (i < (N : Int)) = false := decide_eq_false (fun q => hno ⟨h0, q⟩)
    go_enter Try.func18, Try.ntmps18
    go_wp2_with fail
    go_ret
    exact ⟨rfl, (Fr.refl _ w).alloc _⟩
  · have hd : decide (0 ≤ i) = false := decide_eq_false h0
    go_enter Try.func18, Try.ntmps18
    go_wp2_with fail
    go_ret
    exact ⟨rfl, (Fr.refl _ w).alloc _⟩
set_option maxRecDepth 100000 in
set_option maxHeartbeats 2000000 in
theorem bucket_some (S : Nat → Prop) (t : Nat) (s : ChS) (r : Nat) (w : World) (h : ChAt w S t s) (hr : r < 2 ^ s.pw) (hlen : (ks (s.R r)).length ≤ 1000000) :
    Calls Try.prog 18 #[.pointer (some ⟨t, 0, none⟩), .int .i64 r] w fun e w' => ∃ v, e = .returned v ∧ Sl w' (fun b => w.heap.size ≤ b) 9 1 v (ks (s.R r)).length (strs (ks (s.R r))) ∧ Below w.heap.size w w' := by
  obtain ⟨hW, rb, ob, xs, ys, mvv, h⟩ := h
  have ht := lt_of_heap h.hp
  have hrb := lt_of_heap h.hr
  obtain ⟨_, _, c2, _, _, _, _⟩ := h.cells
  obtain ⟨a1, a2, a3, a4⟩ := two_pw hW.p2 hW.p20
  obtain ⟨v, hv⟩ : ∃ v, xs[r]? = some v := ⟨_, List.getElem?_eq_getElem (by rw [h.hxl]; exact hr)⟩
  have hch := h.hx r v hv
  obtain ⟨k1, k2⟩ := arr_cells h.hr hv
  obtain ⟨L, hL⟩ : ∃ L, s.R r = L := ⟨_, rfl⟩
  obtain ⟨N, hN⟩ : ∃ N, 2 ^ s.pw = N := ⟨_, rfl⟩
  rw [hN] at c2 hr a1 a2
  rw [hL] at hch hlen ⊢
  have c2' : (w.alloc (.cells #[.slice none 0 0] 30)).cell? ⟨t, 2, none⟩ = some (.slice (some ⟨rb, 0, none⟩) N N) := (World.cell?_of_block (heap_alloc_old _ ht)).trans c2
  have HH := Lib.hid (And.intro k1 (And.intro hch hrb))
  obtain ⟨i0, hi, hz0, hz1, hz2⟩ := info_parts' info_string
  clear h hW c2 hN hL hch k1 k2 a3 a4 hv
  have hri : (r : Int) < N := by omega
  have hri2 : (r : Int) + 1 ≤ N := by omega
  have hri0 : (0 : Int) ≤ r := by omega
  have hwr : IntKind.i64.wrap ((r : Int) + 1) = (r : Int) + 1 := by rw [IntKind.wrap_i64]; omega
  refine (callsIn_wide (n := 3)).1 ?_
  refine callsIn_of_wp_marks Try.func18 rfl trivial ?_ rfl
  simp only [Try.ntmps18, List.size_toArray, List.length_cons, List.length_nil, Nat.reduceAdd, Nat.reduceSub, Array.replicate_succ, Array.replicate_zero, List.push_toArray, List.append_toArray, List.nil_append, List.cons_append]
  gi_wp2_with (refine ⟨trivial, ?_⟩; gi_at_call 28; refine (all_in _ _ _ _ _).mono ?_; rintro e w' ⟨rfl, rfl⟩)
  obtain ⟨k1, hch, hrb⟩ := HH.out
  obtain ⟨W0, hW0⟩ : ∃ W0, ((w.alloc (.cells #[.slice none 0 0] 30)).alloc (.cells #[.slice (some ⟨rb, r, none⟩) 1 (N - r)] 56)).alloc (.cells #[.slice (some ⟨w.heap.size + 1, 0, none⟩) 1 1] 69) = W0 := ⟨_, rfl⟩
  have bO : Boxed W0 w.heap.size 30 (.slice none 0 0) := by rw [← hW0]; exact ((Boxed.new w _ _).alloc _).alloc _
  have bV : Boxed W0 (w.heap.size + 1) 56 (.slice (some ⟨rb, r, none⟩) 1 (N - r)) := by
    rw [← hW0]; have := (Boxed.new (w.alloc (.cells #[.slice none 0 0] 30)) 56 (.slice (some ⟨rb, r, none⟩) 1 (N - r))).alloc (.cells #[.slice (some ⟨w.heap.size + 1, 0, none⟩) 1 1] 69); simpa using this
  have bR : Boxed W0 (w.heap.size + 1 + 1) 69 (.slice (some ⟨w.heap.size + 1, 0, none⟩) 1 1) := by
    rw [← hW0]; have := Boxed.new ((w.alloc (.cells #[.slice none 0 0] 30)).alloc (.cells #[.slice (some ⟨rb, r, none⟩) 1 (N - r)] 56)) 69 (.slice (some ⟨w.heap.size + 1, 0, none⟩) 1 1); simpa using this
  have hz0' : W0.heap.size = w.heap.size + 1 + 1 + 1 := by rw [← hW0]; simp
  have hF0 : Fr (fun _ => False) w W0 := by rw [← hW0]; exact (((Fr.refl _ w).alloc _).alloc _).alloc _
  have hB0 : Below w.heap.size w W0 := hF0.below (Nat.le_refl _) (fun k hk h => h.elim)
  have hR0 : BkAt W0 (fun b => (b < w.heap.size) ∨ b = w.heap.size + 1 ∨ b = w.heap.size + 1 + 1) (w.heap.size + 1 + 1) (w.heap.size + 1) 1 (fun _ => some ⟨rb, r, none⟩) (fun _ => 1) (fun _ => N - r) (fun _ _ => L) := by
    refine ⟨bR.cell, Or.inr (Or.inr rfl), Or.inr (Or.inl rfl), fun i hi => ?_, fun i hi j hj => ?_⟩
    · obtain rfl : i = 0 := by omega
      exact ⟨bV.cell, by omega, by decide⟩
    · obtain rfl : j = 0 := by omega
      refine ⟨rb, r, v, rfl, Or.inl hrb, (hF0.cell (p := ⟨rb, r + 0, none⟩) hrb (fun h => h)).trans k1, ?_⟩
      exact chn_keep hch (fun b k n nx e _ _ => hF0.block b (lt_of_heap e) (fun h => h)) (fun b hb _ => Or.inl hb)
  have hst := all_stops (3 - 1) (by decide) (w.heap.size + 1 + 1) (w.heap.size + 1) 1 w.heap.size W0.heap.size _ _ _ _ _ (by decide) (fun b hb => by omega) W0 hR0 rfl
  have hall : allK (fun _ _ => L) (fun _ => 1) 1 = ks L := rfl
  rw [hall] at hst
  rw [hW0]
  clear hW0 hch k1 hR0 bR bV hF0
  refine wpIn_rangeFunc_ownG rfl (by decide) (gf := 35) (lb := #[.pointer (some ⟨w.heap.size + 1 + 1, 0, none⟩)]) rfl trivial (enters_of Try.func35 (by kernel_rfl) rfl)
    hst (fun h k => Fr.trans h k (fun _ _ h => h)) (fun W l o o' hl _ _ _ => (Fr.refl _ W).putObj (fun _ => Or.inr hl) o') (Below.refl _ _) (fun _ => rfl)
    (fun pre W => (∃ v, Boxed W w.heap.size 30 v ∧ W.ownsRow W0.heap.size 9 1 v pre.length (strs pre) ∧ True) ∧ Below w.heap.size w W ∧ W0.heap.size ≤ W.heap.size)
    (fun _ _ _ => False)
    (OwnFrom.and (Own.from (holdsRow_own W0.heap.size w.heap.size 30 9 1 (fun pre => pre.length) (fun pre => strs pre) (fun _ _ => True)) _) (OwnFrom.and (ownFrom_below (Nat.le_refl _) (by omega)) (fun _ _ _ _ hs hg _ => Nat.le_trans hs hg.size)))
    (fun _ _ _ _ _ hs _ _ => hs)
    ⟨⟨_, bO, World.ownsRow_nil _ _ _ _, trivial⟩, hB0, Nat.le_refl _⟩
    (fun x => { tmps := #[.pointer (some ⟨t, 0, none⟩), .int .i64 r, undef, undef, .slice none 0 0, .pointer (some ⟨w.heap.size, 0, none⟩), .string x, .int .i64 r, .bool true, .bool true, .int .i64 r, .pointer (some ⟨t, 0, none⟩), .pointer (some ⟨t, 0, none⟩), .pointer (some ⟨t, 2, none⟩), .slice (some ⟨rb, 0, none⟩) N N, .int .i64 N, .bool true, .bool true, .pointer (some ⟨t, 0, none⟩), .pointer (some ⟨t, 0, none⟩), .pointer (some ⟨t, 2, none⟩), .slice (some ⟨rb, 0, none⟩) N N, .int .i64 r, .int .i64 r, .int .i64 ((r : Int) + 1), .slice (some ⟨rb, r, none⟩) 1 (N - r), .slice (some ⟨w.heap.size + 1, 0, none⟩) 1 1, .func (.func 35) #[] #[.pointer (some ⟨w.heap.size + 1 + 1, 0, none⟩)], .string x, undef, undef, undef, undef, undef], defers := [] }) ?assign ?body ?done ?stop
  case assign =>
    intro l x W K hK
    gi_wp2
    exact hK
  case body =>
    rintro l pre x W ⟨⟨v, hv, hrow, _⟩, hB, hz4⟩ hlt
    have hc := hv.cell
    have hbz := hB.size
    have hlt2 : pre.length < 1000000 := by omega
    gi_wp2_with (gi_at_builtin; go_must (refine wpListIn_append_own _ rfl _ _ 30 rfl W0.heap.size 9 i0 (.string ByteArray.empty) 1 16 Try.underlying30 hi hz0 hz1 hz2 rfl (by decide) _ _ _ rfl (hrow.alloc _) ⟨W.heap.size, 0, none⟩ 1 1 [.string x] rfl rfl (cell_one_new _ _ _) (by simp [Value.oneCell']) (by unfold maxLen; omega) (by omega) (by simp; omega) ?_); intro v' w1 hown' hgrow _; obtain ⟨g', cap', rfl⟩ := ownsRow_succ hown'; have hkF := keptK_append hv hrow hown' hgrow; obtain ⟨hv1, hv2, hr2, hk2, hb2⟩ := hv.appended (n₀ := w.heap.size) (by decide) (ownsRow_low' hrow (by omega)) hbz (Nat.le_refl _) (ownsRow_low' hown' (by omega)) hgrow; have hc1 := hv1.cell; have hf1 := hv1.frozen)
    have hbb := Fr.size hkF
    exact ⟨hk2.from _, hkF, ⟨_, hv2, by
      have := hown'.kept (grownBy_setCell' w1 w.heap.size (.slice (some ⟨g', 0, none⟩) (pre.length + 1) cap')) (.inr (hv1.not_row (by decide) hown').symm)
      simpa [strs] using this, trivial⟩, hB.trans hb2, Nat.le_trans hz4 hbb⟩
  case done =>
    rintro D ys W hD rfl ⟨⟨v, hv, hrow, _⟩, hB, hz4⟩ hK
    have hc := hv.cell
    gi_wp2
    refine ⟨by simp, .inl ⟨_, _, rfl, run_takeDeferred hK, ?_⟩⟩
    refine ⟨_, results_tmp rfl _ _ _, v, rfl, ?_, hB.trans (belowK_b (w := w) (Nat.le_refl _) W D _ _ (by omega) hK rfl rfl)⟩
    have hro := ownsRow_putObj hrow (.deferred none) hK rfl
    exact Sl.of_owns hro (fun b h1 _ => by omega)
  case stop =>
    rintro D c pre W _ _ h _
    exact h.elim
/-- Bucket (I2). -/
theorem ch_bucketK (S : Nat → Prop) (t : Nat) (s : ChS) (i : Int) (w : World) (h : ChAt w S t s) (hlen : (bucketS s i).length ≤ 1000000) :
    Calls Try.prog 18 #[.pointer (some ⟨t, 0, none⟩), .int .i64 i] w fun e w' => ∃ v, e = .returned v ∧ Sl w' (fun b => w.heap.size ≤ b) 9 1 v (bucketS s i).length (strs (bucketS s i)) ∧ Below w.heap.size w w' := by
  by_cases hi : 0 ≤ i ∧ i < ((2 ^ s.pw : Nat) : Int)
  · obtain ⟨r, rfl⟩ : ∃ r : Nat, i = r := ⟨i.toNat, by omega⟩
    rw [bucketS_nat (by omega)] at hlen ⊢
    exact bucket_some S t s r w h (by omega) hlen
  · have e : bucketS s i = [] := if_neg hi
    rw [e]
    exact (bucket_none S t s i w h hi).mono fun e w' ⟨he, hF⟩ => ⟨_, he, Sl.nil _ _ _ _, hF.belowAll'⟩
set_option maxRecDepth 100000 in
set_option maxHeartbeats 2000000 in
theorem ch_keys (S : Nat → Prop) (t : Nat) (s : ChS) (w : World) (h : ChAt w S t s) (hlen : (keysS s).length ≤ 1000000) :
    Calls Try.prog 17 #[.pointer (some ⟨t, 0, none⟩)] w fun e w' => ∃ v, e = .returned v ∧ Sl w' (fun b => w.heap.size ≤ b) 9 1 v (keysS s).length (strs (keysS s)) ∧ Below w.heap.size w w' := by
  obtain ⟨hW, rb, ob, xs, ys, mvv, h⟩ := h
  have ht := lt_of_heap h.hp
  have hrb := lt_of_heap h.hr
  obtain ⟨_, c1, c2, _, _, _, _⟩ := h.cells
  obtain ⟨a1, a2, a3, a4⟩ := two_pw hW.p2 hW.p20
  obtain ⟨ao, no, hao, hno, hold⟩ : ∃ ao no, (if s.g then Value.slice (some ⟨ob, 0, none⟩) (2 ^ (s.pw - 1)) (2 ^ (s.pw - 1)) else .slice none 0 0) = .slice ao no no ∧ no ≤ 1048576 ∧ ((no = 0 ∧ keysS s = rowsK s.R (2 ^ s.pw)) ∨ (s.g = true ∧ no = 2 ^ (s.pw - 1) ∧ ao = some ⟨ob, 0, none⟩ ∧ keysS s = rowsK s.O no ++ rowsK s.R (2 ^ s.pw))) := by
    cases hg : s.g with
    | false => exact ⟨none, 0, rfl, by omega, Or.inl ⟨rfl, by unfold keysS; rw [hg]; rfl⟩⟩
    | true => exact ⟨_, _, rfl, by omega, Or.inr ⟨rfl, rfl, rfl, by unfold keysS; rw [hg]; rfl⟩⟩
  rw [hao] at c1
  obtain ⟨K, hK⟩ : ∃ K, keysS s = K := ⟨_, rfl⟩
  rw [hK] at hlen hold ⊢
  obtain ⟨N, hN⟩ : ∃ N, 2 ^ s.pw = N := ⟨_, rfl⟩
  rw [hN] at c2
  have HH := Lib.hid (And.intro h (And.intro hN hold))
  have c1' : (w.alloc (.cells #[.slice none 0 0] 30)).cell? ⟨t, 1, none⟩ = some (.slice ao no no) := (World.cell?_of_block (heap_alloc_old _ ht)).trans c1
  have c2' : (w.alloc (.cells #[.slice none 0 0] 30)).cell? ⟨t, 2, none⟩ = some (.slice (some ⟨rb, 0, none⟩) N N) := (World.cell?_of_block (heap_alloc_old _ ht)).trans c2
  obtain ⟨i0, hi, hz0, hz1, hz2⟩ := info_parts' info_string
  clear h hW c1 c2 hN hK a1 a3 a4 hold hao
  refine (callsIn_wide (n := 3)).1 ?_
  refine callsIn_of_wp_marks Try.func17 rfl trivial ?_ rfl
  simp only [Try.ntmps17, List.size_toArray, List.length_cons, List.length_nil, Nat.reduceAdd, Nat.reduceSub, Array.replicate_succ, Array.replicate_zero, List.push_toArray, List.append_toArray, List.nil_append, List.cons_append]
  gi_wp2
  have kk : ∀ (i : Nat) (v : Value), (w.alloc (.cells #[.slice none 0 0] 30)).cell? ⟨t, i, none⟩ = some v → (w.alloc (.cells #[.slice none 0 0] 30)).drew.cell? ⟨t, i, none⟩ = some v ∧ (∀ o, ((w.alloc (.cells #[.slice none 0 0] 30)).drew.alloc o).cell? ⟨t, i, none⟩ = some v) ∧ (∀ o o', (((w.alloc (.cells #[.slice none 0 0] 30)).drew.alloc o).alloc o').cell? ⟨t, i, none⟩ = some v) := fun i v q => by
    have hz : t < (w.alloc (.cells #[.slice none 0 0] 30)).drew.heap.size := by show t < (w.alloc _).heap.size; simp; omega
    have q1 : (w.alloc (.cells #[.slice none 0 0] 30)).drew.cell? ⟨t, i, none⟩ = some v := q
    have q2 : ∀ o, ((w.alloc (.cells #[.slice none 0 0] 30)).drew.alloc o).cell? ⟨t, i, none⟩ = some v := fun o => (World.cell?_of_block (heap_alloc_old o hz)).trans q1
    exact ⟨q1, q2, fun o o' => (World.cell?_of_block (heap_alloc_old o' (by simp; omega))).trans (q2 o)⟩
  obtain ⟨r1, r2, r3⟩ := kk _ _ c1'
  obtain ⟨t1, t2, t3⟩ := kk _ _ c2'
  clear kk
  refine wpIn_wide.2 ?_
  go_region_held3 (fun w' => w'.cell? ⟨t, 1, none⟩ = some (.slice ao no no) ∧ w'.cell? ⟨t, 2, none⟩ = some (.slice (some ⟨rb, 0, none⟩) N N)) (first | exact ⟨r1, t1⟩ | exact ⟨r2 _, t2 _⟩ | exact ⟨r3 _ _, t3 _ _⟩) (first | (go_at_call 28; refine ((callsIn_wide (n := 1)).1 (all_in 1 _ _ _ _)).mono ?_; rintro e w' ⟨rfl, rfl⟩))
  clear c1' c2' r1 r2 r3 t1 t2 t3
  gi_wp2
  obtain ⟨h, hN, hold⟩ := HH.out
  obtain ⟨W0, hW0⟩ : ∃ W0, (((w.alloc (.cells #[.slice none 0 0] 30)).alloc (.cells #[.slice ao no no, .slice (some ⟨rb, 0, none⟩) N N] 56)).alloc (.cells #[.slice (some ⟨w.heap.size + 1, 0, none⟩) 2 2] 69)).drew = W0 := ⟨_, rfl⟩
  have bO : Boxed W0 w.heap.size 30 (.slice none 0 0) := by rw [← hW0]; exact ((Boxed.new w _ _).alloc _).alloc _
  have hV : W0.heap[w.heap.size + 1]? = some (.cells #[.slice ao no no, .slice (some ⟨rb, 0, none⟩) N N] 56 (0, 0)) := by
    rw [← hW0]
    have := heap_alloc_new (w.alloc (.cells #[.slice none 0 0] 30)) (.cells #[.slice ao no no, .slice (some ⟨rb, 0, none⟩) N N] 56)
    have h2 := heap_alloc_old (w := ((w.alloc (.cells #[.slice none 0 0] 30)).alloc (.cells #[.slice ao no no, .slice (some ⟨rb, 0, none⟩) N N] 56))) (.cells #[.slice (some ⟨w.heap.size + 1, 0, none⟩) 2 2] 69) (b := w.heap.size + 1) (by simp)
    refine Eq.trans (by exact h2) ?_
    simpa using this
  have bR : Boxed W0 (w.heap.size + 1 + 1) 69 (.slice (some ⟨w.heap.size + 1, 0, none⟩) 2 2) := by
    rw [← hW0]; have := (Boxed.new ((w.alloc (.cells #[.slice none 0 0] 30)).alloc (.cells #[.slice ao no no, .slice (some ⟨rb, 0, none⟩) N N] 56)) 69 (.slice (some ⟨w.heap.size + 1, 0, none⟩) 2 2)); have this2 : Boxed ((w.alloc (.cells #[.slice none 0 0] 30)).alloc (.cells #[.slice ao no no, .slice (some ⟨rb, 0, none⟩) N N] 56) |>.alloc (.cells #[.slice (some ⟨w.heap.size + 1, 0, none⟩) 2 2] 69)) (w.heap.size + 1 + 1) 69 (.slice (some ⟨w.heap.size + 1, 0, none⟩) 2 2) := by simpa using this
    exact this2
  have hz0' : W0.heap.size = w.heap.size + 1 + 1 + 1 := by rw [← hW0]; show (World.alloc _ _).heap.size = _; simp
  have hF0 : Fr (fun _ => False) w W0 := by rw [← hW0]; exact ((((Fr.refl _ w).alloc _).alloc _).alloc _).drew
  have hB0 : Below w.heap.size w W0 := hF0.below (Nat.le_refl _) (fun k hk h => h.elim)
  have hR0 : BkAt W0 (fun b => (b < w.heap.size) ∨ b = w.heap.size + 1 ∨ b = w.heap.size + 1 + 1) (w.heap.size + 1 + 1) (w.heap.size + 1) 2 (fun i => if i = 0 then ao else some ⟨rb, 0, none⟩) (fun i => if i = 0 then no else N) (fun i => if i = 0 then no else N) (fun i j => if i = 0 then s.O j else s.R j) := by
    refine ⟨bR.cell, Or.inr (Or.inr rfl), Or.inr (Or.inl rfl), fun i hi => ?_, fun i hi j hj => ?_⟩
    · have c := cell_of_heap hV i
      have hi' : i = 0 ∨ i = 1 := by omega
      rcases hi' with rfl | rfl
      · exact ⟨by simpa using c, by simp, by simp; omega⟩
      · exact ⟨by simpa using c, by simp, by simp; omega⟩
    · have hi' : i = 0 ∨ i = 1 := by omega
      rcases hi' with rfl | rfl
      · simp only [if_true] at hj ⊢
        rcases hold with ⟨e, _⟩ | ⟨hg, e1, e2, _⟩
        · omega
        · obtain ⟨g1, g2, g3, g4, g5, g6⟩ := h.hg hg
          have hl : j < ys.length := by rw [g5, ← e1]; exact hj
          have hy := List.getElem?_eq_getElem hl
          obtain ⟨k1, _⟩ := arr_cells g4 hy
          have hob := lt_of_heap g4
          refine ⟨ob, 0, _, e2, Or.inl hob, (hF0.cell (p := ⟨ob, 0 + j, none⟩) hob (fun h => h)).trans (by rw [Nat.zero_add]; exact k1), ?_⟩
          exact chn_keep (g6 j _ hy) (fun b k n nx e _ _ => hF0.block b (lt_of_heap e) (fun h => h)) (fun b hb _ => Or.inl hb)
      · rw [if_neg (by decide)] at hj ⊢
        simp only [show ¬ (1 : Nat) = 0 from by decide, if_false]
        have hl : j < xs.length := by rw [h.hxl, hN]; exact hj
        have hy := List.getElem?_eq_getElem hl
        obtain ⟨k1, _⟩ := arr_cells h.hr hy
        refine ⟨rb, 0, _, rfl, Or.inl hrb, (hF0.cell (p := ⟨rb, 0 + j, none⟩) hrb (fun h => h)).trans (by rw [Nat.zero_add]; exact k1), ?_⟩
        exact chn_keep (h.hx j _ hy) (fun b k n nx e _ _ => hF0.block b (lt_of_heap e) (fun h => h)) (fun b hb _ => Or.inl hb)
  have hst := all_stops (3 - 1) (by decide) (w.heap.size + 1 + 1) (w.heap.size + 1) 2 w.heap.size W0.heap.size _ _ _ _ _ (by decide) (fun b hb => by omega) W0 hR0 rfl
  have hall : allK (fun i j => if i = 0 then s.O j else s.R j) (fun i => if i = 0 then no else N) 2 = K := by
    have e : allK (fun i j => if i = 0 then s.O j else s.R j) (fun i => if i = 0 then no else N) 2 = rowsK s.O no ++ rowsK s.R N := rfl
    rw [e]
    rcases hold with ⟨e1, e2⟩ | ⟨_, _, _, e2⟩
    · rw [e1, e2, hN]; rfl
    · rw [e2, hN]
  rw [hall] at hst
  rw [hW0]
  clear hW0 h hold hR0 bR hV hF0 hall
  refine wpIn_rangeFunc_ownG rfl (by decide) (gf := 35) (lb := #[.pointer (some ⟨w.heap.size + 1 + 1, 0, none⟩)]) rfl trivial (enters_of Try.func35 (by kernel_rfl) rfl)
    hst (fun h k => Fr.trans h k (fun _ _ h => h)) (fun W l o o' hl _ _ _ => (Fr.refl _ W).putObj (fun _ => Or.inr hl) o') (Below.refl _ _) (fun _ => rfl)
    (fun pre W => (∃ v, Boxed W w.heap.size 30 v ∧ W.ownsRow W0.heap.size 9 1 v pre.length (strs pre) ∧ True) ∧ Below w.heap.size w W ∧ W0.heap.size ≤ W.heap.size)
    (fun _ _ _ => False)
    (OwnFrom.and (Own.from (holdsRow_own W0.heap.size w.heap.size 30 9 1 (fun pre => pre.length) (fun pre => strs pre) (fun _ _ => True)) _) (OwnFrom.and (ownFrom_below (Nat.le_refl _) (by omega)) (fun _ _ _ _ hs hg _ => Nat.le_trans hs hg.size)))
    (fun _ _ _ _ _ hs _ _ => hs)
    ⟨⟨_, bO, World.ownsRow_nil _ _ _ _, trivial⟩, hB0, Nat.le_refl _⟩
    (fun x => { tmps := #[.pointer (some ⟨t, 0, none⟩), undef, .slice none 0 0, .pointer (some ⟨w.heap.size, 0, none⟩), .string x, .pointer (some ⟨t, 0, none⟩), .pointer (some ⟨t, 0, none⟩), .pointer (some ⟨t, 1, none⟩), .slice ao no no, .pointer (some ⟨t, 0, none⟩), .pointer (some ⟨t, 0, none⟩), .pointer (some ⟨t, 2, none⟩), .slice (some ⟨rb, 0, none⟩) N N, .slice (some ⟨w.heap.size + 1, 0, none⟩) 2 2, .func (.func 35) #[] #[.pointer (some ⟨w.heap.size + 1 + 1, 0, none⟩)], .string x, undef, undef, undef, undef, undef], defers := [] }) ?assign ?body ?done ?stop
  case assign =>
    intro l x W K hK
    gi_wp2
    exact hK
  case body =>
    rintro l pre x W ⟨⟨v, hv, hrow, _⟩, hB, hz4⟩ hlt
    have hc := hv.cell
    have hbz := hB.size
    have hlt2 : pre.length < 1000000 := by omega
    gi_wp2_with (gi_at_builtin; go_must (refine wpListIn_append_own _ rfl _ _ 30 rfl W0.heap.size 9 i0 (.string ByteArray.empty) 1 16 Try.underlying30 hi hz0 hz1 hz2 rfl (by decide) _ _ _ rfl (hrow.alloc _) ⟨W.heap.size, 0, none⟩ 1 1 [.string x] rfl rfl (cell_one_new _ _ _) (by simp [Value.oneCell']) (by unfold maxLen; omega) (by omega) (by simp; omega) ?_); intro v' w1 hown' hgrow _; obtain ⟨g', cap', rfl⟩ := ownsRow_succ hown'; have hkF := keptK_append hv hrow hown' hgrow; obtain ⟨hv1, hv2, hr2, hk2, hb2⟩ := hv.appended (n₀ := w.heap.size) (by decide) (ownsRow_low' hrow (by omega)) hbz (Nat.le_refl _) (ownsRow_low' hown' (by omega)) hgrow; have hc1 := hv1.cell; have hf1 := hv1.frozen)
    have hbb := Fr.size hkF
    exact ⟨hk2.from _, hkF, ⟨_, hv2, by
      have := hown'.kept (grownBy_setCell' w1 w.heap.size (.slice (some ⟨g', 0, none⟩) (pre.length + 1) cap')) (.inr (hv1.not_row (by decide) hown').symm)
      simpa [strs] using this, trivial⟩, hB.trans hb2, Nat.le_trans hz4 hbb⟩
  case done =>
    rintro D ys W hD rfl ⟨⟨v, hv, hrow, _⟩, hB, hz4⟩ hK
    have hc := hv.cell
    gi_wp2
    refine ⟨by simp, .inl ⟨_, _, rfl, run_takeDeferred hK, ?_⟩⟩
    refine ⟨_, results_tmp rfl _ _ _, v, rfl, ?_, hB.trans (belowK_b (w := w) (Nat.le_refl _) W D _ _ (by omega) hK rfl rfl)⟩
    have hro := ownsRow_putObj hrow (.deferred none) hK rfl
    exact Sl.of_owns hro (fun b h1 _ => by omega)
  case stop =>
    rintro D c pre W _ _ h _
    exact h.elim
end Go.Proofs.Ytnabgcnndehaaaa
