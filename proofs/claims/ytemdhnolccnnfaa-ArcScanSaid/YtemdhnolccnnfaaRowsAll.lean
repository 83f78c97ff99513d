/- Layer 10 (rows): All, which goes through a row. -/
import Derived.Test.YtemdhnolccnnfaaRowsNew
import Derived.RangeFuncBox
import Derived.RangeFuncLeaves
import Derived.Shelf.Abstract
import Derived.OwnWalkIn
import Derived.TacticsInMore
import Derived.LoopNIn
import Derived.LoopIn
import Derived.Maps.AppendAt
import Derived.Sort.QuietIn
namespace Go.Proofs.Ytemdhnolccnnfaa
open Go.RowKit Go.Shelf
set_option linter.unusedVariables false
attribute [local go_sem] Oper.semAt_some
/-- What a round of the caller keeps: all but its own box and what is new. -/
def Kept (B n₁ : Nat) : World → World → Prop := Fr fun b => b = B ∨ n₁ ≤ b
/-- What the iterator reads: its two boxes, the links. -/
structure RingAt (w : World) (g Br Bw b off cap r : Nat) (lk : List Lnk) : Prop where
  hr : w.cell? ⟨Br, 0, none⟩ = some (.pointer (some ⟨g, 0, none⟩))
  hw : w.cell? ⟨Bw, 0, none⟩ = some (.int .i64 r)
  hg : w.cell? ⟨g, 0, none⟩ = some (.slice (some ⟨b, off, none⟩) lk.length cap)
  hx : ∀ k, k < lk.length → w.cell? ⟨b, off + k * 4, none⟩ = some (.int .i64 (lI lk k)) ∧ w.cell? ⟨b, off + k * 4 + 3, none⟩ = some (.int .i64 (lA lk k))
theorem RingAt.kept {w w' : World} {g Br Bw b off cap r B n₁ : Nat} {lk : List Lnk} (h : RingAt w g Br Bw b off cap r lk) (hk : Kept B n₁ w w') (hr : Br ≠ B ∧ Br < n₁) (hw : Bw ≠ B ∧ Bw < n₁) (hg : g ≠ B ∧ g < n₁) (hb : b ≠ B ∧ b < n₁) (hn : n₁ ≤ w.heap.size) : RingAt w' g Br Bw b off cap r lk := by
  have hc : ∀ c i, c ≠ B ∧ c < n₁ → w'.cell? ⟨c, i, none⟩ = w.cell? ⟨c, i, none⟩ := fun c i h => Fr.cell hk (by simp; omega) (by simp; omega)
  exact ⟨(hc _ _ hr).trans h.hr, (hc _ _ hw).trans h.hw, (hc _ _ hg).trans h.hg, fun k hkl => ⟨(hc _ _ hb).trans (h.hx k hkl).1, (hc _ _ hb).trans (h.hx k hkl).2⟩⟩
/-- How many places are still to come. -/
def leftOf (ps : List Nat) (v : Value) : Nat := ps.length - ps.idxOf (intOf v).toNat
theorem leftOf_in {u v : List Nat} {k : Nat} (hn : (u ++ k :: v).Nodup) : leftOf (u ++ k :: v) (.int .i64 k) = v.length + 1 := by
  unfold leftOf
  have hk : k ∉ u := fun h => (List.nodup_append.1 hn).2.2 k h k (by simp) rfl
  have : (intOf (.int .i64 (k : Int))).toNat = k := by simp [intOf]
  rw [this, List.idxOf_append, if_neg hk]
  simp
theorem leftOf_out {ps : List Nat} {k : Nat} (hn : k ∉ ps) : leftOf ps (.int .i64 k) = 0 := by
  unfold leftOf
  have : (intOf (.int .i64 (k : Int))).toNat = k := by simp [intOf]
  rw [this, List.idxOf_eq_length hn]
  omega
theorem path_next {A B : Nat → Nat} {r k : Nat} {u v : List Nat} (h : Path A B r (u ++ k :: v) r) : A k = v.headD r := by
  have := (path_split.1 h).2
  exact path_first this
set_option maxRecDepth 100000 in
set_option maxHeartbeats 2000000 in
theorem each1_in (n : Nat) (hn : 1 ≤ n) (l g Br Bw b off cap r B n₁ : Nat) (lk : List Lnk) (ps : List Nat) (hpath : Path (lA lk) (lB lk) r ps r) (hps : (r :: ps).Nodup) (hlt : ∀ x ∈ r :: ps, x < lk.length)
    (hBr : Br ≠ B ∧ Br < n₁) (hBw : Bw ≠ B ∧ Bw < n₁) (hBg : g ≠ B ∧ g < n₁) (hBb : b ≠ B ∧ b < n₁) (J Jx : List Int → World → Prop)
    (hY : ∀ pre x W, J pre W → pre.length < ps.length → YieldAt Fence.wide (n - 1) Try.prog l #[.int .i64 x] W fun e W' =>
      (e = .returned (.bool true) ∧ J (pre ++ [x]) W' ∧ Kept B n₁ W W') ∨ (e = .returned (.bool false) ∧ Jx (pre ++ [x]) W'))
    (W : World) (hJd : ∀ pre W k, J pre W → J pre (W.drewN k)) (hR : RingAt W g Br Bw b off cap r lk) (hW : n₁ ≤ W.heap.size) (h0 : J [] W) :
    CallsIn Fence.wide n Try.prog 30 #[.func (.yield l) #[] #[], .pointer (some ⟨Br, 0, none⟩), .pointer (some ⟨Bw, 0, none⟩)] W fun e W' => (∃ v, e = .returned v) ∧
      ((∃ ys, ys = ps.map (lI lk) ∧ J ys W') ∨ (∃ pre, pre <+: ps.map (lI lk) ∧ Jx pre W')) := by
  have HRK := Lib.hid hR
  obtain ⟨e1, e2, e3, e4⟩ := hR
  have hrl : r < lk.length := hlt r (by simp)
  have e5 := (e4 r hrl).2
  have hA := path_first hpath
  rw [hA] at e5
  obtain ⟨q0, hq0⟩ : ∃ q0, ps.headD r = q0 := ⟨_, rfl⟩
  rw [hq0] at e5
  have ir : (r : Int) < lk.length := by omega
  have ir0 : (0 : Int) ≤ r := by omega
  have HH := Lib.hid (And.intro hpath (And.intro hps (And.intro hlt (And.intro e4 (And.intro hY (And.intro hJd hq0))))))
  clear e4 hpath hlt hY hA hJd hq0 hps
  refine callsIn_of_wp Try.func30 rfl trivial ?_ rfl
  simp only [Try.ntmps30, List.size_toArray, List.length_cons, List.length_nil, Nat.reduceAdd, Nat.reduceSub, Array.replicate_succ, Array.replicate_zero, List.push_toArray, List.append_toArray, List.nil_append, List.cons_append]
  gi_wp2
  refine wpIn_region_quiet_lit (F := Fence.wide) rfl (by kernel_rfl) (by kernel_rfl) ?_
  repeat (gi_big_quiet_step (fail))
  refine wpQuietIn_nil ?_
  intro _ hw'
  obtain ⟨nq, hw''⟩ := hw'
  subst hw''
  gi_wp2
  gi_loopw [4] (fun p wr => ∃ (pre rest : List Nat) (q : Nat), ps = pre ++ rest ∧ rest.headD r = q ∧ p = .int .i64 q ∧ RingAt wr g Br Bw b off cap r lk ∧ n₁ ≤ wr.heap.size ∧ J (pre.map (lI lk)) wr) (fun p _ => leftOf ps p)
  case atStart => exact ⟨[], ps, q0, rfl, HH.out.2.2.2.2.2.2, rfl, ⟨HRK.out.hr, HRK.out.hw, HRK.out.hg, HRK.out.hx⟩, hW, HH.out.2.2.2.2.2.1 _ _ _ h0⟩
  case round =>
    clear e1 e2 e3 e5 h0
    obtain ⟨pre, rest, q, hpr, hq, rfl, hR, hsz, hJ⟩ := hrel
    have hR0 := Lib.hid hR
    obtain ⟨e1, e2, e3, e4⟩ := hR
    obtain ⟨hpath, hps, hlt, _, hY, hJd, _⟩ := HH.out
    cases rest with
    | nil =>
      obtain rfl : r = q := hq
      have H1 := Lib.hid (And.intro hJ hpr)
      clear hJ hpr hpath hps hlt hY hJd e4
      gi_wp2
      go_end0
      exact ⟨⟨_, rfl⟩, .inl ⟨_, by rw [H1.out.2, List.append_nil], H1.out.1⟩⟩
    | cons k rest =>
      obtain rfl : k = q := hq
      have hkr : k ≠ r := fun e => (List.nodup_cons.1 hps).1 (by rw [hpr, ← e]; simp)
      have hkl : k < lk.length := hlt k (by rw [hpr]; simp)
      have e5 := (e4 k hkl).1
      have hkr1 : ((k : Int) == (r : Int)) = false := by simp; omega
      have hkr2 : ((k : Int) != (r : Int)) = true := by simp; omega
      have ik : (k : Int) < lk.length := by omega
      have ik0 : (0 : Int) ≤ k := by omega
      obtain ⟨fn, tmps, assign, body, hy, hR⟩ := hY (pre.map (lI lk)) (lI lk k) wr hJ (by rw [hpr]; simp)
      have H1 := Lib.hid (And.intro hJ (And.intro hpr (And.intro hkr (And.intro hkl e4))))
      clear hJ hpr hpath hps hlt hY hJd e4 hkr
      gi_wp2
      refine hR.mono ?_
      rintro e W3 (⟨rfl, hJ3, hk3⟩ | ⟨rfl, hJx3⟩)
      · have hR3 := hR0.out.kept hk3 hBr hBw hBg hBb hsz
        have hsz3 : n₁ ≤ W3.heap.size := Nat.le_trans hsz (Fr.size hk3)
        have HR3 := Lib.hid hR3
        obtain ⟨e1, e2, e3, e4⟩ := hR3
        have e6 := (e4 k hkl).2
        obtain ⟨q1, hq1⟩ : ∃ q1, rest.headD r = q1 := ⟨_, rfl⟩
        have hpn : lA lk k = q1 := by
          obtain ⟨hpath, _⟩ := HH.out
          rw [H1.out.2.1] at hpath
          rw [path_next hpath, hq1]
        rw [hpn] at e6
        have H3 := Lib.hid (And.intro hJ3 (And.intro hk3 hq1))
        clear hJ3 hk3 hq1 e4 hpn
        gi_wp2
        go_roundw
        case rel => exact ⟨pre ++ [k], rest, q1, by rw [H1.out.2.1]; simp, H3.out.2.2, rfl, HR3.out, hsz3, by rw [List.map_append]; exact H3.out.1⟩
        case measure =>
          obtain ⟨_, hps, _⟩ := HH.out
          have hpr := H1.out.2.1
          rw [hpr] at hps ⊢
          rw [leftOf_in (List.nodup_cons.1 hps).2, ← H3.out.2.2]
          cases rest with
          | nil => rw [show ([] : List Nat).headD r = r from rfl, leftOf_out (List.nodup_cons.1 hps).1]; omega
          | cons y rest =>
            have e : pre ++ k :: y :: rest = (pre ++ [k]) ++ y :: rest := by simp
            rw [show (y :: rest).headD r = y from rfl, e]
            rw [e] at hps
            rw [leftOf_in (List.nodup_cons.1 hps).2]
            simp
      · have HX := Lib.hid hJx3
        clear hJx3
        gi_wp2
        refine bodyPost_ret (results_none rfl _ _ _) rfl ?_
        exact ⟨⟨_, rfl⟩, .inr ⟨pre.map (lI lk) ++ [lI lk k], ⟨rest.map (lI lk), by rw [H1.out.2.1]; simp⟩, HX.out⟩⟩
set_option maxHeartbeats 1000000 in
theorem each_in (n : Nat) (g r : Nat) (w : World) :
    CallsIn Fence.wide n Try.prog 22 #[.pointer (some ⟨g, 0, none⟩), .int .i64 r] w fun e w' => e = .returned (.func (.func 30) #[] #[.pointer (some ⟨w.heap.size, 0, none⟩), .pointer (some ⟨w.heap.size + 1, 0, none⟩)]) ∧
      w' = (w.alloc (.cells #[.pointer (some ⟨g, 0, none⟩)] 31)).alloc (.cells #[.int .i64 r] 3) := by
  refine callsIn_of_wp Try.func22 rfl trivial ?_ rfl
  simp only [Try.ntmps22, List.size_toArray, List.length_cons, List.length_nil, Nat.reduceAdd, Nat.reduceSub, Array.replicate_succ, Array.replicate_zero, List.push_toArray, List.append_toArray, List.nil_append, List.cons_append]
  gi_wp2
  go_ret
  exact ⟨rfl, rfl⟩
theorem below_drewN {w0 W : World} {n : Nat} (h : Below n w0 W) (k : Nat) : Below n w0 (W.drewN k) := ⟨h.os, h.tape, h.output, h.size, h.block⟩
theorem each_stops (n : Nat) (hn : 1 ≤ n) (g Br Bw b off cap r B n₁ : Nat) (lk : List Lnk) (ps : List Nat) (hpath : Path (lA lk) (lB lk) r ps r) (hps : (r :: ps).Nodup) (hlt : ∀ x ∈ r :: ps, x < lk.length)
    (hBr : Br ≠ B ∧ Br < n₁) (hBw : Bw ≠ B ∧ Bw < n₁) (hBg : g ≠ B ∧ g < n₁) (hBb : b ≠ B ∧ b < n₁) (w : World) (hR : RingAt w g Br Bw b off cap r lk) (hW : n₁ = w.heap.size) :
    SeqStopsK Fence.wide n Try.prog 30 #[.pointer (some ⟨Br, 0, none⟩), .pointer (some ⟨Bw, 0, none⟩)] (fun x : Int => #[Value.int .i64 x]) (Kept B n₁) (fun ys => ys = ps.map (lI lk)) (fun pre => pre <+: ps.map (lI lk)) ps.length w := fun l J Jx W hb hJ _ hY h0 => by
  have hc : ∀ c i, c < n₁ → W.cell? ⟨c, i, none⟩ = w.cell? ⟨c, i, none⟩ := fun c i h => hb.cell (p := ⟨c, i, none⟩) (by simp; omega)
  refine each1_in n hn l g Br Bw b off cap r B n₁ lk ps hpath hps hlt hBr hBw hBg hBb J Jx hY W (fun pre W1 k hJ1 => ?_) ⟨(hc _ _ hBr.2).trans hR.hr, (hc _ _ hBw.2).trans hR.hw, (hc _ _ hBg.2).trans hR.hg, fun k hk => ⟨(hc _ _ hBb.2).trans (hR.hx k hk).1, (hc _ _ hBb.2).trans (hR.hx k hk).2⟩⟩ (by have := hb.size; omega) h0
  exact hJ pre W1 (W1.drewN k) none hJ1 ⟨rfl, rfl, rfl, Nat.le_refl _, fun _ _ _ => rfl⟩ (fun r e => by cases e)
def int64s (l : List Int) : List Value := l.map (Value.int .i64)
set_option maxHeartbeats 1000000 in
theorem rows_all_none (S : Nat → Prop) (g n : Nat) (L : Nat → List Int) (N : Nat) (row : Int) (w : World) (hG : RowsAt w S g n L N) (hno : ¬ (0 ≤ row ∧ row < (n : Int))) :
    Calls Try.prog 9 #[.pointer (some ⟨g, 0, none⟩), .int .i64 row] w fun e w' => e = .returned (.slice none 0 0) ∧ Fr (fun _ => False) w w' := by
  have HC := Lib.hid (rows_has S g n L N row (w.alloc (.cells #[.slice none 0 0] 29)) (hG.frame fun b hb _ => heap_alloc_old _ hb))
  have HD := Lib.hid (decide_eq_false hno)
  clear hG hno
  go_enter Try.func9, Try.ntmps9
  go_wp2_with (go_at_call 21; refine HC.out.mono ?_; rintro e w' ⟨rfl, rfl⟩; rw [HD.out])
  go_ret
  exact ⟨rfl, (Fr.refl _ w).alloc _⟩
theorem ownsRow_low {W : World} {base base' : Nat} {e : TypeId} {size : Nat} {v : Value} {k : Nat} {xs : List Value} (h : W.ownsRow base e size v k xs) (hb : base' ≤ base) : W.ownsRow base' e size v k xs := by
  obtain ⟨h1, h2⟩ := h
  refine ⟨h1, ?_⟩
  rcases h2 with h2 | ⟨g, cap, cur, hv, hg, r⟩
  · exact Or.inl h2
  · exact Or.inr ⟨g, cap, cur, hv, Nat.le_trans hb hg, r⟩
theorem kept_append {W w1 : World} {n₁ B : Nat} {t e : TypeId} {size : Nat} {v v' : Value} {k m : Nat} {xs ys : List Value} {tmp : Obj} (hv : Boxed W B t v) (hrow : W.ownsRow n₁ e size v k xs) (hown' : w1.ownsRow n₁ e size v' m ys) (hgrow : (W.alloc tmp).grownBy w1 v.ownBlock) :
    Kept B n₁ W (w1.setCell ⟨B, 0, none⟩ v') := by
  refine Fr.setCell (((Fr.refl _ W).alloc tmp).trans (Fr.of_grown hgrow) fun i _ h => ?_) (fun _ => Or.inl rfl) v'
  rcases hrow.2 with ⟨rfl, _⟩ | ⟨g, cap, cur, rfl, hg, _⟩
  · cases h
  · obtain rfl : i = g := by simpa [Value.ownBlock] using h
    exact Or.inr hg
set_option maxRecDepth 100000 in
set_option maxHeartbeats 2000000 in
theorem rows_all_some (S : Nat → Prop) (g n : Nat) (L : Nat → List Int) (N : Nat) (r : Nat) (w : World) (hG : RowsAt w S g n L N) (hr : r < n) (hN1 : N ≤ 1000000) :
    Calls Try.prog 9 #[.pointer (some ⟨g, 0, none⟩), .int .i64 r] w fun e w' => ∃ v, e = .returned v ∧ Sl w' (fun b => w.heap.size ≤ b) 3 1 v (L r).length (int64s (L r)) ∧ Below w.heap.size w w' := by
  have HC := Lib.hid (rows_has S g n L N r (w.alloc (.cells #[.slice none 0 0] 29)) (hG.frame fun b hb _ => heap_alloc_old _ hb))
  have HD := Lib.hid (show decide (0 ≤ (r : Int) ∧ (r : Int) < (n : Int)) = true from decide_eq_true (by omega))
  obtain ⟨lk, free, l, Ps, cnt, hM, hG, hL, hcnt, hN, hn0, hn8, hLN⟩ := hG
  obtain ⟨m, nb, lv, fv, o, hO⟩ := hM.opened
  have c0 := cell_of_heap hO.hg 0
  simp at c0
  have hgl := lt_of_heap hO.hg
  obtain ⟨b, off, cap, rfl, _, hbl, _, hx, _⟩ := links_at hO.hlk (by have := hG.len; omega)
  have hlt : ∀ x ∈ r :: Ps r, x < lk.length := fun x hx => by
    rcases List.mem_cons.1 hx with q | q
    · have := hG.len; omega
    · exact (hG.place r hr x q).2.1
  have hlr := hL r
  have hln := hLN r
  have hpl : (Ps r).length = (L r).length := by rw [hlr]; simp [Ls]
  have HH := Lib.hid (And.intro (hG.ring r hr) (And.intro (hG.ringNodup hr) (And.intro hlt (And.intro hlr (And.intro hx (And.intro c0 hpl))))))
  obtain ⟨i0, hi, hz0, hz1, hz2⟩ := info_parts info_i64
  clear hM hG hL hcnt hO hlt hlr hx c0 hLN
  refine (callsIn_wide (n := 3)).1 ?_
  refine callsIn_of_wp_marks Try.func9 rfl trivial ?_ rfl
  simp only [Try.ntmps9, List.size_toArray, List.length_cons, List.length_nil, Nat.reduceAdd, Nat.reduceSub, Array.replicate_succ, Array.replicate_zero, List.push_toArray, List.append_toArray, List.nil_append, List.cons_append]
  gi_wp2_with (first
    | (refine ⟨trivial, ?_⟩; gi_at_call 21; refine (callsIn_wide.2 HC.out).mono ?_; rintro e w' ⟨rfl, rfl⟩; rw [HD.out])
    | (refine ⟨trivial, ?_⟩; gi_at_call 22; refine (each_in _ _ _ _).mono ?_; rintro e w' ⟨rfl, rfl⟩))
  obtain ⟨hpath, hps, hlt, hlr, hx, c0, hpl⟩ := HH.out
  obtain ⟨W0, hW0⟩ : ∃ W0, ((w.alloc (.cells #[.slice none 0 0] 29)).alloc (.cells #[.pointer (some ⟨g, 0, none⟩)] 31)).alloc (.cells #[.int .i64 r] 3) = W0 := ⟨_, rfl⟩
  have bO : Boxed W0 w.heap.size 29 (.slice none 0 0) := by rw [← hW0]; exact ((Boxed.new w _ _).alloc _).alloc _
  have bR : Boxed W0 (w.heap.size + 1) 31 (.pointer (some ⟨g, 0, none⟩)) := by
    rw [← hW0]; have := (Boxed.new (w.alloc (.cells #[.slice none 0 0] 29)) 31 (.pointer (some ⟨g, 0, none⟩))).alloc (.cells #[.int .i64 r] 3); simpa using this
  have bW : Boxed W0 (w.heap.size + 1 + 1) 3 (.int .i64 r) := by
    rw [← hW0]; have := Boxed.new ((w.alloc (.cells #[.slice none 0 0] 29)).alloc (.cells #[.pointer (some ⟨g, 0, none⟩)] 31)) 3 (.int .i64 r); simpa using this
  have hz0' : W0.heap.size = w.heap.size + 1 + 1 + 1 := by rw [← hW0]; simp
  have hF0 : Fr (fun _ => False) w W0 := by rw [← hW0]; exact (((Fr.refl _ w).alloc _).alloc _).alloc _
  have hB0 : Below w.heap.size w W0 := hF0.below (Nat.le_refl _) (fun k hk h => h.elim)
  have hR0 : RingAt W0 g (w.heap.size + 1) (w.heap.size + 1 + 1) b off cap r lk := by
    refine ⟨bR.cell, bW.cell, (hF0.cell (p := ⟨g, 0, none⟩) hgl (fun h => h)).trans c0, fun k hk => ?_⟩
    obtain ⟨h0, _, _, h3⟩ := hx k hk
    exact ⟨(hF0.cell (p := ⟨b, off + k * 4, none⟩) hbl (fun h => h)).trans h0, (hF0.cell (p := ⟨b, off + k * 4 + 3, none⟩) hbl (fun h => h)).trans h3⟩
  have hst := each_stops (3 - 1) (by decide) g (w.heap.size + 1) (w.heap.size + 1 + 1) b off cap r w.heap.size W0.heap.size lk (Ps r) hpath hps hlt ⟨by omega, by omega⟩ ⟨by omega, by omega⟩ ⟨by omega, by omega⟩ ⟨by omega, by omega⟩ W0 hR0 rfl
  rw [hW0]
  have HH2 := Lib.hid (And.intro hlr hpl)
  clear hW0 hpath hps hlt hlr hx c0 hR0 hpl bR bW hF0
  refine wpIn_rangeFunc_ownG rfl (by decide) (gf := 30) (lb := #[.pointer (some ⟨w.heap.size + 1, 0, none⟩), .pointer (some ⟨w.heap.size + 1 + 1, 0, none⟩)]) rfl trivial (enters_of Try.func30 (by kernel_rfl) rfl)
    hst (fun h k => Fr.trans h k (fun _ _ h => h)) (fun W l o o' hl _ _ _ => (Fr.refl _ W).putObj (fun _ => Or.inr hl) o') (Below.refl _ _) (fun _ => rfl)
    (fun pre W => (∃ v, Boxed W w.heap.size 29 v ∧ W.ownsRow W0.heap.size 3 1 v pre.length (int64s pre) ∧ True) ∧ Below w.heap.size w W ∧ W0.heap.size ≤ W.heap.size)
    (fun _ _ _ => False)
    (OwnFrom.and (Own.from (holdsRow_own W0.heap.size w.heap.size 29 3 1 (fun pre => pre.length) (fun pre => int64s pre) (fun _ _ => True)) _) (OwnFrom.and (ownFrom_below (Nat.le_refl _) (by omega)) (fun _ _ _ _ hs hg _ => Nat.le_trans hs hg.size)))
    (fun _ _ _ _ _ hs _ _ => hs)
    ⟨⟨_, bO, World.ownsRow_nil _ _ _ _, trivial⟩, hB0, Nat.le_refl _⟩
    (fun x => { tmps := #[.pointer (some ⟨g, 0, none⟩), .int .i64 r, undef, undef, .slice none 0 0, .pointer (some ⟨w.heap.size, 0, none⟩), .int .i64 x, .pointer (some ⟨g, 0, none⟩), .int .i64 r, .bool true, .pointer (some ⟨g, 0, none⟩), .int .i64 r, .func (.func 30) #[] #[.pointer (some ⟨w.heap.size + 1, 0, none⟩), .pointer (some ⟨w.heap.size + 1 + 1, 0, none⟩)], .int .i64 x, undef, undef, undef, undef, undef], defers := [] }) ?assign ?body ?done ?stop
  case assign =>
    intro l x W K hK
    gi_wp2
    exact hK
  case body =>
    rintro l pre x W ⟨⟨v, hv, hrow, _⟩, hB, hz4⟩ hlt
    rw [HH2.out.2] at hlt
    have hc := hv.cell
    have hbz := hB.size
    have hlt2 : pre.length < 1000000 := by omega
    gi_wp2_with (gi_at_builtin; go_must (refine wpListIn_append_own _ rfl _ _ 29 rfl W0.heap.size 3 i0 (.int .i64 0) 1 8 Try.underlying29 hi hz0 hz1 hz2 rfl (by decide) _ _ _ rfl (hrow.alloc _) ⟨W.heap.size, 0, none⟩ 1 1 [.int .i64 x] rfl rfl (cell_one_new _ _ _) (by simp [Value.oneCell']) (by unfold maxLen; omega) (by omega) (by simp; omega) ?_); intro v' w1 hown' hgrow _; obtain ⟨g', cap', rfl⟩ := ownsRow_succ hown'; have hkF := kept_append hv hrow hown' hgrow; obtain ⟨hv1, hv2, hr2, hk2, hb2⟩ := hv.appended (n₀ := w.heap.size) (by decide) (ownsRow_low hrow (by omega)) hbz (Nat.le_refl _) (ownsRow_low hown' (by omega)) hgrow; have hc1 := hv1.cell; have hf1 := hv1.frozen)
    have hbb := Fr.size hkF
    exact ⟨hk2.from _, hkF, ⟨_, hv2, by
      have := hown'.kept (grownBy_setCell' w1 w.heap.size (.slice (some ⟨g', 0, none⟩) (pre.length + 1) cap')) (.inr (hv1.not_row (by decide) hown').symm)
      simpa [int64s] using this, trivial⟩, hB.trans hb2, Nat.le_trans hz4 hbb⟩
  case done =>
    rintro D ys W hD rfl ⟨⟨v, hv, hrow, _⟩, hB, hz4⟩ hK
    have hc := hv.cell
    gi_wp2
    refine ⟨by simp, .inl ⟨_, _, rfl, run_takeDeferred hK, ?_⟩⟩
    refine ⟨_, results_tmp rfl _ _ _, v, rfl, ?_, hB.trans (belowK_b (w := w) (Nat.le_refl _) W D _ _ (by omega) hK rfl rfl)⟩
    have hro := ownsRow_putObj hrow (.deferred none) hK rfl
    rw [HH2.out.1]
    exact Sl.of_owns hro (fun b h1 _ => by omega)
  case stop =>
    rintro D c pre W _ _ h _
    exact h.elim
theorem Fr.belowAll {w w' : World} (h : Fr (fun _ => False) w w') : Below w.heap.size w w' := h.below (Nat.le_refl _) (fun _ _ h => h.elim)
/-- All (J2). -/
theorem rows_all (S : Nat → Prop) (g n : Nat) (L : Nat → List Int) (N : Nat) (row : Int) (w : World) (hG : RowsAt w S g n L N) (hN1 : N ≤ 1000000) :
    Calls Try.prog 9 #[.pointer (some ⟨g, 0, none⟩), .int .i64 row] w fun e w' => ∃ v, e = .returned v ∧ Sl w' (fun b => w.heap.size ≤ b) 3 1 v (rowL L row).length (int64s (rowL L row)) ∧ Below w.heap.size w w' := by
  by_cases h : 0 ≤ row ∧ row < (n : Int)
  · obtain ⟨r, rfl⟩ : ∃ r : Nat, row = r := ⟨row.toNat, by omega⟩
    rw [rowL_nat]
    exact rows_all_some S g n L N r w hG (by omega) hN1
  · rw [hG.rowL_none h]
    exact (rows_all_none S g n L N row w hG h).mono fun e w' ⟨he, hF⟩ => ⟨_, he, Sl.nil _ _ _ _, hF.belowAll⟩
end Go.Proofs.Ytemdhnolccnnfaa
