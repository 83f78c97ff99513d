/- The reference of layer 10 (rows): Front. -/
import Derived.Test.YtldnacphfoagnacRfD
import Derived.Deep.RegionLaw
namespace Go.Proofs.Ytldnacphfoagnac
open Go.RowKit
set_option linter.unusedVariables false
theorem step_append_from {P : Program} {S S2 : Nat → Prop} {ops : Array Oper} {o : Oper} {a : Act} {w : World} {K : Act → World → Prop} {Q : Exit → Act → World → Prop} {E : Prop}
    (hg : o.guard = none) (s x : Operand) (t : TypeId) (hop : o.op = Op.call { callee := Callee.builtin Builtin.append, args := #[s, x], argTypes := #[t, t] })
    (e : TypeId) (i : TypeInfo) (z : Value) (bytes : Nat) (ht : P.underlying t = some (.slice e)) (h2 : P.info? e = some i) (h3 : i.zero = some z) (h4 : i.size = 1) (h5 : i.bytes = bytes) (h6 : z.cells.size = 1)
    (v : Value) (n : Nat) (xs : List Value) (hs : a.eval s = v) (hown : Sl w S e 1 v n xs) (u : Value) (m : Nat) (ys : List Value) (hx : a.eval x = u) (hsrc : Sl w S2 e 1 u m ys) (h1c : ∀ y ∈ ys, y.oneCell' = true)
    (b1 : n + m ≤ maxLen) (b2 : (n + m) * bytes ≤ 140737488355328)
    (hK : ∀ v' w', Sl w' (grow S w w') e 1 v' (n + m) (xs ++ ys) → Fr (Arr S w e) w w' → K (a.put o.dst v') w') :
    if Region.wanted o (yielded ops a.tmps) = true then Oper.wp P o a w K Q else E := by
  have hw : Region.wanted o (yielded ops a.tmps) = true := by simp [Region.wanted, hg]
  rw [if_pos hw]
  obtain ⟨v', w', hrun, r1, r2⟩ := run_append_from (P := P) t o.type e i z bytes ht h2 h3 h4 h5 h6 v n xs hown u m ys hsrc h1c b1 b2
  unfold Oper.wp
  simp [execOp, hop, resolve, invoke, builtin, hs, hx, hrun, Result.andThen]
  exact hK v' w' r1 r2
theorem Dsj.nodup {n : Nat} {L : Nat → List Int} (h : Dsj n L) : Dsj n L := h
set_option maxHeartbeats 4000000 in
theorem rf_front (S : Nat → Prop) (r n : Nat) (L : Nat → List Int) (row id : Int) (w : World) (h : Rf w S r n L) (hN : ∀ k, (L k).length ≤ 1000000) (hd : Dsj n L) :
    Calls Try.prog 36 #[.pointer (some ⟨r, 0, none⟩), .int .i64 row, .int .i64 id] w fun e w' => e = .returned (.bool (mayIn n row id)) ∧ Rf w' (grow S w w') r n (frontL n L row id) ∧ Fr S w w' := by
  obtain ⟨i0, hi, hz0, hz1, hz2⟩ := info_parts info_i64
  have HM := Lib.hid (rf_may S r n L row id w h)
  have HT := Lib.hid (rf_take S r n L id w h hN hd)
  have HH := Lib.hid h
  obtain ⟨bm, hbm⟩ : ∃ bm, mayIn n row id = bm := ⟨_, rfl⟩
  have hiff := mayIn_iff hbm
  have hfl : frontL n L row id = if bm then putF (del L id) row.toNat id else L := by unfold frontL; rw [hbm]
  rw [hbm] at HM ⊢
  rw [hfl]
  clear hfl hbm h
  rcases bm with _ | _
  · clear hiff
    go_enter Try.func36, Try.ntmps36
    go_wp2_with fail
    refine HM.out.mono ?_
    rintro e w1 ⟨rfl, rfl⟩
    go_wp2
    go_ret
    exact ⟨rfl, HH.out.mono fun b _ q => Or.inl q, Fr.refl _ _⟩
  · obtain ⟨⟨hr0, hr1⟩, hid0, hid1⟩ := hiff.1 rfl
    obtain ⟨k, rfl⟩ : ∃ k : Nat, row = k := ⟨row.toNat, by omega⟩
    have hkn : k < n := by omega
    obtain ⟨bt, hbt⟩ : ∃ bt, decide (0 ≤ rowOf n L id) = bt := ⟨_, rfl⟩
    rw [hbt] at HT
    obtain ⟨l, hl⟩ : ∃ l, del L id k = l := ⟨_, rfl⟩
    have hll : l.length ≤ 1000000 := by rw [← hl]; exact Nat.le_trans (List.length_filter_le _ _) (hN k)
    clear hiff hr0 hid0 hid1 hN hd hbt
    go_enter Try.func36, Try.ntmps36
    go_wp2_with fail
    refine HM.out.mono ?_
    rintro e w0 ⟨rfl, rfl⟩
    go_wp2_with fail
    refine HT.out.mono ?_
    rintro e w1 ⟨rfl, hA, hF⟩
    obtain ⟨lb, cs, hO⟩ := hA
    obtain ⟨c0, _, hrb, hlb⟩ := hO.cell
    obtain ⟨a, cap, hc, hcap, hs, hfq⟩ := hO.row hkn
    rw [hl] at hc hcap hs
    have ea : ∀ (o : Obj) (j : Nat), (w1.drew.alloc o).cell? ⟨r, j, none⟩ = w1.cell? ⟨r, j, none⟩ := fun o j => World.cell?_of_block (w := w1) (a := ⟨r, j, none⟩) (heap_alloc_old (w := w1.drew) o hrb)
    have eb : ∀ (o : Obj) (j : Nat), (w1.drew.alloc o).cell? ⟨lb, j, none⟩ = w1.cell? ⟨lb, j, none⟩ := fun o j => World.cell?_of_block (w := w1) (a := ⟨lb, j, none⟩) (heap_alloc_old (w := w1.drew) o hlb)
    have H1 := Lib.hid (And.intro hO (And.intro hF (And.intro hs (And.intro c0 (And.intro hc hfq)))))
    have HZ : ∀ o : Obj, Sl (w1.drew.alloc (.cells #[.int .i64 id] 3)) (fun b => w1.heap.size ≤ b) 3 1 (.slice (some ⟨w1.heap.size, 0, none⟩) 1 1) 1 [.int .i64 id] := fun o =>
      ⟨rfl, Or.inr ⟨w1.heap.size, 0, 1, #[.int .i64 id], rfl, Nat.le_refl _, heap_alloc_new w1.drew _, Nat.le_refl _, by unfold maxLen; omega, by simp, fun i hi => (match i, hi with
        | 0, _ => rfl)⟩⟩
    have HZ2 := Lib.hid (HZ (.cells #[] 0))
    clear HZ hO hF hs
    go_wp2_with fail
    go_region_law (refine step_append_from (S := fun b => w1.heap.size ≤ b) rfl _ _ 28 rfl 3 i0 (.int .i64 0) 8 Try.underlying28 hi hz0 hz1 hz2 rfl _ 1 [.int .i64 id] rfl HZ2.out _ l.length (l.map (Value.int .i64)) rfl (Sl.alloc (Sl.frame H1.out.2.2.1 (fun _ _ _ => rfl)) _) (ints_oneCell .i64 l) (by unfold maxLen; omega) (by omega) ?_; intro v2 w2 hs2 hf2; have hq : Fr (fun b => w1.heap.size ≤ b) w1 w2 := (((Fr.refl (fun b => w1.heap.size ≤ b) w1).drew).alloc (.cells #[.int .i64 id] 3)).trans hf2.arr (fun b _ q => q); have e0 := (hq.cell (p := ⟨r, 0, none⟩) hrb (by simp; omega)).trans H1.out.2.2.2.1; have e1 := (hq.cell (p := ⟨lb, k, none⟩) hlb (by simp; omega)).trans H1.out.2.2.2.2.1; have e2 := (hq.fro (p := ⟨lb, k, none⟩) hlb (by simp; omega)).trans H1.out.2.2.2.2.2; obtain ⟨sa, scap, rfl, _⟩ := hs2.shape; have HS2 := Lib.hid (And.intro hs2 hq); clear hs2 hf2 hq)
    all_goals
      go_wp2
      go_ret
      have h3 : Sl w2 (fun b => w1.heap.size ≤ b) 3 1 (.slice sa (1 + l.length) scap) (id :: l).length ((id :: l).map (Value.int .i64)) := by
        rw [show (id :: l).length = 1 + l.length from by rw [List.length_cons]; omega]
        exact HS2.out.1.mono fun b _ q => q.elim (fun q => q) (fun q => by have := q.1; simp at this; omega)
      have hput := H1.out.1.put HS2.out.2 hkn h3
      have hL : putF (del L id) k id = fun j => if j = k then id :: l else del L id j := by
        funext j
        unfold putF
        by_cases e : j = k
        · rw [if_pos e, if_pos e, e, hl]
        · rw [if_neg e, if_neg e]
      rw [← hL] at hput
      exact ⟨rfl, hput.1.mono fun b _ q => grow_grow H1.out.2.1.size hput.2.size q, H1.out.2.1.grown hput.2⟩
end Go.Proofs.Ytldnacphfoagnac
