/- Layer 9 (chain): all, which goes through the keys of buckets. -/
import Derived.Test.YtnabgcnndehaaaaChSep
import Derived.Test.YtnabgcnndehaaaaChKeys
import Derived.RangeFuncBox
import Derived.RangeFuncLeaves
import Derived.Shelf.Abstract
import Derived.OwnWalkIn
import Derived.TacticsInMore
import Derived.LoopNIn
import Derived.LoopIn
import Derived.Sort.LoopGhostIn
import Derived.WalkMore
import Derived.Maps.AppendAt
import Derived.Sort.QuietIn
namespace Go.Proofs.Ytnabgcnndehaaaa
open Go.RowKit Go.Shelf
set_option linter.unusedVariables false
attribute [local go_sem] Oper.semAt_some
/-- What a round of the caller keeps: all but its own box and what is new. -/
def KeptK (B n₁ : Nat) : World → World → Prop := Fr fun b => b = B ∨ n₁ ≤ b
/-- What the iterator reads: its box, the rows of buckets, the buckets. -/
structure BkAt (w : World) (S : Nat → Prop) (Br vb m : Nat) (A : Nat → Option Addr) (N C : Nat → Nat) (E : Nat → Nat → List KN) : Prop where
  hr : w.cell? ⟨Br, 0, none⟩ = some (.slice (some ⟨vb, 0, none⟩) m m)
  hSr : S Br
  hSv : S vb
  hv : ∀ i, i < m → w.cell? ⟨vb, i, none⟩ = some (.slice (A i) (N i) (C i)) ∧ N i ≤ C i ∧ N i ≤ 2097152
  hx : ∀ i, i < m → ∀ j, j < N i → ∃ b off v, A i = some ⟨b, off, none⟩ ∧ S b ∧ w.cell? ⟨b, off + j, none⟩ = some v ∧ Chn w S v (E i j)
theorem BkAt.kept {w w' : World} {S : Nat → Prop} {Br vb m B n₁ : Nat} {A : Nat → Option Addr} {N C : Nat → Nat} {E : Nat → Nat → List KN} (h : BkAt w S Br vb m A N C E) (hk : KeptK B n₁ w w') (hS : ∀ b, S b → b ≠ B ∧ b < n₁) (hn : n₁ ≤ w.heap.size) : BkAt w' S Br vb m A N C E := by
  have hc : ∀ c i, S c → w'.cell? ⟨c, i, none⟩ = w.cell? ⟨c, i, none⟩ := fun c i h => Fr.cell hk (by have := hS c h; simp; omega) (by have := hS c h; simp; omega)
  refine ⟨(hc _ _ h.hSr).trans h.hr, h.hSr, h.hSv, fun i hi => ⟨(hc _ _ h.hSv).trans (h.hv i hi).1, (h.hv i hi).2⟩, fun i hi j hj => ?_⟩
  obtain ⟨b, off, v, h1, h2, h3, h4⟩ := h.hx i hi j hj
  exact ⟨b, off, v, h1, h2, (hc _ _ h2).trans h3, chn_keep h4 (fun b' k n nx e q _ => Fr.block hk b' (lt_of_heap e) (by have := hS b' q; omega)) (fun _ _ q => q)⟩
/-- The keys of so many rows of buckets. -/
def allK (E : Nat → Nat → List KN) (N : Nat → Nat) : Nat → List ByteArray
  | 0 => []
  | i + 1 => allK E N i ++ rowsK (E i) (N i)
theorem allK_pre (E : Nat → Nat → List KN) (N : Nat → Nat) : ∀ {i m : Nat}, i ≤ m → ∃ r, allK E N m = allK E N i ++ r
  | i, 0, h => ⟨[], by obtain rfl : i = 0 := by omega
                       rfl⟩
  | i, m + 1, h => by
    by_cases e : i = m + 1
    · subst e; exact ⟨[], by simp⟩
    · obtain ⟨r, hr⟩ := allK_pre E N (i := i) (m := m) (by omega)
      exact ⟨r ++ rowsK (E m) (N m), by show allK E N m ++ _ = _; rw [hr, List.append_assoc]⟩
theorem rowsK_pre (F : Nat → List KN) : ∀ {i m : Nat}, i ≤ m → ∃ r, rowsK F m = rowsK F i ++ r
  | i, 0, h => ⟨[], by obtain rfl : i = 0 := by omega
                       rfl⟩
  | i, m + 1, h => by
    by_cases e : i = m + 1
    · subst e; exact ⟨[], by simp⟩
    · obtain ⟨r, hr⟩ := rowsK_pre F (i := i) (m := m) (by omega)
      exact ⟨r ++ ks (F m), by show rowsK F m ++ _ = _; rw [hr, List.append_assoc]⟩
/-- In the midst: the next key. -/
theorem mid_key {E : Nat → Nat → List KN} {N : Nat → Nat} {m i j : Nat} {p : List KN} {e : KN} {r : List KN} (hi : i < m) (hj : j < N i) (he : E i j = p ++ e :: r) :
    ∃ t, allK E N m = (allK E N i ++ rowsK (E i) j ++ ks p) ++ e.1 :: t := by
  obtain ⟨r1, h1⟩ := allK_pre E N (i := i + 1) (m := m) (by omega)
  obtain ⟨r2, h2⟩ := rowsK_pre (E i) (i := j + 1) (m := N i) (by omega)
  refine ⟨ks r ++ r2 ++ r1, ?_⟩
  rw [h1]
  show (allK E N i ++ rowsK (E i) (N i)) ++ r1 = _
  rw [h2]
  show (allK E N i ++ ((rowsK (E i) j ++ ks (E i j)) ++ r2)) ++ r1 = _
  rw [he, ks_app, ks_cons]
  simp
section
variable {F : Fence} {n : Nat} {P : Program} {b : Frame} {a : Act} {k : List Item} {cs : List Frame} {w : World} {Q : Exit → Act → World → Prop}
theorem stepR_scope {c : Code} : step P (lone (b.atR a (.code (.scope c) :: k)) cs w) = .next (lone (b.atR a (.code c :: .inScope c :: k)) cs w) :=
  step_lone_go (by simp [stepG, stepG.exec, Frame.atR])
theorem stepR_inScope {c : Code} : step P (lone (b.atR a (.inScope c :: k)) cs w) = .next (lone (b.atR a k) cs w) :=
  step_lone_go (by simp [stepG, stepG.exec, Frame.atR])
/-- A scope through which the run goes without a jump, inside a fence. -/
theorem wpIn_scope_straight {c : Code} (h : c.wpIn F n P (Exit.noGoto Q) a w) : (Code.scope c).wpIn F n P Q a w := by
  intro b k cs hro hb hr
  have h0 : (lone (b.atR a (.code (.scope c) :: k)) cs w).fenced P F := fenced_calm hb hr rfl
  obtain ⟨e, a₁, w₁, hq, harr⟩ := h b (.inScope c :: k) cs hro hb hr
  cases e with
  | normal => exact ⟨.normal, a₁, w₁, hq, .head h0 stepR_scope (StepsIn.trans harr (.one (fenced_calm hb hr rfl) stepR_inScope))⟩
  | exit id =>
    have hx : exitTo id (.inScope c :: k) = exitTo id k := by simp [exitTo]
    exact ⟨.exit id, a₁, w₁, hq, fun k' hk => .head h0 stepR_scope (harr.1 k' (by rw [hx]; exact hk)),
      fun hr' hk => let ⟨k₁, h1, h2⟩ := harr.2 hr' (by rw [hx]; exact hk); ⟨k₁, h1, .head h0 stepR_scope h2⟩⟩
  | goto l => exact hq.elim
  | ret => exact ⟨_, a₁, w₁, hq, .of_steps (.one h0 stepR_scope) harr⟩
  | panic ch => exact ⟨_, a₁, w₁, hq, .of_steps (.one h0 stepR_scope) harr⟩
  | outgrown => exact ⟨_, a₁, w₁, hq, .of_steps (.one h0 stepR_scope) harr⟩
end
set_option maxRecDepth 100000 in
set_option maxHeartbeats 2000000 in
theorem all1_in (n : Nat) (hn : 1 ≤ n) (l Br vb m B n₁ : Nat) (S : Nat → Prop) (A : Nat → Option Addr) (N C : Nat → Nat) (E : Nat → Nat → List KN) (hm : m ≤ 2)
    (hS : ∀ b, S b → b ≠ B ∧ b < n₁) (J Jx : List ByteArray → World → Prop)
    (hY : ∀ pre x W, J pre W → pre.length < (allK E N m).length → YieldAt Fence.wide (n - 1) Try.prog l #[.string x] W fun e W' =>
      (e = .returned (.bool true) ∧ J (pre ++ [x]) W' ∧ KeptK B n₁ W W') ∨ (e = .returned (.bool false) ∧ Jx (pre ++ [x]) W'))
    (W : World) (hJd : ∀ pre W k, J pre W → J pre (W.drewN k)) (hR : BkAt W S Br vb m A N C E) (hW : n₁ ≤ W.heap.size) (h0 : J [] W) :
    CallsIn Fence.wide n Try.prog 35 #[.func (.yield l) #[] #[], .pointer (some ⟨Br, 0, none⟩)] W fun e W' => (∃ v, e = .returned v) ∧
      ((∃ ys, ys = allK E N m ∧ J ys W') ∨ (∃ pre, pre <+: allK E N m ∧ Jx pre W')) := by
  have HRK := Lib.hid hR
  have e1 := hR.hr
  have HH := Lib.hid (And.intro hS (And.intro hY (And.intro hJd h0)))
  clear hR hS hY hJd h0
  refine callsIn_of_wp Try.func35 rfl trivial ?_ rfl
  simp only [Try.ntmps35, List.size_toArray, List.length_cons, List.length_nil, Nat.reduceAdd, Nat.reduceSub, Array.replicate_succ, Array.replicate_zero, List.push_toArray, List.append_toArray, List.nil_append, List.cons_append]
  refine wpIn_scope_straight ?_
  repeat gi_step
  refine wpIn_label ?_

  gi_wp2
  gi_loopw [9] (fun iv wr => ∃ (i : Nat), i ≤ m ∧ iv = .int .i64 i ∧ BkAt wr S Br vb m A N C E ∧ n₁ ≤ wr.heap.size ∧ J (allK E N i) wr) (fun iv _ => m - (intOf iv).toNat)
  case atStart => exact ⟨0, Nat.zero_le _, rfl, HRK.out, hW, HH.out.2.2.2⟩
  case round =>
    clear e1
    obtain ⟨i, hi, rfl, hB, hsz, hJ⟩ := hrel
    by_cases hlt : i < m
    · have hlt' : (i : Int) < m := by omega
      have hi0 : (0 : Int) ≤ i := by omega
      obtain ⟨f1, f2, f3⟩ := hB.hv i hlt
      obtain ⟨ai, hai⟩ : ∃ x, A i = x := ⟨_, rfl⟩
      obtain ⟨ni, hni⟩ : ∃ x, N i = x := ⟨_, rfl⟩
      obtain ⟨ci, hci⟩ : ∃ x, C i = x := ⟨_, rfl⟩
      rw [hai, hni, hci] at f1
      rw [hni, hci] at f2
      rw [hni] at f3
      have Hi := Lib.hid (And.intro hB (And.intro hJ (And.intro hai hni)))
      clear hB hJ hai hni hci
      obtain ⟨wi, rfl⟩ : ∃ wo : World, wo = wr := ⟨_, rfl⟩
      gi_wp2
      gi_loopw [15] (fun jv wr => ∃ (j : Nat), j ≤ ni ∧ jv = .int .i64 j ∧ BkAt wr S Br vb m A N C E ∧ n₁ ≤ wr.heap.size ∧ J (allK E N i ++ rowsK (E i) j) wr) (fun jv _ => ni - (intOf jv).toNat)
      case atStart => exact ⟨0, Nat.zero_le _, rfl, Hi.out.1, hsz, by rw [show rowsK (E i) 0 = [] from rfl, List.append_nil]; exact Hi.out.2.1⟩
      case round =>
        clear f1 hsz
        obtain ⟨j, hj, rfl, hB, hsz, hJ⟩ := hrel
        by_cases hlj : j < ni
        · have hlj' : (j : Int) < ni := by omega
          have hj0 : (0 : Int) ≤ j := by omega
          obtain ⟨b, off, v, hab, hSb, hcv, hch⟩ := hB.hx i hlt j (by rw [Hi.out.2.2.2]; exact hlj)
          obtain ⟨xv, rfl⟩ := chn_ptr hch
          rw [Hi.out.2.2.1] at hab
          subst hab
          have Hj := Lib.hid (And.intro hB (And.intro hJ hch))
          clear hB hJ hch
          obtain ⟨wj, rfl⟩ : ∃ wo : World, wo = wr := ⟨_, rfl⟩
          gi_wp2
          gi_loopg [6] (E i j).length (fun k x wr => ∃ (p r : List KN), E i j = p ++ r ∧ k = r.length ∧ Chn wr S x r ∧ BkAt wr S Br vb m A N C E ∧ n₁ ≤ wr.heap.size ∧ J (allK E N i ++ rowsK (E i) j ++ ks p) wr)
          case atStart => exact ⟨[], E i j, rfl, rfl, Hj.out.2.2, Hj.out.1, hsz, by rw [show ks [] = [] from rfl, List.append_nil]; exact Hj.out.2.1⟩
          case round =>
            clear hcv hsz
            obtain ⟨p, r, hpr, hk, hch, hB, hsz, hJ⟩ := hrel
            match r, hpr, hk, hch with
            | [], hpr2, hk2, hch2 =>
              have hx : _ = Value.pointer none := hch2
              have Hk := Lib.hid (And.intro hB (And.intro hJ hpr2))
              clear hB hJ hch hpr hch2
              subst hx
              gi_wp2
              exact ⟨⟨j + 1, by omega, by go_num, Hk.out.1, hsz, by
                show J (allK E N i ++ (rowsK (E i) j ++ ks (E i j))) wr
                rw [Hk.out.2.2, List.append_nil, ← List.append_assoc]; exact Hk.out.2.1⟩, by simp [intOf]; omega⟩
            | (k0, n0) :: r', hpr2, hk2, ⟨b2, nx, hx, hS2, hb2, hch2⟩ =>
              clear hch hpr hk
              subst hx
              obtain ⟨g0, _, _, g3, gf⟩ := ent_cells hb2
              obtain ⟨nv, rfl⟩ := chn_ptr hch2
              obtain ⟨tl, htl⟩ := mid_key (E := E) (N := N) hlt (by rw [Hi.out.2.2.2]; exact hlj) hpr2
              obtain ⟨hS, hY, hJd, h0⟩ := HH.out
              obtain ⟨fn, tmps, assign, body, hy, hYr⟩ := hY _ k0 wr hJ (by rw [htl]; simp)
              have Hk := Lib.hid (And.intro hB (And.intro hJ (And.intro hpr2 (And.intro hS2 (And.intro hb2 (And.intro hch2 (And.intro hk2 htl)))))))
              clear hB hJ hch2 hpr2 hS2 hb2 htl hS hY hJd h0
              gi_wp2
              refine hYr.mono ?_
              rintro e W3 (⟨rfl, hJ3, hk3⟩ | ⟨rfl, hJx3⟩)
              · obtain ⟨hS, hY, hJd, h0⟩ := HH.out
                have hB3 := Hk.out.1.kept hk3 hS hsz
                have hkb : ∀ b, S b → b < wr.heap.size → W3.heap[b]? = wr.heap[b]? := fun b q q2 => Fr.block hk3 b q2 (by have := hS b q; omega)
                have hb3 := (hkb b2 Hk.out.2.2.2.1 (lt_of_heap Hk.out.2.2.2.2.1)).trans Hk.out.2.2.2.2.1
                have hc3 : Chn W3 S (.pointer nv) r' := chn_keep Hk.out.2.2.2.2.2.1 (fun b k n nx e q _ => hkb b q (lt_of_heap e)) (fun _ _ q => q)
                have hsz3 : n₁ ≤ W3.heap.size := Nat.le_trans hsz (Fr.size hk3)
                obtain ⟨_, _, _, d3, df⟩ := ent_cells hb3
                have H3 := Lib.hid (And.intro hB3 (And.intro hc3 hJ3))
                clear hB3 hkb hb3 hc3 hJ3 hk3 hS hY hJd h0
                gi_wp2
                gi_roundg r'.length
                case measure => have := Hk.out.2.2.2.2.2.2.1; simp at this; omega
                case rel => exact ⟨p ++ [(k0, n0)], r', by rw [Hk.out.2.2.1]; simp, rfl, H3.out.2.1, H3.out.1, hsz3, by rw [ks_app, ← List.append_assoc]; exact H3.out.2.2⟩
              · have H3 := Lib.hid hJx3
                clear hJx3
                gi_wp2
                simp only [Exit.noGoto_normal]
                go_end0
                exact ⟨⟨_, rfl⟩, .inr ⟨_, ⟨tl, by rw [Hk.out.2.2.2.2.2.2.2]; simp⟩, H3.out⟩⟩
        · obtain rfl : j = ni := by omega
          have Hj := Lib.hid (And.intro hB hJ)
          clear hB hJ hlj
          gi_wp2
          exact ⟨⟨i + 1, by omega, by go_num, Hj.out.1, hsz, by
            show J (allK E N i ++ rowsK (E i) (N i)) wr
            rw [Hi.out.2.2.2]; exact Hj.out.2⟩, by simp [intOf]; omega⟩
    · obtain rfl : i = m := by omega
      have Hi := Lib.hid hJ
      clear hJ hB hlt
      gi_wp2
      simp only [Exit.noGoto_normal]
      go_end0
      exact ⟨⟨_, rfl⟩, .inl ⟨_, rfl, Hi.out⟩⟩
set_option maxHeartbeats 1000000 in
theorem all_in (n : Nat) (a : Option Addr) (m c : Nat) (w : World) :
    CallsIn Fence.wide n Try.prog 28 #[.slice a m c] w fun e w' => e = .returned (.func (.func 35) #[] #[.pointer (some ⟨w.heap.size, 0, none⟩)]) ∧
      w' = w.alloc (.cells #[.slice a m c] 69) := by
  refine callsIn_of_wp Try.func28 rfl trivial ?_ rfl
  simp only [Try.ntmps28, List.size_toArray, List.length_cons, List.length_nil, Nat.reduceAdd, Nat.reduceSub, Array.replicate_succ, Array.replicate_zero, List.push_toArray, List.append_toArray, List.nil_append, List.cons_append]
  gi_wp2
  go_ret
  exact ⟨rfl, rfl⟩
theorem all_stops (n : Nat) (hn : 1 ≤ n) (Br vb m B n₁ : Nat) (S : Nat → Prop) (A : Nat → Option Addr) (N C : Nat → Nat) (E : Nat → Nat → List KN) (hm : m ≤ 2)
    (hS : ∀ b, S b → b ≠ B ∧ b < n₁) (w : World) (hR : BkAt w S Br vb m A N C E) (hW : n₁ = w.heap.size) :
    SeqStopsK Fence.wide n Try.prog 35 #[.pointer (some ⟨Br, 0, none⟩)] (fun x : ByteArray => #[Value.string x]) (KeptK B n₁) (fun ys => ys = allK E N m) (fun pre => pre <+: allK E N m) (allK E N m).length w := fun l J Jx W hb hJ _ hY h0 => by
  refine all1_in n hn l Br vb m B n₁ S A N C E hm hS J Jx hY W (fun pre W1 k hJ1 => ?_) ?_ (by have := hb.size; omega) h0
  · exact hJ pre W1 (W1.drewN k) none hJ1 ⟨rfl, rfl, rfl, Nat.le_refl _, fun _ _ _ => rfl⟩ (fun r e => by cases e)
  · have hF : Fr (fun b => b = B ∨ n₁ ≤ b) w W := (Fr.of_below hb).mono fun b hb q => by omega
    exact hR.kept hF hS (by omega)
end Go.Proofs.Ytnabgcnndehaaaa
