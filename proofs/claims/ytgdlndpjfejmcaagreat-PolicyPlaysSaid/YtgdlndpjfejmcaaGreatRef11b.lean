/- The reference of layer 11: cut, Add, Limit, Same. -/
import Derived.Test.YtgdlndpjfejmcaaGreatRg1
import Derived.Deep.RegionHeld3
import Derived.Deep.RegionLaw
namespace Go.Proofs.YtgdlndpjfejmcaaGreat
open Go.RowKit
set_option linter.unusedVariables false
set_option maxRecDepth 100000

/-- An append as one step of a region that draws its order. -/
theorem step_append_sl {P : Program} {ops : Array Oper} {o : Oper} {a : Act} {w : World} {S : Nat → Prop} {K : Act → World → Prop} {Q : Exit → Act → World → Prop} {E : Prop}
    (hg : o.guard = none) (s x : Operand) (t : TypeId) (hop : o.op = Op.call { callee := Callee.builtin Builtin.append, args := #[s, x], argTypes := #[t, t] })
    (e : TypeId) (i : TypeInfo) (z : Value) (size bytes : Nat) (h1 : P.underlying t = some (.slice e)) (h2 : P.info? e = some i) (h3 : i.zero = some z) (h4 : i.size = size) (h5 : i.bytes = bytes) (h6 : z.cells.size = size) (h7 : 0 < size)
    (v : Value) (n : Nat) (xs : List Value) (hs : a.eval s = v) (hown : Sl w S e size v n xs)
    (ad : Addr) (m c : Nat) (news : List Value) (hx : a.eval x = .slice (some ad) m c) (hn : news.length = m * size) (hc : ∀ j u, news[j]? = some u → w.cell? (ad.add j) = some u) (h1c : ∀ u ∈ news, u.oneCell' = true)
    (b1 : n + m ≤ maxLen) (b2 : (n + m) * bytes ≤ 140737488355328)
    (hK : ∀ v' w', Sl w' (grow S w w') e size v' (n + m) (xs ++ news) → Fr (Arr S w e) w w' → K (a.put o.dst v') w') :
    if Region.wanted o (yielded ops a.tmps) = true then Oper.wp P o a w K Q else E := by
  have hw : Region.wanted o (yielded ops a.tmps) = true := by simp [Region.wanted, hg]
  rw [if_pos hw]
  obtain ⟨v', w', hrun, r1, r2⟩ := run_append_sl (P := P) t o.type e i z size bytes h1 h2 h3 h4 h5 h6 h7 v n xs hown ad m c news hn hc h1c b1 b2
  unfold Oper.wp
  simp [execOp, hop, resolve, invoke, builtin, hs, hx, hrun, Result.andThen]
  exact hK v' w' r1 r2

/-- What is left behind a cut. -/
theorem rcut_fin {w w1 : World} {S : Nat → Prop} {p d : Nat} {most : Int} {L : List Int} {sv0 : Value} {sa : Option Addr} {scap : Nat} (hS : S p) (hpl : p < w.heap.size) (hd : d + most.toNat = L.length)
    (W : World) (hW : Fr (fun _ => False) w W) (hs1 : Sl w1 (grow (fun b => w.heap.size ≤ b) W w1) 28 1 (.slice sa (L.length - d) scap) (L.length - d) (u64s (L.drop d)))
    (hf1 : Fr (Arr (fun b => w.heap.size ≤ b) W 28) W w1) (hp1 : w1.heap[p]? = some (.cells #[.int .i64 most, sv0] 102 (0, 0))) :
    RefG (w1.setCell ⟨p, 1, none⟩ (.slice sa (L.length - d) scap)) (grow S w (w1.setCell ⟨p, 1, none⟩ (.slice sa (L.length - d) scap))) p most (cut most L) ∧ Fr S w (w1.setCell ⟨p, 1, none⟩ (.slice sa (L.length - d) scap)) := by
  have hc : cut most L = L.drop d := by unfold cut; rw [show L.length - most.toNat = d from by omega]
  have hsz : (w1.setCell ⟨p, 1, none⟩ (.slice sa (L.length - d) scap)).heap.size = w1.heap.size := by simp [World.setCell]
  have hsw := hW.size
  constructor
  · rw [hc]
    refine ⟨_, Or.inl hS, (heap_setCell_same hp1 1 _).trans (by simp; rfl), ?_⟩
    have h2 := (hs1.setCell_other hp1 (by decide) 1 (.slice sa (L.length - d) scap)).mono (S' := grow S w (w1.setCell ⟨p, 1, none⟩ (.slice sa (L.length - d) scap))) (fun b hb h => by
      rw [hsz] at hb
      exact h.elim (fun q => Or.inr ⟨q, by rw [hsz]; exact hb⟩) (fun ⟨q1, q2⟩ => Or.inr ⟨by omega, by rw [hsz]; exact hb⟩))
    simpa using h2
  · refine Fr.setCell (p := ⟨p, 1, none⟩) ?_ (fun _ => hS) _
    exact (hW.mono (T := S) (fun _ _ h => h.elim)).trans hf1.arr (fun i hi h => absurd h (by simp; omega))

set_option maxHeartbeats 40000000 in
theorem rcut_at (S : Nat → Prop) (p : Nat) (most : Int) (L : List Int) (w : World) (hG : RefG w S p most L) (hm : 0 ≤ most) (hN : L.length ≤ 1000000) :
    Calls Tryz.prog 65 #[.pointer (some ⟨p, 0, none⟩)] w fun e w' => e = .returned (.tuple #[]) ∧ RefG w' (grow S w w') p most (cut most L) ∧ Fr S w w' := by
  obtain ⟨i0, hi, hz0, hz1, hz2⟩ := info_parts info_u64
  have HG := Lib.hid hG
  obtain ⟨sv, hS, hp, hs⟩ := hG
  obtain ⟨a, cap, rfl, _, hx⟩ := sl_intsS hs
  have hpl := lt_of_heap hp
  have c0 := cell_of_heap hp 0
  have c1 := cell_of_heap hp 1
  have f1 := fro_of_heap hp 1
  simp at c0 c1
  have HX := Lib.hid (And.intro hx (And.intro hs hp))
  clear hx hs hp
  by_cases hlt : most < L.length
  · obtain ⟨d, hd⟩ : ∃ d : Nat, d + most.toNat = L.length := ⟨L.length - most.toNat, by omega⟩
    obtain ⟨b, off, cap', hv, hSb, hbl, hcap, hcx, _⟩ := HX.out.2.1.pos (by omega)
    simp at hv
    obtain ⟨rfl, rfl⟩ := hv
    have hdw : IntKind.i64.wrap ((L.length : Int) - most) = (d : Int) := by rw [IntKind.wrap_i64]; omega
    have hd0 : (0 : Int) ≤ (d : Int) := by omega
    have hd1 : (d : Int) ≤ (L.length : Int) := by omega
    have hd2 : (L.length : Int) ≤ (cap : Int) := by omega
    have hd3 : d ≤ L.length := by omega
    have HD := Lib.hid (And.intro hd (And.intro hcx hm))
    clear hd hcx
    have HC : ∀ (X : World), X.heap = w.heap → ∀ (o : Obj) (j : Nat) (u : Value), (u64s (L.drop d))[j]? = some u → (X.alloc o).cell? ((⟨b, off + d, none⟩ : Addr).add j) = some u := by
      intro X hX o j u hu
      have ha : (⟨b, off + d, none⟩ : Addr).add j = ⟨b, off + (d + j), none⟩ := by unfold Addr.add; split <;> simp_all; omega
      rw [ha, World.cell?_of_block (w := w) (w' := X.alloc o) (a := ⟨b, off + (d + j), none⟩) (by rw [heap_alloc_old _ (by rw [hX]; exact hbl), hX])]
      simp [u64s] at hu
      obtain ⟨y, hy, rfl⟩ := hu
      have hlt2 := (List.getElem?_eq_some_iff.1 hy).1
      rw [HD.out.2.1 (d + j) (by simpa [u64s] using hlt2)]
      simp [u64s, hy]
    have HS0 : ∀ (X : World), X.heap = w.heap → ∀ n, n = w.heap.size → Sl (X.alloc (.cells #[] 28)) (fun b => w.heap.size ≤ b) 28 1 (.slice (some ⟨n, 0, none⟩) 0 0) 0 [] := by
      intro X hX n hn
      subst hn
      refine ⟨rfl, Or.inr ⟨_, 0, 0, #[], rfl, Nat.le_refl _, ?_, by omega, by unfold maxLen; omega, by simp, fun i hi => absurd hi (by simp)⟩⟩
      have := heap_alloc_new X (.cells #[] 28)
      rw [hX] at this; exact this
    have HP0 : ∀ (X : World), X.heap = w.heap → ∀ (o : Obj), (X.alloc o).heap[p]? = some (.cells #[.int .i64 most, .slice (some ⟨b, off, none⟩) L.length cap] 102 (0, 0)) := by
      intro X hX o
      rw [heap_alloc_old _ (by rw [hX]; exact hpl), hX]; exact HX.out.2.2
    have HA := Lib.hid (And.intro HC (And.intro HS0 HP0))
    clear HC HS0 HP0
    have ea : ∀ (n : Nat) (o : Obj) (k : Nat), ((w.drewN n).alloc o).cell? ⟨p, k, none⟩ = w.cell? ⟨p, k, none⟩ := fun n o k => World.cell?_of_block (w := w) (a := ⟨p, k, none⟩) (heap_alloc_old (w := w.drewN n) o hpl)
    have eb : ∀ (n : Nat) (o : Obj) (k : Nat), ((w.drewN n).alloc o).frozen? ⟨p, k, none⟩ = w.frozen? ⟨p, k, none⟩ := fun n o k => World.frozen?_of_block (w := w) (a := ⟨p, k, none⟩) (heap_alloc_old (w := w.drewN n) o hpl)
    have HPL := Lib.hid hpl
    by_cases hcd : cap = d
    · subst hcd
      have hz : L.length - cap = 0 := by omega
      have hnil : L.drop cap = [] := List.drop_of_length_le (by omega)
      have HZ := Lib.hid (And.intro hz hnil)
      go_enter Tryz.func65, Tryz.ntmps65
      go_wp2
      go_quiet (fail)
      go_wp2_with fail
      go_region_law (fail)
      all_goals
        go_end0
        refine ⟨rfl, ?_⟩
        have := rcut_fin (S := S) (most := most) (L := L) (sa := some ⟨w.heap.size, 0, none⟩) (scap := 0) hS HPL.out HD.out.1 ((w.drewN (nq + 1)).alloc (.cells #[] 28)) (((Fr.refl _ w).drewN _).alloc _) (by rw [HZ.out.1, HZ.out.2]; exact (HA.out.2.1 _ rfl _ rfl).mono (fun b _ h => Or.inl h)) (Fr.refl _ _) (HA.out.2.2 _ rfl _)
        rw [HZ.out.1] at this
        exact this
    · have hcd2 : d < cap := by omega
      go_enter Tryz.func65, Tryz.ntmps65
      go_wp2
      go_quiet (fail)
      go_wp2_with fail
      go_region_law (refine step_append_sl (S := fun b => w.heap.size ≤ b) rfl _ _ 100 rfl 28 i0 (.int .u64 0) 1 8 Tryz.underlying100 hi hz0 hz1 hz2 rfl (by decide) _ 0 [] rfl (HA.out.2.1 _ rfl _ rfl) ⟨b, off + d, none⟩ (L.length - d) _ (u64s (L.drop d)) rfl (by simp [u64s]) (HA.out.1 _ rfl _) (ints_oneCell .u64 _) (by unfold maxLen; omega) (by omega) ?_; intro v1 w1 hs1 hf1; have hp1 := hf1.other (HA.out.2.2 _ rfl _) (fun c hc => by cases hc); have e0 := cell_of_heap hp1 0; have e1 := cell_of_heap hp1 1; have e2 := fro_of_heap hp1 1; simp at e0 e1; obtain ⟨sa, scap, rfl, _⟩ := hs1.shape; have HS1 := Lib.hid (And.intro hs1 (And.intro hf1 hp1)); clear hs1 hf1 hp1)
      all_goals
        go_end0
        refine ⟨rfl, rcut_fin hS HPL.out HD.out.1 _ (((Fr.refl _ w).drewN _).alloc _) (by simpa using HS1.out.1) HS1.out.2.1 HS1.out.2.2⟩
  · have hc := Lib.hid (cut_all (L := L) (most := most) (by omega))
    go_enter Tryz.func65, Tryz.ntmps65
    go_wp2
    go_quiet (fail)
    go_wp2
    go_end0
    exact ⟨rfl, by rw [hc.out]; exact (HG.out.frame (w' := w.drewN nq) (fun _ _ _ => rfl)).mono (fun b _ h => Or.inl h), (Fr.refl S w).drewN _⟩
theorem rcut_said : ∀ (S : Nat → Prop) (p : Nat) (most : Int) (L : List Int) (w : World), RefG w S p most L → 0 ≤ most → L.length ≤ 1000000 →
  Calls Tryz.prog 65 #[.pointer (some ⟨p, 0, none⟩)] w fun e w' => e = .returned (.tuple #[]) ∧ RefG w' (grow S w w') p most (cut most L) ∧ Fr S w w' :=
  fun S p most L w h1 h2 h3 => rcut_at S p most L w h1 h2 h3
end Go.Proofs.YtgdlndpjfejmcaaGreat
