/- The symbolic executor: append. -/
import Derived.Test.YtejebgdikoehmaaGreatDoorToB
import Derived.Deep.AppendSrc
import Derived.Calls
namespace Go.Proofs.YtejebgdikoehmaaGreatDoor
open Go Go.RowKit
set_option linter.unusedVariables false
set_option linter.unusedSimpArgs false
/-- What append comes to, whatever is appended. -/
structure Apd (P : Program) (w : World) (argT : Array TypeId) (e : TypeId) (i : TypeInfo) (z : Value) (x : Value) (n : Nat) (new : List Value) : Prop where
  room : ∀ ty base sLen sCap, sLen + n ≤ sCap → (Builtin.append_ argT ty #[.slice base sLen sCap, x]).run P w =
    ((match (generalizing := false) base with | some a => storeCells (a.add (sLen * i.size)) new | none => pure () : Sem Unit).run P w).andThen fun _ w' => .ok (.slice base (sLen + n) sCap) w'
  grow : ∀ ty base sLen sCap olds, (Builtin.firstCells i.size sLen (.slice base sLen sCap)).run P w.drew = .ok olds w.drew → sCap < sLen + n → sLen + n ≤ 1000000 → i.bytes ≤ 1000000 →
    (Builtin.append_ argT ty #[.slice base sLen sCap, x]).run P w = .ok (.slice (some ⟨w.heap.size, 0, none⟩) (sLen + n) (grownCap w (sLen + n) sCap e))
      (w.drew.alloc (.cells (olds ++ new.toArray ++ Builtin.zeroCells z.cells (grownCap w (sLen + n) sCap e - (sLen + n))) e))
theorem nsc_fits {need old b : Nat} (h : old < need) (h1 : need ≤ 1000000) (h2 : b ≤ 1000000) : ¬ (281474976710656 < Builtin.nextslicecap need old * b) := by
  have := growslice_fits (bytes := b) h (by
    have := Nat.mul_le_mul h1 h2
    omega)
  omega
theorem Apd.src {P : Program} {w : World} {argT : Array TypeId} {t tx e : TypeId} {i : TypeInfo} {z x : Value} {n : Nat} {new : List Value} {d : TypeDesc} (h0 : argT[0]? = some t) (h1 : argT[1]? = some tx) (ht : P.underlying t = some (.slice e))
    (hx : P.underlying tx = some d) (hd : (∃ e', d = .slice e') ∨ d = .string) (hi : P.info? e = some i) (hz : i.zero = some z) (len : ∀ w' : World, (Builtin.lenOf x).run P w' = .ok n w') (cells : (Builtin.firstCells i.size n x).run P w = .ok new.toArray w)
    (cellsD : (Builtin.firstCells i.size n x).run P w.drew = .ok new.toArray w.drew) : Apd P w argT e i z x n new := by
  rcases hd with ⟨e', rfl⟩ | rfl
  all_goals
    refine ⟨fun ty base sLen sCap hr => ?_, fun ty base sLen sCap olds hold hg hm hb => ?_⟩
    · cases base <;> simp [Builtin.append_, h0, h1, run_underlying ht, run_underlying hx, sizeOf, typeInfo, hi, len, hr, cells, Result.andThen]
    · have hn : ¬ (sLen + n ≤ sCap) := by omega
      have h63' : ¬ (9223372036854775807 < ((sLen : Int) + (n : Int))) := by omega
      have h48' := nsc_fits (b := i.bytes) hg hm hb
      simp [Builtin.append_, h0, h1, run_underlying ht, run_underlying hx, sizeOf, typeInfo, zeroValue, hi, hz, len, hn, h63', h48', Question.forced, cellsD, hold, newRow, grownCap]
theorem Apd.zeros {P : Program} {w : World} {argT : Array TypeId} {t tx e : TypeId} {i : TypeInfo} {z x : Value} {n : Nat} {k k2 : IntKind} (h0 : argT[0]? = some t) (h1 : argT[1]? = some tx) (ht : P.underlying t = some (.slice e))
    (hx : P.underlying tx = some (.int k)) (hi : P.info? e = some i) (hz : i.zero = some z) (hzs : z.cells.size = i.size) (hxv : x = .int k2 (n : Int)) (hn : n ≤ 100000) (hb : i.bytes ≤ 1000000) : Apd P w argT e i z x n (Builtin.zeroCells z.cells n).toList := by
  subst hxv
  have hw : IntKind.i64.wrap (n : Int) = n := by rw [IntKind.wrap_i64]; omega
  have hneg : ¬ ((n : Int) < 0) := by omega
  have hbig : ¬ (281474976710656 < (n : Int) * i.bytes) := by
    have := Nat.mul_le_mul hn hb
    rw [← Int.natCast_mul]
    omega
  by_cases q : n * i.size = 0
  · have hze : Builtin.zeroCells z.cells n = #[] := by unfold Builtin.zeroCells; rw [hzs, q]; simp
    refine ⟨fun ty base sLen sCap hr => ?_, fun ty base sLen sCap olds hold hg hm hb => ?_⟩
    · cases base <;> simp [Builtin.append_, h0, h1, run_underlying ht, run_underlying hx, sizeOf, typeInfo, hi, hr, asInt, asIntOf, hw, hneg, hbig, q, hze, Result.andThen]
    · have hn' : ¬ (sLen + n ≤ sCap) := by omega
      have h63' : ¬ (9223372036854775807 < ((sLen : Int) + (n : Int))) := by omega
      have h48' := nsc_fits (b := i.bytes) hg hm hb
      simp [Builtin.append_, h0, h1, run_underlying ht, run_underlying hx, sizeOf, typeInfo, zeroValue, hi, hz, asInt, asIntOf, hw, hneg, hbig, q, hze, hn', h63', h48', Question.forced, hold, newRow, grownCap]
  · refine ⟨fun ty base sLen sCap hr => ?_, fun ty base sLen sCap olds hold hg hm hb => ?_⟩
    · cases base <;> simp [Builtin.append_, h0, h1, run_underlying ht, run_underlying hx, sizeOf, typeInfo, zeroValue, hi, hz, hr, asInt, asIntOf, hw, hneg, hbig, q, Result.andThen]
    · have hn' : ¬ (sLen + n ≤ sCap) := by omega
      have h63' : ¬ (9223372036854775807 < ((sLen : Int) + (n : Int))) := by omega
      have h48' := nsc_fits (b := i.bytes) hg hm hb
      simp [Builtin.append_, h0, h1, run_underlying ht, run_underlying hx, sizeOf, typeInfo, zeroValue, hi, hz, asInt, asIntOf, hw, hneg, hbig, q, hn', h63', h48', Question.forced, hold, newRow, grownCap]
end Go.Proofs.YtejebgdikoehmaaGreatDoor
/- The symbolic executor: append is sound. -/
namespace Go.Proofs.YtejebgdikoehmaaGreatDoor
open Go Go.RowKit
set_option linter.unusedVariables false
set_option linter.unusedSimpArgs false
section
variable {σ σ' σ'' : Rn} {S S' S'' : St} {w w' w'' : World}
/-- A live id dies; a new one takes its block over. -/
theorem Post.take (h : WR σ S w) {j b k : Nat} {o ob : SObj} {o' : Obj} (hj : S.h.get j = some o) (hb : σ j = some b) (hn : S.n < 1000000) (hw : w'.heap[b]? = some o')
    (hz : w'.heap.size = w.heap.size) (hk : ∀ m, m ≠ b → w'.heap[m]? = w.heap[m]?) (h1 : w'.os = w.os) (h2 : w'.tape = w.tape) (h3 : w'.output = w.output)
    (hO : OR (setσ σ S.n b k) k ob o') : Post σ S w (setσ σ S.n b k) ⟨(S.h.put 24 j none).put 24 S.n (some ob), S.n + 1⟩ w' := by
  have hnone : σ S.n = none := by
    cases e : σ S.n with
    | none => rfl
    | some b => have := h.dom S.n b e; omega
  have hle := setσ_le (b := b) (k := k) hnone
  have hlt : S.n < 2 ^ 24 - 1 := bnd24 hn
  have hjn : j < S.n := h.dom j b hb
  have hg : ∀ m, ((S.h.put 24 j none).put 24 S.n (some ob)).get m = if m = S.n then some ob else if m = j then none else S.h.get m := fun m => by
    rw [Tr.get_put 24 _ S.n m _ hlt, Tr.get_put 24 S.h j m _ (h.lt hj)]
  have hself : setσ σ S.n b k S.n = some b := setσ_self.1
  have hoth : ∀ i, i ≠ S.n → setσ σ S.n b k i = σ i := fun i e => (setσ_ne e).1
  have hex : ∀ i oi, ((S.h.put 24 j none).put 24 S.n (some ob)).get i = some oi → i ≠ S.n → i ≠ j ∧ S.h.get i = some oi := by
    intro i oi hi e
    rw [hg, if_neg e] at hi
    by_cases e2 : i = j
    · rw [if_pos e2] at hi; cases hi
    · rw [if_neg e2] at hi; exact ⟨e2, hi⟩
  refine ⟨hle, ⟨by show S.n + 1 ≤ 1000000; omega, ?_, ?_, ?_, ?_⟩, ⟨h1, h2, h3, by omega, fun m hm hq => hk m (fun q => hq ⟨j, o, hj, q ▸ hb⟩)⟩, Nat.le_succ _, ?_, ?_⟩
  · intro i c hi
    show i < S.n + 1
    by_cases e : i = S.n
    · omega
    · rw [hoth i e] at hi; have := h.dom i c hi; omega
  · intro i c hi
    rw [hz]
    by_cases e : i = S.n
    · subst e; rw [hself] at hi; cases hi; exact h.bnd j b hb
    · rw [hoth i e] at hi; exact h.bnd i c hi
  · intro i oi hi
    by_cases e : i = S.n
    · subst e
      change ((S.h.put 24 j none).put 24 S.n (some ob)).get S.n = some oi at hi
      rw [hg, if_pos rfl] at hi; cases hi
      exact ⟨b, o', hself, hw, by rw [setσ_self.2]; exact hO⟩
    · obtain ⟨e2, hi'⟩ := hex i oi hi e
      obtain ⟨bi, oi', hbi, hwi, hOi⟩ := h.obj i oi hi'
      refine ⟨bi, oi', (hle _ _ hbi).1, (hk bi (fun q => e2 (h.inj i j b oi o hi' hj (q ▸ hbi) hb))).trans hwi, ?_⟩
      rw [(setσ_ne e).2]; exact hOi.mono hle
  · intro i m c oi om hi hm hsi hsm
    by_cases ei : i = S.n
    · by_cases em : m = S.n
      · rw [ei, em]
      · obtain ⟨e2, hm'⟩ := hex m om hm em
        subst ei
        rw [hself] at hsi; cases hsi
        rw [hoth m em] at hsm
        exact absurd (h.inj m j _ om o hm' hj hsm hb) e2
    · obtain ⟨e2, hi'⟩ := hex i oi hi ei
      rw [hoth i ei] at hsi
      by_cases em : m = S.n
      · subst em
        rw [hself] at hsm; cases hsm
        exact absurd (h.inj i j _ oi o hi' hj hsi hb) e2
      · obtain ⟨e3, hm'⟩ := hex m om hm em
        rw [hoth m em] at hsm
        exact h.inj i m c oi om hi' hm' hsi hsm
  · rintro c ⟨i, oi, hi, hs⟩
    by_cases e : i = S.n
    · subst e; rw [hself] at hs; cases hs; exact Or.inl ⟨j, o, hj, hb⟩
    · obtain ⟨_, hi'⟩ := hex i oi hi e
      rw [hoth i e] at hs; exact Or.inl ⟨i, oi, hi', hs⟩
  · intro i c hi
    by_cases e : i = S.n
    · exact Or.inr (by omega)
    · rw [hoth i e] at hi; exact Or.inl hi
/-- From a smaller heap. -/
theorem Post.weaken {H : Tr SObj} (hs : ∀ i o, H.get i = some o → S.h.get i = some o) (h : Post σ ⟨H, S.n⟩ w σ' S' w') : Post σ S w σ' S' w' := by
  have ho : ∀ b, Own σ ⟨H, S.n⟩ b → Own σ S b := fun b ⟨i, o, q1, q2⟩ => ⟨i, o, hs i o q1, q2⟩
  exact ⟨h.le, h.wr, h.fr.mono fun k _ q => ho k q, h.cnt, fun b q => (h.own b q).imp_left (ho b), h.new⟩
theorem sNew_some {i : Nat} {ob : SObj} (h : sNew S ob = some (i, S')) : S.n < 1000000 ∧ i = S.n ∧ S' = ⟨S.h.put 24 S.n (some ob), S.n + 1⟩ := by
  unfold sNew at h
  rw [nblt] at h
  by_cases e : S.n < 1000000
  · rw [decide_eq_true e, cond_true] at h; cases h; exact ⟨e, rfl, rfl⟩
  · rw [decide_eq_false e] at h; cases h
theorem unk_capR {k l c : Nat} (h : l ≤ c) (hk : c ≤ k) : capR k (UNK + l) c := by
  unfold capR
  generalize UNK = U
  rw [if_neg (by omega)]
  exact ⟨by omega, hk⟩
theorem kill_sub (h : WR σ S w) {j : Nat} {o : SObj} (hj : S.h.get j = some o) : ∀ i oi, (S.h.put 24 j none).get i = some oi → S.h.get i = some oi := by
  intro i oi hi
  rw [Tr.get_put 24 S.h j i _ (h.lt hj)] at hi
  by_cases e : i = j
  · rw [if_pos e] at hi; cases hi
  · rw [if_neg e] at hi; exact hi
theorem OR.ahead {k op m : Nat} {c : List Value} {c' : List Value} {e : TypeId} {r : Array Value} (h : VRs σ c c') (hz : m = (c'.toArray ++ r).size) (h0 : op = 0 → m = c.length) (h1 : op ≠ 0 → k * op ≤ m) : OR σ k (.cells c e 0 0 op) (.cells (c'.toArray ++ r) e (0, 0)) := by
  refine .cells ?_ ⟨fun q => hz.symm.trans (h0 q), fun q => by rw [← hz]; exact h1 q⟩ (by unfold FR; simp)
  have := h.length
  rw [Array.toList_append, List.take_append_of_le_length (by simpa using Nat.le_of_eq this.symm), List.take_of_length_le (by simp [this])]
  exact h
/-- A new row. -/
theorem grow_fin (hw : WR σ S w) {i need cap size : Nat} {old new old' new' : List Value} {rest : Array Value} {e : TypeId} (hs : sNew S (.cells (old ++ new) e 0 0 size) = some (i, S')) (ho : VRs σ old old') (hn : VRs σ new new')
    (hc : need ≤ cap) (hl : (old ++ new).length = need * size) (hr : rest.size = (cap - need) * size) :
    ∃ σ', VR σ' (.slice (some ⟨i, 0, none⟩) need (UNK + need)) (.slice (some ⟨w.heap.size, 0, none⟩) need cap) ∧ Post σ S w σ' S' (w.drew.alloc (.cells (old'.toArray ++ new'.toArray ++ rest) e)) := by
  obtain ⟨h1, rfl, rfl⟩ := sNew_some hs
  refine ⟨setσ σ S.n w.heap.size cap, VR.slice (a := ⟨S.n, 0, none⟩) setσ_self.1 hc (by rw [setσ_self.2]; exact unk_capR hc (Nat.le_refl _)), ?_⟩
  have hnone : σ S.n = none := by
    cases e : σ S.n with
    | none => rfl
    | some b => have := hw.dom S.n b e; omega
  have hl' : (old' ++ new').length = need * size := by rw [← hl]; exact (ho.append hn).length
  have hsz : need * size + (cap - need) * size = cap * size := by rw [← Nat.add_mul]; congr 1; omega
  refine Post.push hw (Nat.le_refl _) (Nat.lt_succ_self _) (by omega) (heap_alloc_new w.drew _) (by simp) (fun k hk => heap_alloc_old (w := w.drew) _ hk) rfl rfl rfl ?_
  have := OR.ahead (σ := setσ σ S.n w.heap.size cap) (k := cap) (op := size) (m := cap * size) (e := e) (r := rest) ((ho.append hn).mono (setσ_le hnone)) (by simp [hr] at hl' ⊢; omega) (fun q => by rw [hl, q, Nat.mul_zero, Nat.mul_zero]) (fun _ => Nat.le_refl _)
  rw [show old'.toArray ++ new'.toArray = (old' ++ new').toArray from by simp]
  exact this
end
end Go.Proofs.YtejebgdikoehmaaGreatDoor
/- The symbolic executor: append is sound. -/
namespace Go.Proofs.YtejebgdikoehmaaGreatDoor
open Go Go.RowKit
set_option linter.unusedVariables false
set_option linter.unusedSimpArgs false
section
variable {E : Env} {σ : Rn} {S S' : St} {w : World} {v : Value}
theorem zero_size {P : Program} {t : TypeId} {ti : TI} {inf : TypeInfo} {d : TypeDesc} (hk : TOk1 E.P t ti inf d) {z : Value} (hz : inf.zero = some z) : z.cells.size = ti.size := by
  obtain ⟨z', h1, _, h3⟩ := run_zero (w := (default : World)) hk
  obtain ⟨z2, h4, _⟩ := hk.zero
  have : z' = z := by
    simp only [Go.zeroValue, Sem.run_bind, run_info hk, Result.andThen] at h1
    rw [hz] at h1
    cases h1
    rfl
  subst this
  rw [← hk.len, ← h3]
  simp
theorem appendC_sound (hw : WR σ S w) {argT : Array TypeId} {ty sT elem a1 a3 : Nat} {a2 : List Value} {s s' x' : Value} {n : Nat} {new new' : List Value} {ti : TI} {inf : TypeInfo} {d : TypeDesc} {z : Value} (hs : E.tt.get sT = some ⟨.slice elem, a1, a2, a3⟩) (he : E.tt.get elem = some ti) (hk : TOk1 E.P elem ti inf d)
    (hz : inf.zero = some z) (hA : Apd E.P w argT elem inf z x' n new') (hv : VR σ s s') (hn : VRs σ new new') (h : appendC E S sT s n new = some (v, S')) :
    ∃ v' w' σ', (Builtin.append_ argT ty #[s', x']).run E.P w = .ok v' w' ∧ VR σ' v v' ∧ Post σ S w σ' S' w' := by
  unfold appendC at h
  rw [hs] at h
  simp only at h
  rw [he] at h
  obtain ⟨base, len, cap, rfl⟩ : ∃ base len cap, s = .slice base len cap := by
    cases s <;> first | exact ⟨_, _, _, rfl⟩ | (simp only at h; cases h)
  simp only at h
  cases hcd : (Nat.ble (len + n) 1000000 && Nat.ble ti.bytes 1000000 && Nat.beq new.length (n * ti.size)) with
  | false => rw [hcd] at h; cases h
  | true =>
    rw [hcd, cond_true] at h
    simp only [Bool.and_eq_true, nble, nbeq, decide_eq_true_eq] at hcd
    obtain ⟨⟨d1, d2⟩, d3⟩ := hcd
    have hsz := hk.size
    have hzs := zero_size (P := E.P) hk hz
    have hb : inf.bytes ≤ 1000000 := by rw [hk.bytes]; exact d2
    have hrest : ∀ need cap', (Builtin.zeroCells z.cells (cap' - need)).size = (cap' - need) * ti.size := fun need cap' => by rw [size_zeroCells, hzs]
    have hnl' := hn.length
    have hnil : n = 0 → new' = [] := fun e => List.eq_nil_of_length_eq_zero (by rw [hnl', d3, e, Nat.zero_mul])
    cases base with
    | none =>
      cases hv
      simp only at h
      cases hlc : (Nat.beq len 0 && Nat.beq cap 0) with
      | false => rw [hlc] at h; cases h
      | true =>
        rw [hlc, cond_true] at h
        simp only [Bool.and_eq_true, nbeq, decide_eq_true_eq] at hlc
        obtain ⟨rfl, rfl⟩ := hlc
        rw [nbeq] at h
        by_cases e : n = 0
        · rw [decide_eq_true e, cond_true] at h
          cases h
          refine ⟨.slice none (0 + n) 0, w, σ, by rw [hA.room ty none 0 0 (by omega)]; rfl, by rw [e]; exact .sliceNil _ _, Post.refl hw⟩
        · rw [decide_eq_false e, cond_false] at h
          split at h
          · rename_i i S1 hsn
            cases h
            obtain ⟨σ', k1, k2⟩ := grow_fin (old := []) (old' := []) (rest := Builtin.zeroCells z.cells (grownCap w (0 + n) 0 elem - (0 + n))) hw hsn .nil hn (grownCap_ge w (0 + n) 0 elem) (by simpa using d3) (hrest _ _)
            refine ⟨_, _, σ', hA.grow ty none 0 0 #[] rfl (by omega) d1 hb, ?_, k2⟩
            rw [Nat.zero_add] at k1 ⊢
            exact k1
          · cases h
    | some a =>
      simp only at h
      rw [nble] at h
      by_cases hroom : len + n ≤ lb cap
      · rw [decide_eq_true hroom, cond_true] at h
        split at h
        · rename_i S1 hst
          cases h
          cases hv with
          | slice hσ hl hc =>
            rename_i b c'
            have := lb_le hc
            obtain ⟨q1, q2⟩ := addr_add a b (len * ti.size)
            obtain ⟨w', r1, r2⟩ := run_stores (P := E.P) hw hst hn (by rw [q1]; exact hσ)
            refine ⟨.slice (some ⟨b, a.off, a.spot⟩) (len + n) c', w', σ, ?_, .slice hσ (by omega) hc, r2⟩
            rw [hA.room ty _ len c' (by omega)]
            simp only
            rw [hsz, ← q2, r1]
            rfl
          | junk a' c' =>
            have e0 : n = 0 := by
              have : lb UNK = 0 := rfl
              omega
            have := hnil e0
            subst this
            cases hn
            unfold storeCellsAt at hst
            cases hst
            refine ⟨.slice (some a') (0 + n) c', w, σ, ?_, by rw [e0]; exact .junk _ _, Post.refl hw⟩
            rw [hA.room ty _ 0 c' (by omega)]
            rfl
        · cases h
      · rw [decide_eq_false hroom, cond_false] at h
        cases hkn : known cap with
        | true =>
          rw [hkn, cond_true] at h
          split at h
          · cases h
          · rename_i old hold
            split at h
            · rename_i i S1 hsn
              cases h
              cases hv with
              | slice hσ hl hc =>
                rename_i b c'
                have hcc := of_known hkn hc
                subst hcc
                rw [lb_known hkn] at hroom
                obtain ⟨b', old', p1, p2, p3, p4, p5⟩ := run_cells (P := E.P) (hw.heap (w' := w.drew) rfl) hold
                rw [hσ] at p1; cases p1
                obtain ⟨σ', k1, k2⟩ := grow_fin (rest := Builtin.zeroCells z.cells (grownCap w (len + n) c' elem - (len + n))) hw hsn p3 hn (grownCap_ge w (len + n) c' elem) (by rw [List.length_append, ← p3.length, p4, d3, Nat.add_mul]) (hrest _ _)
                refine ⟨_, _, σ', hA.grow ty _ len c' old'.toArray ?_ (by omega) d1 hb, k1, k2⟩
                rw [hsz]
                exact p5
              | junk => exact absurd hkn (by unfold known; rw [nblt, decide_eq_false (Nat.lt_irrefl _)]; decide)
            · cases h
        | false =>
          rw [hkn, cond_false] at h
          rw [nbeq] at h
          by_cases e0 : n = 0
          · rw [decide_eq_true e0, cond_true] at h
            cases h
            have := hnil e0
            subst this
            cases hn
            cases hv with
            | slice hσ hl hc =>
              rename_i b c'
              refine ⟨.slice (some ⟨b, a.off, a.spot⟩) (len + n) c', w, σ, ?_, by rw [e0]; exact .slice hσ hl hc, Post.refl hw⟩
              rw [hA.room ty _ len c' (by omega)]
              rfl
            | junk a' c' =>
              refine ⟨.slice (some a') (0 + n) c', w, σ, ?_, by rw [e0]; exact .junk _ _, Post.refl hw⟩
              rw [hA.room ty _ 0 c' (by omega)]
              rfl
          · rw [decide_eq_false e0, cond_false] at h
            cases hao : (Nat.beq a.off 0 && a.spot.isNone) with
            | false => rw [hao] at h; cases h
            | true =>
              rw [hao, cond_true] at h
              simp only [Bool.and_eq_true, nbeq, decide_eq_true_eq, Option.isNone_iff_eq_none] at hao
              obtain ⟨ao, asp⟩ := hao
              split at h
              · rename_i c0 e op hold hobj
                rename_i old
                cases hcc : (Nat.beq e elem && new.all one && Nat.beq op ti.size && !(Nat.beq op 0)) with
                | false => rw [hcc] at h; cases h
                | true =>
                  rw [hcc, cond_true] at h
                  simp only [Bool.and_eq_true, Bool.not_eq_true', nbeq, decide_eq_true_eq, decide_eq_false_iff_not] at hcc
                  obtain ⟨⟨⟨e1, e2⟩, e3⟩, e4⟩ := hcc
                  split at h
                  · rename_i i S1 hsn
                    cases h
                    cases hv with
                    | junk =>
                      obtain ⟨b, _, q, _⟩ := hw.obj _ _ hobj
                      exact (hw.noJunk q).elim
                    | slice hσ hl hc =>
                      rename_i b c'
                      have hnk : ¬ cap < UNK := fun q => by rw [known_lt.2 q] at hkn; cases hkn
                      have hck : c' ≤ σ.κ a.block := by unfold capR at hc; rw [if_neg hnk] at hc; exact hc.2
                      by_cases hfit : len + n ≤ c'
                      · obtain ⟨b', o', q1, q2, q3⟩ := hw.obj _ _ hobj
                        rw [hσ] at q1; cases q1
                        cases q3 with
                        | cells h1 h2 h3 =>
                          rename_i ca fr
                          obtain ⟨b', old', p1, p2, p3, p4, p5⟩ := cells_get hw hold
                          rw [hσ] at p1; cases p1
                          have hol := p4.length
                          have hK := h2.2 e4
                          have hsize : (len + n) * ti.size ≤ ca.size := by
                            refine Nat.le_trans ?_ hK
                            rw [e3]
                            exact Nat.mul_le_mul_right _ (by omega)
                          rw [Nat.add_mul] at hsize
                          have hfr : fr = (0, 0) := by unfold FR at h3; simpa using h3
                          subst hfr
                          have hr := run_storeCells_cells (P := E.P) b (len * ti.size) new' 0 w (by
                            intro j hj
                            simp [World.cell?, q2]; omega) (by
                            intro j hj
                            simp [World.frozen?, q2]) (ones_of hn e2)
                          obtain ⟨s1, s2, s3, s4⟩ := setCells_streams b new' (len * ti.size + 0) w
                          obtain ⟨cb, k1, k2, k3, k4, k5⟩ := setCells_blk b e (0, 0) new' (len * ti.size + 0) w ca q2 (by omega)
                          obtain ⟨g1, rfl, rfl⟩ := sNew_some hsn
                          have hnone : σ S.n = none := by
                            cases e : σ S.n with
                            | none => rfl
                            | some b => have := hw.dom S.n b e; omega
                          have hle := setσ_le (b := b) (k := σ.κ a.block) hnone
                          refine ⟨.slice (some ⟨b, 0, none⟩) (len + n) c', w.setCells b (len * ti.size + 0) new', setσ σ S.n b (σ.κ a.block), ?_, VR.slice (a := ⟨S.n, 0, none⟩) setσ_self.1 hfit (by rw [setσ_self.2]; exact unk_capR hfit hck),
                            Post.take hw hobj hσ g1 k1 s4 (fun m hm => setCells_other b new' _ w m hm) s1 s2 s3 ?_⟩
                          · rw [hA.room ty _ len c' hfit]
                            simp only
                            rw [hsz, ao, asp, Addr.add_lit, Nat.zero_add]
                            rw [hr]
                            rfl
                          · subst e1
                            refine .cells (VRs.of_get ?_ ?_) ⟨fun q => absurd q (e3 ▸ e4), fun _ => ?_⟩ (by unfold FR; simp)
                            · rw [List.length_take, List.length_append]; simp; omega
                            · intro i u hi
                              have hil : i < (old ++ new).length := (List.getElem?_eq_some_iff.1 hi).1
                              rw [List.getElem?_take, if_pos hil, Array.getElem?_toList]
                              rw [List.length_append] at hil
                              by_cases i1 : i < old.length
                              · rw [k3 i (by omega)]
                                rw [List.getElem?_append_left i1] at hi
                                obtain ⟨u', hu1, hu2⟩ := p4.get i hi
                                have := p5 i u' hu1
                                rw [ao, Nat.zero_add, cell_of_heap q2] at this
                                exact ⟨u', this, hu2.mono hle⟩
                              · have := k4 (i - old.length) (by omega)
                                rw [show len * ti.size + 0 + (i - old.length) = i from by omega] at this
                                rw [this]
                                rw [List.getElem?_append_right (by omega)] at hi
                                obtain ⟨u', hu1, hu2⟩ := hn.get _ hi
                                exact ⟨u', hu1, hu2.mono hle⟩
                            · rw [k2, ← e3]; exact hK
                      · obtain ⟨b', old', p1, p2, p3, p4, p5⟩ := run_cells (P := E.P) (hw.heap (w' := w.drew) rfl) hold
                        rw [hσ] at p1; cases p1
                        have hkl := hw.kill a.block (by have := hw.dom _ _ hσ; have := hw.cnt; omega)
                        obtain ⟨σ', k1, k2⟩ := grow_fin (rest := Builtin.zeroCells z.cells (grownCap w (len + n) c' elem - (len + n))) hkl hsn p3 hn (grownCap_ge w (len + n) c' elem) (by rw [List.length_append, ← p3.length, p4, d3, Nat.add_mul]) (hrest _ _)
                        refine ⟨_, _, σ', hA.grow ty _ len c' old'.toArray ?_ (by omega) d1 hb, k1, Post.weaken (kill_sub hw hobj) k2⟩
                        rw [hsz]
                        exact p5
                  · cases h
              · cases h
end
end Go.Proofs.YtejebgdikoehmaaGreatDoor
/- The symbolic executor: what turns the heap, without calls. -/
namespace Go.Proofs.YtejebgdikoehmaaGreatDoor
open Go Go.RowKit
set_option linter.unusedVariables false
set_option linter.unusedSimpArgs false
section
variable {E : Env} {σ : Rn} {S S' : St} {w : World} {v : Value} {T : Sts} {ρ : Operand → Value} {o : Oper}
theorem run_storeV (hT : TOk E) (hw : WR σ S w) {t : TypeId} {a : Addr} {b : Nat} {x x' : Value} (h : storeV E S t a x = some S') (hx : VR σ x x') (hb : σ a.block = some b) :
    ∃ w', (storeVar t ⟨b, a.off, a.spot⟩ x').run E.P w = .ok () w' ∧ Post σ S w σ S' w' := by
  unfold storeV at h
  split at h
  · cases h
  · rename_i ti ht
    obtain ⟨inf, d, hk⟩ := hT _ _ ht
    cases hcd : Nat.beq x.cells.size ti.size with
    | false => rw [hcd] at h; cases h
    | true =>
      rw [hcd, cond_true] at h
      rw [nbeq] at hcd
      have hsz := of_decide_eq_true hcd
      have hc := hx.cells
      obtain ⟨w', h1, h2⟩ := run_stores (P := E.P) hw h hc hb
      have hl : x'.cells.size = ti.size := by
        have := hc.length
        simp at this
        rw [this, hsz]
      refine ⟨w', ?_, h2⟩
      simp only [storeVar, Sem.run_bind, run_size hk, Result.andThen, hl, ne_eq, not_true_eq_false, if_false]
      exact h1
theorem e_store (hT : TOk E) (hw : WR σ S w) {callF : CallF} {t : TypeId} {a x : Operand} (ha : ARo σ T ρ o) (ho : o.op = .store t a x) (h : sEff E callF T o S = some (v, S')) :
    ∃ w', (execOp ρ o).run E.P w = .ok .skip w' ∧ v = undefV ∧ Post σ S w σ S' w' := by
  obtain ⟨dst', op', type, pos, after, guard⟩ := o
  simp only at ho
  subst ho
  simp only [sEff] at h
  split at h
  · rename_i ad u hae hxe
    split at h
    · rename_i S1 hst
      cases h
      have hx := ha x (by simp [Op.operands]) _ hxe
      obtain ⟨b, hb, ea⟩ := (ha a (by simp [Op.operands]) _ hae).ptr'
      obtain ⟨w', h1, h2⟩ := run_storeV hT hw hst hx hb
      refine ⟨w', ?_, rfl, h2⟩
      simp only [execOp, Sem.run_bind, ea, Instr.storeAt, Instr.sureAddr]
      rw [show (pure (⟨b, ad.off, ad.spot⟩ : Addr) : Sem Addr).run E.P w = .ok ⟨b, ad.off, ad.spot⟩ w from rfl]
      simp only [Result.andThen, h1]
      rfl
    · cases h
  · cases h
theorem findE_at {k : Value} : ∀ {es : List MapEntry} {n j : Nat} {u : Value}, findE k es n = some (some (j, u)) → n ≤ j ∧ ∃ e, es[j - n]? = some e ∧ e.val = u ∧ e.key = k
  | [], n, j, u, h => by simp only [findE] at h; cases h
  | e :: es, n, j, u, h => by
    have fin : e.key = k → n ≤ n ∧ ∃ e', (e :: es)[n - n]? = some e' ∧ e'.val = e.val ∧ e'.key = k := fun q => ⟨Nat.le_refl _, e, by simp, rfl, q⟩
    have step : findE k es (n + 1) = some (some (j, u)) → n ≤ j ∧ ∃ e', (e :: es)[j - n]? = some e' ∧ e'.val = u ∧ e'.key = k := fun q => by
      obtain ⟨h1, e', h2, h3, h4⟩ := findE_at q
      refine ⟨by omega, e', ?_, h3, h4⟩
      rw [show j - n = (j - (n + 1)) + 1 from by omega, List.getElem?_cons_succ]; exact h2
    simp only [findE] at h
    split at h
    · rename_i k1 a k2 b he
      by_cases e1 : k1 = k2
      · rw [decide_eq_true e1, cond_true] at h
        by_cases e2 : a = b
        · rw [decide_eq_true e2, cond_true] at h
          cases h
          exact fin (by rw [he, e1, e2])
        · rw [decide_eq_false e2, cond_false] at h
          exact step h
      · rw [decide_eq_false e1] at h; cases h
    · rename_i a b he
      cases e2 : (a == b) with
      | true =>
        rw [e2, cond_true] at h
        cases h
        exact fin (by rw [he, (MapKept.bytes_beq _ _).1 e2])
      | false =>
        rw [e2, cond_false] at h
        exact step h
    · cases h
theorem MRs.get {es es' : List MapEntry} (h : MRs σ es es') : ∀ {i : Nat} {e : MapEntry}, es[i]? = some e → ∃ e', es'[i]? = some e' ∧ ER σ e e' := by
  induction h with
  | nil => intro i e q; simp at q
  | cons h _ ih =>
    intro i e q
    cases i with
    | zero => simp at q; subst q; exact ⟨_, by simp, h⟩
    | succ i => simp at q ⊢; exact ih q
theorem MRs.set {es es' : List MapEntry} (h : MRs σ es es') {f f' : MapEntry → MapEntry} (hf : ∀ e e', ER σ e e' → ER σ (f e) (f' e')) : ∀ i, MRs σ (setNth f es i) (es'.modify i f') := by
  induction h with
  | nil => intro i; cases i <;> exact .nil
  | cons h k ih =>
    intro i
    cases i with
    | zero => exact .cons (hf _ _ h) k
    | succ i => exact .cons h (ih i)
theorem MRs.append {es es' fs fs' : List MapEntry} (h : MRs σ es es') (k : MRs σ fs fs') : MRs σ (es ++ fs) (es' ++ fs') := by
  induction h with
  | nil => exact k
  | cons h _ ih => exact .cons h ih
theorem MRs.erase {es es' : List MapEntry} (h : MRs σ es es') : ∀ i, MRs σ (es.eraseIdx i) (es'.eraseIdx i) := by
  induction h with
  | nil => intro i; simp; exact .nil
  | cons h k ih =>
    intro i
    cases i with
    | zero => exact k
    | succ i => exact .cons h (ih i)
theorem same_key {d : TD} {k : Value} (h : keyD d k = true) (n : Nat) : Instr.sameBits n k k = true := by
  unfold keyD at h
  split at h
  · cases n <;> simp [Instr.sameBits]
  · cases n <;> simp only [Instr.sameBits] <;> exact (MapKept.bytes_beq _ _).2 rfl
  · cases h
/-- A map's entries laid anew. -/
theorem Post.setMap (h : WR σ S w) {r b c c1 : Nat} {es es1 : List MapEntry} {es1' : Array MapEntry} (hr : S.h.get r = some (.map es c)) (hb : σ r = some b) (hm : MRs σ es1 es1'.toList) :
    Post σ S w σ ⟨S.h.put 24 r (some (.map es1 c1)), S.n⟩ { w with heap := w.heap.setIfInBounds b (.map es1' c1) } := by
  have hlt := h.bnd r b hb
  refine Post.set h hr hb (o1' := .map es1' c1) ?_ (.map hm) (by simp) (fun k hk => ?_) rfl rfl rfl
  · simp [hlt]
  · simp [Array.getElem?_setIfInBounds, Ne.symm hk]
theorem run_keyStays {d : TD} {k : Value} (h : keyD d k = true) : (Instr.keyThatStays k k).run E.P w = .ok k w := by
  unfold Instr.keyThatStays
  rw [same_key h]
  rfl
theorem run_mapUpdate (hT : TOk E) (hw : WR σ S w) {t kt e s b r c : Nat} {z : List Value} {k x x' m' : Value} {es : List MapEntry} (ht : E.tt.get t = some ⟨.map kt e, s, z, b⟩) (hkt : keyT E kt k = true) (hr : S.h.get r = some (.map es c)) (hm : VR σ (.map (some r)) m') (hx : VR σ x x')
    (h : (match (generalizing := false) findE k es 0 with
        | some (some (i, _)) => some (undefV, ⟨S.h.put 24 r (some (.map (setNth (fun e => { e with key := k, val := x }) es i) c)), S.n⟩)
        | some none => some (undefV, ⟨S.h.put 24 r (some (.map (es ++ [{ key := k, val := x, born := c }]) (c + 1))), S.n⟩)
        | none => none) = some (v, S')) :
    ∃ w', (Instr.mapUpdate t m' k x').run E.P w = .ok () w' ∧ v = undefV ∧ Post σ S w σ S' w' := by
  obtain ⟨inf, d, hk⟩ := hT _ _ ht
  have hdd := hk.desc
  cases d <;> simp only [TD.of] at hdd <;> try cases hdd
  obtain ⟨tk, infk, dk, hkk, hkd, hck, hpk⟩ := keyT_sound (w := w) hT hkt
  cases hm with
  | map hb =>
    rename_i bm
    obtain ⟨b', o', q1, q2, q3⟩ := hw.obj _ _ hr
    rw [hb] at q1; cases q1
    cases q3 with
    | map hMR =>
      rename_i es'
      have hck' : (Instr.checkKey false 10000 kt k).run E.P w = .ok () w := hck false 9999
      split at h
      · rename_i i u hf
        cases h
        obtain ⟨r', p1, p2⟩ := findE_sound hkk hMR hkd hf
        obtain ⟨u', rfl, hu⟩ := p2
        have hfk := MapKept.run_findKey (P := E.P) (w := w) hkk.und p1
        obtain ⟨_, ei, g1, g2, g3⟩ := findE_at hf
        obtain ⟨ei', g4, g5⟩ := hMR.get g1
        rw [Nat.sub_zero] at g4
        have g6 : ((es'[i]?).map (·.key)).getD k = k := by
          rw [← Array.getElem?_toList, g4]
          simp [g5.key, g3]
        refine ⟨{ w with heap := w.heap.setIfInBounds bm (.map (es'.modify i fun e => { e with key := k, val := x' }) c) }, ?_, rfl, Post.setMap hw hr hb ?_⟩
        · simp only [Instr.mapUpdate, Sem.run_bind, run_und hk, Result.andThen, MapKept.run_getObj_map q2, hck', hfk, g6, run_keyStays hkd]
          exact MapKept.run_setObj_map _ q2
        · rw [Array.toList_modify]
          exact hMR.set (f := fun e => { e with key := k, val := x }) (f' := fun e => { e with key := k, val := x' }) (fun e e' he => ⟨rfl, hpk, hx, he.born⟩) i
      · rename_i hf
        cases h
        obtain ⟨r', p1, p2⟩ := findE_sound hkk hMR hkd hf
        simp only at p2
        subst p2
        have hfk := MapKept.run_findKey (P := E.P) (w := w) hkk.und p1
        refine ⟨{ w with heap := w.heap.setIfInBounds bm (.map (es'.push { key := k, val := x', born := c }) (c + 1)) }, ?_, rfl, Post.setMap hw hr hb ?_⟩
        · simp only [Instr.mapUpdate, Sem.run_bind, run_und hk, Result.andThen, MapKept.run_getObj_map q2, hck', hfk]
          exact MapKept.run_setObj_map _ q2
        · rw [Array.toList_push]
          exact hMR.append (.cons ⟨rfl, hpk, hx, rfl⟩ .nil)
      · cases h
end
end Go.Proofs.YtejebgdikoehmaaGreatDoor
/- The symbolic executor: the builtins that turn the heap. -/
namespace Go.Proofs.YtejebgdikoehmaaGreatDoor
open Go Go.RowKit
set_option linter.unusedVariables false
set_option linter.unusedSimpArgs false
section
variable {E : Env} {σ : Rn} {S S' : St} {w : World} {v : Value} {T : Sts} {ρ : Operand → Value} {o : Oper}
/-- The first cells of a source. -/
theorem run_src (hw : WR σ S w) {size n : Nat} {x x' : Value} {l : List Value} (h : srcCells S size n x = some l) (hx : VR σ x x') : ∃ l', VRs σ l l' ∧ (Builtin.firstCells size n x').run E.P w = .ok l'.toArray w ∧ (Builtin.firstCells size n x').run E.P w.drew = .ok l'.toArray w.drew := by
  unfold srcCells at h
  split at h
  · cases h; cases hx; exact ⟨[], .nil, rfl, rfl⟩
  · rename_i a m c
    rw [nbeq] at h
    by_cases e : n = 0
    · rw [decide_eq_true e, cond_true] at h
      cases h
      subst e
      refine ⟨[], .nil, ?_⟩
      cases hx with
      | slice hb hl hc => simp [Builtin.firstCells]; exact ⟨rfl, rfl⟩
      | junk a' c' => simp [Builtin.firstCells]; exact ⟨rfl, rfl⟩
    · rw [decide_eq_false e, cond_false] at h
      obtain ⟨b, l', h1, h2, h3, h4, h5⟩ := cells_get hw h
      cases hx with
      | slice hb hl hc =>
        rw [h1] at hb; cases hb
        have hcell : ∀ j u, l'[j]? = some u → w.cell? ((⟨b, a.off, a.spot⟩ : Addr).add j) = some u := by
          intro j u hu
          rw [h2, Addr.add_lit]
          exact h5 j u hu
        have hl' : l'.length = n * size := by rw [h4.length, h3]
        exact ⟨l', h4, run_firstCells_some w size n _ m _ l' hl' hcell, run_firstCells_some w.drew size n _ m _ l' hl' (fun j u hu => by simpa using hcell j u hu)⟩
      | junk => exact (hw.noJunk h1).elim
  · rename_i s
    cases h
    cases hx
    refine ⟨(bytesCells s).take n, VRs.of_plain1 ?_, ?_⟩
    · refine List.all_eq_true.2 fun x hx => ?_
      unfold bytesCells at hx
      obtain ⟨b, _, rfl⟩ := List.mem_map.1 (List.mem_of_mem_take hx)
      rfl
    · have he : (s.extract 0 n).data = s.data.extract 0 n := by simp
      simp only [Builtin.firstCells]
      rw [he]
      have : ∀ w' : World, Result.ok ((s.data.extract 0 n).map fun b => Value.int .u8 b.toNat) w' = Result.ok ((bytesCells s).take n).toArray w' := by
        intro w'
        refine congrArg (fun q => Result.ok q w') ?_
        apply Array.ext'
        simp [bytesCells, List.map_take]
      exact ⟨this w, this w.drew⟩
  · cases h
theorem run_lenOf {x x' : Value} {n : Nat} (h : lenV x = some n) (hx : VR σ x x') (w' : World) : (Builtin.lenOf x').run E.P w' = .ok n w' := by
  unfold lenV at h
  split at h
  · cases h; cases hx <;> rfl
  · cases h; cases hx; rfl
  · cases h
theorem e_append (hT : TOk E) (hw : WR σ S w) {argT : Array TypeId} {ty : TypeId} {s s' x x' : Value} (h : builtinOp E .append argT [s, x] S = some (v, S')) (hs : VR σ s s') (hx : VR σ x x') :
    ∃ v' w' σ', (Builtin.append_ argT ty #[s', x']).run E.P w = .ok v' w' ∧ VR σ' v v' ∧ Post σ S w σ' S' w' := by
  have src : ∀ {tx sT : TypeId} {d : TypeDesc}, argT[0]? = some sT → argT[1]? = some tx → E.P.underlying tx = some d → ((∃ e', d = .slice e') ∨ d = .string) → appendV E S sT s x = some (v, S') →
      ∃ v' w' σ', (Builtin.append_ argT ty #[s', x']).run E.P w = .ok v' w' ∧ VR σ' v v' ∧ Post σ S w σ' S' w' := by
    intro tx sT d h0 h1 hu hd h
    unfold appendV at h
    split at h
    · rename_i elem a1 a2 a3 n ht hn
      split at h
      · rename_i ti hte
        obtain ⟨inf1, d1, k1⟩ := hT _ _ ht
        obtain ⟨inf2, d2, k2⟩ := hT _ _ hte
        have e1 := k1.desc
        cases d1 <;> simp only [TD.of] at e1 <;> try cases e1
        split at h
        · rename_i new hsrc
          obtain ⟨z, hz, _⟩ := k2.zero
          obtain ⟨new1, n1, r1, r2⟩ := run_src (E := E) hw hsrc hx
          have hA : Apd E.P w argT elem inf2 z x' n new1 := Apd.src h0 h1 k1.und hu hd k2.info hz (run_lenOf hn hx) (by rw [k2.size]; exact r1) (by rw [k2.size]; exact r2)
          exact appendC_sound hw ht hte k2 hz hA hs n1 h
        · cases h
      · cases h
    · cases h
  simp only [builtinOp] at h
  split at h
  · rename_i k _ _ _ sT ht1 hs0
    obtain ⟨tx, t1, t2⟩ := typeAt_get ht1
    obtain ⟨inf0, d0, k0⟩ := hT _ _ t2
    have e0 := k0.desc
    cases d0 <;> simp only [TD.of] at e0 <;> try cases e0
    split at h
    · rename_i k' n elem a1 a2 a3 hte0
      split at h
      · rename_i ti hte
        obtain ⟨inf1, d1, k1⟩ := hT _ _ hte0
        obtain ⟨inf2, d2, k2⟩ := hT _ _ hte
        have e1 := k1.desc
        cases d1 <;> simp only [TD.of] at e1 <;> try cases e1
        cases hcd : (decide (0 ≤ n) && decide (n ≤ 100000) && Nat.ble ti.bytes 1000000) with
        | false => rw [hcd] at h; cases h
        | true =>
          rw [hcd, cond_true] at h
          simp only [Bool.and_eq_true, decide_eq_true_eq, nble] at hcd
          obtain ⟨⟨c1, c2⟩, c3⟩ := hcd
          obtain ⟨z, hz, _⟩ := k2.zero
          obtain ⟨zv, z1, z2, z3⟩ := run_zero (w := w) k2
          have hzs := zero_size (E := E) (P := E.P) k2 hz
          have hx' := hx.int'
          have hn0 : n = (n.toNat : Int) := by omega
          have hzz : z.cells.toList = ti.zero := by
            obtain ⟨z', q1, q2⟩ := k2.zero
            rw [hz] at q1; cases q1
            rw [z2] at q2; cases q2
            exact z3
          have hza : z.cells = ti.zero.toArray := by apply Array.ext'; simpa using hzz
          have hzc : (Builtin.zeroCells z.cells n.toNat).toList = repZero ti.zero n.toNat := by
            have := congrArg Array.toList (repZero_range ti.zero n.toNat)
            unfold Builtin.zeroCells
            rw [hza]
            exact this.symm
          have hA := Apd.zeros (P := E.P) (w := w) (x := x') (n := n.toNat) (k2 := k') hs0 t1 k1.und k0.und k2.info hz (by rw [hzs, k2.size]) (by rw [hx', ← hn0]) (by omega) (by rw [k2.bytes]; exact c3)
          rw [hzc] at hA
          exact appendC_sound hw hte0 hte k2 hz hA hs (VRs.of_plain1 (repZero_plain k2.plain _)) h
      · cases h
    · cases h
  · rename_i e _ _ _ sT ht1 hs0
    obtain ⟨tx, t1, t2⟩ := typeAt_get ht1
    obtain ⟨inf0, d0, k0⟩ := hT _ _ t2
    have e0 := k0.desc
    cases d0 <;> simp only [TD.of] at e0 <;> try cases e0
    exact src hs0 t1 k0.und (Or.inl ⟨_, rfl⟩) h
  · rename_i _ _ _ sT ht1 hs0
    obtain ⟨tx, t1, t2⟩ := typeAt_get ht1
    obtain ⟨inf0, d0, k0⟩ := hT _ _ t2
    have e0 := k0.desc
    cases d0 <;> simp only [TD.of] at e0 <;> try cases e0
    exact src hs0 t1 k0.und (Or.inr rfl) h
  · cases h
theorem e_copy (hT : TOk E) (hw : WR σ S w) {argT : Array TypeId} {ty : TypeId} {base : Option Addr} {dl dc : Nat} {s s' x' : Value} (h : builtinOp E .copy argT [.slice base dl dc, s] S = some (v, S')) (hd : VR σ (.slice base dl dc) x') (hs : VR σ s s') :
    ∃ v' w', (Builtin.copy_ argT ty #[x', s']).run E.P w = .ok v' w' ∧ VR σ v v' ∧ Post σ S w σ S' w' := by
  simp only [builtinOp] at h
  split at h
  · rename_i elem _ _ _ sl ht hl
    obtain ⟨t0, t1, t2⟩ := typeAt_get ht
    obtain ⟨inf1, d1, k1⟩ := hT _ _ t2
    have e1 := k1.desc
    cases d1 <;> simp only [TD.of] at e1 <;> try cases e1
    split at h
    · cases h
    · rename_i ti hte
      obtain ⟨inf2, d2, k2⟩ := hT _ _ hte
      split at h
      · cases h
      · rename_i cs hsrc
        obtain ⟨cs', r0, r1, r2⟩ := run_src (E := E) hw hsrc hs
        have hlen := run_lenOf (E := E) hl hs w
        split at h
        · cases h
          cases hd
          refine ⟨.int .i64 (Nat.min sl dl : Nat), w, ?_, .int _ _, Post.refl hw⟩
          simp [Builtin.copy_, t1, run_und k1, Result.andThen, hlen, run_size k2, r1, goInt]
        · rename_i a
          split at h
          · rename_i S1 hst
            cases h
            cases hd with
            | slice hb hl hc =>
              rename_i b c'
              obtain ⟨w', g1, g2⟩ := run_stores (P := E.P) hw hst r0 hb
              refine ⟨.int .i64 (Nat.min sl dl : Nat), w', ?_, .int _ _, g2⟩
              simp [Builtin.copy_, t1, run_und k1, Result.andThen, hlen, run_size k2, r1, goInt, g1]
            | junk a' c' =>
              have hm : Nat.min sl 0 = 0 := Nat.min_zero _
              rw [hm] at hsrc r1 ⊢
              have hcs : cs = [] := by
                unfold srcCells at hsrc
                split at hsrc
                · cases hsrc; rfl
                · cases hsrc; rfl
                · cases hsrc; simp
                · cases hsrc
              subst hcs
              cases r0
              unfold storeCellsAt at hst
              cases hst
              refine ⟨.int .i64 (0 : Nat), w, ?_, .int _ _, Post.refl hw⟩
              simp [Builtin.copy_, t1, run_und k1, Result.andThen, hlen, run_size k2, r1, goInt, hm]
              first | rfl | (simp [storeCells]; done) | trace "x"
          · cases h
  · cases h
theorem e_clear (hT : TOk E) (hw : WR σ S w) {argT : Array TypeId} {ty : TypeId} {a : Addr} {n c : Nat} {x' : Value} (h : builtinOp E .clear argT [.slice (some a) n c] S = some (v, S')) (hd : VR σ (.slice (some a) n c) x') :
    ∃ w', (Builtin.clear_ argT ty #[x']).run E.P w = .ok undef w' ∧ v = undefV ∧ Post σ S w σ S' w' := by
  simp only [builtinOp] at h
  split at h
  · rename_i elem _ _ _ ht
    obtain ⟨t0, t1, t2⟩ := typeAt_get ht
    obtain ⟨inf1, d1, k1⟩ := hT _ _ t2
    have e1 := k1.desc
    cases d1 <;> simp only [TD.of] at e1 <;> try cases e1
    split at h
    · rename_i ti hte
      obtain ⟨inf2, d2, k2⟩ := hT _ _ hte
      obtain ⟨z, z1, z2, z3⟩ := run_zero (w := w) k2
      have hza : z.cells = ti.zero.toArray := by apply Array.ext'; simpa using z3
      have hzc : (Builtin.zeroCells z.cells n).toList = repZero ti.zero n := by
        have := congrArg Array.toList (repZero_range ti.zero n)
        unfold Builtin.zeroCells
        rw [hza]
        exact this.symm
      split at h
      · rename_i S1 hst
        cases h
        cases hd with
        | slice hb hl hc =>
          rename_i b c'
          obtain ⟨w', g1, g2⟩ := run_stores (P := E.P) hw hst (VRs.of_plain1 (repZero_plain k2.plain n)) hb
          cases n with
          | zero =>
            unfold storeCellsAt at hst
            simp only [repZero] at hst
            cases hst
            exact ⟨w, by simp [Builtin.clear_, t1, run_und k1, Result.andThen]; rfl, rfl, Post.refl hw⟩
          | succ n =>
            refine ⟨w', ?_, rfl, g2⟩
            simp [Builtin.clear_, t1, run_und k1, Result.andThen, z1, hzc, g1]
            rfl
        | junk a' c' =>
          unfold storeCellsAt at hst
          simp only [repZero] at hst
          cases hst
          exact ⟨w, by simp [Builtin.clear_, t1, run_und k1, Result.andThen]; rfl, rfl, Post.refl hw⟩
      · cases h
    · cases h
  · cases h
theorem e_delete (hT : TOk E) (hw : WR σ S w) {argT : Array TypeId} {ty : TypeId} {r : Nat} {k m' k' : Value} (h : builtinOp E .delete argT [.map (some r), k] S = some (v, S')) (hm : VR σ (.map (some r)) m') (hk : VR σ k k') :
    ∃ w', (Builtin.delete_ argT ty #[m', k']).run E.P w = .ok undef w' ∧ v = undefV ∧ Post σ S w σ S' w' := by
  simp only [builtinOp] at h
  split at h
  · rename_i kt e _ _ _ es c ht hr
    obtain ⟨t0, t1, t2⟩ := typeAt_get ht
    obtain ⟨inf1, d1, k1⟩ := hT _ _ t2
    have e1 := k1.desc
    cases d1 <;> simp only [TD.of] at e1 <;> try cases e1
    cases hkt : keyT E kt k with
    | false => rw [hkt] at h; cases h
    | true =>
      rw [hkt] at h
      simp only [Bool.not_true, cond_false] at h
      obtain ⟨tk, infk, dk, hkk, hkd, hck, hpk⟩ := keyT_sound (w := w) hT hkt
      have hk' := VR.plain hpk hk
      subst hk'
      cases hm with
      | map hb =>
        rename_i bm
        obtain ⟨b', o', q1, q2, q3⟩ := hw.obj _ _ hr
        rw [hb] at q1; cases q1
        cases q3 with
        | map hMR =>
          rename_i es'
          have hck' : ∀ e, (Instr.checkKey e 10000 kt k').run E.P w = .ok () w := fun e => hck e 9999
          split at h
          · rename_i i u hf
            cases h
            obtain ⟨r', p1, p2⟩ := findE_sound hkk hMR hkd hf
            obtain ⟨u', rfl, hu⟩ := p2
            have hfk := MapKept.run_findKey (P := E.P) (w := w) hkk.und p1
            have hset := MapKept.run_setObj_map (P := E.P) (.map (es'.eraseIdxIfInBounds i) c) q2
            refine ⟨{ w with heap := w.heap.setIfInBounds bm (.map (es'.eraseIdxIfInBounds i) c) }, ?_, rfl, Post.setMap hw hr hb ?_⟩
            · simp [Builtin.delete_, t1, run_und k1, Result.andThen, MapKept.run_getObj_map q2, hck', hfk, hset]
              rfl
            · have : (es'.eraseIdxIfInBounds i).toList = es'.toList.eraseIdx i := by
                unfold Array.eraseIdxIfInBounds
                split
                · simp
                · rw [List.eraseIdx_of_length_le (by simpa using Nat.le_of_not_lt ‹_›)]
              rw [this]
              exact hMR.erase i
          · rename_i hf
            cases h
            obtain ⟨r', p1, p2⟩ := findE_sound hkk hMR hkd hf
            simp only at p2
            subst p2
            have hfk := MapKept.run_findKey (P := E.P) (w := w) hkk.und p1
            have hset := MapKept.run_setObj_map (P := E.P) (.map es' c) q2
            have hbl : bm < w.heap.size := hw.bnd _ _ hb
            refine ⟨{ w with heap := w.heap.setIfInBounds bm (.map es' c) }, ?_, rfl, ?_⟩
            · simp [Builtin.delete_, t1, run_und k1, Result.andThen, MapKept.run_getObj_map q2, hck', hfk, hset]
              rfl
            · refine Post.same hw ?_ rfl rfl rfl
              apply Array.ext_getElem?
              intro j
              rw [Array.getElem?_setIfInBounds]
              by_cases e : bm = j
              · subst e; rw [if_pos rfl, if_pos hbl, q2]
              · rw [if_neg e]
          · cases h
  · cases h
end
end Go.Proofs.YtejebgdikoehmaaGreatDoor
/- The symbolic executor: calls; what turns the heap is sound. -/
namespace Go.Proofs.YtejebgdikoehmaaGreatDoor
open Go Go.RowKit
set_option linter.unusedVariables false
set_option linter.unusedSimpArgs false
section
variable {E : Env} {P : Program} {σ : Rn} {S S' : St} {w : World} {v : Value} {T : Sts} {ρ : Operand → Value} {o : Oper}
theorem byte_back {n : Int} (h : 0 ≤ n ∧ n < 256) : ((UInt8.ofNat n.toNat).toNat : Int) = n := by
  have : (UInt8.ofNat n.toNat).toNat = n.toNat := by
    simp; omega
  rw [this]; omega
theorem e_unsafeString (hT : TOk E) (hw : WR σ S w) {argT : Array TypeId} {ty : TypeId} {a : Addr} {n : Int} {x' : Value} (h : builtinOp E .unsafeString argT [.pointer (some a), .int .i64 n] S = some (v, S')) (hd : VR σ (.pointer (some a)) x') :
    ∃ w', (Builtin.unsafeString_ argT ty #[x', .int .i64 n]).run E.P w = .ok v w' ∧ VR σ v v ∧ Post σ S w σ S' w' := by
  simp only [builtinOp] at h
  split at h
  · rename_i pt it c e op hat hg
    split at h
    · rename_i u _ _ _ ti l hpt hte hl
      cases hcd : (decide (0 < n) && decide (n ≤ 1000000) && Nat.beq u e && Nat.beq ti.size 1 && Nat.beq a.off 0) with
      | false => rw [hcd] at h; cases h
      | true =>
        rw [hcd, cond_true] at h
        simp only [Bool.and_eq_true, decide_eq_true_eq, nbeq] at hcd
        obtain ⟨⟨⟨⟨c1, c2⟩, c3⟩, c4⟩, c5⟩ := hcd
        subst c3
        split at h
        · rename_i bs hbs
          cases h
          obtain ⟨i1, d1, k1⟩ := hT _ _ hpt
          obtain ⟨i2, d2, k2⟩ := hT _ _ hte
          have e1 := k1.desc
          cases d1 <;> simp only [TD.of] at e1 <;> try cases e1
          have hcells : E.P.cellsOf u = 1 := by unfold Program.cellsOf; rw [k2.info, ← c4, ← k2.size]; rfl
          obtain ⟨b, l', h1, h2, h3, h4, h5⟩ := cells_get hw hl
          obtain ⟨ns, q1, q2, q3⟩ := toBytes_spec hbs
          have hll : l' = l := VRs.plain1 (by rw [q1]; exact plain_ints ns) h4
          subst hll
          cases hd with
          | ptr hb =>
            rw [h1] at hb; cases hb
            obtain ⟨b', o', p1, p2, p3⟩ := hw.obj _ _ hg
            rw [h1] at p1; cases p1
            cases p3 with
            | cells o1 o2 o3 =>
              rename_i c' fr
              have hfr : fr = (0, 0) := by unfold FR at o3; simpa using o3
              subst hfr
              have hlen := o1.length
              rw [List.length_take] at hlen
              simp at hlen
              have hbl : (bs.length : Int) = n := by rw [q2, List.length_map, ← List.length_map (f := Value.int .u8), ← q1, h3]; omega
              have hbn : bs.length = n.toNat := by omega
              obtain ⟨_, _, _, _, _, _, _, _, _, _, r3, _, r4, r5, _⟩ := cells_read hw hl
              rw [hg] at r3
              cases r3
              have hr := Lib.run_unsafeString_row (P := E.P) w pt it ty u k1.und hcells b c'.size (by simp [World.shape?, p2]) bs (fun q => by rw [q] at hbl; simp at hbl; omega) (by omega) (by omega) (by
                intro j x hx
                rw [Addr.add_lit, Nat.zero_add]
                rw [q2, List.getElem?_map] at hx
                cases hj : ns[j]? with
                | none => rw [hj] at hx; cases hx
                | some m =>
                  rw [hj] at hx
                  cases hx
                  have := h5 j (.int .u8 m) (by rw [q1, List.getElem?_map, hj]; rfl)
                  rw [c5, Nat.zero_add] at this
                  rw [this]
                  rw [byte_back (q3 m (List.mem_of_getElem? hj))])
              obtain ⟨f1, f2, f3, f4⟩ := freeze_rest w ⟨b, 0, none⟩ bs.length
              have hargs : argT = #[pt, it] := by apply Array.ext'; simpa using hat
              have hne : bs.length ≠ 0 := by omega
              refine ⟨w.freeze ⟨b, 0, none⟩ bs.length, ?_, .string _, Post.set hw hg h1 (freeze_same p2 bs.length hne) (.cells o1 o2 ?_) f1 (fun k hk => freeze_other hk _) f2 f3 f4⟩
              · rw [hargs, c5, h2, ← hbl]
                exact hr
              · unfold FR
                rw [if_neg (by omega), hbn, Nat.zero_add]
        · cases h
    · cases h
  · cases h
/-- What an operation comes to: a value at once, or a call that returns one. -/
def UponR (P : Program) (R : Value → World → Prop) : Result Next → Prop
  | .ok (.value v) w' => R v w'
  | .ok .skip w' => R undef w'
  | .ok (.enter f args) w' => Calls P f args w' fun e w'' => ∃ v, e = .returned v ∧ R v w''
  | _ => False
theorem UponR.upon {P : Program} {R : Value → World → Prop} {r : Result Next} {o : Oper} {a : Act} {next : Act → World → Prop} {Q : Exit → Act → World → Prop} (h : UponR P R r) (hn : ∀ v w', R v w' → next (a.put o.dst v) w') : o.upon P a next Q r := by
  unfold UponR at h
  split at h
  · exact hn _ _ h
  · exact hn _ _ h
  · rw [Oper.upon_enter]
    refine h.mono fun e w' he => ?_
    obtain ⟨v, rfl, hr⟩ := he
    exact hn _ _ hr
  · exact h.elim
/-- What the executor tells of a call. -/
def Eff (σ : Rn) (S : St) (w : World) (v : Value) (S' : St) (v' : Value) (w' : World) : Prop := ∃ σ', VR σ' v v' ∧ Post σ S w σ' S' w'
/-- The calls that the executor tells are so. -/
def CallOk (P : Program) (callF : CallF) : Prop := ∀ f args S v S' σ w args', callF f args S = some (v, S') → WR σ S w → VRs σ args args' → UponR P (Eff σ S w v S') ((callFunc f args'.toArray).run P w)
theorem follow_sound (hT : TOk E) : ∀ {path : List FieldStep} {t xt : TypeId} {x x' u : Value}, followV E path t x = some (xt, u) → VR σ x x' → ∃ u', (follow path t (.val x')).run E.P w = .ok (xt, .val u') w ∧ VR σ u u'
  | [], t, xt, x, x', u, h, hx => by
    simp only [followV] at h
    cases h
    exact ⟨x', rfl, hx⟩
  | s :: rest, t, xt, x, x', u, h, hx => by
    simp only [followV] at h
    cases hd : s.deref with
    | true => rw [hd] at h; cases h
    | false =>
      rw [hd, cond_false] at h
      split at h
      · rename_i fs _ _ _ cs ht
        obtain ⟨inf, d, hk⟩ := hT _ _ ht
        have e1 := hk.desc
        cases d <;> simp only [TD.of] at e1 <;> try cases e1
        rename_i fields
        split at h
        · rename_i f hf
          split at h
          · rename_i q hq
            rw [List.getElem?_map] at hf
            cases hff : fields.toList[s.index]? with
            | none => rw [hff] at hf; cases hf
            | some fld =>
              rw [hff] at hf
              simp at hf
              subst hf
              have hff' : fields[s.index]? = some fld := by rw [← Array.getElem?_toList]; exact hff
              generalize hcs : (Value.agg cs) = y at hx
              cases hx with
              | agg hv =>
                rename_i c c'
                cases hcs
                obtain ⟨q', g1, g2⟩ := part_sound (w := w) hT (cs := c.toArray) (cs' := c'.toArray) (by simpa using hv) hq
                obtain ⟨u', g3, g4⟩ := follow_sound hT h g2
                refine ⟨u', ?_, g4⟩
                simp only [follow, Sem.run_bind, run_und hk, Result.andThen, hff']
                simp [hd, g1, g3, Result.andThen]
              | _ => cases hcs
          · cases h
        · cases h
      · cases h
theorem method_sound (hT : TOk E) {t : TypeId} {name : String} {f : FuncId} {x x' u : Value} (h : methodOf E t x name = some (f, u)) (hx : VR σ x x') (n : Nat) : ∃ u', (method (n + 1) t x' name).run E.P w = .ok (f, u') w ∧ VR σ u u' := by
  unfold methodOf at h
  cases hi : E.P.info? t with
  | none => rw [hi] at h; cases h
  | some info =>
    rw [hi] at h
    simp only at h
    cases hm : info.methods.find? (·.name == name) with
    | none => rw [hm] at h; cases h
    | some m =>
      rw [hm] at h
      simp only at h
      have ht : (typeInfo t).run E.P w = .ok info w := by simp [Go.typeInfo, go_sem, hi]
      cases hfo : followV E m.path.toList t x with
      | none => rw [hfo] at h; cases h
      | some q =>
        obtain ⟨xt, y⟩ := q
        rw [hfo] at h
        simp only at h
        obtain ⟨y', g1, g2⟩ := follow_sound (w := w) hT hfo hx
        have fin : ∀ {ptr : Bool}, m.func = some (f, ptr) → (∀ q, (receiverAt xt (.val y') ptr q).run E.P w = .ok y' w) → (method (n + 1) t x' name).run E.P w = .ok (f, y') w := by
          intro ptr hf hr
          simp [method, ht, hm, hf, g1, hr, Result.andThen]
        split at h
        · rename_i f' ptr e _ _ _ hf hte
          obtain ⟨inf, d, hk⟩ := hT _ _ hte
          have e1 := hk.desc
          cases d <;> simp only [TD.of] at e1 <;> try cases e1
          cases ptr with
          | false => cases h
          | true =>
            cases h
            refine ⟨y', fin hf fun q => ?_, g2⟩
            simp only [receiverAt, Sem.run_bind, run_und hk, Result.andThen]
            rfl
        · rename_i f' ptr ti hne hf hte
          obtain ⟨inf, d, hk⟩ := hT _ _ hte
          cases ptr with
          | true => cases h
          | false =>
            cases h
            have hnp : ∀ e, d ≠ .pointer e := by
              intro e q
              subst q
              have := hk.desc
              simp only [TD.of] at this
              obtain ⟨d0, s0, z0, b0⟩ := ti
              simp only at this
              subst this
              exact hne _ _ _ _ rfl
            refine ⟨y', fin hf fun q => ?_, g2⟩
            simp only [receiverAt, Sem.run_bind, run_und hk, Result.andThen]
            cases d <;> first | exact absurd rfl (hnp _) | rfl
        · cases h
theorem e_map (hT : TOk E) (hw : WR σ S w) {callF : CallF} {t : TypeId} {m k x : Operand} (ha : ARo σ T ρ o) (ho : o.op = .mapUpdate t m k x ∨ o.op = .insert t m k x) (h : sEff E callF T o S = some (v, S')) :
    ∃ w', (execOp ρ o).run E.P w = .ok .skip w' ∧ v = undefV ∧ Post σ S w σ S' w' := by
  obtain ⟨dst', op', type, pos, after, guard⟩ := o
  simp only at ho
  rcases ho with rfl | rfl
  all_goals
    simp only [sEff] at h
    split at h
    · rename_i kt e _ _ _ r kv xv ht hm hk hx
      cases hkt : keyT E kt kv with
      | false => rw [hkt] at h; cases h
      | true =>
        rw [hkt] at h
        simp only [Bool.not_true, cond_false] at h
        split at h
        · rename_i es c hr
          obtain ⟨_, _, _, _, _, _, hpk⟩ := keyT_sound (w := w) hT hkt
          have vm := ha m (by simp [Op.operands]) _ hm
          have vk := VR.plain hpk (ha k (by simp [Op.operands]) _ hk)
          have vx := ha x (by simp [Op.operands]) _ hx
          obtain ⟨w', g1, g2, g3⟩ := run_mapUpdate hT hw ht hkt hr vm vx h
          refine ⟨w', ?_, g2, g3⟩
          simp only [execOp, Sem.run_bind, vk, g1, Result.andThen]
          rfl
        · cases h
    · cases h
theorem VRs.toArr {x : List Value} {a : Array Value} (h : VRs σ x a.toList) : ∃ l, a = l.toArray ∧ VRs σ x l := ⟨a.toList, by simp, h⟩
theorem e_call (hT : TOk E) {callF : CallF} (hC : CallOk E.P callF) (hw : WR σ S w) {c : Call} (ha : ARo σ T ρ o) (ho : o.op = .call c) (h : sEff E callF T o S = some (v, S')) : UponR E.P (Eff σ S w v S') ((execOp ρ o).run E.P w) := by
  obtain ⟨dst, op', type, pos, after, guard⟩ := o
  simp only at ho
  subst ho
  have hargs : ∀ x, x ∈ c.args.toList → ∀ v, evalO T x = some v → VR σ v (ρ x) := fun x hx => ha x (by simp [Op.operands, Call.operands]; exact Or.inr (by simpa using hx))
  simp only [sEff] at h
  split at h
  · cases h
  · rename_i args hev
    have hr := args_rel hargs hev
    split at h
    · rename_i b hcal
      obtain ⟨consts, he⟩ := run_builtin (ρ := ρ) (dst := dst) (ty := type) (pos := pos) (after := after) (guard := guard) hcal
      rw [he]
      generalize hq : (c.args.map ρ).toList = q at hr
      rw [arr_of hq]
      have run_v' : ∀ {s : Sem Value} {u : Value} {w' : World}, s.run E.P w = .ok u w' → (do pure (.value (← s)) : Sem Next).run E.P w = .ok (.value u) w' := by
        intro s u w' hs
        simp only [Sem.run_bind, hs, Result.andThen]
        rfl
      unfold builtinOp at h
      split at h
      · rename_i s x
        cases hr with
        | cons hs k => cases k with
          | cons hx k => cases k with
            | nil =>
              obtain ⟨v', w', σ', g1, g2, g3⟩ := e_append (argT := c.argTypes) (ty := type) hT hw (by simpa only [builtinOp] using h) hs hx
              rw [show (builtin .append c.argTypes type consts _).run E.P w = _ from run_v' g1]
              exact ⟨σ', g2, g3⟩
      · rename_i base dl dc s
        cases hr with
        | cons hs k => cases k with
          | cons hx k => cases k with
            | nil =>
              obtain ⟨v', w', g1, g2, g3⟩ := e_copy (argT := c.argTypes) (ty := type) hT hw (by simpa only [builtinOp] using h) hs hx
              rw [show (builtin .copy c.argTypes type consts _).run E.P w = _ from run_v' g1]
              exact ⟨σ, g2, g3⟩
      · rename_i a n cc
        cases hr with
        | cons hs k => cases k with
          | nil =>
            obtain ⟨w', g1, g2, g3⟩ := e_clear (argT := c.argTypes) (ty := type) hT hw (by simpa only [builtinOp] using h) hs
            rw [show (builtin .clear c.argTypes type consts _).run E.P w = _ from run_v' g1]
            exact ⟨σ, g2 ▸ VR.tuple (x := []) (x' := []) .nil, g3⟩
      · rename_i r k
        cases hr with
        | cons hs k => cases k with
          | cons hx k => cases k with
            | nil =>
              obtain ⟨w', g1, g2, g3⟩ := e_delete (argT := c.argTypes) (ty := type) hT hw (by simpa only [builtinOp] using h) hs hx
              rw [show (builtin .delete c.argTypes type consts _).run E.P w = _ from run_v' g1]
              exact ⟨σ, g2 ▸ VR.tuple (x := []) (x' := []) .nil, g3⟩
      · rename_i a n
        cases hr with
        | cons hs k => cases k with
          | cons hx k => cases k with
            | nil =>
              cases hx
              obtain ⟨w', g1, g2, g3⟩ := e_unsafeString (argT := c.argTypes) (ty := type) hT hw (by simpa only [builtinOp] using h) hs
              rw [show (builtin .unsafeString c.argTypes type consts _).run E.P w = _ from run_v' g1]
              exact ⟨σ, g2, g3⟩
      · cases h
    · rename_i f hcal
      split at h
      · rename_i fv hf
        unfold callVal at h
        split at h
        · rename_i g first cap
          have hfv := ha f (by simp [Op.operands, Call.operands, hcal]) _ hf
          generalize hy : ρ f = y at hfv
          cases hfv with
          | func _ h1 h2 =>
            rename_i x x' y' y''
            have := hC g _ S v S' σ w (x' ++ (c.args.map ρ).toList ++ y'') h hw (by simpa using (h1.append hr).append h2)
            have he : (execOp ρ ⟨dst, .call c, type, pos, after, guard⟩).run E.P w = (callFunc g (x' ++ (c.args.map ρ).toList ++ y'').toArray).run E.P w := by
              simp only [execOp, resolve, hcal, hy, Deferred.ofValue, Sem.run_bind]
              rw [show ∀ d : Deferred, (pure d : Sem Deferred).run E.P w = .ok d w from fun _ => rfl]
              simp only [Result.andThen, invoke]
              congr 2
              simp
            rw [he]
            exact this
        · cases h
      · cases h
    · rename_i r name hcal
      split at h
      · rename_i t x hx
        split at h
        · rename_i f u hm
          have hrv := ha r (by simp [Op.operands, Call.operands, hcal]) _ hx
          generalize hy : ρ r = y at hrv
          cases hrv with
          | iface _ hxv =>
            rename_i x'
            obtain ⟨u', hmm, hu⟩ := method_sound (w := w) hT hm hxv (E.P.types.size + Made.depth - 1)
            have := hC f _ S v S' σ w (u' :: (c.args.map ρ).toList) h hw (.cons hu hr)
            have he : (execOp ρ ⟨dst, .call c, type, pos, after, guard⟩).run E.P w = (callFunc f (u' :: (c.args.map ρ).toList).toArray).run E.P w := by
              have hpos : E.P.types.size + Made.depth - 1 + 1 = E.P.types.size + Made.depth := by
                have : 1 ≤ Made.depth := by decide
                omega
              rw [hpos] at hmm
              simp only [execOp, resolve, hcal, hy, Sem.run_bind]
              rw [show ∀ d : Deferred, (pure d : Sem Deferred).run E.P w = .ok d w from fun _ => rfl]
              have h0 : (#[Value.iface t x'] ++ Array.map ρ c.args)[0]? = some (Value.iface t x') := by
                rw [Array.getElem?_append_left (by simp)]
                rfl
              have hex : #[u'] ++ (#[Value.iface t x'] ++ Array.map ρ c.args).extract 1 (#[Value.iface t x'] ++ Array.map ρ c.args).size = (u' :: (c.args.map ρ).toList).toArray := by
                apply Array.ext'
                simp
                rw [List.take_of_length_le (by simp)]
              simp only [Result.andThen, invoke, h0, callMethod, Sem.run_bind]
              rw [show (program : Sem Program).run E.P w = .ok E.P w from rfl]
              simp only [Sem.run_bind, hmm, Result.andThen, hex]
            rw [he]
            exact this
        · cases h
      · cases h
/-- WHAT TURNS THE HEAP. -/
theorem eff_sound (hT : TOk E) {callF : CallF} (hC : CallOk E.P callF) (hw : WR σ S w) (ha : ARo σ T ρ o) (h : sEff E callF T o S = some (v, S')) : UponR E.P (Eff σ S w v S') ((execOp ρ o).run E.P w) := by
  cases hop : o.op with
  | store t a x =>
    obtain ⟨w', h1, rfl, h2⟩ := e_store hT hw ha hop h
    rw [h1]
    exact ⟨σ, VR.tuple (x := []) (x' := []) .nil, h2⟩
  | mapUpdate t m k x =>
    obtain ⟨w', h1, rfl, h2⟩ := e_map hT hw ha (Or.inl hop) h
    rw [h1]
    exact ⟨σ, VR.tuple (x := []) (x' := []) .nil, h2⟩
  | insert t m k x =>
    obtain ⟨w', h1, rfl, h2⟩ := e_map hT hw ha (Or.inr hop) h
    rw [h1]
    exact ⟨σ, VR.tuple (x := []) (x' := []) .nil, h2⟩
  | call c => exact e_call hT hC hw ha hop h
  | _ => simp only [sEff, hop] at h; cases h
end
end Go.Proofs.YtejebgdikoehmaaGreatDoor
/- The symbolic executor: an operation, a region in its order. -/
namespace Go.Proofs.YtejebgdikoehmaaGreatDoor
open Go Go.RowKit
set_option linter.unusedVariables false
set_option linter.unusedSimpArgs false
/-- A function's slots, by the executor's. -/
structure AR (D : List Deferred) (σ : Rn) (n : Nat) (T : Sts) (a : Act) : Prop where
  get : ∀ t v, T.get t = some v → ∃ v', a.tmps[t]? = some v' ∧ VR σ v v'
  size : a.tmps.size = n
  small : n ≤ 1000000
  nod : a.defers = D
def dstOk (n : Nat) (o : Oper) : Bool := match o.dst with | none => true | some d => Nat.blt d n
section
variable {D : List Deferred} {E : Env} {P : Program} {σ σ' : Rn} {S S' : St} {w w' : World} {v v' : Value} {T T' : Sts} {o : Oper} {a : Act} {n : Nat} {callF : CallF}
theorem AR.mono (h : AR D σ n T a) (hs : Le σ σ') : AR D σ' n T a := ⟨fun t v q => let ⟨v', h1, h2⟩ := h.get t v q; ⟨v', h1, h2.mono hs⟩, h.size, h.small, h.nod⟩
theorem AR.putT (h : AR D σ n T a) (hd : dstOk n o = true) (hv : VR σ v v') : AR D σ n (Go.Proofs.YtejebgdikoehmaaGreatDoor.putT T o.dst v) (a.put o.dst v') := by
  unfold Go.Proofs.YtejebgdikoehmaaGreatDoor.putT Act.put
  unfold dstOk at hd
  cases ho : o.dst with
  | none => exact h
  | some d =>
    rw [ho] at hd
    simp only [nblt, decide_eq_true_eq] at hd
    have hsm := h.small
    have hsz := h.size
    refine ⟨fun t u q => ?_, by simpa using h.size, h.small, h.nod⟩
    rw [Sts.get_put T d t _] at q
    by_cases e : t = d
    · rw [if_pos e] at q
      cases q
      subst e
      exact ⟨v', by simp [Array.getElem?_setIfInBounds]; omega, hv⟩
    · rw [if_neg e] at q
      obtain ⟨u', h1, h2⟩ := h.get t u q
      refine ⟨u', ?_, h2⟩
      simp only
      rw [Array.getElem?_setIfInBounds_ne (Ne.symm e)]
      exact h1
theorem AR.eval (h : AR D σ n T a) {x : Operand} {u : Value} (hx : evalO T x = some u) : VR σ u (a.eval x) := by
  cases x with
  | tmp t =>
    obtain ⟨u', h1, h2⟩ := h.get t u hx
    have : a.eval (.tmp t) = u' := by simp [Act.eval, Array.getD_eq_getD_getElem?, h1]
    rw [this]; exact h2
  | const c =>
    simp only [evalO] at hx
    cases hp : plain c with
    | false => rw [hp] at hx; cases hx
    | true => rw [hp] at hx; cases hx; exact VR.of_plain hp
  | global g => simp only [evalO] at hx; cases hx
  | func f =>
    simp only [evalO] at hx
    cases hx
    exact VR.func f (x := []) (x' := []) (y := []) (y' := []) .nil .nil
theorem AR.aro (h : AR D σ n T a) (o : Oper) : ARo σ T a.eval o := fun x _ u hx => h.eval hx
theorem AR.wanted (h : AR D σ n T a) {ops : Array Oper} {b : Bool} (hw : wantedS ops.toList T o = some b) : Region.wanted o (yielded ops a.tmps) = b := by
  unfold wantedS at hw
  unfold Region.wanted
  cases hg : o.guard with
  | none => rw [hg] at hw; cases hw; rfl
  | some q =>
    obtain ⟨j, want⟩ := q
    rw [hg] at hw
    simp only at hw ⊢
    unfold yielded
    rw [Array.getElem?_toList] at hw
    cases hd : (ops[j]?).bind (·.dst) with
    | none => rw [hd] at hw; cases hw
    | some d =>
      rw [hd] at hw
      simp only [Option.bind_some] at hw ⊢
      cases ht : T.get d with
      | none => rw [ht] at hw; cases hw
      | some u =>
        rw [ht] at hw
        obtain ⟨u', h1, h2⟩ := h.get d u ht
        rw [h1]
        cases u with
        | bool b' =>
          cases h2
          simp only at hw ⊢
          cases hw
          rfl
        | tuple l =>
          cases hw
          obtain ⟨cs', rfl, _⟩ := h2.tuple'
          rfl
        | _ => cases hw
theorem sNew_sound (hT : TOk E) (hw : WR σ S w) {f : Nat → Value} {ob : SObj} {i : Nat} (hl : Laid E σ w f ob v' w') (hs : sNew S ob = some (i, S')) : Eff σ S w (f i) S' v' w' := by
  obtain ⟨h1, rfl, rfl⟩ := sNew_some hs
  obtain ⟨o', k, q1, q2⟩ := hl.at_
  have hnone : σ S.n = none := by
    cases e : σ S.n with
    | none => rfl
    | some b => have := hw.dom S.n b e; omega
  obtain ⟨g1, g2⟩ := q2 (setσ σ S.n w.heap.size k) S.n (setσ_le hnone) setσ_self.1 setσ_self.2
  exact ⟨setσ σ S.n w.heap.size k, g2, Post.push hw (Nat.le_refl _) (Nat.lt_succ_self _) (by omega) q1 hl.lt hl.old hl.os hl.tape hl.output g1⟩
/-- AN OPERATION. -/
theorem sOp_sound (hT : TOk E) (hC : CallOk E.P callF) (hw : WR σ S w) (hA : AR D σ n T a) (h : sOp E callF T o S = some (v, S')) : UponR E.P (Eff σ S w v S') ((execOp a.eval o).run E.P w) := by
  unfold sOp at h
  split at h
  · split at h
    · rename_i u hp
      cases h
      obtain ⟨v', h1, h2⟩ := pure_sound hT hw (hA.aro o) hp
      rw [h1]
      exact ⟨σ, h2, Post.refl hw⟩
    · cases h
  · split at h
    · rename_i f ob hs
      split at h
      · rename_i i S1 hn
        cases h
        obtain ⟨v', w', h1, h2⟩ := alloc_sound (σ := σ) (w := w) hT (hA.aro o) hs
        rw [h1]
        exact sNew_sound hT hw h2 hn
      · cases h
    · cases h
  · exact eff_sound hT hC hw (hA.aro o) h
/-- What the executor tells of a stretch of code. -/
def Goes (D : List Deferred) (σ : Rn) (S : St) (w : World) (n : Nat) (T' : Sts) (S' : St) (a' : Act) (w' : World) : Prop := ∃ σ', Post σ S w σ' S' w' ∧ AR D σ' n T' a'
theorem sOps_sound (hT : TOk E) (hC : CallOk E.P callF) {ops : Array Oper} (hd : ops.toList.all (dstOk n) = true) {Q : Exit → Act → World → Prop} : ∀ (k : Nat) {S : St} {σ : Rn} {w : World} {T : Sts} {a : Act}, WR σ S w → AR D σ n T a → sOps E callF ops.toList (ops.toList.drop k) T S = some (T', S') →
    (∀ a' w', Goes D σ S w n T' S' a' w' → Q .normal a' w') → wpOps E.P ops Q ((List.range ops.size).drop k) a w := by
  intro k
  generalize hm : ops.size - k = m
  induction m generalizing k with
  | zero =>
    intro S σ w T a hw hA h hq
    rw [List.drop_eq_nil_of_le (by simpa using (by omega : ops.size ≤ k))] at h
    simp only [sOps] at h
    cases h
    rw [List.drop_eq_nil_of_le (by simp; omega)]
    exact hq a w ⟨σ, Post.refl hw, hA⟩
  | succ m ih =>
    intro S σ w T a hw hA h hq
    have hk : k < ops.size := by omega
    have e1 : ops.toList.drop k = ops[k] :: ops.toList.drop (k + 1) := by
      rw [List.drop_eq_getElem_cons (by simpa using hk)]; simp
    have e2 : (List.range ops.size).drop k = k :: (List.range ops.size).drop (k + 1) := by
      rw [List.drop_eq_getElem_cons (by simpa using hk)]; simp
    have hdk : dstOk n ops[k] = true := List.all_eq_true.1 hd _ (by simp)
    rw [e1] at h
    rw [e2]
    simp only [sOps] at h
    simp only [wpOps, Array.getElem?_eq_getElem hk]
    split at h
    · cases h
    · rename_i hwn
      rw [hA.wanted hwn]
      simp only [Bool.false_eq_true, if_false]
      exact ih (k + 1) (by omega) hw (hA.putT hdk (VR.tuple (x := []) (x' := []) .nil)) h hq
    · rename_i hwn
      rw [hA.wanted hwn]
      simp only [if_true]
      split at h
      · rename_i u S1 hop
        refine Or.inl ((sOp_sound hT hC hw hA hop).upon fun v' w' hr => ?_)
        obtain ⟨σ', r1, r2⟩ := hr
        refine ih (k + 1) (by omega) r2.wr ((hA.mono r2.le).putT hdk r1) h fun a' w'' hg => ?_
        obtain ⟨σ'', g1, g2⟩ := hg
        exact hq a' w'' ⟨σ'', r2.trans g1, g2⟩
      · cases h
end
end Go.Proofs.YtejebgdikoehmaaGreatDoor
/- The symbolic executor: frames; blocks that float. -/
namespace Go.Proofs.YtejebgdikoehmaaGreatDoor
open Go Go.RowKit
set_option linter.unusedVariables false
set_option linter.unusedSimpArgs false
section
variable {E : Env} {P : Program} {σ σ' σ0 : Rn} {S S' S0 S1 : St} {w w' w0 : World}
/-- What runs in a part of the heap leaves the rest. -/
theorem frame_rule {H H1 K : Tr SObj} {n : Nat} (hw : WR σ ⟨H, n⟩ w) (hp : Post σ ⟨H1, n⟩ w σ' S' w') (h1 : ∀ i o, H1.get i = some o → H.get i = some o)
    (hK : ∀ i o, K.get i = some o → S'.h.get i = some o ∨ (H.get i = some o ∧ H1.get i = none)) : Post σ ⟨H, n⟩ w σ' ⟨K, S'.n⟩ w' := by
  have hoo : ∀ b, Own σ ⟨H1, n⟩ b → Own σ ⟨H, n⟩ b := fun b ⟨i, o, q1, q2⟩ => ⟨i, o, h1 i o q1, q2⟩
  have hno : ∀ i o b, H.get i = some o → H1.get i = none → σ i = some b → ¬ Own σ ⟨H1, n⟩ b := by
    rintro i o b g1 g2 g3 ⟨j, oj, q1, q2⟩
    have := hw.inj j i b oj o (h1 j oj q1) g1 q2 g3
    subst this
    rw [show H1.get j = some oj from q1] at g2
    cases g2
  have hmix : ∀ i j b oi oj, S'.h.get i = some oi → H.get j = some oj → H1.get j = none → σ' i = some b → σ j = some b → False := by
    intro i j b oi oj g1 g2 g3 g4 g5
    rcases hp.own b ⟨i, oi, g1, g4⟩ with q | q
    · exact hno j oj b g2 g3 g5 q
    · have := hw.bnd j b g5; omega
  refine ⟨hp.le, ⟨hp.wr.cnt, hp.wr.dom, hp.wr.bnd, ?_, ?_⟩, hp.fr.mono fun k _ q => hoo k q, hp.cnt, ?_, hp.new⟩
  · intro i o hi
    rcases hK i o hi with q | ⟨q1, q2⟩
    · exact hp.wr.obj i o q
    · obtain ⟨b, o', g1, g2, g3⟩ := hw.obj i o q1
      refine ⟨b, o', (hp.le i b g1).1, ?_, ?_⟩
      · rw [hp.fr.block b (hw.bnd i b g1) (hno i o b q1 q2 g1)]; exact g2
      · rw [(hp.le i b g1).2]; exact g3.mono hp.le
  · intro i j b oi oj hi hj hsi hsj
    rcases hK i oi hi with q | ⟨q1, q2⟩
    · rcases hK j oj hj with p | ⟨p1, p2⟩
      · exact hp.wr.inj i j b oi oj q p hsi hsj
      · obtain ⟨bj, o', g1, _⟩ := hw.obj j oj p1
        have e := (hp.le j bj g1).1
        rw [hsj] at e; cases e
        exact (hmix i j b oi oj q p1 p2 hsi g1).elim
    · obtain ⟨bi, o', g1, _⟩ := hw.obj i oi q1
      have e := (hp.le i bi g1).1
      rw [hsi] at e; cases e
      rcases hK j oj hj with p | ⟨p1, p2⟩
      · exact (hmix j i b oj oi p q1 q2 hsj g1).elim
      · obtain ⟨bj, o2, g2, _⟩ := hw.obj j oj p1
        have e := (hp.le j bj g2).1
        rw [hsj] at e; cases e
        exact hw.inj i j b oi oj q1 p1 g1 g2
  · rintro b ⟨i, o, hi, hs⟩
    rcases hK i o hi with q | ⟨q1, q2⟩
    · exact (hp.own b ⟨i, o, q, hs⟩).imp_left (hoo b)
    · obtain ⟨bi, o', g1, _⟩ := hw.obj i o q1
      have e := (hp.le i bi g1).1
      rw [hs] at e; cases e
      exact Or.inl ⟨i, o, q1, g1⟩
/-- The same heap, told otherwise. -/
theorem Post.heapEq {K : Tr SObj} (hp : Post σ S w σ' S' w') (hK : ∀ i o, K.get i = some o → S'.h.get i = some o) : Post σ S w σ' ⟨K, S'.n⟩ w' := by
  refine ⟨hp.le, hp.wr.sub (H := K) hK, hp.fr, hp.cnt, ?_, hp.new⟩
  rintro b ⟨i, o, hi, hs⟩
  exact hp.own b ⟨i, o, hK i o hi, hs⟩
/-- A block under a number that was kept for it. -/
theorem Post.float (hp : Post σ0 S0 w0 σ S1 w) {i : Nat} {f : Nat → Value} {ob : SObj} {v' : Value} (hi : S0.n ≤ i) (hin : i < S1.n) (hnone : σ i = none) (hl : Laid E σ w f ob v' w') {K : Tr SObj}
    (hK : ∀ j o, K.get j = some o → (j = i ∧ o = ob) ∨ (j ≠ i ∧ S1.h.get j = some o)) :
    ∃ σ', Post σ0 S0 w0 σ' ⟨K, S1.n⟩ w' ∧ VR σ' (f i) v' ∧ Le σ σ' ∧ ∀ j, j ≠ i → σ' j = σ j := by
  obtain ⟨o', k, q1, q2⟩ := hl.at_
  have hle := setσ_le (σ := σ) (b := w.heap.size) (k := k) hnone
  have hself : setσ σ i w.heap.size k i = some w.heap.size := setσ_self.1
  have hoth : ∀ j, j ≠ i → setσ σ i w.heap.size k j = σ j := fun j e => (setσ_ne e).1
  obtain ⟨g1, g2⟩ := q2 (setσ σ i w.heap.size k) i hle hself setσ_self.2
  have hw := hp.wr
  refine ⟨setσ σ i w.heap.size k, ⟨hp.le.trans hle, ⟨hw.cnt, ?_, ?_, ?_, ?_⟩, ?_, hp.cnt, ?_, ?_⟩, g2, hle, hoth⟩
  · intro j b hj
    by_cases e : j = i
    · rw [e]; exact hin
    · rw [hoth j e] at hj; exact hw.dom j b hj
  · intro j b hj
    have := hl.lt
    by_cases e : j = i
    · subst e; rw [hself] at hj; cases hj; exact this
    · rw [hoth j e] at hj; have := hw.bnd j b hj; omega
  · intro j oj hj
    rcases hK j oj hj with ⟨rfl, rfl⟩ | ⟨e, hj'⟩
    · exact ⟨_, o', hself, q1, by rw [setσ_self.2]; exact g1⟩
    · obtain ⟨bj, oj', hbj, hwj, hOj⟩ := hw.obj j oj hj'
      exact ⟨bj, oj', (hle _ _ hbj).1, (hl.old bj (hw.bnd j bj hbj)).trans hwj, by rw [(setσ_ne e).2]; exact hOj.mono hle⟩
  · intro j m c oj om hj hm hsj hsm
    rcases hK j oj hj with ⟨ej, _⟩ | ⟨ej, hj'⟩
    · rcases hK m om hm with ⟨em, _⟩ | ⟨em, hm'⟩
      · rw [ej, em]
      · subst ej
        rw [hself] at hsj; cases hsj
        rw [hoth m em] at hsm; have := hw.bnd m _ hsm; omega
    · rw [hoth j ej] at hsj
      rcases hK m om hm with ⟨em, _⟩ | ⟨em, hm'⟩
      · subst em
        rw [hself] at hsm; cases hsm
        have := hw.bnd j _ hsj; omega
      · rw [hoth m em] at hsm
        exact hw.inj j m c oj om hj' hm' hsj hsm
  · exact hp.fr.trans ⟨hl.os, hl.tape, hl.output, Nat.le_of_lt hl.lt, fun k hk _ => hl.old k hk⟩ (fun _ _ q => q)
  · rintro b ⟨j, oj, hj, hs⟩
    rcases hK j oj hj with ⟨rfl, _⟩ | ⟨e, hj'⟩
    · rw [hself] at hs; cases hs; exact Or.inr hp.fr.size
    · rw [hoth j e] at hs; exact hp.own b ⟨j, oj, hj', hs⟩
  · intro j b hj
    by_cases e : j = i
    · exact Or.inr (by rw [e]; exact hi)
    · rw [hoth j e] at hj; exact hp.new j b hj
end
end Go.Proofs.YtejebgdikoehmaaGreatDoor
