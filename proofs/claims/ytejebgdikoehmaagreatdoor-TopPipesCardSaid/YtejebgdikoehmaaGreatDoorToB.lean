/- The symbolic executor: operations that only read, the fourth part. -/
import Derived.Test.YtejebgdikoehmaaGreatDoorToA
import Derived.MapKept
import Derived.LaidEql
import Derived.Laws.BytesString
import Derived.Lib.UnsafeStr
namespace Go.Proofs.YtejebgdikoehmaaGreatDoor
open Go Go.RowKit
set_option linter.unusedVariables false
set_option linter.unusedSimpArgs false
theorem run_seq {P : Program} {a : Sem Unit} {s : Sem Value} {w w' : World} {v : Value} (h1 : a.run P w = .ok () w) (h : s.run P w = .ok v w') : (do a; s : Sem Value).run P w = .ok v w' := by
  rw [Sem.run_bind, h1]; exact h
section
variable {E : Env} {P : Program} {σ : Rn} {T : Sts} {S S' : St} {w : World} {ρ : Operand → Value} {o : Oper} {v : Value}
/-- Equality through the model, by the operands' type. -/
theorem run_equal {t : TypeId} {x y : Value} {r : Bool} (h : ∀ D, (Op.equalIn (D + 1) t x y).run P w = .ok r w) : (do pure (.bool (← Op.equal t x y)) : Sem Value).run P w = .ok (.bool r) w := by
  rw [Sem.run_bind, show Op.equal t x y = Op.equalIn (9999 + 1) t x y from rfl, h 9999]; rfl
theorem run_nequal {t : TypeId} {x y : Value} {r : Bool} (h : ∀ D, (Op.equalIn (D + 1) t x y).run P w = .ok r w) : (do pure (.bool (!(← Op.equal t x y))) : Sem Value).run P w = .ok (.bool (!r)) w := by
  rw [Sem.run_bind, show Op.equal t x y = Op.equalIn (9999 + 1) t x y from rfl, h 9999]; rfl
theorem addr_ren {a b : Addr} {k : Nat} : ((⟨k, a.off, a.spot⟩ : Addr) = ⟨k, b.off, b.spot⟩) ↔ (a.off = b.off ∧ a.spot = b.spot) := by
  simp
theorem eqV_sound (hT : TOk E) (hw : WR σ S w) {t : TypeId} {x y x' y' : Value} {r : Bool} (h : eqV E S t x y = some r) (hx : VR σ x x') (hy : VR σ y y') :
    (∀ D, (Op.equalIn (D + 1) t x' y').run E.P w = .ok r w) ∧ (∀ op : BinOp, op = .eql ∨ op = .neq → ∀ ox oy : Operand, (eqGuard op t ox oy x' y').run E.P w = .ok () w) ∧
      (binOp .eql t x' y' = (do pure (.bool (← Op.equal t x' y')))) ∧ (binOp .neq t x' y' = (do pure (.bool (!(← Op.equal t x' y'))))) := by
  unfold eqV at h
  cases ht : E.tt.get t with
  | none => rw [ht] at h; cases h
  | some ti =>
    rw [ht] at h
    obtain ⟨info, d, hk⟩ := hT t ti ht
    have hd := hk.desc
    simp only at h
    split at h
    · -- nil pointer left
      rename_i e b hde
      rw [hde] at hd
      cases d <;> simp only [TD.of] at hd <;> try cases hd
      cases h
      cases hx
      cases hy with
      | ptrNil => exact ⟨fun D => by simp [Op.equalIn, run_und hk, Result.andThen], fun op ho ox oy => by rcases ho with rfl | rfl <;> rfl, rfl, rfl⟩
      | ptr hb => exact ⟨fun D => by simp [Op.equalIn, run_und hk, Result.andThen], fun op ho ox oy => by rcases ho with rfl | rfl <;> rfl, rfl, rfl⟩
    · rename_i e a hde
      rw [hde] at hd
      cases d <;> simp only [TD.of] at hd <;> try cases hd
      cases h
      cases hy
      cases hx
      exact ⟨fun D => by simp [Op.equalIn, run_und hk, Result.andThen], fun op ho ox oy => by rcases ho with rfl | rfl <;> rfl, rfl, rfl⟩
    · rename_i e a b hde
      rw [hde] at hd
      cases d <;> simp only [TD.of] at hd <;> try cases hd
      cases hx with
      | ptr hxa =>
        rename_i ka
        cases hy with
        | ptr hyb =>
          rename_i kb
          split at h
          · rename_i ei hei
            obtain ⟨info2, d2, hk2⟩ := hT _ _ hei
            cases hz : Nat.beq ei.size 0 with
            | true => rw [hz] at h; cases h
            | false =>
              rw [hz, cond_false] at h
              have hz' : ei.size ≠ 0 := by rw [nbeq] at hz; exact of_decide_eq_false hz
              split at h
              · rename_i ca ea opa cb eb opb hga hgb
                cases h
                obtain ⟨ba, oa, q1, q2, q3⟩ := hw.obj _ _ hga
                obtain ⟨bb, ob, r1, r2, r3⟩ := hw.obj _ _ hgb
                rw [hxa] at q1; cases q1
                rw [hyb] at r1; cases r1
                cases q3 with
                | cells p1 p2 p3 =>
                  cases r3 with
                  | cells s1 s2 s3 =>
                    rename_i c1 f1 c2 f2
                    have hf1 : f1 = (0, 0) := by unfold FR at p3; simpa using p3
                    have hf2 : f2 = (0, 0) := by unfold FR at s3; simpa using s3
                    subst hf1 hf2
                    refine ⟨?_, fun op ho ox oy => by rcases ho with rfl | rfl <;> rfl, rfl, rfl⟩
                    have key : (sameAddr ⟨ka, a.off, a.spot⟩ ⟨kb, b.off, b.spot⟩).run E.P w = .ok (decide (a = b)) w := by
                      by_cases e : a = b
                      · subst e
                        rw [hxa] at hyb; cases hyb
                        rw [decide_eq_true rfl]
                        exact run_sameAddr_same w _
                      · rw [decide_eq_false e]
                        refine run_sameAddr_other w (fun q => e ?_) q2 r2
                        simp only [Addr.mk.injEq] at q
                        obtain ⟨u1, u2, u3⟩ := q
                        subst u1
                        have := hw.inj _ _ _ _ _ hga hgb hxa hyb
                        cases a; cases b; simp_all
                    intro D
                    simp [Op.equalIn, run_und hk, Result.andThen, run_size hk2, hz', key]
              · cases h
          · cases h
    · rename_i hde
      rw [hde] at hd
      cases d <;> simp only [TD.of] at hd <;> try cases hd
      cases h
      cases hx
      cases hy
      exact ⟨fun D => by simp [Op.equalIn, run_und hk, Result.andThen], fun op ho ox oy => by rcases ho with rfl | rfl <;> rfl, rfl, rfl⟩
    · rename_i hde
      rw [hde] at hd
      cases d <;> simp only [TD.of] at hd <;> try cases hd
      cases h
      cases hx
      cases hy
      exact ⟨fun D => by simp [Op.equalIn, run_und hk, Result.andThen], fun op ho ox oy => by rcases ho with rfl | rfl <;> rfl, rfl, rfl⟩
    · rename_i hde
      rw [hde] at hd
      cases d <;> simp only [TD.of] at hd <;> try cases hd
      cases h
      cases hx
      cases hy <;> exact ⟨fun D => by simp [Op.equalIn, run_und hk, Result.andThen], fun op ho ox oy => by rcases ho with rfl | rfl <;> rfl, rfl, rfl⟩
    · rename_i hde
      rw [hde] at hd
      cases d <;> simp only [TD.of] at hd <;> try cases hd
      cases h
      cases hy
      cases hx <;> exact ⟨fun D => by simp [Op.equalIn, run_und hk, Result.andThen], fun op ho ox oy => by rcases ho with rfl | rfl <;> rfl, rfl, rfl⟩
    · rename_i hde
      rw [hde] at hd
      cases d <;> simp only [TD.of] at hd <;> try cases hd
      cases h
      cases hx
      cases hy <;> exact ⟨fun D => by simp [Op.equalIn, run_und hk, Result.andThen], fun op ho ox oy => by rcases ho with rfl | rfl <;> rfl, rfl, rfl⟩
    · rename_i hde
      rw [hde] at hd
      cases d <;> simp only [TD.of] at hd <;> try cases hd
      cases h
      cases hy
      cases hx <;> exact ⟨fun D => by simp [Op.equalIn, run_und hk, Result.andThen], fun op ho ox oy => by rcases ho with rfl | rfl <;> rfl, rfl, rfl⟩
    · rename_i hde
      rw [hde] at hd
      cases d <;> simp only [TD.of] at hd <;> try cases hd
      cases h
      cases hx
      cases hy
      exact ⟨fun D => by simp [Op.equalIn, run_und hk, Result.andThen], fun op ho ox oy => by rcases ho with rfl | rfl <;> rfl, rfl, rfl⟩
    · rename_i hde
      rw [hde] at hd
      cases d <;> simp only [TD.of] at hd <;> try cases hd
      cases h
      cases hy
      cases hx
      exact ⟨fun D => by simp [Op.equalIn, run_und hk, Result.andThen], fun op ho ox oy => by rcases ho with rfl | rfl <;> rfl, rfl, rfl⟩
    · cases h
theorem s_binOp (hT : TOk E) (hw : WR σ S w) {op : BinOp} {t ty : TypeId} {x y : Operand} (ha : ARo σ T ρ o) (ho : o.op = .binOp op t x y ty) (h : sPure E T S o = some v) : ∃ v', (execOp ρ o).run E.P w = .ok (.value v') w ∧ VR σ v v' := by
  have hg : gen E T o = some v → ∃ v', (execOp ρ o).run E.P w = .ok (.value v') w ∧ VR σ v v' := fun q => by
    obtain ⟨q1, q2⟩ := gen_sound (w := w) (by rw [ho]; intro cs b e; cases e) ha q
    exact ⟨v, q1, q2⟩
  obtain ⟨dst, op', type, pos, after, guard⟩ := o
  simp only at ho
  subst ho
  simp only [sPure] at h
  have mx : x ∈ (⟨dst, .binOp op t x y ty, type, pos, after, guard⟩ : Oper).op.operands.toList := by simp [Op.operands]
  have my : y ∈ (⟨dst, .binOp op t x y ty, type, pos, after, guard⟩ : Oper).op.operands.toList := by simp [Op.operands]
  split at h
  · rename_i a b hx hy
    cases hp : (plain a && plain b) with
    | true => rw [hp, cond_true] at h; exact hg h
    | false =>
      rw [hp, cond_false] at h
      split at h
      · rename_i r hr
        cases h
        obtain ⟨k1, k2, k3, k4⟩ := eqV_sound hT hw hr (ha x mx _ hx) (ha y my _ hy)
        exact ⟨.bool r, run_v (run_seq (k2 _ (Or.inl rfl) x y) (by rw [k3]; exact run_equal k1)), .bool r⟩
      · cases h
  · rename_i a b hx hy
    cases hp : (plain a && plain b) with
    | true => rw [hp, cond_true] at h; exact hg h
    | false =>
      rw [hp, cond_false] at h
      split at h
      · rename_i r hr
        cases h
        obtain ⟨k1, k2, k3, k4⟩ := eqV_sound hT hw hr (ha x mx _ hx) (ha y my _ hy)
        exact ⟨.bool (!r), run_v (run_seq (k2 _ (Or.inr rfl) x y) (by rw [k4]; exact run_nequal k1)), .bool (!r)⟩
      · cases h
  · exact hg h
end
end Go.Proofs.YtejebgdikoehmaaGreatDoor
/- The symbolic executor: operations that only read: all of them. -/
namespace Go.Proofs.YtejebgdikoehmaaGreatDoor
open Go Go.RowKit
set_option linter.unusedVariables false
set_option linter.unusedSimpArgs false
theorem liesAt_self {P : Program} {e : TypeId} {count : Nat} (hs : P.cellsOf e ≠ 0) (hc : 1 ≤ count) : liesAt P P.depth e count 0 e 1 = true := by
  have hd : P.depth = (2 * (P.types.size + Made.depth) + 1) + 1 := rfl
  rw [hd]
  simp only [liesAt, Bool.or_eq_true]
  left
  rw [hd]
  simp [rowAt, hs, hc, sameLayout]
theorem toBytes_spec : ∀ {l : List Value} {bs : List UInt8}, toBytes l = some bs → ∃ ns : List Int, l = ns.map (Value.int .u8) ∧ (bs = ns.map fun n => UInt8.ofNat n.toNat) ∧ ∀ n ∈ ns, 0 ≤ n ∧ n < 256
  | [], bs, h => by simp only [toBytes] at h; cases h; exact ⟨[], rfl, rfl, fun n hn => by cases hn⟩
  | v :: l, bs, h => by
    unfold toBytes at h
    split at h
    · rename_i hh; cases hh
    · rename_i n r hh
      cases hh
      cases hcd : (decide (0 ≤ n) && decide (n < 256)) with
      | false => rw [hcd] at h; cases h
      | true =>
        rw [hcd, cond_true] at h
        simp only [Bool.and_eq_true, decide_eq_true_eq] at hcd
        split at h
        · rename_i l' hl
          cases h
          obtain ⟨ns, h1, h2, h3⟩ := toBytes_spec hl
          exact ⟨n :: ns, by rw [h1]; rfl, by rw [h2]; rfl, fun m hm => (List.mem_cons.1 hm).elim (fun e => e ▸ hcd) (h3 m)⟩
        · cases h
    · cases h
theorem fold_push : ∀ (ns : List Int) (s : ByteArray), ns.foldl (fun r n => r.push (UInt8.ofNat n.toNat)) s = ⟨s.data ++ (ns.map fun n => UInt8.ofNat n.toNat).toArray⟩
  | [], s => by simp
  | n :: ns, s => by
    rw [List.foldl_cons, fold_push ns]
    congr 1
    simp [ByteArray.push]
section
variable {E : Env} {P : Program} {σ : Rn} {T : Sts} {S S' : St} {w : World} {ρ : Operand → Value} {o : Oper} {v : Value}
theorem plain_ints (ns : List Int) : (ns.map (Value.int .u8)).all plain1 = true := by
  simp [List.all_eq_true, plain1]
theorem WR.noJunk (hw : WR σ S w) {b : Nat} (h : σ JUNK = some b) : False := by
  have h1 := hw.dom _ _ h
  have h2 := hw.cnt
  have : JUNK = 999999999 := rfl
  omega
theorem cells_bytes (hw : WR σ S w) {a : Addr} {n : Nat} {l : List Value} {bs : List UInt8} (hc : cellsAt S a n = some l) (hb : toBytes l = some bs) :
    ∃ (b : Nat) (ns : List Int), σ a.block = some b ∧ a.spot = none ∧ bs = ns.map (fun n => UInt8.ofNat n.toNat) ∧ ns.length = n ∧ (loadCells ⟨b, a.off, a.spot⟩ n).run P w = .ok (ns.map (Value.int .u8)).toArray w := by
  obtain ⟨b, l', h1, h2, h3, h4, h5⟩ := run_cells (P := P) hw hc
  obtain ⟨ns, q1, q2, _⟩ := toBytes_spec hb
  have : l' = l := VRs.plain1 (by rw [q1]; exact plain_ints ns) h3
  subst this
  refine ⟨b, ns, h1, h2, q2, by rw [← h4, q1]; simp, ?_⟩
  rw [h5, q1]
theorem s_convert (hT : TOk E) (hw : WR σ S w) {src dst : TypeId} {x : Operand} (ha : ARo σ T ρ o) (ho : o.op = .convert src dst x) (h : sPure E T S o = some v) : ∃ v', (execOp ρ o).run E.P w = .ok (.value v') w ∧ VR σ v v' := by
  have hg : gen E T o = some v → ∃ v', (execOp ρ o).run E.P w = .ok (.value v') w ∧ VR σ v v' := fun q => by
    obtain ⟨q1, q2⟩ := gen_sound (w := w) (by rw [ho]; intro cs b e; cases e) ha q
    exact ⟨v, q1, q2⟩
  obtain ⟨dst', op', type, pos, after, guard⟩ := o
  simp only at ho
  subst ho
  simp only [sPure] at h
  have mx : x ∈ (⟨dst', .convert src dst x, type, pos, after, guard⟩ : Oper).op.operands.toList := by simp [Op.operands]
  split at h
  · rename_i a n c hx
    split at h
    · rename_i e _ _ _ _ _ _ hs hd
      obtain ⟨i1, d1, k1⟩ := hT _ _ hs
      obtain ⟨i2, d2, k2⟩ := hT _ _ hd
      split at h
      · rename_i _ _ _ he
        obtain ⟨i3, d3, k3⟩ := hT _ _ he
        split at h
        · rename_i l hl
          split at h
          · rename_i bs hbs
            cases h
            obtain ⟨b, ns, q1, q2, q3, q4, q5⟩ := cells_bytes (P := E.P) hw hl hbs
            have hv := ha x mx _ hx
            obtain ⟨c', hy⟩ : ∃ c', ρ x = .slice (some ⟨b, a.off, a.spot⟩) n c' := by
              generalize ρ x = y at *
              cases hv with
              | slice hb => rw [q1] at hb; cases hb; exact ⟨_, rfl⟩
              | junk => exact (hw.noJunk q1).elim
            refine ⟨.string ⟨bs.toArray⟩, run_v ?_, .string _⟩
            have e1 := k1.desc
            have e2 := k2.desc
            have e3 := k3.desc
            cases d1 <;> simp only [TD.of] at e1 <;> try cases e1
            cases d2 <;> simp only [TD.of] at e2 <;> try cases e2
            cases d3 <;> simp only [TD.of] at e3 <;> try cases e3
            rw [hy]
            simp only [convert, Sem.run_bind, run_und k1, run_und k2, Result.andThen, run_und k3]
            rw [run_bytesToString w _ n c' ns q5, fold_push]
            congr 3
            rw [q3]
            simp
          · cases h
        · cases h
      · cases h
    · cases h
  · rename_i a hx
    split at h
    · rename_i c e lo hi op hg'
      cases hc : (Nat.blt a.off c.length && a.spot.isNone) with
      | false => rw [hc] at h; cases h
      | true =>
        rw [hc, cond_true] at h
        simp only [Bool.and_eq_true, nblt, decide_eq_true_eq, Option.isNone_iff_eq_none] at hc
        obtain ⟨b, hb, ex⟩ := (ha x mx _ hx).ptr'
        obtain ⟨b', o', q1, q2, q3⟩ := hw.obj _ _ hg'
        rw [hb] at q1; cases q1
        cases q3 with
        | cells p1 p2 p3 =>
          rename_i c' fr
          have hlen := p1.length
          rw [List.length_take] at hlen
          simp at hlen
          have hsh : w.shape? b = some (e, c'.size) := by simp [World.shape?, q2]
          have hseen : (Conv.seenAt ⟨b, a.off, a.spot⟩).run E.P w = .ok ⟨b, a.off, a.spot⟩ w := by
            simp [Conv.seenAt, viewAt, hsh]
          split at h
          · rename_i u _ _ _ _ _ _ hs hd
            obtain ⟨i1, d1, k1⟩ := hT _ _ hs
            obtain ⟨i2, d2, k2⟩ := hT _ _ hd
            split at h
            · rename_i ti hti
              obtain ⟨i3, d3, k3⟩ := hT _ _ hti
              cases hz : Nat.beq ti.size 0 with
              | true => rw [hz] at h; cases h
              | false =>
                rw [hz, cond_false] at h
                cases h
                have hz' : ti.size ≠ 0 := by rw [nbeq] at hz; exact of_decide_eq_false hz
                refine ⟨.pointer (some ⟨b, a.off, a.spot⟩), run_v ?_, .ptr hb⟩
                have e1 := k1.desc
                have e2 := k2.desc
                cases d1 <;> simp only [TD.of] at e1 <;> try cases e1
                cases d2 <;> simp only [TD.of] at e2 <;> try cases e2
                rw [ex]
                simp only [convert, Sem.run_bind, run_und k1, run_und k2, Result.andThen]
                simp only [Conv.unsafePointer, Sem.run_bind, run_und k1, run_und k2, Result.andThen, hseen]
                simp [cellsIn, hsh, run_size k3, hz', Result.andThen]
                omega
            · cases h
          · rename_i _ _ _ u _ _ _ hs hd
            obtain ⟨i1, d1, k1⟩ := hT _ _ hs
            obtain ⟨i2, d2, k2⟩ := hT _ _ hd
            split at h
            · rename_i ti hti
              obtain ⟨i3, d3, k3⟩ := hT _ _ hti
              cases hcd : (Nat.beq u e && Nat.beq a.off 0 && Nat.ble ti.size c.length && !(Nat.beq ti.size 0)) with
              | false => rw [hcd] at h; cases h
              | true =>
                rw [hcd, cond_true] at h
                cases h
                simp only [Bool.and_eq_true, nbeq, nble, decide_eq_true_eq, Bool.not_eq_true', decide_eq_false_iff_not] at hcd
                obtain ⟨⟨⟨hu, hoff⟩, hsz⟩, hz⟩ := hcd
                subst hu
                refine ⟨.pointer (some ⟨b, a.off, a.spot⟩), run_v ?_, .ptr hb⟩
                have e1 := k1.desc
                have e2 := k2.desc
                cases d1 <;> simp only [TD.of] at e1 <;> try cases e1
                cases d2 <;> simp only [TD.of] at e2 <;> try cases e2
                rw [ex]
                have hcells : E.P.cellsOf u = ti.size := by unfold Program.cellsOf; rw [k3.info, ← k3.size]; rfl
                have hlies : liesAt E.P E.P.depth u (c'.size / E.P.cellsOf u) 0 u 1 = true :=
                  liesAt_self (by rw [hcells]; exact hz) (by rw [hcells]; exact (Nat.le_div_iff_mul_le (by omega)).2 (by omega))
                simp only [convert, Sem.run_bind, run_und k1, run_und k2, Result.andThen]
                simp only [Conv.unsafePointer, Sem.run_bind, run_und k1, run_und k2, Result.andThen, hseen, run_size k3]
                simp [variablesAt, hsh, hoff, hlies, Result.andThen]
            · cases h
          · cases h
    · cases h
  · exact hg h
theorem findE_sound {kt : TypeId} {ti : TI} {inf : TypeInfo} {d : TypeDesc} (hk : TOk1 E.P kt ti inf d) {k : Value} : ∀ {es es' : List MapEntry} {i : Nat} {r : Option (Nat × Value)}, MRs σ es es' →
    keyD ti.desc k = true → findE k es i = some r →
    ∃ r', Instr.findNow d k es' i = some r' ∧ (match r with | none => r' = none | some (j, u) => ∃ u', r' = some (j, u') ∧ VR σ u u')
  | [], es', i, r, h, hd, hf => by
    cases h
    simp only [findE] at hf
    cases hf
    exact ⟨none, rfl, rfl⟩
  | e :: es, es', i, r, h, hd, hf => by
    cases h with
    | cons h q =>
      rename_i e' l'
      have hdd := hk.desc
      simp only [findE] at hf
      split at hf
      · rename_i k1 a k2 b he
        have hdi : ∃ kk, d = .int kk := by
          cases d <;> simp only [TD.of] at hdd <;> rw [← hdd] at hd <;> first | exact ⟨_, rfl⟩ | cases hd
        obtain ⟨kk, rfl⟩ := hdi
        by_cases e1 : k1 = k2
        · rw [decide_eq_true e1, cond_true] at hf
          subst e1
          by_cases e2 : a = b
          · rw [decide_eq_true e2, cond_true] at hf
            cases hf
            refine ⟨some (i, e'.val), ?_, ⟨e'.val, rfl, h.val⟩⟩
            simp [Instr.findNow, Instr.sameNow, h.key, he, e2]
          · rw [decide_eq_false e2, cond_false] at hf
            obtain ⟨r', q1, q2⟩ := findE_sound hk q hd hf
            refine ⟨r', ?_, q2⟩
            have : (a == b) = false := by simpa using e2
            simp [Instr.findNow, Instr.sameNow, h.key, he, this, q1]
        · rw [decide_eq_false e1] at hf; cases hf
      · rename_i a b he
        have hdi : d = .string := by
          cases d <;> simp only [TD.of] at hdd <;> rw [← hdd] at hd <;> first | rfl | cases hd
        subst hdi
        cases e2 : (a == b) with
        | true =>
          rw [e2, cond_true] at hf
          cases hf
          refine ⟨some (i, e'.val), ?_, ⟨e'.val, rfl, h.val⟩⟩
          simp [Instr.findNow, Instr.sameNow, h.key, he, e2]
        | false =>
          rw [e2, cond_false] at hf
          obtain ⟨r', q1, q2⟩ := findE_sound hk q hd hf
          refine ⟨r', ?_, q2⟩
          simp [Instr.findNow, Instr.sameNow, h.key, he, e2, q1]
      · cases hf
theorem keyT_sound (hT : TOk E) {kt : TypeId} {k : Value} (h : keyT E kt k = true) : ∃ ti inf d, TOk1 E.P kt ti inf d ∧ keyD ti.desc k = true ∧ (∀ e n, (Instr.checkKey e (n + 1) kt k).run E.P w = .ok () w) ∧ plain k = true := by
  unfold keyT at h
  split at h
  · rename_i ti ht
    obtain ⟨inf, d, hk⟩ := hT _ _ ht
    have hd := hk.desc
    refine ⟨ti, inf, d, hk, h, fun e n => ?_, ?_⟩
    · unfold keyD at h
      split at h
      · rename_i kk k' m hde
        rw [hde] at hd
        cases d <;> simp only [TD.of] at hd <;> try cases hd
        simp only [Instr.checkKey, Sem.run_bind, run_und hk, Result.andThen]
        rfl
      · rename_i st hde
        rw [hde] at hd
        cases d <;> simp only [TD.of] at hd <;> try cases hd
        simp only [Instr.checkKey, Sem.run_bind, run_und hk, Result.andThen]
        rfl
      · cases h
    · unfold keyD at h
      split at h
      · rfl
      · rfl
      · cases h
  · cases h
end
end Go.Proofs.YtejebgdikoehmaaGreatDoor
/- The symbolic executor: what only reads, as one theorem. -/
namespace Go.Proofs.YtejebgdikoehmaaGreatDoor
open Go Go.RowKit
set_option linter.unusedVariables false
set_option linter.unusedSimpArgs false
section
variable {E : Env} {P : Program} {σ : Rn} {T : Sts} {S S' : St} {w : World} {ρ : Operand → Value} {o : Oper} {v : Value}
theorem zval_plain {t : TypeId} {ti : TI} {inf : TypeInfo} {d : TypeDesc} (hk : TOk1 P t ti inf d) {z : Value} (h : zval ti = some z) : plain z = true := by
  have hp := hk.plain
  unfold zval at h
  cases ha : isAggD ti.desc with
  | true => rw [ha] at h; cases h; simpa [plain] using hp
  | false =>
    rw [ha, cond_false] at h
    split at h
    · rename_i z0 hz
      cases h
      rw [hz] at hp
      simp at hp
      unfold plain
      split
      · simp [plain1] at hp
      · simp [plain1] at hp
      · exact hp
    · cases h
theorem MRs.length {es es' : List MapEntry} (h : MRs σ es es') : es'.length = es.length := by
  induction h with
  | nil => rfl
  | cons _ _ ih => simp [ih]
/-- A map's entries as the world has them. -/
def MapAt (w : World) (y : Value) (es : Array MapEntry) : Prop := (y = .map none ∧ es = #[]) ∨ ∃ b clk, y = .map (some b) ∧ w.heap[b]? = some (.map es clk)
theorem mapEs_rel (hw : WR σ S w) {r : Option Nat} {es : List MapEntry} {y : Value} (h : mapEs S r = some es) (hv : VR σ (.map r) y) : ∃ es' : Array MapEntry, MRs σ es es'.toList ∧ MapAt w y es' := by
  unfold mapEs at h
  cases r with
  | none => cases hv; simp only at h; cases h; exact ⟨#[], .nil, Or.inl ⟨rfl, rfl⟩⟩
  | some r =>
    cases hv with
    | map hb =>
      rename_i b
      simp only at h
      split at h
      · rename_i es0 clk hg
        cases h
        obtain ⟨b', o', q1, q2, q3⟩ := hw.obj _ _ hg
        rw [hb] at q1; cases q1
        cases q3 with
        | map hm => exact ⟨_, hm, Or.inr ⟨_, _, rfl, q2⟩⟩
      · cases h
theorem run_lookup_in {t kt e : TypeId} {s b : Nat} {z : List Value} {inf : TypeInfo} {y k u : Value} {j : Nat} {es : Array MapEntry} {cok : Bool} (hk : TOk1 E.P t ⟨.map kt e, s, z, b⟩ inf (.map kt e)) (hy : MapAt w y es) (hck : ∀ e, (Instr.checkKey e 10000 kt k).run E.P w = .ok () w)
    (hf : (Instr.findKey kt k es.toList).run E.P w = .ok (some (j, u)) w) : (Instr.lookup t y k cok).run E.P w = .ok (if cok then .tuple #[u, .bool true] else u) w := by
  unfold Instr.lookup
  rcases hy with ⟨rfl, rfl⟩ | ⟨b, clk, rfl, hb⟩
  · simp only [Sem.run_bind, run_und hk, Result.andThen]
    rw [show (pure #[] : Sem (Array MapEntry)).run E.P w = .ok #[] w from rfl]
    simp only [Sem.run_bind, hck, Result.andThen, hf]
    rfl
  · simp only [Sem.run_bind, run_und hk, Result.andThen, MapKept.run_getObj_map hb]
    rw [show (pure es : Sem (Array MapEntry)).run E.P w = .ok es w from rfl]
    simp only [Sem.run_bind, hck, Result.andThen, hf]
    rfl
theorem run_lookup_out {t kt e : TypeId} {s b : Nat} {z : List Value} {inf : TypeInfo} {y k u : Value} {es : Array MapEntry} {cok : Bool} (hk : TOk1 E.P t ⟨.map kt e, s, z, b⟩ inf (.map kt e)) (hy : MapAt w y es) (hck : ∀ e, (Instr.checkKey e 10000 kt k).run E.P w = .ok () w)
    (hf : (Instr.findKey kt k es.toList).run E.P w = .ok none w) (hz : (zeroValue e).run E.P w = .ok u w) : (Instr.lookup t y k cok).run E.P w = .ok (if cok then .tuple #[u, .bool false] else u) w := by
  unfold Instr.lookup
  rcases hy with ⟨rfl, rfl⟩ | ⟨b, clk, rfl, hb⟩
  · simp only [Sem.run_bind, run_und hk, Result.andThen]
    rw [show (pure #[] : Sem (Array MapEntry)).run E.P w = .ok #[] w from rfl]
    simp only [Sem.run_bind, hck, Result.andThen, hf, hz]
    rfl
  · simp only [Sem.run_bind, run_und hk, Result.andThen, MapKept.run_getObj_map hb]
    rw [show (pure es : Sem (Array MapEntry)).run E.P w = .ok es w from rfl]
    simp only [Sem.run_bind, hck, Result.andThen, hf, hz]
    rfl
theorem s_lookup (hT : TOk E) (hw : WR σ S w) {t : TypeId} {x ix : Operand} {cok : Bool} (ha : ARo σ T ρ o) (ho : o.op = .lookup t x ix cok) (h : sPure E T S o = some v) : ∃ v', (execOp ρ o).run E.P w = .ok (.value v') w ∧ VR σ v v' := by
  obtain ⟨dst', op', type, pos, after, guard⟩ := o
  simp only at ho
  subst ho
  simp only [sPure] at h
  have mx : x ∈ (⟨dst', .lookup t x ix cok, type, pos, after, guard⟩ : Oper).op.operands.toList := by simp [Op.operands]
  have mi : ix ∈ (⟨dst', .lookup t x ix cok, type, pos, after, guard⟩ : Oper).op.operands.toList := by simp [Op.operands]
  split at h
  · rename_i kt e _ _ _ r k ht hx hix
    obtain ⟨inf, d, hk⟩ := hT _ _ ht
    cases hkt : keyT E kt k with
    | false => rw [hkt] at h; cases h
    | true =>
      rw [hkt] at h
      simp only [Bool.not_true, cond_false] at h
      obtain ⟨tk, infk, dk, hkk, hkd, hck, hpk⟩ := keyT_sound (w := w) hT hkt
      have hik := VR.plain hpk (ha ix mi _ hix)
      have hv := ha x mx _ hx
      have hdd := hk.desc
      cases d <;> simp only [TD.of] at hdd <;> try cases hdd
      cases hes : mapEs S r with
      | none => rw [hes] at h; cases h
      | some es =>
      rw [hes] at h
      obtain ⟨es', hMR, hy⟩ := mapEs_rel hw hes hv
      simp only at h
      split at h
      · rename_i j u hf
        cases h
        obtain ⟨r', q1, q2⟩ := findE_sound hkk hMR hkd hf
        obtain ⟨u', rfl, hu⟩ := q2
        have hfk := MapKept.run_findKey (P := E.P) (w := w) hkk.und q1
        refine ⟨if cok then .tuple #[u', .bool true] else u', run_v ?_, ?_⟩
        · rw [hik]
          exact run_lookup_in hk hy (fun e => hck e 9999) hfk
        · cases cok
          · exact hu
          · exact VR.tuple (x := [_, _]) (x' := [_, _]) (.cons hu (.cons (.bool true) .nil))
      · rename_i ti hf hte
        obtain ⟨inf2, d2, hk2⟩ := hT _ _ hte
        obtain ⟨r', q1, q2⟩ := findE_sound hkk hMR hkd hf
        simp only at q2
        subst q2
        have hfk := MapKept.run_findKey (P := E.P) (w := w) hkk.und q1
        obtain ⟨zv, hz1, hz2, hz3⟩ := run_zero (w := w) hk2
        rw [hz2] at h
        simp only at h
        cases h
        refine ⟨if cok then .tuple #[zv, .bool false] else zv, run_v ?_, ?_⟩
        · rw [hik]
          exact run_lookup_out hk hy (fun e => hck e 9999) hfk hz1
        · have hp := VR.of_plain (σ := σ) (zval_plain hk2 hz2)
          cases cok
          · exact hp
          · exact VR.tuple (x := [_, _]) (x' := [_, _]) (.cons hp (.cons (.bool false) .nil))
      · cases h
  · cases h
theorem typeAt_get {l : Array TypeId} {i : Nat} {ti : TI} (h : typeAt E l i = some ti) : ∃ t : TypeId, l[i]? = some t ∧ E.tt.get t = some ti := by
  unfold typeAt at h
  split at h
  · rename_i t ht; exact ⟨t, ht, h⟩
  · cases h
theorem run_len (hT : TOk E) (hw : WR σ S w) {argT : Array TypeId} {ty : TypeId} {x x' : Value} (h : lenB E S argT x = some v) (hx : VR σ x x') : ∃ v', (Builtin.len_ argT ty #[x']).run E.P w = .ok v' w ∧ VR σ v v' := by
  unfold lenB at h
  split at h
  · split at h
    · rename_i a n c _ e _ _ _ ht
      cases h
      obtain ⟨t, h1, h2⟩ := typeAt_get ht
      obtain ⟨inf, d, hk⟩ := hT _ _ h2
      have hdd := hk.desc
      cases d <;> simp only [TD.of] at hdd <;> try cases hdd
      refine ⟨.int .i64 n, ?_, .int _ _⟩
      cases hx <;> simp [Builtin.len_, h1, run_und hk, Result.andThen, goInt]
    · cases h
  · rename_i r
    split at h
    · rename_i es clk _ _ _ _ _ hg ht
      cases h
      obtain ⟨t, h1, h2⟩ := typeAt_get ht
      obtain ⟨inf, d, hk⟩ := hT _ _ h2
      have hdd := hk.desc
      cases d <;> simp only [TD.of] at hdd <;> try cases hdd
      cases hx with
      | map hb =>
        obtain ⟨b', o', q1, q2, q3⟩ := hw.obj _ _ hg
        rw [hb] at q1; cases q1
        cases q3 with
        | map hm =>
          rename_i es'
          refine ⟨.int .i64 es'.size, ?_, ?_⟩
          · simp [Builtin.len_, h1, run_und hk, Result.andThen, goInt, MapKept.run_getObj_map q2]
          · have := hm.length
            rw [show es'.size = es.length from by simpa using this]
            exact .int _ _
    · cases h
  · split at h
    · rename_i _ _ _ _ _ ht
      cases h
      obtain ⟨t, h1, h2⟩ := typeAt_get ht
      obtain ⟨inf, d, hk⟩ := hT _ _ h2
      have hdd := hk.desc
      cases d <;> simp only [TD.of] at hdd <;> try cases hdd
      cases hx
      exact ⟨.int .i64 0, by simp [Builtin.len_, h1, run_und hk, Result.andThen, goInt], .int _ _⟩
    · cases h
  · rename_i s
    split at h
    · rename_i _ _ _ ht
      cases h
      obtain ⟨t, h1, h2⟩ := typeAt_get ht
      obtain ⟨inf, d, hk⟩ := hT _ _ h2
      have hdd := hk.desc
      cases d <;> simp only [TD.of] at hdd <;> try cases hdd
      cases hx
      exact ⟨.int .i64 s.size, by simp [Builtin.len_, h1, run_und hk, Result.andThen, goInt], .int _ _⟩
    · cases h
  · split at h
    · rename_i n _ _ _ _ ht
      cases h
      obtain ⟨t, h1, h2⟩ := typeAt_get ht
      obtain ⟨inf, d, hk⟩ := hT _ _ h2
      have hdd := hk.desc
      cases d <;> simp only [TD.of] at hdd <;> try cases hdd
      exact ⟨.int .i64 n, by simp [Builtin.len_, h1, run_und hk, Result.andThen, goInt], .int _ _⟩
    · rename_i e _ _ _ ht
      split at h
      · rename_i n _ _ _ _ hte
        cases h
        obtain ⟨t, h1, h2⟩ := typeAt_get ht
        obtain ⟨inf, d, hk⟩ := hT _ _ h2
        obtain ⟨inf2, d2, hk2⟩ := hT _ _ hte
        have hdd := hk.desc
        have hdd2 := hk2.desc
        cases d <;> simp only [TD.of] at hdd <;> try cases hdd
        cases d2 <;> simp only [TD.of] at hdd2 <;> try cases hdd2
        exact ⟨.int .i64 n, by simp [Builtin.len_, h1, run_und hk, run_und hk2, Result.andThen, goInt], .int _ _⟩
      · cases h
    · cases h
end
end Go.Proofs.YtejebgdikoehmaaGreatDoor
/- The symbolic executor: pure_sound; operations that lay a block. -/
namespace Go.Proofs.YtejebgdikoehmaaGreatDoor
open Go Go.RowKit
set_option linter.unusedVariables false
set_option linter.unusedSimpArgs false
section
variable {E : Env} {P : Program} {σ : Rn} {T : Sts} {S S' : St} {w w' : World} {ρ : Operand → Value} {o : Oper} {v : Value}
/-- A call of a builtin, told. -/
theorem run_builtin {c : Call} {b : Builtin} {dst : Option Tmp} {ty : TypeId} {pos : String} {after : Array Edge} {guard : Option (Nat × Bool)} (hc : c.callee = .builtin b) :
    ∃ consts, execOp ρ ⟨dst, .call c, ty, pos, after, guard⟩ = builtin b c.argTypes ty consts (c.args.map ρ) := by
  refine ⟨c.args.map fun | .const _ => true | _ => false, ?_⟩
  simp only [execOp, resolve, hc]
  rfl
theorem args_rel {c : Call} {vs : List Value} (ha : ∀ x, x ∈ c.args.toList → ∀ v, evalO T x = some v → VR σ v (ρ x)) (h : evalL T c.args.toList = some vs) : VRs σ vs (c.args.map ρ).toList := evalL_arr ha h
theorem arr_of {l : List Value} {a : Array Value} (h : a.toList = l) : a = l.toArray := by
  apply Array.ext'; simpa using h
theorem s_call (hT : TOk E) (hw : WR σ S w) {c : Call} (ha : ARo σ T ρ o) (ho : o.op = .call c) (h : sPure E T S o = some v) : ∃ v', (execOp ρ o).run E.P w = .ok (.value v') w ∧ VR σ v v' := by
  have hg : gen E T o = some v → ∃ v', (execOp ρ o).run E.P w = .ok (.value v') w ∧ VR σ v v' := fun q => by
    obtain ⟨q1, q2⟩ := gen_sound (w := w) (by rw [ho]; intro cs b e; cases e) ha q
    exact ⟨v, q1, q2⟩
  obtain ⟨dst, op', type, pos, after, guard⟩ := o
  simp only at ho
  subst ho
  have hargs : ∀ x, x ∈ c.args.toList → ∀ v, evalO T x = some v → VR σ v (ρ x) := fun x hx => ha x (by simp [Op.operands, Call.operands]; exact Or.inr (by simpa using hx))
  simp only [sPure] at h
  split at h
  · rename_i x hcal hev
    obtain ⟨consts, he⟩ := run_builtin (ρ := ρ) (dst := dst) (ty := type) (pos := pos) (after := after) (guard := guard) hcal
    have hr := args_rel hargs hev
    generalize hq : (c.args.map ρ).toList = q at hr
    cases hr with
    | cons hx hn =>
      cases hn
      rename_i x'
      obtain ⟨v', k1, k2⟩ := run_len (ty := type) hT hw h hx
      refine ⟨v', ?_, k2⟩
      rw [he, arr_of hq]
      exact run_v k1
  · rename_i a n hcal hev
    split at h
    · rename_i e _ _ _ ht
      cases hkn : known n with
      | false => rw [hkn] at h; cases h
      | true =>
        rw [hkn, cond_true] at h
        cases h
        obtain ⟨t, h1, h2⟩ := typeAt_get ht
        obtain ⟨inf, d, hk⟩ := hT _ _ h2
        have hdd := hk.desc
        cases d <;> simp only [TD.of] at hdd <;> try cases hdd
        obtain ⟨consts, he⟩ := run_builtin (ρ := ρ) (dst := dst) (ty := type) (pos := pos) (after := after) (guard := guard) hcal
        have hr := args_rel hargs hev
        generalize hq : (c.args.map ρ).toList = q at hr
        cases hr with
        | cons hx hn =>
          cases hn
          rename_i n' x'
          refine ⟨.int .i64 n, ?_, .int _ _⟩
          rw [he, arr_of hq]
          refine run_v ?_
          cases hx with
          | sliceNil => simp [Builtin.cap_, h1, run_und hk, Result.andThen, goInt]
          | slice hb hl hc =>
            have := of_known hkn hc
            subst this
            simp [Builtin.cap_, h1, run_und hk, Result.andThen, goInt]
          | junk => exact absurd hkn (by unfold known; rw [nblt, decide_eq_false (Nat.lt_irrefl _)]; decide)
    · cases h
  · exact hg h
  · exact hg h
  · rename_i a _ n hcal hev
    cases hcd : (Nat.beq (lb n) 0 || Nat.beq a.block JUNK) with
    | true => rw [hcd] at h; cases h
    | false =>
      rw [hcd, cond_false] at h
      cases h
      simp only [Bool.or_eq_false_iff, nbeq, decide_eq_false_iff_not] at hcd
      obtain ⟨consts, he⟩ := run_builtin (ρ := ρ) (dst := dst) (ty := type) (pos := pos) (after := after) (guard := guard) hcal
      have hr := args_rel hargs hev
      generalize hq : (c.args.map ρ).toList = q at hr
      cases hr with
      | cons hx hn =>
        cases hn
        cases hx with
        | slice hb hl hc =>
          rename_i b c'
          refine ⟨.pointer (some ⟨b, a.off, a.spot⟩), ?_, .ptr hb⟩
          rw [he, arr_of hq]
          exact run_v (Lib.run_unsafeSliceData_row w c.argTypes type _ _ _ (by have := lb_le hc; omega))
        | junk => exact absurd rfl hcd.2
  · cases h
/-- WHAT ONLY READS. -/
theorem pure_sound (hT : TOk E) (hw : WR σ S w) (ha : ARo σ T ρ o) (h : sPure E T S o = some v) : ∃ v', (execOp ρ o).run E.P w = .ok (.value v') w ∧ VR σ v v' := by
  have hg : (∀ cs b, o.op ≠ .select cs b) → gen E T o = some v → ∃ v', (execOp ρ o).run E.P w = .ok (.value v') w ∧ VR σ v v' := fun hs q => by
    obtain ⟨q1, q2⟩ := gen_sound (w := w) hs ha q
    exact ⟨v, q1, q2⟩
  cases hop : o.op with
  | move x => exact s_move ha (Or.inl hop) (by simpa only [sPure, hop] using h)
  | assign x => exact s_move ha (Or.inr hop) (by simpa only [sPure, hop] using h)
  | pick c a b => exact s_pick ha hop h
  | build t ps => exact s_build hT ha hop h
  | load t x =>
    simp only [sPure, hop] at h
    split at h
    · rename_i a hx; exact s_load hT hw ha hop hx h
    · cases h
  | nilCheck x => exact s_nilCheck ha hop h
  | binOp op t x y ty => exact s_binOp hT hw ha hop h
  | unOp op t x => exact hg (by rw [hop]; intro cs b e; cases e) (by simpa only [sPure, hop] using h)
  | convert s d x => exact s_convert hT hw ha hop h
  | makeInterface t x => exact s_makeInterface hT ha hop h
  | makeFunc fn a b =>
    cases fn with
    | func g => exact s_makeFunc ha hop h
    | _ => simp only [sPure, hop] at h; cases h
  | slice t x lo hi mx => exact s_slice hT ha hop h
  | fieldAddr t x f => exact s_fieldAddr hT ha hop h
  | field t x f => exact s_field hT ha hop h
  | indexAddr t x ix => exact s_indexAddr hT ha hop h
  | index t x ix => exact s_index hT ha hop h
  | lookup t x ix cok => exact s_lookup hT hw ha hop h
  | extract x i => exact s_extract ha hop h
  | typeAssert x t u cok => exact hg (by rw [hop]; intro cs b e; cases e) (by simpa only [sPure, hop] using h)
  | call c => exact s_call hT hw ha hop h
  | _ => simp only [sPure, hop] at h; cases h
end
end Go.Proofs.YtejebgdikoehmaaGreatDoor
/- The symbolic executor: operations that lay a block. -/
namespace Go.Proofs.YtejebgdikoehmaaGreatDoor
open Go Go.RowKit
set_option linter.unusedVariables false
set_option linter.unusedSimpArgs false
theorem repZero_length (z : List Value) : ∀ n, (repZero z n).length = n * z.length
  | 0 => by simp [repZero]
  | n + 1 => by rw [repZero, List.length_append, repZero_length z n, Nat.succ_mul]; omega
theorem repZero_get (z : List Value) : ∀ (n i : Nat), i < n * z.length → (repZero z n)[i]? = z[i % z.length]?
  | 0, i, h => by omega
  | n + 1, i, h => by
    rw [repZero]
    by_cases hi : i < z.length
    · rw [List.getElem?_append_left hi, Nat.mod_eq_of_lt hi]
    · have hz : 0 < z.length := by
        rcases Nat.eq_zero_or_pos z.length with e | e
        · rw [e] at h; omega
        · exact e
      rw [List.getElem?_append_right (by omega), repZero_get z n _ (by rw [Nat.succ_mul] at h; omega)]
      rw [← Nat.mod_eq_sub_mod (by omega)]
theorem repZero_range (z : List Value) (n : Nat) : (repZero z n).toArray = (Array.range (n * z.length)).map fun i => z.toArray[i % z.toArray.size]! := by
  apply Array.ext
  · simp [repZero_length]
  · intro i h1 h2
    have hi : i < n * z.length := by simpa [repZero_length] using h1
    have hz : 0 < z.length := by
      rcases Nat.eq_zero_or_pos z.length with e | e
      · rw [e] at hi; omega
      · exact e
    have := repZero_get z n i hi
    have hm : i % z.length < z.length := Nat.mod_lt _ hz
    simp at this ⊢
    rw [List.getElem?_eq_getElem (by rw [repZero_length]; exact hi), List.getElem?_eq_getElem hm] at this
    simp at this
    rw [this, List.getElem?_eq_getElem hm]
    rfl
theorem repZero_plain {z : List Value} (h : z.all plain1 = true) : ∀ n, (repZero z n).all plain1 = true
  | 0 => rfl
  | n + 1 => by rw [repZero, List.all_append, h, repZero_plain h n]; rfl
theorem freeze_same {w : World} {b n : Nat} {c : Array Value} {e : TypeId} (h : w.heap[b]? = some (.cells c e (0, 0))) (m : Nat) (hm : m ≠ 0) : (w.freeze ⟨b, n, none⟩ m).heap[b]? = some (.cells c e (n, n + m)) := by
  unfold World.freeze
  rw [if_neg hm]
  simp [Array.getElem?_modify, h]
theorem freeze_other {w : World} {b n k : Nat} (hk : k ≠ b) (m : Nat) : (w.freeze ⟨b, n, none⟩ m).heap[k]? = w.heap[k]? := by
  unfold World.freeze
  split
  · rfl
  · simp [Array.getElem?_modify, Ne.symm hk]
theorem freeze_rest (w : World) (a : Addr) (m : Nat) : (w.freeze a m).heap.size = w.heap.size ∧ (w.freeze a m).os = w.os ∧ (w.freeze a m).tape = w.tape ∧ (w.freeze a m).output = w.output := by
  unfold World.freeze
  split
  · exact ⟨rfl, rfl, rfl, rfl⟩
  · exact ⟨by simp, rfl, rfl, rfl⟩
/-- What laying a block comes to. -/
structure Laid (E : Env) (σ : Rn) (w : World) (f : Nat → Value) (ob : SObj) (v' : Value) (w' : World) : Prop where
  at_ : ∃ o' k, w'.heap[w.heap.size]? = some o' ∧ ∀ σ' id, Le σ σ' → σ' id = some w.heap.size → σ'.κ id = k → OR σ' k ob o' ∧ VR σ' (f id) v'
  lt : w.heap.size < w'.heap.size
  old : ∀ k, k < w.heap.size → w'.heap[k]? = w.heap[k]?
  os : w'.os = w.os
  tape : w'.tape = w.tape
  output : w'.output = w.output
theorem Laid.alloc {E : Env} {σ : Rn} {w : World} {f : Nat → Value} {ob : SObj} {v' : Value} {o' : Obj} (h : ∀ σ' id, Le σ σ' → σ' id = some w.heap.size → OR σ' 0 ob o' ∧ VR σ' (f id) v') : Laid E σ w f ob v' (w.alloc o') :=
  ⟨⟨o', 0, heap_alloc_new w o', fun σ' id h1 h2 _ => h σ' id h1 h2⟩, by simp, fun k hk => heap_alloc_old o' hk, rfl, rfl, rfl⟩
theorem OR.full {σ : Rn} {k : Nat} {c : List Value} {c' : Array Value} (t : TypeId) (h : VRs σ c c'.toList) : OR σ k (.cells c t 0 0 0) (.cells c' t (0, 0)) := by
  have hl := h.length
  refine .cells ?_ ⟨fun _ => by simpa using hl, fun q => absurd rfl q⟩ ?_
  · rw [List.take_of_length_le (by omega)]; exact h
  · unfold FR; simp
section
variable {E : Env} {P : Program} {σ : Rn} {T : Sts} {S S' : St} {w w' : World} {ρ : Operand → Value} {o : Oper} {v : Value} {f : Nat → Value} {ob : SObj}
theorem VR.ptrTo' {σ' : Rn} {id b : Nat} (h : σ' id = some b) : VR σ' (ptrTo id) (.pointer (some ⟨b, 0, none⟩)) := VR.ptr (a := ⟨id, 0, none⟩) h
theorem VR.idSlice' {σ' : Rn} {id b l c c' : Nat} (h : σ' id = some b) (hl : l ≤ c') (hc : capR (σ'.κ id) c c') : VR σ' (idSlice l c id) (.slice (some ⟨b, 0, none⟩) l c') := VR.slice (a := ⟨id, 0, none⟩) h hl hc
theorem fill_size {place : Nat → Option (Nat × Nat)} : ∀ {ps : List (Nat × Value)} {z cs : Array Value}, Instr.fill place z ps = some cs → cs.size = z.size
  | [], z, cs, h => by simp only [Instr.fill] at h; cases h; rfl
  | (i, v) :: ps, z, cs, h => by
    simp only [Instr.fill] at h
    split at h
    · cases h
    · split at h
      · cases h
      · rw [fill_size h, ← Array.foldl_toList, Array.toList_zipIdx]
        exact fold_size _ _ 0 _
theorem parts_arr {ps : Array (Nat × Operand)} {l : List (Nat × Value)} (hp : ∀ p ∈ ps.toList, ∀ v, evalO T p.2 = some v → VR σ v (ρ p.2)) (hl : evalParts T ps.toList = some l) : PRs σ l (ps.map fun p => (p.1, ρ p.2)).toList := by
  have := parts_rel (ρ := ρ) hp hl
  simpa using this
theorem alloc_sound (hT : TOk E) (ha : ARo σ T ρ o) (h : sAlloc E T o = some (f, ob)) : ∃ v' w', (execOp ρ o).run E.P w = .ok (.value v') w' ∧ Laid E σ w f ob v' w' := by
  obtain ⟨dst, op, type, pos, after, guard⟩ := o
  unfold sAlloc at h
  cases op <;> simp only at h <;> try cases h
  case alloc t =>
    split at h
    · rename_i ti ht
      cases h
      obtain ⟨inf, d, hk⟩ := hT _ _ ht
      obtain ⟨zv, hz1, hz2, hz3⟩ := run_zero (w := w) hk
      refine ⟨.pointer (some ⟨w.heap.size, 0, none⟩), w.alloc (.cells zv.cells t), run_v ?_, Laid.alloc fun σ' id hle hid => ⟨?_, VR.ptrTo' hid⟩⟩
      · simp only [Instr.alloc, Sem.run_bind, hz1, Result.andThen, newVar, newRow]
        rfl
      · exact OR.full t (by rw [hz3]; exact VRs.of_plain1 hk.plain)
    · cases h
  case box t x =>
    split at h
    · rename_i u hu
      cases h
      have hv := ha x (by simp [Op.operands]) u hu
      refine ⟨.pointer (some ⟨w.heap.size, 0, none⟩), w.alloc (.cells (ρ x).cells t), run_v ?_, Laid.alloc fun σ' id hle hid => ⟨?_, VR.ptrTo' hid⟩⟩
      · simp only [Instr.box, Sem.run_bind, newVar, newRow]
        rfl
      · exact OR.full t (hv.mono hle).cells
    · cases h
  case buildSlice t n ps =>
    split at h
    · rename_i e _ _ _ l ht hl
      split at h
      · rename_i ti hte
        cases hcd : (Nat.ble (n * ti.size) 16777216 && known n) with
        | false => rw [hcd] at h; cases h
        | true =>
          rw [hcd, cond_true] at h
          simp only [Bool.and_eq_true, nble, decide_eq_true_eq] at hcd
          split at h
          · rename_i cs hcs
            cases h
            obtain ⟨inf, d, hk⟩ := hT _ _ ht
            obtain ⟨inf2, d2, hk2⟩ := hT _ _ hte
            obtain ⟨zv, hz1, hz2, hz3⟩ := run_zero (w := w) hk2
            have hdd := hk.desc
            cases d <;> simp only [TD.of] at hdd <;> try cases hdd
            have hpr := parts_arr (σ := σ) (ρ := ρ) (fun p hp u hu => ha p.2 (by simp [Op.operands]; exact ⟨p.1, by simpa using hp⟩) u hu) hl
            have hzr : VRs σ (repZero ti.zero n).toArray.toList (repZero ti.zero n).toArray.toList := by
              simp only [List.toList_toArray]; exact VRs.of_plain1 (repZero_plain hk2.plain n)
            obtain ⟨cs', hf, hv⟩ := fill_sound (place' := fun i => some (i * ti.size, ti.size)) (fun i => rfl) hpr hzr hcs
            have hza : zv.cells = ti.zero.toArray := by apply Array.ext'; simpa using hz3
            refine ⟨.slice (some ⟨w.heap.size, 0, none⟩) n n, w.alloc (.cells cs' e), run_v ?_, Laid.alloc fun σ' id hle hid => ⟨OR.full e (hv.mono hle), VR.idSlice' hid (Nat.le_refl _) (capR_known hcd.2)⟩⟩
            have hgt : ¬ n * ti.size > 2 ^ 24 := by omega
            simp only [Instr.buildSlice, Sem.run_bind, run_und hk, Result.andThen, run_size hk2, hgt, if_false]
            by_cases h0 : n * ti.size = 0
            · rw [if_pos h0]
              have hr0 : repZero ti.zero n = [] := List.eq_nil_of_length_eq_zero (by rw [repZero_length, hk2.len, h0])
              rw [hr0] at hf
              rw [Sem.run_bind, show (pure #[] : Sem (Array Value)).run E.P w = .ok #[] w from rfl]
              rw [h0]
              simp only [Result.andThen]
              rw [show Array.range 0 = #[] from rfl, Array.map_empty]
              rw [show Instr.fill (fun i => some (i * ti.size, ti.size)) #[] _ = some cs' from hf]
              rfl
            · rw [if_neg h0]
              simp only [Sem.run_bind, hz1, Result.andThen]
              rw [show (pure zv.cells : Sem (Array Value)).run E.P w = .ok zv.cells w from rfl]
              simp only
              rw [hza, show n * ti.size = n * ti.zero.length from by rw [hk2.len], ← repZero_range]
              rw [show Instr.fill (fun i => some (i * ti.size, ti.size)) (repZero ti.zero n).toArray _ = some cs' from hf]
              rfl
          · cases h
      · cases h
    · cases h
  case makeMap t r =>
    cases r with
    | some x => simp only at h; cases h
    | none =>
      simp only at h
      cases h
      refine ⟨.map (some w.heap.size), w.alloc (.map #[] 0), run_v ?_, Laid.alloc fun σ' id hle hid => ⟨.map .nil, .map hid⟩⟩
      rfl
  case makeSlice t l c =>
    split at h
    · rename_i e _ _ _ kl l' kc c' ht hl hc
      split at h
      · rename_i ti hte
        cases hcd : (decide (0 ≤ l') && decide (l' ≤ c') && decide (c' ≤ 100000) && Nat.ble ti.bytes 1000000) with
        | false => rw [hcd] at h; cases h
        | true =>
          rw [hcd, cond_true] at h
          cases h
          simp only [Bool.and_eq_true, nble, decide_eq_true_eq] at hcd
          obtain ⟨⟨⟨c0, c1⟩, c2⟩, c3⟩ := hcd
          obtain ⟨inf, d, hk⟩ := hT _ _ ht
          obtain ⟨inf2, d2, hk2⟩ := hT _ _ hte
          obtain ⟨zv, hz1, hz2, hz3⟩ := run_zero (w := w) hk2
          have hdd := hk.desc
          cases d <;> simp only [TD.of] at hdd <;> try cases hdd
          have el := (ha l (by simp [Op.operands]) _ hl).int'
          have ec := (ha c (by simp [Op.operands]) _ hc).int'
          have hza : zv.cells = ti.zero.toArray := by apply Array.ext'; simpa using hz3
          have wl : IntKind.i64.wrap l' = l' := by rw [IntKind.wrap_i64]; omega
          have wc : IntKind.i64.wrap c' = c' := by rw [IntKind.wrap_i64]; omega
          have hkc : known c'.toNat = true := known_lt.2 (by have : UNK = 1000000000 := rfl; omega)
          refine ⟨.slice (some ⟨w.heap.size, 0, none⟩) l'.toNat c'.toNat, w.alloc (.cells (repZero ti.zero c'.toNat).toArray e), run_v ?_, Laid.alloc fun σ' id hle hid => ⟨OR.full e ?_, VR.idSlice' hid (by omega) (capR_known hkc)⟩⟩
          · have hb : (inf2.bytes : Int) * c' ≤ 281474976710656 := by
              rw [hk2.bytes]
              have := Int.mul_le_mul (show (ti.bytes : Int) ≤ 1000000 by omega) c2 (by omega) (by omega)
              omega
            obtain ⟨z2, hz5, hz6⟩ := hk2.zero
            have hz7 : z2 = zv := by rw [hz2] at hz6; cases hz6; rfl
            subst hz7
            have hr := run_make (P := E.P) w t e inf2 z2 hk.und hk2.info hz5 kl kc l' c' c0 c1 hb (by omega)
            rw [el, ec, hr]
            have : madeCells z2.cells (c'.toNat * inf2.size) = (repZero ti.zero c'.toNat).toArray := by
              rw [repZero_range, hza, hk2.size, hk2.len]
              rfl
            rw [this]
          · simp only [List.toList_toArray]; exact VRs.of_plain1 (repZero_plain hk2.plain _)
      · cases h
    · cases h
  case convert src dst' x =>
    split at h
    · rename_i s hx
      split at h
      · rename_i _ _ _ e _ _ _ hs hd
        split at h
        · rename_i _ _ _ he
          cases hcd : Nat.ble s.size 100000 with
          | false => rw [hcd] at h; cases h
          | true =>
            rw [hcd, cond_true] at h
            cases h
            rw [nble] at hcd
            have hsz := of_decide_eq_true hcd
            obtain ⟨i1, d1, k1⟩ := hT _ _ hs
            obtain ⟨i2, d2, k2⟩ := hT _ _ hd
            obtain ⟨i3, d3, k3⟩ := hT _ _ he
            have ex := (ha x (by simp [Op.operands]) _ hx).string'
            have e1 := k1.desc
            have e2 := k2.desc
            have e3 := k3.desc
            cases d1 <;> simp only [TD.of] at e1 <;> try cases e1
            cases d2 <;> simp only [TD.of] at e2 <;> try cases e2
            cases d3 <;> simp only [TD.of] at e3 <;> try cases e3
            obtain ⟨cap, hcap, hge⟩ : ∃ cap, Question.cut (.appendCap s.size 0 e) (w.tape w.drawn (.appendCap s.size 0 e)) = cap ∧ s.size ≤ cap := ⟨_, rfl, by simp [Question.cut]⟩
            obtain ⟨c', hc'⟩ : ∃ c' : Array Value, (s.data.map (fun b => Value.int .u8 b.toNat)) ++ Array.replicate (cap - s.size) (.int .u8 0) = c' := ⟨_, rfl⟩
            have hcs : c'.size = cap := by
              have h9 : s.data.size = s.size := rfl
              rw [← hc']; simp; omega
            obtain ⟨W0, hW0⟩ : ∃ W0, w.drew.alloc (.cells c' e) = W0 := ⟨_, rfl⟩
            have h0n : W0.heap[w.heap.size]? = some (.cells c' e (0, 0)) := by rw [← hW0]; exact heap_alloc_new w.drew _
            have h0o : ∀ k, k < w.heap.size → W0.heap[k]? = w.heap[k]? := by intro k hk; rw [← hW0]; exact heap_alloc_old (w := w.drew) _ hk
            have h0z : W0.heap.size = w.heap.size + 1 := by rw [← hW0]; simp
            obtain ⟨r1, r2, r3, r4⟩ := freeze_rest W0 ⟨w.heap.size, cap, none⟩ 1
            refine ⟨.slice (some ⟨w.heap.size, 0, none⟩) s.size cap, W0.freeze ⟨w.heap.size, cap, none⟩ 1, run_v ?_, ⟨⟨.cells c' e (cap, cap + 1), cap, freeze_same h0n 1 (by decide), fun σ' id hle hid hκ => ⟨?_, VR.idSlice' hid hge ?_⟩⟩, by rw [r1]; omega, fun k hk => (freeze_other (by omega) 1).trans (h0o k hk), by rw [r2, ← hW0]; rfl, by rw [r3, ← hW0]; rfl, by rw [r4, ← hW0]; rfl⟩⟩
            · rw [ex]
              have hch : (choose (.appendCap s.size 0 e)).run E.P w = .ok cap w.drew := by rw [run_choose_drew, if_neg (by simp [Question.forced]), hcap]
              have hsh : W0.shape? w.heap.size = some (e, cap) := by simp [World.shape?, h0n, hcs]
              simp only [convert, Sem.run_bind, run_und k1, run_und k2, Result.andThen, run_und k3]
              simp only [Conv.stringToBytes, Sem.run_bind, hch, newRow, Result.andThen]
              rw [hc', run_newObj_alloc]
              simp only
              rw [show w.drew.heap.size = w.heap.size from rfl, hW0]
              rw [show (pure (⟨w.heap.size, 0, none⟩ : Addr) : Sem Addr).run E.P W0 = .ok ⟨w.heap.size, 0, none⟩ W0 from rfl]
              simp only [markStringish, Sem.run_bind]
              rw [show (shape w.heap.size).run E.P W0 = .ok (some (e, cap)) W0 from by rw [← hsh]; rfl]
              rfl
            · refine .cells ?_ ⟨fun q => (by cases q), fun _ => (by rw [hcs, Nat.mul_one]; exact Nat.le_refl _)⟩ ?_
              · rw [← hc']
                have hb : (bytesCells s) = (s.data.map (fun b => Value.int .u8 b.toNat)).toList := by simp [bytesCells]
                rw [Array.toList_append, hb, List.take_left]
                rw [← hb]
                refine VRs.of_plain1 ?_
                exact List.all_eq_true.2 fun x hx => by
                  unfold bytesCells at hx
                  obtain ⟨b, _, rfl⟩ := List.mem_map.1 hx
                  rfl
              · unfold FR
                rw [if_pos ⟨rfl, rfl⟩, hcs]
                exact Nat.le_refl _
            · unfold capR
              rw [if_neg (by omega), hκ]
              omega
        · cases h
      · cases h
    · cases h
end
end Go.Proofs.YtejebgdikoehmaaGreatDoor
