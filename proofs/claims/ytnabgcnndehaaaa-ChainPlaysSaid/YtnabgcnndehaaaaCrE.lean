/- The reference of layer 9 (chain): what each call does, three: Delete. -/
import Derived.Test.YtnabgcnndehaaaaCrD
import Derived.Deep.RegionHeld3
namespace Go.Proofs.Ytnabgcnndehaaaa
open Go.RowKit
set_option linter.unusedVariables false
theorem Sl.prefix2 {w : World} {S : Nat → Prop} {T : TypeId} {sz b off cap n : Nat} {xs : List Value} (h : Sl w S T sz (.slice (some ⟨b, off, none⟩) n cap) n xs) {m : Nat} (hm : m ≤ n) : Sl w S T sz (.slice (some ⟨b, off, none⟩) m cap) m (xs.take (m * sz)) := by
  obtain ⟨h1, h2⟩ := h
  have hle : m * sz ≤ n * sz := Nat.mul_le_mul_right sz hm
  refine ⟨by rw [List.length_take, h1]; omega, ?_⟩
  rcases h2 with ⟨h2, _⟩ | ⟨b', off', cap', c, hv, hS, hb, hc, hmx, hs, hx⟩
  · cases h2
  · simp at hv
    obtain ⟨⟨rfl, rfl⟩, rfl⟩ := hv
    exact Or.inr ⟨b, off, cap, c, rfl, hS, hb, by omega, hmx, hs, fun i hi => by
      rw [List.length_take] at hi
      rw [hx i (by omega), List.getElem?_take, if_pos (by omega)]⟩
theorem Sl.suffix2 {w : World} {S : Nat → Prop} {T : TypeId} {sz b off cap n : Nat} {xs : List Value} (h : Sl w S T sz (.slice (some ⟨b, off, none⟩) n cap) n xs) {m : Nat} (hm : m ≤ n) : Sl w S T sz (.slice (if cap = m then some ⟨b, off, none⟩ else some ⟨b, off + m * sz, none⟩) (n - m) (cap - m)) (n - m) (xs.drop (m * sz)) := by
  obtain ⟨h1, h2⟩ := h
  have hsub : (n - m) * sz = n * sz - m * sz := Nat.sub_mul _ _ _
  have hle : m * sz ≤ n * sz := Nat.mul_le_mul_right sz hm
  refine ⟨by rw [List.length_drop, h1, hsub], ?_⟩
  rcases h2 with ⟨h2, _⟩ | ⟨b', off', cap', c, hv, hS, hb, hc, hmx, hs, hx⟩
  · cases h2
  · simp at hv
    obtain ⟨⟨rfl, rfl⟩, rfl⟩ := hv
    have hcm : (cap - m) * sz = cap * sz - m * sz := Nat.sub_mul _ _ _
    have hle2 : m * sz ≤ cap * sz := Nat.mul_le_mul_right sz (by omega)
    by_cases e : cap = m
    · rw [if_pos e]
      have hnm : n - m = 0 := by omega
      refine Or.inr ⟨b, off, cap - m, c, by rw [hnm], hS, hb, by omega, by omega, by rw [show cap - m = 0 from by omega]; omega, fun i hi => ?_⟩
      rw [List.length_drop, h1, ← hsub, hnm] at hi
      omega
    · rw [if_neg e]
      refine Or.inr ⟨b, off + m * sz, cap - m, c, rfl, hS, hb, by omega, by omega, by omega, fun i hi => ?_⟩
      rw [List.length_drop] at hi
      rw [List.getElem?_drop, ← hx (m * sz + i) (by omega), Nat.add_assoc]
theorem step_append_from2 {P : Program} {S S2 : Nat → Prop} {ops : Array Oper} {o : Oper} {a : Act} {w : World} {K : Act → World → Prop} {Q : Exit → Act → World → Prop} {E : Prop}
    (hg : o.guard = none) (s x : Operand) (t : TypeId) (hop : o.op = Op.call { callee := Callee.builtin Builtin.append, args := #[s, x], argTypes := #[t, t] })
    (e : TypeId) (i : TypeInfo) (z : Value) (sz bytes : Nat) (ht : P.underlying t = some (.slice e)) (h2 : P.info? e = some i) (h3 : i.zero = some z) (h4 : i.size = sz) (h5 : i.bytes = bytes) (h6 : z.cells.size = sz) (h7 : 0 < sz)
    (v : Value) (n : Nat) (xs : List Value) (hs : a.eval s = v) (hown : Sl w S e sz v n xs) (u : Value) (m : Nat) (ys : List Value) (hx : a.eval x = u) (hsrc : Sl w S2 e sz u m ys) (h1c : ∀ y ∈ ys, y.oneCell' = true)
    (b1 : n + m ≤ maxLen) (b2 : (n + m) * bytes ≤ 140737488355328)
    (hK : ∀ v' w', Sl w' (grow S w w') e sz v' (n + m) (xs ++ ys) → Fr (Arr S w e) w w' → K (a.put o.dst v') w') :
    if Region.wanted o (yielded ops a.tmps) = true then Oper.wp P o a w K Q else E := by
  have hw : Region.wanted o (yielded ops a.tmps) = true := by simp [Region.wanted, hg]
  rw [if_pos hw]
  obtain ⟨v', w', hrun, r1, r2⟩ := run_append_from2 (P := P) t o.type e i z sz bytes ht h2 h3 h4 h5 h6 h7 v n xs hown u m ys hsrc h1c b1 b2
  unfold Oper.wp
  simp [execOp, hop, resolve, invoke, builtin, hs, hx, hrun, Result.andThen]
  exact hK v' w' r1 r2
theorem ents_take (pre suf : List KN) (e : KN) : (ents (pre ++ e :: suf)).take (pre.length * 2) = ents pre := by rw [ents_app, ← ents_len pre, List.take_left]
theorem ents_drop (pre suf : List KN) (e : KN) : (ents (pre ++ e :: suf)).drop ((pre.length + 1) * 2) = ents suf := by
  rw [show pre ++ e :: suf = (pre ++ [e]) ++ suf from by simp, ents_app, show (pre.length + 1) * 2 = (ents (pre ++ [e])).length from by rw [ents_len]; simp, List.drop_left]
set_option maxRecDepth 100000 in
set_option maxHeartbeats 4000000 in
theorem cr_delete (S : Nat → Prop) (u : Nat) (s : ChS) (k : ByteArray) (hk : k.size ≤ 9223372036854775807) (w : World) (h : CrAt w S u s) (hn : -1000000 ≤ s.n ∧ s.n < 1000000) (hl : (home s k).length ≤ 1000000) :
    Calls Try.prog 31 #[.pointer (some ⟨u, 0, none⟩), .string k] w fun e w' => e = .returned (.bool (look s k).isSome) ∧ CrAt w' (grow S w w') u (delS s k) ∧ Fr S w w' := by
  have HA0 := Lib.hid h
  obtain ⟨hW, nb, ob, xs, ys, dv, o, h⟩ := h
  obtain ⟨v, hv⟩ := row_of hW h k
  have HR := Lib.hid (cr_row hW h k hk hv)
  obtain ⟨a, cap, hve, hcap, hc⟩ := ent_at hv.2.2.2.2
  subst hve
  have hAt := fun q => cr_at (w := w.drewN q) (Q := fun b => S b ∧ o b = tagK s k) _ (home s k) (hv.2.2.2.2.frame fun _ _ _ => rfl) k hl
  rcases look_split (s := s) (k := k) with ⟨q1, q2, q3⟩ | ⟨pre, n0, suf, q1, q2, q3, q4⟩
  · rw [q3] at hAt
    have HA := Lib.hid hAt
    have hdel : delS s k = s := by unfold delS; rw [q2]; rfl
    rw [hdel, q2]
    obtain ⟨ln, hln⟩ : ∃ n, (home s k).length = n := ⟨_, rfl⟩
    rw [hln] at HR HA
    clear h hv hc q1 q2 q3 hAt hW hl hln hcap hdel
    go_enter Try.func31, Try.ntmps31
    go_wp2_with fail
    refine HR.out.mono ?_
    rintro e w1 ⟨rfl, q, rfl⟩
    go_wp2_with fail
    refine (HA.out q).mono ?_
    rintro e w1 ⟨rfl, rfl⟩
    go_wp2_with fail
    go_ret
    exact ⟨rfl, (HA0.out.frame (w' := w.drewN q) fun _ _ _ => rfl).mono fun b _ q => Or.inl q, (Fr.refl S w).drewN q⟩
  · rw [q4] at hAt
    have HA := Lib.hid hAt
    have hpl : pre.length < (home s k).length := by rw [q1]; simp <;> omega
    obtain ⟨b, off, rfl, hb, hSb, hc0, hc1, hfz⟩ := hc pre.length (k, n0) (by rw [q1]; simp)
    have hdel : delS s k = { put s k (pre ++ suf) with n := s.n - 1 } := by unfold delS; rw [q3, q1, delL_at q2]; rfl
    have hnd : (ks (pre ++ suf)).Nodup := by
      have := home_nodup hW k
      rw [q1, ks_app] at this
      rw [ks_app]
      have h2 := List.nodup_append.1 this
      exact List.nodup_append.2 ⟨h2.1, (List.nodup_cons.1 h2.2.1).2, fun x q1 y q2 => h2.2.2 x q1 y (List.mem_cons_of_mem _ q2)⟩
    have hkm : ∀ k0, k0 ∈ ks (pre ++ suf) → k0 = k ∨ k0 ∈ ks (home s k) := fun k0 q => Or.inr (by
      rw [q1, ks_app]
      rw [ks_app] at q
      exact (List.mem_append.1 q).elim (fun q => List.mem_append_left _ q) (fun q => List.mem_append_right _ (List.mem_cons_of_mem _ q)))
    have hW1 := (put_w hW hnd hkm).setN (s.n - 1)
    rw [hdel, q3]
    have HH := Lib.hid (And.intro hW (And.intro h (And.intro hv (And.intro hW1 (And.intro hl q1)))))
    obtain ⟨ln, hln⟩ : ∃ n, (home s k).length = n := ⟨_, rfl⟩
    rw [hln] at HR HA hpl hcap
    obtain ⟨pl, hpl2⟩ : ∃ n, pre.length = n := ⟨_, rfl⟩
    rw [hpl2] at HA hpl
    have HLN := Lib.hid (And.intro hln hpl2)
    have hpl' : (pl : Int) < ln := by omega
    have hpl1 : (pl : Int) + 1 ≤ ln := by omega
    have hpl0 : (0 : Int) ≤ pl := by omega
    have hnn : decide ((pl : Int) < 0) = false := decide_eq_false (by omega)
    have hlnb : ln ≤ 1000000 := by rw [← hln]; exact hl
    have hplc : pl ≤ cap := by omega
    have hpl3 : (0 : Int) ≤ (pl : Int) + 1 := by omega
    have hwr : IntKind.i64.wrap ((pl : Int) + 1) = (pl : Int) + 1 := by rw [IntKind.wrap_i64]; omega
    clear h hv hc q1 q2 q3 q4 hAt hW hl hln hpl2 hc0 hc1 hfz hb hdel hnd hkm hW1 hSb
    go_enter Try.func31, Try.ntmps31
    go_wp2_with fail
    refine HR.out.mono ?_
    rintro e w1 ⟨rfl, q, rfl⟩
    go_wp2_with fail
    refine (HA.out q).mono ?_
    rintro e w1 ⟨rfl, rfl⟩
    obtain ⟨i0, hi, hz0, hz1, hz2⟩ := info_parts' info_entry
    have hrowS := HH.out.2.2.1.2.2.2.2
    rw [HH.out.2.2.2.2.2, show (pre ++ (k, n0) :: suf).length = ln from by rw [← HLN.out.1, HH.out.2.2.2.2.2]] at hrowS
    have hP := hrowS.prefix2 (m := pl) (by omega)
    have hS := hrowS.suffix2 (m := pl + 1) (by omega)
    rw [← HLN.out.2, ents_take, HLN.out.2] at hP
    rw [show pl + 1 = pre.length + 1 from by rw [HLN.out.2], ents_drop, HLN.out.2] at hS
    obtain ⟨sx, hsx⟩ : ∃ x, (if cap = pl + 1 then some (⟨b, off, none⟩ : Addr) else some ⟨b, off + (pl + 1) * 2, none⟩) = x := ⟨_, rfl⟩
    rw [hsx] at hS
    have HPS := Lib.hid (And.intro hP hS)
    have HB0 := Lib.hid (show Sl ((w.drewN (q + 1)).alloc (.cells #[] 73)) (fun b => w.heap.size ≤ b) 73 2 (.slice (some ⟨w.heap.size, 0, none⟩) 0 0) 0 [] from
      ⟨rfl, Or.inr ⟨w.heap.size, 0, 0, #[], rfl, Nat.le_refl _, heap_alloc_new (w.drewN (q + 1)) _, Nat.le_refl _, by unfold maxLen; omega, by simp, fun i hi => absurd hi (by simp)⟩⟩)
    clear hrowS hP hS
    go_wp2_with fail
    go_region_held3 (fun _ => True) (trivial) (first
      | (go_at_call 38; refine (cr_put HH.out.1 (show CrO w3 S u s nb ob xs ys dv o from HH.out.2.1.frame fun b hb _ => X3.out.2.block b hb (by omega)) k hk va3 _ vc3).mono ?_; rintro e w4 ⟨rfl, q2, q3, rfl⟩)
      | (refine step_append_from2 (S := fun b => w.heap.size ≤ b) rfl _ _ 68 rfl 73 i0 (.agg #[.string ByteArray.empty, .int .i64 0]) 2 24 Try.underlying68 hi hz0 hz1 hz2 rfl (by decide) _ pl (ents pre) rfl X1.out.1 _ (ln - (pl + 1)) (ents suf) rfl (HPS.out.2.fr X1.out.2 (fun b hb _ => by omega)) ents_one (by unfold maxLen; omega) (by omega) ?_; intro v3 w3 hs3 hf3; have hq3 : Fr (fun b => w.heap.size ≤ b) w w3 := X1.out.2.trans hf3.arr (fun b _ q => q); obtain ⟨va3, vc3, rfl, _⟩ := hs3.shape; have X3 := Lib.hid (And.intro (hs3.mono (S' := fun b => w.heap.size ≤ b) (fun b _ q => q.elim (fun q => q) (fun q => by (have q1 := q.1; have := X1.out.2.size; omega)))) hq3); clear hs3 hf3 hq3)
      | (refine step_append_from2 (S := fun b => w.heap.size ≤ b) rfl _ _ 68 rfl 73 i0 (.agg #[.string ByteArray.empty, .int .i64 0]) 2 24 Try.underlying68 hi hz0 hz1 hz2 rfl (by decide) _ 0 [] rfl HB0.out _ pl (ents pre) rfl ((HPS.out.1.frame (w' := w.drewN (q + 1)) fun _ _ _ => rfl).alloc _) ents_one (by unfold maxLen; omega) (by omega) ?_; intro v1 w2 hs1 hf1; rw [Nat.zero_add, List.nil_append] at hs1; have hq1 : Fr (fun b => w.heap.size ≤ b) w w2 := (((Fr.refl (fun b => w.heap.size ≤ b) w).drewN (q + 1)).alloc (.cells #[] 73)).trans hf1.arr (fun b _ q => q); obtain ⟨va1, vc1, rfl, _⟩ := hs1.shape; have X1 := Lib.hid (And.intro (hs1.mono (S' := fun b => w.heap.size ≤ b) (fun b _ q => q.elim (fun q => q) (fun q => by (have q1 := q.1; simp at q1; omega)))) hq1); clear hs1 hf1 hq1))
    have hnew : Sl (w3.drewN q2) (fun b => w.heap.size ≤ b) 73 2 (.slice va3 (pl + (ln - (pl + 1))) vc3) (pre ++ suf).length (ents (pre ++ suf)) := by
      have hll : (pre ++ suf).length = pl + (ln - (pl + 1)) := by
        have h1 := HLN.out.1
        rw [HH.out.2.2.2.2.2] at h1
        have h2 := HLN.out.2
        simp at h1 ⊢
        omega
      rw [hll, ents_app]
      exact X3.out.1.frame fun _ _ _ => rfl
    have hsb : S (slotB s k nb ob) := HH.out.2.2.1.2.2.2.1
    obtain ⟨xs1, ys1, o1, hput⟩ := HH.out.2.1.put_new HH.out.1 k (X3.out.2.drewN q2) hnew
    have hput := hput.frame (w' := ((w3.drewN q2).setCell ⟨slotB s k nb ob, slotI s k, none⟩ (.slice va3 (pl + (ln - (pl + 1))) vc3)).drewN q3) fun _ _ _ => rfl
    have hFr : Fr S w (((w3.drewN q2).setCell ⟨slotB s k nb ob, slotI s k, none⟩ (.slice va3 (pl + (ln - (pl + 1))) vc3)).drewN q3) := ((((X3.out.2.mono fun b hb q => by omega).drewN q2).setCell (fun _ => hsb) _).drewN q3)
    have hgz : (grow S w ((w3.drewN q2).setCell ⟨slotB s k nb ob, slotI s k, none⟩ (.slice va3 (pl + (ln - (pl + 1))) vc3))) = grow S w (((w3.drewN q2).setCell ⟨slotB s k nb ob, slotI s k, none⟩ (.slice va3 (pl + (ln - (pl + 1))) vc3)).drewN q3) := rfl
    rw [hgz] at hput
    obtain ⟨wy, hwy⟩ : ∃ wy, ((w3.drewN q2).setCell ⟨slotB s k nb ob, slotI s k, none⟩ (.slice va3 (pl + (ln - (pl + 1))) vc3)).drewN q3 = wy := ⟨_, rfl⟩
    rw [hwy] at hput hFr ⊢
    obtain ⟨_, _, _, _, _, d5, df, _⟩ := hput.cells
    have df5 := df 5
    rw [(put_g _ _ _).1] at d5
    have hN := hput.setN (s.n - 1)
    have hSu : S u := HH.out.2.1.hSu
    have hW1 := HH.out.2.2.2.1
    obtain ⟨n1, hn1'⟩ : ∃ x, s.n = x := ⟨_, rfl⟩
    have hwr2 : IntKind.i64.wrap (n1 - 1) = n1 - 1 := by rw [IntKind.wrap_i64]; omega
    have HNE := Lib.hid hn1'
    rw [hn1'] at d5 hN
    have HRR := Lib.hid (And.intro hN (And.intro hW1 (And.intro hFr hSu)))
    clear hnew hsb hput hFr hgz hwy hN hW1 df hSu hn1'
    go_wp2_with fail
    go_ret
    have hN := HRR.out.1
    rw [← HNE.out] at hN ⊢
    have hz : (wy.setCell ⟨u, 5, none⟩ (.int .i64 (s.n - 1))).heap.size = wy.heap.size := by simp [World.setCell]
    exact ⟨rfl, ⟨HRR.out.2.1, nb, ob, xs1, ys1, dv, o1, hN.mono fun b _ q => q.imp (fun q => q) (fun q => ⟨q.1, by rw [hz]; exact q.2⟩)⟩, HRR.out.2.2.1.setCell (p := ⟨u, 5, none⟩) (fun _ => HRR.out.2.2.2) _⟩
end Go.Proofs.Ytnabgcnndehaaaa
