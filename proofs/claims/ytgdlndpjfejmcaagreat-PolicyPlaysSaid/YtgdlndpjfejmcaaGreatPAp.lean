/- Appends whose source is held, in regions with guards. -/
import Derived.Test.YtgdlndpjfejmcaaGreatPA
import Derived.Deep.Upon
namespace Go.Proofs.YtgdlndpjfejmcaaGreat
open Go.RowKit
set_option linter.unusedVariables false
set_option maxRecDepth 100000
theorem wpList_want {P : Program} {ops : Array Oper} {Q : Exit → Act → World → Prop} {a : Act} {w : World} {rest : List Oper} {o : Oper} (hw : Region.wanted o (yielded ops a.tmps) = true)
    (h : ∀ K : Act → World → Prop, (∀ a w, wpList P ops Q rest a w → K a w) → o.wp P a w K Q) : wpList P ops Q (o :: rest) a w := by
  unfold wpList
  rw [if_pos hw]
  exact Or.inl (h _ (fun _ _ h => h))
/-- A held slice's cells. -/
theorem Sl.source {w : World} {S : Nat → Prop} {T : TypeId} {ad : Addr} {m c : Nat} {news : List Value} (h : Sl w S T 1 (.slice (some ad) m c) m news) : news.length = m * 1 ∧ ∀ j u, news[j]? = some u → w.cell? (ad.add j) = some u := by
  obtain ⟨h1, h2⟩ := h
  refine ⟨h1, fun j u hu => ?_⟩
  have hj := (List.getElem?_eq_some_iff.1 hu).1
  rcases h2 with ⟨h2, _⟩ | ⟨b', off', cap', cs, hv, hS, hb, hc, hm, hs, hx⟩
  · cases h2
  · simp at hv
    obtain ⟨rfl, rfl⟩ := hv
    have ha : (⟨b', off', none⟩ : Addr).add j = ⟨b', off' + j, none⟩ := by unfold Addr.add; split <;> simp_all
    rw [ha, cell_of_heap hb, hx j hj, hu]
section
variable {P : Program} {w : World} {S S2 : Nat → Prop}
theorem run_append_nil (t ty e : TypeId) (i : TypeInfo) (ht : P.underlying t = some (.slice e)) (hi : P.info? e = some i) (base : Option Addr) (n c : Nat) (hle : n ≤ c) :
    (Builtin.append_ #[t, t] ty #[.slice base n c, .slice none 0 0]).run P w = .ok (.slice base n c) w := by
  cases base <;> simp [Builtin.append_, Builtin.lenOf, Builtin.firstCells, run_underlying ht, sizeOf, typeInfo, hi, hle, storeCells]
theorem run_append_from (t ty e : TypeId) (i : TypeInfo) (z : Value) (bytes : Nat) (ht : P.underlying t = some (.slice e)) (hi : P.info? e = some i) (hz : i.zero = some z) (hsize : i.size = 1) (hby : i.bytes = bytes) (hzs : z.cells.size = 1)
    (v : Value) (n : Nat) (xs : List Value) (hown : Sl w S e 1 v n xs) (u : Value) (m : Nat) (ys : List Value) (hsrc : Sl w S2 e 1 u m ys) (h1 : ∀ y ∈ ys, y.oneCell' = true) (h63 : n + m ≤ maxLen) (hbytes : (n + m) * bytes ≤ 140737488355328) :
    ∃ v' w', (Builtin.append_ #[t, t] ty #[v, u]).run P w = .ok v' w' ∧ Sl w' (grow S w w') e 1 v' (n + m) (xs ++ ys) ∧ Fr (Arr S w e) w w' := by
  obtain ⟨a, c, rfl, hmc⟩ := hsrc.shape
  cases a with
  | some ad =>
    obtain ⟨hl, hc⟩ := hsrc.source
    exact run_append_sl t ty e i z 1 bytes ht hi hz hsize hby hzs (by decide) v n xs hown ad m c ys hl hc h1 h63 hbytes
  | none =>
    obtain ⟨hx, hv⟩ := hsrc
    rcases hv with ⟨hv, hm⟩ | ⟨b', off', cap', cs, hv, _⟩
    · cases hv
      have hy : ys = [] := List.eq_nil_of_length_eq_zero (by omega)
      subst hy
      obtain ⟨a2, c2, rfl, hnc⟩ := hown.shape
      refine ⟨_, w, run_append_nil t ty e i ht hi a2 n c2 ?_, ?_, Fr.refl _ _⟩
      · exact hnc
      · rw [List.append_nil]; exact hown.mono fun b _ q => Or.inl q
    · cases hv
theorem wpList_append_from {ops : Array Oper} {rest : List Oper} {o : Oper} {a : Act} {Q : Exit → Act → World → Prop}
    (hg : Region.wanted o (yielded ops a.tmps) = true) (s x : Operand) (t : TypeId) (hop : o.op = Op.call { callee := Callee.builtin Builtin.append, args := #[s, x], argTypes := #[t, t] })
    (e : TypeId) (i : TypeInfo) (z : Value) (bytes : Nat) (ht : P.underlying t = some (.slice e)) (h2 : P.info? e = some i) (h3 : i.zero = some z) (h4 : i.size = 1) (h5 : i.bytes = bytes) (h6 : z.cells.size = 1)
    (v : Value) (n : Nat) (xs : List Value) (hs : a.eval s = v) (hown : Sl w S e 1 v n xs) (u : Value) (m : Nat) (ys : List Value) (hx : a.eval x = u) (hsrc : Sl w S2 e 1 u m ys) (h1c : ∀ y ∈ ys, y.oneCell' = true)
    (b1 : n + m ≤ maxLen) (b2 : (n + m) * bytes ≤ 140737488355328)
    (hK : ∀ v' w', Sl w' (grow S w w') e 1 v' (n + m) (xs ++ ys) → Fr (Arr S w e) w w' → wpList P ops Q rest (a.put o.dst v') w') :
    wpList P ops Q (o :: rest) a w := by
  refine wpList_want hg fun K hK' => ?_
  obtain ⟨v', w', hrun, r1, r2⟩ := run_append_from (P := P) t o.type e i z bytes ht h2 h3 h4 h5 h6 v n xs hown u m ys hsrc h1c b1 b2
  unfold Oper.wp
  simp [execOp, hop, resolve, invoke, builtin, hs, hx, hrun, Result.andThen]
  exact hK' _ _ (hK v' w' r1 r2)
end
end Go.Proofs.YtgdlndpjfejmcaaGreat
/- Appends whose source is held, in regions with guards: elements of any size. -/
namespace Go.Proofs.YtgdlndpjfejmcaaGreat
open Go.RowKit
set_option linter.unusedVariables false
set_option maxRecDepth 100000
theorem wpList_want2 {P : Program} {ops : Array Oper} {Q : Exit → Act → World → Prop} {a : Act} {w : World} {rest : List Oper} {o : Oper} (hw : Region.wanted o (yielded ops a.tmps) = true)
    (h : ∀ K : Act → World → Prop, (∀ a w, wpList P ops Q rest a w → K a w) → o.wp P a w K Q) : wpList P ops Q (o :: rest) a w := by
  unfold wpList
  rw [if_pos hw]
  exact Or.inl (h _ (fun _ _ h => h))
/-- A held slice's cells. -/
theorem Sl.source2 {w : World} {S : Nat → Prop} {T : TypeId} {ad : Addr} {m c : Nat} {news : List Value} {sz : Nat} (h : Sl w S T sz (.slice (some ad) m c) m news) : news.length = m * sz ∧ ∀ j u, news[j]? = some u → w.cell? (ad.add j) = some u := by
  obtain ⟨h1, h2⟩ := h
  refine ⟨h1, fun j u hu => ?_⟩
  have hj := (List.getElem?_eq_some_iff.1 hu).1
  rcases h2 with ⟨h2, _⟩ | ⟨b', off', cap', cs, hv, hS, hb, hc, hm, hs, hx⟩
  · cases h2
  · simp at hv
    obtain ⟨rfl, rfl⟩ := hv
    have ha : (⟨b', off', none⟩ : Addr).add j = ⟨b', off' + j, none⟩ := by unfold Addr.add; split <;> simp_all
    rw [ha, cell_of_heap hb, hx j hj, hu]
section
variable {P : Program} {w : World} {S S2 : Nat → Prop}
theorem run_append_nil2 (t ty e : TypeId) (i : TypeInfo) (ht : P.underlying t = some (.slice e)) (hi : P.info? e = some i) (base : Option Addr) (n c : Nat) (hle : n ≤ c) :
    (Builtin.append_ #[t, t] ty #[.slice base n c, .slice none 0 0]).run P w = .ok (.slice base n c) w := by
  cases base <;> simp [Builtin.append_, Builtin.lenOf, Builtin.firstCells, run_underlying ht, sizeOf, typeInfo, hi, hle, storeCells]
theorem run_append_from2 (t ty e : TypeId) (i : TypeInfo) (z : Value) (sz bytes : Nat) (ht : P.underlying t = some (.slice e)) (hi : P.info? e = some i) (hz : i.zero = some z) (hsize : i.size = sz) (hby : i.bytes = bytes) (hzs : z.cells.size = sz) (hsz : 0 < sz)
    (v : Value) (n : Nat) (xs : List Value) (hown : Sl w S e sz v n xs) (u : Value) (m : Nat) (ys : List Value) (hsrc : Sl w S2 e sz u m ys) (h1 : ∀ y ∈ ys, y.oneCell' = true) (h63 : n + m ≤ maxLen) (hbytes : (n + m) * bytes ≤ 140737488355328) :
    ∃ v' w', (Builtin.append_ #[t, t] ty #[v, u]).run P w = .ok v' w' ∧ Sl w' (grow S w w') e sz v' (n + m) (xs ++ ys) ∧ Fr (Arr S w e) w w' := by
  obtain ⟨a, c, rfl, hmc⟩ := hsrc.shape
  cases a with
  | some ad =>
    obtain ⟨hl, hc⟩ := hsrc.source2
    exact run_append_sl t ty e i z sz bytes ht hi hz hsize hby hzs hsz v n xs hown ad m c ys hl hc h1 h63 hbytes
  | none =>
    obtain ⟨hx, hv⟩ := hsrc
    rcases hv with ⟨hv, hm⟩ | ⟨b', off', cap', cs, hv, _⟩
    · cases hv
      have hy : ys = [] := List.eq_nil_of_length_eq_zero (by omega)
      subst hy
      obtain ⟨a2, c2, rfl, hnc⟩ := hown.shape
      refine ⟨_, w, run_append_nil2 t ty e i ht hi a2 n c2 ?_, ?_, Fr.refl _ _⟩
      · exact hnc
      · rw [List.append_nil]; exact hown.mono fun b _ q => Or.inl q
    · cases hv
theorem wpList_append_from2 {ops : Array Oper} {rest : List Oper} {o : Oper} {a : Act} {Q : Exit → Act → World → Prop}
    (hg : Region.wanted o (yielded ops a.tmps) = true) (s x : Operand) (t : TypeId) (hop : o.op = Op.call { callee := Callee.builtin Builtin.append, args := #[s, x], argTypes := #[t, t] })
    (e : TypeId) (i : TypeInfo) (z : Value) (sz bytes : Nat) (ht : P.underlying t = some (.slice e)) (h2 : P.info? e = some i) (h3 : i.zero = some z) (h4 : i.size = sz) (h5 : i.bytes = bytes) (h6 : z.cells.size = sz) (h7 : 0 < sz)
    (v : Value) (n : Nat) (xs : List Value) (hs : a.eval s = v) (hown : Sl w S e sz v n xs) (u : Value) (m : Nat) (ys : List Value) (hx : a.eval x = u) (hsrc : Sl w S2 e sz u m ys) (h1c : ∀ y ∈ ys, y.oneCell' = true)
    (b1 : n + m ≤ maxLen) (b2 : (n + m) * bytes ≤ 140737488355328)
    (hK : ∀ v' w', Sl w' (grow S w w') e sz v' (n + m) (xs ++ ys) → Fr (Arr S w e) w w' → wpList P ops Q rest (a.put o.dst v') w') :
    wpList P ops Q (o :: rest) a w := by
  refine wpList_want2 hg fun K hK' => ?_
  obtain ⟨v', w', hrun, r1, r2⟩ := run_append_from2 (P := P) t o.type e i z sz bytes ht h2 h3 h4 h5 h6 h7 v n xs hown u m ys hsrc h1c b1 b2
  unfold Oper.wp
  simp [execOp, hop, resolve, invoke, builtin, hs, hx, hrun, Result.andThen]
  exact hK' _ _ (hK v' w' r1 r2)
end
end Go.Proofs.YtgdlndpjfejmcaaGreat
