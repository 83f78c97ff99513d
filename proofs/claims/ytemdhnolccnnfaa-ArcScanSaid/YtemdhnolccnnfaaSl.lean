/- Small laws on slices: a slice that reads as a list of cells, wherever in its array it begins. -/
import Derived.Test.YtemdhnolccnnfaaMem
namespace Go.Proofs.Ytemdhnolccnnfaa
open Go.RowKit
set_option linter.unusedVariables false

/-- v is a slice of n elements of sz cells each, which read as xs; its array lies in a block of S. -/
def Sl (w : World) (S : Nat → Prop) (T : TypeId) (sz : Nat) (v : Value) (n : Nat) (xs : List Value) : Prop :=
  xs.length = n * sz ∧ ((v = .slice none 0 0 ∧ n = 0) ∨
    ∃ b off cap c, v = .slice (some ⟨b, off, none⟩) n cap ∧ S b ∧ w.heap[b]? = some (.cells c T (0, 0)) ∧ n ≤ cap ∧ cap ≤ maxLen ∧ off + cap * sz ≤ c.size ∧ ∀ i, i < xs.length → c[off + i]? = xs[i]?)

theorem Sl.nil (w : World) (S : Nat → Prop) (T : TypeId) (sz : Nat) : Sl w S T sz (.slice none 0 0) 0 [] := ⟨by simp, Or.inl ⟨rfl, rfl⟩⟩
theorem Sl.frame {w w' : World} {S : Nat → Prop} {T : TypeId} {sz : Nat} {v : Value} {n : Nat} {xs : List Value} (h : Sl w S T sz v n xs) (hf : ∀ b, b < w.heap.size → S b → w'.heap[b]? = w.heap[b]?) : Sl w' S T sz v n xs := by
  obtain ⟨h1, h2⟩ := h
  refine ⟨h1, ?_⟩
  rcases h2 with h2 | ⟨b, off, cap, c, hv, hS, hb, r⟩
  · exact Or.inl h2
  · exact Or.inr ⟨b, off, cap, c, hv, hS, (hf b (lt_of_heap hb) hS).trans hb, r⟩
theorem Sl.mono {w : World} {S S' : Nat → Prop} {T : TypeId} {sz : Nat} {v : Value} {n : Nat} {xs : List Value} (h : Sl w S T sz v n xs) (hS : ∀ b, b < w.heap.size → S b → S' b) : Sl w S' T sz v n xs := by
  obtain ⟨h1, h2⟩ := h
  refine ⟨h1, ?_⟩
  rcases h2 with h2 | ⟨b, off, cap, c, hv, hSb, hb, r⟩
  · exact Or.inl h2
  · exact Or.inr ⟨b, off, cap, c, hv, hS b (lt_of_heap hb) hSb, hb, r⟩
theorem Sl.fr {w w' : World} {S F : Nat → Prop} {T : TypeId} {sz : Nat} {v : Value} {n : Nat} {xs : List Value} (h : Sl w S T sz v n xs) (hf : Fr F w w') (hd : ∀ b, b < w.heap.size → S b → ¬ F b) : Sl w' S T sz v n xs :=
  h.frame fun b hb hS => hf.block b hb (hd b hb hS)
/-- It stays, as long as the arrays of its type in S stay. -/
theorem Sl.keep {w w' : World} {S : Nat → Prop} {T : TypeId} {sz : Nat} {v : Value} {n : Nat} {xs : List Value} (h : Sl w S T sz v n xs)
    (hf : ∀ b c, S b → w.heap[b]? = some (.cells c T (0, 0)) → w'.heap[b]? = w.heap[b]?) : Sl w' S T sz v n xs := by
  obtain ⟨h1, h2⟩ := h
  refine ⟨h1, ?_⟩
  rcases h2 with h2 | ⟨b, off, cap, c, hv, hS, hb, r⟩
  · exact Or.inl h2
  · exact Or.inr ⟨b, off, cap, c, hv, hS, (hf b c hS hb).trans hb, r⟩
theorem Sl.setCell_other {w : World} {S : Nat → Prop} {T : TypeId} {sz : Nat} {v : Value} {n : Nat} {xs : List Value} (h : Sl w S T sz v n xs) {g : Nat} {c : Array Value} {T' : TypeId} {f : Nat × Nat}
    (hg : w.heap[g]? = some (.cells c T' f)) (hT : T' ≠ T) (i : Nat) (u : Value) : Sl (w.setCell ⟨g, i, none⟩ u) S T sz v n xs :=
  h.keep fun b c' _ hb => heap_setCell_other (fun e => by subst e; rw [hg] at hb; simp at hb; exact hT hb.2.1) u
theorem Sl.putObj_map {w : World} {S : Nat → Prop} {T : TypeId} {sz : Nat} {v : Value} {n : Nat} {xs : List Value} (h : Sl w S T sz v n xs) {m : Nat} {o : Obj} {q : IntKind} {l : List (Int × Value)}
    (hm : w.heap[m]? = some o) (ho : MapBlk q l o) (o' : Obj) : Sl (w.putObj m o') S T sz v n xs :=
  h.keep fun b c' _ hb => World.putObj_heap_other (fun e => by subst e; obtain ⟨es, clk, rfl, _⟩ := ho; rw [hm] at hb; cases hb)
/-- 's[1:]': where there is no room behind it the address stays. -/
theorem Sl.tail {w : World} {S : Nat → Prop} {T : TypeId} {b off cap n : Nat} {x : Value} {xs : List Value} (h : Sl w S T 1 (.slice (some ⟨b, off, none⟩) (n + 1) cap) (n + 1) (x :: xs)) :
    Sl w S T 1 (.slice (if cap = 1 then some ⟨b, off, none⟩ else some ⟨b, off + 1, none⟩) n (cap - 1)) n xs := by
  obtain ⟨h1, h2⟩ := h
  refine ⟨by simp at h1; omega, ?_⟩
  rcases h2 with ⟨_, h2⟩ | ⟨b', off', cap', c, hv, hS, hb, hc, hm, hs, hx⟩
  · omega
  · simp at hv
    obtain ⟨⟨rfl, rfl⟩, rfl⟩ := hv
    simp at h1
    by_cases e : cap = 1
    · subst e
      refine Or.inr ⟨b, off, 0, c, by simp, hS, hb, by omega, by unfold maxLen; omega, by omega, fun i hi => ?_⟩
      have : n = 0 := by omega
      omega
    · refine Or.inr ⟨b, off + 1, cap - 1, c, by simp [e], hS, hb, by omega, by omega, by omega, fun i hi => ?_⟩
      have := hx (i + 1) (by simp; omega)
      rw [show off + 1 + i = off + (i + 1) from by omega, this]; simp
/-- A slice that is not empty is written out. -/
theorem Sl.pos {w : World} {S : Nat → Prop} {T : TypeId} {sz : Nat} {v : Value} {n : Nat} {xs : List Value} (h : Sl w S T sz v n xs) (hn : 0 < n) :
    ∃ b off cap, v = .slice (some ⟨b, off, none⟩) n cap ∧ S b ∧ b < w.heap.size ∧ n ≤ cap ∧ (∀ i, i < xs.length → w.cell? ⟨b, off + i, none⟩ = xs[i]?) ∧ (∀ i, w.frozen? ⟨b, i, none⟩ = false) := by
  obtain ⟨h1, h2⟩ := h
  rcases h2 with ⟨_, h2⟩ | ⟨b, off, cap, c, hv, hS, hb, hc, hm, hs, hx⟩
  · omega
  · exact ⟨b, off, cap, hv, hS, lt_of_heap hb, hc, fun i hi => by rw [cell_of_heap hb]; exact hx i hi, fun i => fro_of_heap hb i⟩
/-- The value, whatever its length. -/
theorem Sl.shape {w : World} {S : Nat → Prop} {T : TypeId} {sz : Nat} {v : Value} {n : Nat} {xs : List Value} (h : Sl w S T sz v n xs) : ∃ a cap, v = .slice a n cap ∧ n ≤ cap := by
  obtain ⟨h1, h2⟩ := h
  rcases h2 with ⟨rfl, rfl⟩ | ⟨b, off, cap, c, rfl, hS, hb, hc, r⟩
  · exact ⟨none, 0, rfl, Nat.le_refl _⟩
  · exact ⟨_, cap, rfl, hc⟩
theorem Sl.of_owns {w : World} {base : Nat} {S : Nat → Prop} {T : TypeId} {sz : Nat} {v : Value} {n : Nat} {xs : List Value} (h : w.ownsRow base T sz v n xs) (hS : ∀ b, base ≤ b → b < w.heap.size → S b) : Sl w S T sz v n xs := by
  obtain ⟨h1, h2⟩ := h
  refine ⟨h1, ?_⟩
  rcases h2 with h2 | ⟨g, cap, cur, hv, hg, hh, hn, hm, hs, ht⟩
  · exact Or.inl h2
  · refine Or.inr ⟨g, 0, cap, cur, hv, hS g hg (lt_of_heap hh), hh, hn, hm, by omega, fun i hi => ?_⟩
    rw [Nat.zero_add, ← ht, List.getElem?_take, if_pos (by omega), Array.getElem?_toList]

theorem setCells_other (b : Nat) : ∀ (vs : List Value) (o : Nat) (w : World) (k : Nat), k ≠ b → (w.setCells b o vs).heap[k]? = w.heap[k]?
  | [], _, _, _, _ => rfl
  | v :: r, o, w, k, h => by
    show ((w.setCell ⟨b, o, none⟩ v).setCells b (o + 1) r).heap[k]? = _
    rw [setCells_other b r (o + 1) _ k h, heap_setCell_other h]
theorem setCells_streams (b : Nat) : ∀ (vs : List Value) (o : Nat) (w : World), (w.setCells b o vs).os = w.os ∧ (w.setCells b o vs).tape = w.tape ∧ (w.setCells b o vs).output = w.output ∧ (w.setCells b o vs).heap.size = w.heap.size
  | [], _, _ => ⟨rfl, rfl, rfl, rfl⟩
  | v :: r, o, w => by
    obtain ⟨h1, h2, h3, h4⟩ := setCells_streams b r (o + 1) (w.setCell ⟨b, o, none⟩ v)
    exact ⟨h1, h2, h3, h4.trans (by simp [World.setCell])⟩
theorem setCells_blk (b : Nat) (T : TypeId) (f : Nat × Nat) : ∀ (vs : List Value) (o : Nat) (w : World) (c : Array Value), w.heap[b]? = some (.cells c T f) → o + vs.length ≤ c.size →
    ∃ c', (w.setCells b o vs).heap[b]? = some (.cells c' T f) ∧ c'.size = c.size ∧ (∀ i, i < o → c'[i]? = c[i]?) ∧ (∀ i, i < vs.length → c'[o + i]? = vs[i]?) ∧ (∀ i, o + vs.length ≤ i → c'[i]? = c[i]?)
  | [], o, w, c, h, _ => ⟨c, h, rfl, fun _ _ => rfl, fun i hi => by simp at hi, fun _ _ => rfl⟩
  | v :: r, o, w, c, h, hl => by
    have hl' : o + 1 + r.length ≤ c.size := by simp at hl; omega
    obtain ⟨c', h1, h2, h3, h4, h5⟩ := setCells_blk b T f r (o + 1) (w.setCell ⟨b, o, none⟩ v) (c.setIfInBounds o v) (heap_setCell_same h o v) (by simpa using hl')
    refine ⟨c', h1, by simpa using h2, ?_, ?_, ?_⟩
    · intro i hi
      rw [h3 i (by omega), Array.getElem?_setIfInBounds_ne (by omega)]
    · intro i hi
      cases i with
      | zero => rw [Nat.add_zero, h3 o (by omega)]; rw [Array.getElem?_setIfInBounds_self_of_lt (by omega)]; rfl
      | succ i => rw [show o + (i + 1) = o + 1 + i from by omega, h4 i (by simpa using hi)]; rfl
    · intro i hi
      have hi' : o + 1 + r.length ≤ i := by simp at hi; omega
      rw [h5 i hi', Array.getElem?_setIfInBounds_ne (by omega)]
theorem Fr.setCells {S : Nat → Prop} (b : Nat) (hS : S b) (vs : List Value) (o : Nat) (w : World) : Fr S w (w.setCells b o vs) := by
  obtain ⟨h1, h2, h3, h4⟩ := setCells_streams b vs o w
  exact ⟨h1, h2, h3, by rw [h4]; exact Nat.le_refl _, fun k hk hn => setCells_other b vs o w k (fun e => hn (by rw [e]; exact hS))⟩

/-- What a structure owns behind a step: what it owned and what is new. -/
def grow (S : Nat → Prop) (w w' : World) (b : Nat) : Prop := S b ∨ (w.heap.size ≤ b ∧ b < w'.heap.size)

/-- The arrays of a type among what is owned. -/
def Arr (S : Nat → Prop) (w : World) (T : TypeId) (b : Nat) : Prop := S b ∧ ∃ c, w.heap[b]? = some (.cells c T (0, 0))
theorem Fr.arr {S : Nat → Prop} {w w' : World} {T : TypeId} (h : Fr (Arr S w T) w w') : Fr S w w' := h.mono fun _ _ h => h.1
/-- A block of another make stays. -/
theorem Fr.other {S : Nat → Prop} {w w' : World} {T : TypeId} (h : Fr (Arr S w T) w w') {g : Nat} {o : Obj} (hg : w.heap[g]? = some o) (ho : ∀ c, o ≠ .cells c T (0, 0)) : w'.heap[g]? = some o :=
  (h.block g (lt_of_heap hg) fun ⟨_, c, hc⟩ => ho c (Option.some.inj (hg.symm.trans hc))).trans hg
theorem Sl.alloc {w : World} {S : Nat → Prop} {T : TypeId} {sz : Nat} {v : Value} {n : Nat} {xs : List Value} (h : Sl w S T sz v n xs) (o : Obj) : Sl (w.alloc o) S T sz v n xs :=
  h.keep fun b c _ hb => heap_alloc_old o (lt_of_heap hb)

section
variable {P : Program} {w : World} {S : Nat → Prop}
theorem run_append_sl (t ty e : TypeId) (i : TypeInfo) (z : Value) (size bytes : Nat) (ht : P.underlying t = some (.slice e)) (hi : P.info? e = some i) (hz : i.zero = some z)
    (hsize : i.size = size) (hby : i.bytes = bytes) (hzs : z.cells.size = size) (hsz : 0 < size)
    (v : Value) (n : Nat) (xs : List Value) (hown : Sl w S e size v n xs)
    (a : Addr) (m c : Nat) (news : List Value) (hl : news.length = m * size) (hnews : ∀ j u, news[j]? = some u → w.cell? (a.add j) = some u) (h1 : ∀ u ∈ news, u.oneCell' = true)
    (h63 : n + m ≤ maxLen) (hbytes : (n + m) * bytes ≤ 140737488355328) :
    ∃ v' w', (Builtin.append_ #[t, t] ty #[v, .slice (some a) m c]).run P w = .ok v' w' ∧ Sl w' (grow S w w') e size v' (n + m) (xs ++ news) ∧ Fr (Arr S w e) w w' := by
  obtain ⟨hx, hv⟩ := hown
  have hlen : (xs ++ news).length = (n + m) * size := by rw [List.length_append, hx, hl, Nat.add_mul]
  have hgrown : ∀ {v' : Value} {w' : World}, w'.ownsRow w.heap.size e size v' (n + m) (xs ++ news) → Sl w' (grow S w w') e size v' (n + m) (xs ++ news) :=
    fun h => Sl.of_owns h fun b hb hb' => Or.inr ⟨hb, hb'⟩
  have hfr : ∀ {w' : World}, w.grownBy w' none → Fr (Arr S w e) w w' := fun h => (Fr.of_grown h).mono (fun k _ hk => by cases hk)
  rcases hv with ⟨rfl, rfl⟩ | ⟨b, off, cap, cur, rfl, hS, hb, hnc, hcm, hoc, hcx⟩
  · obtain ⟨v', w', hr, ho, hg, _⟩ := run_append_own (P := P) w w.heap.size t ty e i z size bytes ht hi hz hsize hby hzs hsz (.slice none 0 0) 0 [] (World.ownsRow_nil w _ e size) a m c news hl hnews h1 h63 hbytes (Nat.le_refl _)
    have hx0 : xs = [] := List.eq_nil_of_length_eq_zero (by simpa using hx)
    subst hx0
    exact ⟨v', w', hr, hgrown ho, hfr hg⟩
  · have hcell : ∀ j u, xs[j]? = some u → w.cell? ((⟨b, off, none⟩ : Addr).add j) = some u := by
      intro j u hu
      have hj := (List.getElem?_eq_some_iff.1 hu).1
      have ha : (⟨b, off, none⟩ : Addr).add j = ⟨b, off + j, none⟩ := by unfold Addr.add; split <;> simp_all
      rw [ha, cell_of_heap hb, hcx j hj, hu]
    by_cases hroom : n + m ≤ cap
    · subst hsize
      have hfit : off + n * i.size + news.length ≤ cur.size := by
        have : (n + m) * i.size ≤ cap * i.size := Nat.mul_le_mul_right _ hroom
        rw [Nat.add_mul] at this; rw [hl]; omega
      have hr := run_append_room_cells (P := P) w t ty e i ht hi b off n cap a m c news hl hnews h1 hroom
        (fun j hj => by rw [cell_of_heap hb, Array.getElem?_eq_getElem (by omega)]; rfl) (fun j hj => fro_of_heap hb _)
      obtain ⟨c', g1, g2, g3, g4, g5⟩ := setCells_blk b e (0, 0) news (off + n * i.size) w cur hb hfit
      refine ⟨_, _, hr, ⟨hlen, Or.inr ⟨b, off, cap, c', rfl, Or.inl hS, g1, hroom, hcm, by omega, ?_⟩⟩, Fr.setCells b ⟨hS, cur, hb⟩ _ _ w⟩
      intro j hj
      by_cases hjx : j < xs.length
      · rw [g3 _ (by omega), hcx j hjx, List.getElem?_append_left hjx]
      · rw [show off + j = off + n * i.size + (j - n * i.size) from by omega, g4 _ (by rw [hlen, Nat.add_mul] at hj; omega), List.getElem?_append_right (by omega), hx]
    · obtain ⟨v', w', hr, ho, hg⟩ := run_append_arg_grows (P := P) w t ty e i z size bytes ht hi hz hsize hby hzs hsz ⟨b, off, none⟩ n cap xs hx hcell a m c news hl hnews (by omega) h63 hbytes
      exact ⟨v', w', hr, hgrown ho, hfr hg⟩
theorem wpList_append_sl {ops : Array Oper} {rest : List Oper} {o : Oper} {a : Act} {Q : Exit → Act → World → Prop}
    (hg : o.guard = none) (s x : Operand) (t : TypeId) (hop : o.op = Op.call { callee := Callee.builtin Builtin.append, args := #[s, x], argTypes := #[t, t] })
    (e : TypeId) (i : TypeInfo) (z : Value) (size bytes : Nat) (h1 : P.underlying t = some (.slice e)) (h2 : P.info? e = some i) (h3 : i.zero = some z) (h4 : i.size = size) (h5 : i.bytes = bytes) (h6 : z.cells.size = size) (h7 : 0 < size)
    (v : Value) (n : Nat) (xs : List Value) (hs : a.eval s = v) (hown : Sl w S e size v n xs)
    (ad : Addr) (m c : Nat) (news : List Value) (hx : a.eval x = .slice (some ad) m c) (hn : news.length = m * size) (hc : ∀ j u, news[j]? = some u → w.cell? (ad.add j) = some u) (h1c : ∀ u ∈ news, u.oneCell' = true)
    (b1 : n + m ≤ maxLen) (b2 : (n + m) * bytes ≤ 140737488355328)
    (hK : ∀ v' w', Sl w' (grow S w w') e size v' (n + m) (xs ++ news) → Fr (Arr S w e) w w' → wpList P ops Q rest (a.put o.dst v') w') :
    wpList P ops Q (o :: rest) a w := by
  refine wpList_plain hg fun K hK' => ?_
  obtain ⟨v', w', hrun, r1, r2⟩ := run_append_sl (P := P) t o.type e i z size bytes h1 h2 h3 h4 h5 h6 h7 v n xs hown ad m c news hn hc h1c b1 b2
  unfold Oper.wp
  simp [execOp, hop, resolve, invoke, builtin, hs, hx, hrun, Result.andThen]
  exact hK' _ _ (hK v' w' r1 r2)
end
end Go.Proofs.Ytemdhnolccnnfaa
