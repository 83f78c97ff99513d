/- The symbolic executor: regions whose order is drawn: masks, floating blocks. -/
import Derived.Test.YtejebgdikoehmaaGreatDoorToC
import Derived.Orders
namespace Go.Proofs.YtejebgdikoehmaaGreatDoor
open Go Go.RowKit
set_option linter.unusedVariables false
set_option linter.unusedSimpArgs false
theorem masks_old : ∀ (ops : List Oper) (acc : List Nat) (j : Nat), j < acc.length → (masks ops acc)[j]? = acc[j]?
  | [], acc, j, h => rfl
  | o :: r, acc, j, h => by
    rw [masks, masks_old r _ j (by simp; omega), List.getElem?_append_left h]
theorem masks_get : ∀ (ops : List Oper) (acc : List Nat) (i : Nat) (o : Oper), ops[i]? = some o → ∃ pre : List Nat, (masks ops acc)[acc.length + i]? = some (maskOf pre o.after.toList) ∧ ∀ (j m : Nat), pre[j]? = some m → (masks ops acc)[j]? = some m
  | [], acc, i, o, h => by simp at h
  | q :: r, acc, 0, o, h => by
    simp at h
    subst h
    refine ⟨acc, ?_, fun j m hj => ?_⟩
    · rw [masks, masks_old r _ _ (by simp), Nat.add_zero, List.getElem?_append_right (Nat.le_refl _)]
      simp
    · have hlt := (List.getElem?_eq_some_iff.1 hj).1
      rw [masks, masks_old r _ j (by simp; omega), List.getElem?_append_left hlt]
      exact hj
  | q :: r, acc, i + 1, o, h => by
    simp at h
    obtain ⟨pre, h1, h2⟩ := masks_get r (acc ++ [maskOf acc q.after.toList]) i o h
    refine ⟨pre, ?_, h2⟩
    rw [masks, show acc.length + (i + 1) = (acc ++ [maskOf acc q.after.toList]).length + i from by simp; omega]
    exact h1
theorem maskOf_bit (acc : List Nat) (k : Nat) : ∀ {es : List Edge}, Nat.testBit (maskOf acc es) k = true → ∃ e ∈ es, Region.binds .any e = true ∧ (k = e.on ∨ ∃ m, acc[e.on]? = some m ∧ Nat.testBit m k = true)
  | [], h => by simp [maskOf] at h
  | e :: r, h => by
    unfold maskOf at h
    cases hb : Region.binds .any e with
    | false =>
      rw [hb, cond_false] at h
      obtain ⟨e', h1, h2⟩ := maskOf_bit acc k h
      exact ⟨e', List.mem_cons_of_mem _ h1, h2⟩
    | true =>
      rw [hb, cond_true, Nat.testBit_or, Nat.testBit_or] at h
      simp only [Bool.or_eq_true] at h
      rcases h with (h | h) | h
      · obtain ⟨e', h1, h2⟩ := maskOf_bit acc k h
        exact ⟨e', List.mem_cons_of_mem _ h1, h2⟩
      · rw [Nat.testBit_two_pow] at h
        exact ⟨e, List.mem_cons_self, hb, Or.inl (by simpa using (of_decide_eq_true h).symm)⟩
      · refine ⟨e, List.mem_cons_self, hb, Or.inr ?_⟩
        rw [List.getD_eq_getElem?_getD] at h
        cases hm : acc[e.on]? with
        | none => rw [hm] at h; simp at h
        | some m => rw [hm] at h; exact ⟨m, rfl, h⟩
/-- Who stands ahead: an edge's own, or whom that one waits for. -/
theorem mask_bit {ops : List Oper} {i k mk : Nat} {o : Oper} (ho : ops[i]? = some o) (hm : (masks ops [])[i]? = some mk) (hk : Nat.testBit mk k = true) : ∃ e ∈ o.after.toList, Region.binds .any e = true ∧ (k = e.on ∨ ∃ m, (masks ops [])[e.on]? = some m ∧ Nat.testBit m k = true) := by
  obtain ⟨pre, h1, h2⟩ := masks_get ops [] i o ho
  simp only [List.length_nil, Nat.zero_add] at h1
  rw [hm] at h1
  cases h1
  obtain ⟨e, g1, g2, g3⟩ := maskOf_bit pre k hk
  refine ⟨e, g1, g2, g3.imp_right ?_⟩
  rintro ⟨m, p1, p2⟩
  exact ⟨m, h2 _ _ p1, p2⟩
theorem masks_length : ∀ (ops : List Oper) (acc : List Nat), (masks ops acc).length = acc.length + ops.length
  | [], acc => by simp [masks]
  | o :: r, acc => by rw [masks, masks_length r]; simp; omega
/-- The block that an operation floats, where it is named and has not joined. -/
def flo (bits U : Nat) (rs : List Rec) (k j : Nat) : Option SObj := if Nat.testBit bits j = true ∧ Nat.testBit U j = false then (rs[j - k]?).bind (·.ob) else none
theorem merge_get (n0 bits U : Nat) : ∀ (rs : List Rec) (k : Nat) (h : Tr SObj) (m : Nat), n0 + k + rs.length ≤ 1000000 → (merge n0 bits U rs k h).get m = if n0 + k ≤ m then (match flo bits U rs k (m - n0) with | some ob => some ob | none => h.get m) else h.get m
  | [], k, h, m, hb => by
    have : flo bits U [] k (m - n0) = none := by unfold flo; split <;> simp
    simp only [merge, this]
    split <;> rfl
  | r :: rs, k, h, m, hb => by
    have hb' : n0 + (k + 1) + rs.length ≤ 1000000 := by simp at hb; omega
    have hput : ∀ ob, (h.put 24 (n0 + k) (some ob)).get m = if m = n0 + k then some ob else h.get m := fun ob => Tr.get_put 24 h (n0 + k) m _ (by simp at hb; omega)
    have hflo : n0 + (k + 1) ≤ m → flo bits U (r :: rs) k (m - n0) = flo bits U rs (k + 1) (m - n0) := by
      intro q
      unfold flo
      rw [show m - n0 - k = (m - n0 - (k + 1)) + 1 from by omega, List.getElem?_cons_succ]
    have hself : m = n0 + k → flo bits U (r :: rs) k (m - n0) = if Nat.testBit bits k = true ∧ Nat.testBit U k = false then r.ob else none := by
      intro q
      unfold flo
      rw [show m - n0 = k from by omega, Nat.sub_self]
      simp
    unfold merge
    cases hob : r.ob with
    | none =>
      simp only
      rw [merge_get n0 bits U rs (k + 1) h m hb']
      by_cases c1 : n0 + (k + 1) ≤ m
      · rw [if_pos c1, if_pos (by omega), hflo c1]
      · rw [if_neg c1]
        by_cases c2 : m = n0 + k
        · rw [if_pos (by omega), hself c2, hob]
          simp
        · rw [if_neg (by omega)]
    | some ob =>
      simp only
      cases hbt : (Nat.testBit bits k && !(Nat.testBit U k)) with
      | false =>
        rw [cond_false, merge_get n0 bits U rs (k + 1) h m hb']
        by_cases c1 : n0 + (k + 1) ≤ m
        · rw [if_pos c1, if_pos (by omega), hflo c1]
        · rw [if_neg c1]
          by_cases c2 : m = n0 + k
          · rw [if_pos (by omega), hself c2, if_neg (by rintro ⟨q1, q2⟩; rw [q1, q2] at hbt; cases hbt)]
          · rw [if_neg (by omega)]
      | true =>
        simp only [Bool.and_eq_true, Bool.not_eq_true'] at hbt
        rw [cond_true, merge_get n0 bits U rs (k + 1) _ m hb']
        by_cases c1 : n0 + (k + 1) ≤ m
        · rw [if_pos c1, if_pos (by omega), hflo c1, hput, if_neg (by omega)]
        · rw [if_neg c1, hput]
          by_cases c2 : m = n0 + k
          · rw [if_pos c2, if_pos (by omega), hself c2, if_pos hbt, hob]
          · rw [if_neg c2, if_neg (by omega)]
theorem merge_append (n0 bits U : Nat) : ∀ (rs more : List Rec) (k : Nat) (h : Tr SObj), (∀ j, k + rs.length ≤ j → Nat.testBit bits j = false) → merge n0 bits U (rs ++ more) k h = merge n0 bits U rs k h
  | [], [], k, h, hb => rfl
  | [], r :: more, k, h, hb => by
    rw [List.nil_append]
    unfold merge
    have hk := hb k (by simp)
    cases r.ob with
    | none => exact merge_append n0 bits U [] more (k + 1) h (fun j hj => hb j (by simp at hj ⊢; omega))
    | some ob =>
      simp only [hk, Bool.false_and, cond_false]
      exact merge_append n0 bits U [] more (k + 1) h (fun j hj => hb j (by simp at hj ⊢; omega))
  | r :: rs, more, k, h, hb => by
    rw [List.cons_append]
    unfold merge
    have ih := fun h => merge_append n0 bits U rs more (k + 1) h (fun j hj => hb j (by simp at hj ⊢; omega))
    cases r.ob with
    | none => exact ih h
    | some ob => simp only [ih]
end Go.Proofs.YtejebgdikoehmaaGreatDoor
/- The symbolic executor: what the run of a region whose order is drawn tells of each operation. -/
namespace Go.Proofs.YtejebgdikoehmaaGreatDoor
open Go Go.RowKit
set_option linter.unusedVariables false
set_option linter.unusedSimpArgs false
def cntE : List Rec → Nat
  | [] => 0
  | r :: rs => (if r.k = .eff then 1 else 0) + cntE rs
theorem cntE_append : ∀ (a b : List Rec), cntE (a ++ b) = cntE a + cntE b
  | [], b => by simp [cntE]
  | r :: a, b => by rw [List.cons_append, cntE, cntE, cntE_append a b]; omega
def Back (ops : List Oper) : Prop := ∀ (i : Nat) (o : Oper), ops[i]? = some o → ∀ e ∈ o.after.toList, Region.binds .any e = true → e.on < i
theorem mask_lt {ops : List Oper} (hb : Back ops) : ∀ (i k mk : Nat) (o : Oper), ops[i]? = some o → (masks ops [])[i]? = some mk → Nat.testBit mk k = true → k < i := by
  intro i
  induction i using Nat.strongRecOn with
  | _ i ih =>
    intro k mk o ho hm hk
    obtain ⟨e, g1, g2, g3⟩ := mask_bit ho hm hk
    have hlt := hb i o ho e g1 g2
    rcases g3 with rfl | ⟨m, p1, p2⟩
    · exact hlt
    · have hl : i < ops.length := (List.getElem?_eq_some_iff.1 ho).1
      have := ih e.on hlt k m ops[e.on] (List.getElem?_eq_getElem (by omega)) p1 p2
      omega
/-- One run's notes go on from another's. -/
structure Ext (d d' : DrawSt) : Prop where
  recs : ∃ x, d'.recs = d.recs ++ x
  ms : ∃ x, d'.ms = d.ms ++ x
  us : ∃ x, d'.us = d.us ++ x
theorem Ext.refl (d : DrawSt) : Ext d d := ⟨⟨[], by simp⟩, ⟨[], by simp⟩, ⟨[], by simp⟩⟩
theorem Ext.trans {a b c : DrawSt} (h : Ext a b) (k : Ext b c) : Ext a c := by
  obtain ⟨⟨x, h1⟩, ⟨y, h2⟩, ⟨z, h3⟩⟩ := h
  obtain ⟨⟨x', k1⟩, ⟨y', k2⟩, ⟨z', k3⟩⟩ := k
  exact ⟨⟨x ++ x', by rw [k1, h1, List.append_assoc]⟩, ⟨y ++ y', by rw [k2, h2, List.append_assoc]⟩, ⟨z ++ z', by rw [k3, h3, List.append_assoc]⟩⟩
theorem get_ext {α : Type} {a b : List α} (h : ∃ x, b = a ++ x) {i : Nat} {v : α} (hi : a[i]? = some v) : b[i]? = some v := by
  obtain ⟨x, rfl⟩ := h
  rw [List.getElem?_append_left (List.getElem?_eq_some_iff.1 hi).1]; exact hi
/-- What the run tells of an operation. -/
structure FactJ (E : Env) (callF : CallF) (ops : List Oper) (n0 : Nat) (d : DrawSt) (j : Nat) (o : Oper) (mk : Nat) (r : Rec) (M : St) (U : Nat) : Prop where
  r_ : d.recs[j]? = some r
  m : d.ms[cntE (d.recs.take j)]? = some M
  u : d.us[cntE (d.recs.take j)]? = some U
  k : r.k = kindO E o
  w : wantedS ops r.T o = some r.w
  pure : r.k = .pure → r.ob = none ∧ (bif r.w then sPure E r.T ⟨merge n0 mk U d.recs 0 M.h, M.n⟩ o else some undefV) = some r.v
  alloc : r.k = .alloc → (r.w = true ∧ ∃ f ob, sAlloc E r.T o = some (f, ob) ∧ r.v = f (n0 + j) ∧ r.ob = some ob) ∨ (r.w = false ∧ r.v = undefV ∧ r.ob = none)
  eff : r.k = .eff → r.ob = none ∧ ∃ M', d.ms[cntE (d.recs.take j) + 1]? = some M' ∧ d.us[cntE (d.recs.take j) + 1]? = some (U ||| mk) ∧
    (bif r.w then sEff E callF r.T o ⟨merge n0 mk U d.recs 0 M.h, M.n⟩ else some (undefV, ⟨merge n0 mk U d.recs 0 M.h, M.n⟩)) = some (r.v, M')
structure WfD (d : DrawSt) : Prop where
  ms : d.ms.length = cntE d.recs + 1
  us : d.us.length = cntE d.recs + 1
theorem last_at {α : Type} {l : List α} {v : α} {n : Nat} (hl : l.length = n + 1) (h : l.getLast? = some v) : l[n]? = some v := by
  rw [List.getLast?_eq_getElem?, hl, Nat.add_sub_cancel] at h; exact h
theorem drawStep_fact {E : Env} {callF : CallF} {ops : List Oper} {n0 mk : Nat} {o : Oper} {d d' : DrawSt} (h : drawStep E callF ops n0 mk o d = some d') (hw : WfD d) (hm : ∀ j, d.recs.length ≤ j → Nat.testBit mk j = false) :
    WfD d' ∧ Ext d d' ∧ ∃ r M U, r.T = d.T ∧ d'.recs = d.recs ++ [r] ∧ d'.T = putT d.T o.dst r.v ∧ ∀ dF, Ext d' dF → FactJ E callF ops n0 dF d.recs.length o mk r M U := by
  unfold drawStep at h
  split at h
  · rename_i M U hM hU
    have hM' := last_at hw.ms hM
    have hU' := last_at hw.us hU
    split at h
    · cases h
    · rename_i wn hwn
      have hmg : ∀ dF : DrawSt, (∃ x, dF.recs = d.recs ++ x) → merge n0 mk U dF.recs 0 M.h = merge n0 mk U d.recs 0 M.h := by
        rintro dF ⟨x, hx⟩
        rw [hx]
        exact merge_append n0 mk U d.recs x 0 M.h (fun j hj => hm j (by omega))
      have htk : ∀ dF : DrawSt, (∃ x, dF.recs = d.recs ++ x) → dF.recs.take d.recs.length = d.recs := by
        rintro dF ⟨x, hx⟩
        rw [hx, List.take_left]
      split at h
      · rename_i hk
        split at h
        · rename_i v hv
          cases h
          refine ⟨⟨by rw [cntE_append, hw.ms]; simp [cntE], by rw [cntE_append, hw.us]; simp [cntE]⟩, ⟨⟨_, rfl⟩, ⟨[], by simp⟩, ⟨[], by simp⟩⟩, ⟨d.T, v, wn, .pure, none⟩, M, U, rfl, rfl, rfl, fun dF hF => ?_⟩
          have hx : ∃ x, dF.recs = d.recs ++ x := by obtain ⟨x, hx⟩ := hF.recs; exact ⟨_, by rw [hx, List.append_assoc]⟩
          refine ⟨get_ext hF.recs (by simp), by rw [htk dF hx]; exact get_ext hF.ms hM', by rw [htk dF hx]; exact get_ext hF.us hU', hk.symm, hwn, fun _ => ⟨rfl, ?_⟩, fun q => (by cases q), fun q => (by cases q)⟩
          rw [hmg dF hx]
          exact hv
        · cases h
      · rename_i hk
        cases wn with
        | true =>
          rw [cond_true] at h
          split at h
          · rename_i f ob hs
            cases h
            refine ⟨⟨by rw [cntE_append, hw.ms]; simp [cntE], by rw [cntE_append, hw.us]; simp [cntE]⟩, ⟨⟨_, rfl⟩, ⟨[], by simp⟩, ⟨[], by simp⟩⟩, ⟨d.T, f (n0 + d.recs.length), true, .alloc, some ob⟩, M, U, rfl, rfl, rfl, fun dF hF => ?_⟩
            have hx : ∃ x, dF.recs = d.recs ++ x := by obtain ⟨x, hx⟩ := hF.recs; exact ⟨_, by rw [hx, List.append_assoc]⟩
            exact ⟨get_ext hF.recs (by simp), by rw [htk dF hx]; exact get_ext hF.ms hM', by rw [htk dF hx]; exact get_ext hF.us hU', hk.symm, hwn, fun q => (by cases q), fun _ => Or.inl ⟨rfl, f, ob, hs, rfl, rfl⟩, fun q => (by cases q)⟩
          · cases h
        | false =>
          rw [cond_false] at h
          cases h
          refine ⟨⟨by rw [cntE_append, hw.ms]; simp [cntE], by rw [cntE_append, hw.us]; simp [cntE]⟩, ⟨⟨_, rfl⟩, ⟨[], by simp⟩, ⟨[], by simp⟩⟩, ⟨d.T, undefV, false, .alloc, none⟩, M, U, rfl, rfl, rfl, fun dF hF => ?_⟩
          have hx : ∃ x, dF.recs = d.recs ++ x := by obtain ⟨x, hx⟩ := hF.recs; exact ⟨_, by rw [hx, List.append_assoc]⟩
          exact ⟨get_ext hF.recs (by simp), by rw [htk dF hx]; exact get_ext hF.ms hM', by rw [htk dF hx]; exact get_ext hF.us hU', hk.symm, hwn, fun q => (by cases q), fun _ => Or.inr ⟨rfl, rfl, rfl⟩, fun q => (by cases q)⟩
      · rename_i hk
        split at h
        · rename_i v M' hv
          cases h
          refine ⟨⟨by rw [cntE_append, List.length_append, hw.ms]; simp [cntE], by rw [cntE_append, List.length_append, hw.us]; simp [cntE]⟩, ⟨⟨_, rfl⟩, ⟨_, rfl⟩, ⟨_, rfl⟩⟩, ⟨d.T, v, wn, .eff, none⟩, M, U, rfl, rfl, rfl, fun dF hF => ?_⟩
          have hx : ∃ x, dF.recs = d.recs ++ x := by obtain ⟨x, hx⟩ := hF.recs; exact ⟨_, by rw [hx, List.append_assoc]⟩
          have hm2 : (d.ms ++ [M'])[cntE d.recs]? = some M := get_ext ⟨_, rfl⟩ hM'
          have hu2 : (d.us ++ [U ||| mk])[cntE d.recs]? = some U := get_ext ⟨_, rfl⟩ hU'
          have hm3 : (d.ms ++ [M'])[cntE d.recs + 1]? = some M' := by rw [← hw.ms]; simp
          have hu3 : (d.us ++ [U ||| mk])[cntE d.recs + 1]? = some (U ||| mk) := by rw [← hw.us]; simp
          refine ⟨get_ext hF.recs (by simp), by rw [htk dF hx]; exact get_ext hF.ms hm2, by rw [htk dF hx]; exact get_ext hF.us hu2, hk.symm, hwn, fun q => (by cases q), fun q => (by cases q), fun _ => ⟨rfl, M', ?_, ?_, ?_⟩⟩
          · rw [htk dF hx]; exact get_ext hF.ms hm3
          · rw [htk dF hx]; exact get_ext hF.us hu3
          · rw [hmg dF hx]; exact hv
        · cases h
  · cases h
end Go.Proofs.YtejebgdikoehmaaGreatDoor
/- The symbolic executor: the whole run of a region whose order is drawn. -/
namespace Go.Proofs.YtejebgdikoehmaaGreatDoor
open Go Go.RowKit
set_option linter.unusedVariables false
set_option linter.unusedSimpArgs false
/-- Slots behind the first j operations of the canonical run. -/
structure SlR (T0 : Sts) (ops : List Oper) (recs : List Rec) (j : Nat) (T : Sts) : Prop where
  old : ∀ t, (∀ (i : Nat) (o : Oper), i < j → ops[i]? = some o → o.dst ≠ some t) → T.get t = T0.get t
  new : ∀ (t i : Nat) (o : Oper) (r : Rec), i < j → ops[i]? = some o → o.dst = some t → recs[i]? = some r → T.get t = some r.v
def Dist (ops : List Oper) : Prop := ∀ (i j : Nat) (o o' : Oper) (t : Nat), ops[i]? = some o → ops[j]? = some o' → o.dst = some t → o'.dst = some t → i = j
theorem SlR.step {T0 T : Sts} {ops : List Oper} {recs : List Rec} {j n : Nat} {o : Oper} {r : Rec} (h : SlR T0 ops recs j T) (hd : Dist ops) (ho : ops[j]? = some o) (hr : recs[j]? = some r) (hn : dstOk n o = true) (hs : n ≤ 1000000) : SlR T0 ops recs (j + 1) (putT T o.dst r.v) := by
  have hget : ∀ t, (putT T o.dst r.v).get t = if o.dst = some t then some r.v else T.get t := by
    intro t
    unfold putT
    unfold dstOk at hn
    cases hdst : o.dst with
    | none => simp
    | some d =>
      rw [hdst] at hn
      simp only [nblt, decide_eq_true_eq] at hn
      simp only
      rw [Sts.get_put T d t _]
      by_cases e : t = d
      · subst e; rw [if_pos rfl, if_pos rfl]
      · rw [if_neg e, if_neg (by intro q; cases q; exact e rfl)]
  refine ⟨fun t ht => ?_, fun t i o' r' hi ho' hdst hr' => ?_⟩
  · rw [hget, if_neg (ht j o (Nat.lt_succ_self _) ho)]
    exact h.old t fun i o' hi => ht i o' (by omega)
  · rw [hget]
    by_cases e : i = j
    · subst e
      rw [ho] at ho'; cases ho'
      rw [hr] at hr'; cases hr'
      rw [if_pos hdst]
    · rw [if_neg (fun q => e (hd i j o' o t ho' ho hdst q))]
      exact h.new t i o' r' (by omega) ho' hdst hr'
theorem drawRun_fact {E : Env} {callF : CallF} {ops : List Oper} {n0 n : Nat} {T0 : Sts} (hd : Dist ops) (hb : Back ops) (hn : ∀ o ∈ ops, dstOk n o = true) (hs : n ≤ 1000000) : ∀ (l : List Oper) (ml : List Nat) (d dF : DrawSt) , drawRun E callF ops n0 l ml d = some dF → l = ops.drop d.recs.length → ml = (masks ops []).drop d.recs.length → d.recs.length ≤ ops.length → WfD d → (∀ recs, (∃ x, recs = d.recs ++ x) → SlR T0 ops recs d.recs.length d.T) →
    Ext d dF ∧ WfD dF ∧ dF.recs.length = ops.length ∧ SlR T0 ops dF.recs ops.length dF.T ∧
      ∀ (j : Nat) (o : Oper) (mk : Nat), d.recs.length ≤ j → ops[j]? = some o → (masks ops [])[j]? = some mk → ∃ r M U, FactJ E callF ops n0 dF j o mk r M U ∧ SlR T0 ops dF.recs j r.T
  | [], ml, d, dF, h, hl, hml, hle, hw, hsl => by
    unfold drawRun at h
    cases h
    have hlen : ops.length ≤ d.recs.length := by
      have := congrArg List.length hl
      simp at this
      omega
    have e : d.recs.length = ops.length := by omega
    refine ⟨Ext.refl _, hw, e, by have := hsl d.recs ⟨[], by simp⟩; rw [e] at this; exact this, fun j o mk hj ho => ?_⟩
    have := (List.getElem?_eq_some_iff.1 ho).1
    omega
  | o :: l, [], d, dF, h, hl, hml, hle, hw, hsl => by unfold drawRun at h; cases h
  | o :: l, mk :: ml, d, dF, h, hl, hml, hle, hw, hsl => by
    unfold drawRun at h
    split at h
    · rename_i d' hst
      have ho : ops[d.recs.length]? = some o := by
        have := congrArg (fun q : List Oper => q[0]?) hl
        simpa using this.symm
      have hm : (masks ops [])[d.recs.length]? = some mk := by
        have := congrArg (fun q : List Nat => q[0]?) hml
        simpa using this.symm
      have hbits : ∀ j, d.recs.length ≤ j → Nat.testBit mk j = false := by
        intro j hj
        cases hq : Nat.testBit mk j with
        | false => rfl
        | true => have := mask_lt hb _ j mk o ho hm hq; omega
      obtain ⟨w1, w2, r, M, U, w3, w4, w5, w6⟩ := drawStep_fact hst hw hbits
      have hlen' : d'.recs.length = d.recs.length + 1 := by rw [w4]; simp
      have hlt : d.recs.length < ops.length := (List.getElem?_eq_some_iff.1 ho).1
      have ih := drawRun_fact (T0 := T0) hd hb hn hs l ml d' dF h (by
        rw [hlen', ← List.drop_drop, ← hl, List.drop_one, List.tail_cons]) (by
        rw [hlen', ← List.drop_drop, ← hml, List.drop_one, List.tail_cons]) (by omega) w1 (by
        rintro recs ⟨x, hx⟩
        have h1 := hsl recs ⟨[r] ++ x, by rw [hx, w4, List.append_assoc]⟩
        rw [hlen', w5]
        exact h1.step hd ho (by rw [hx, w4]; simp) (hn o (List.mem_of_getElem? ho)) hs)
      obtain ⟨g1, g2, g3, g4, g5⟩ := ih
      refine ⟨w2.trans g1, g2, g3, g4, fun j o' mk' hj ho' hm' => ?_⟩
      by_cases e : j = d.recs.length
      · subst e
        rw [ho] at ho'; cases ho'
        rw [hm] at hm'; cases hm'
        refine ⟨r, M, U, w6 dF g1, ?_⟩
        rw [w3]
        exact hsl dF.recs (by obtain ⟨x, hx⟩ := g1.recs; exact ⟨[r] ++ x, by rw [hx, w4, List.append_assoc]⟩)
      · exact g5 j o' mk' (by omega) ho' hm'
    · cases h
end Go.Proofs.YtejebgdikoehmaaGreatDoor
/- The symbolic executor: counts of effects; what drawCheck tells; what merging tells. -/
namespace Go.Proofs.YtejebgdikoehmaaGreatDoor
open Go Go.RowKit
set_option linter.unusedVariables false
set_option linter.unusedSimpArgs false
/-- How many effects stand where p says. -/
def cntP (p : Nat → Bool) : List Rec → Nat → Nat
  | [], _ => 0
  | r :: rs, k => (if r.k = .eff ∧ p k = true then 1 else 0) + cntP p rs (k + 1)
theorem cntP_mono {p q : Nat → Bool} : ∀ (rs : List Rec) (k : Nat), (∀ j r, rs[j]? = some r → r.k = .eff → p (k + j) = true → q (k + j) = true) → cntP p rs k ≤ cntP q rs k
  | [], k, h => Nat.le_refl _
  | r :: rs, k, h => by
    have ih := cntP_mono rs (k + 1) (fun j r' hr he hp => by
      have := h (j + 1) r' (by simpa using hr) he (by rw [show k + (j + 1) = k + 1 + j from by omega]; exact hp)
      rw [show k + 1 + j = k + (j + 1) from by omega]; exact this)
    have h0 := h 0 r (by simp)
    rw [Nat.add_zero] at h0
    unfold cntP
    by_cases c : r.k = .eff ∧ p k = true
    · rw [if_pos c, if_pos ⟨c.1, h0 c.1 c.2⟩]; omega
    · rw [if_neg c]; omega
theorem cntP_congr {p q : Nat → Bool} (rs : List Rec) (k : Nat) (h : ∀ j r, rs[j]? = some r → r.k = .eff → p (k + j) = q (k + j)) : cntP p rs k = cntP q rs k :=
  Nat.le_antisymm (cntP_mono rs k fun j r hr he hp => by rw [← h j r hr he]; exact hp) (cntP_mono rs k fun j r hr he hp => by rw [h j r hr he]; exact hp)
theorem cntP_lt : ∀ (rs : List Rec) (k n : Nat), cntP (fun j => decide (j < n)) rs k = cntE (rs.take (n - k))
  | [], k, n => by simp [cntP, cntE]
  | r :: rs, k, n => by
    unfold cntP
    rw [cntP_lt rs (k + 1) n]
    by_cases c : k < n
    · rw [show n - k = (n - (k + 1)) + 1 from by omega, List.take_succ_cons, cntE]
      simp [c]
    · rw [show n - k = 0 from by omega, show n - (k + 1) = 0 from by omega]
      simp [c, cntE]
/-- One more. -/
theorem cntP_one {p q : Nat → Bool} {i : Nat} : ∀ (rs : List Rec) (k : Nat) (r : Rec), rs[i]? = some r → r.k = .eff → p (k + i) = false → q (k + i) = true → (∀ j, j ≠ i → q (k + j) = p (k + j)) → cntP q rs k = cntP p rs k + 1 := by
  induction i with
  | zero =>
    intro rs k r hr he hp hq ho
    cases rs with
    | nil => simp at hr
    | cons r' rs =>
      simp at hr
      subst hr
      rw [Nat.add_zero] at hp hq
      unfold cntP
      rw [if_pos ⟨he, hq⟩, if_neg (by rw [hp]; simp)]
      have := cntP_congr (p := q) (q := p) rs (k + 1) (fun j r' _ _ => by rw [show k + 1 + j = k + (j + 1) from by omega]; exact ho (j + 1) (by omega))
      omega
  | succ i ih =>
    intro rs k r hr he hp hq ho
    cases rs with
    | nil => simp at hr
    | cons r' rs =>
      unfold cntP
      have h0 := ho 0 (by omega)
      rw [Nat.add_zero] at h0
      have := ih rs (k + 1) r (by simpa using hr) he (by rw [show k + 1 + i = k + (i + 1) from by omega]; exact hp) (by rw [show k + 1 + i = k + (i + 1) from by omega]; exact hq) (fun j hj => by rw [show k + 1 + j = k + (j + 1) from by omega]; exact ho (j + 1) (by omega))
      rw [this, h0]
      omega
theorem loOf_eq (mk : Nat) : ∀ (rs : List Rec) (k : Nat), loOf mk rs k = cntP (Nat.testBit mk) rs k
  | [], k => rfl
  | r :: rs, k => by
    unfold loOf cntP
    rw [loOf_eq mk rs (k + 1)]
    by_cases c : r.k = .eff ∧ Nat.testBit mk k = true
    · rw [if_pos c]; simp [c.1, c.2]; omega
    · rw [if_neg c]
      have : (decide (r.k = .eff) && Nat.testBit mk k) = false := by
        cases hq : Nat.testBit mk k with
        | false => simp
        | true => simp; exact fun e => c ⟨e, hq⟩
      rw [this, cond_false, Nat.zero_add]
theorem hiOf_eq (i : Nat) (MK : List Nat) : ∀ (rs : List Rec) (ms : List Nat) (k : Nat), ms = MK.drop k → rs.length = ms.length → hiOf i rs ms = cntP (fun j => !(Nat.testBit (MK.getD j 0) i)) rs k
  | [], ms, k, h, hl => by unfold hiOf cntP; rfl
  | r :: rs, [], k, h, hl => by simp at hl
  | r :: rs, m :: ms, k, h, hl => by
    have hm : MK.getD k 0 = m := by
      have := congrArg (fun q : List Nat => q[0]?) h
      simp at this
      rw [List.getD_eq_getElem?_getD, ← this]; rfl
    have hms : ms = MK.drop (k + 1) := by rw [← List.drop_drop, ← h, List.drop_one, List.tail_cons]
    unfold hiOf cntP
    rw [hiOf_eq i MK rs ms (k + 1) hms (by simpa using hl)]
    by_cases c : r.k = .eff ∧ (!(Nat.testBit (MK.getD k 0) i)) = true
    · rw [if_pos c]
      have c2 := c.2
      rw [hm] at c2
      simp only [c.1, decide_true, Bool.true_and, c2, cond_true]
      omega
    · rw [if_neg c]
      have : (decide (r.k = .eff) && !(Nat.testBit m i)) = false := by
        rw [hm] at c
        cases hq : (!(Nat.testBit m i)) with
        | false => simp
        | true => simp; exact fun e => c ⟨e, hq⟩
      rw [this, cond_false, Nat.zero_add]
theorem sameAt_spec {E : Env} {n0 mk : Nat} {recs : List Rec} {o : Oper} {r : Rec} : ∀ (ms : List St) (us : List Nat) (skip cnt : Nat), sameAt E n0 recs mk o r ms us skip cnt = true → ∀ e, skip ≤ e → e < skip + cnt →
    ∃ M U v, ms[e]? = some M ∧ us[e]? = some U ∧ sPure E r.T ⟨merge n0 mk U recs 0 M.h, M.n⟩ o = some v ∧ veq v r.v = true
  | [], us, skip, cnt, h, e, h1, h2 => by
    have hc : cnt = 0 := by unfold sameAt at h; rw [nbeq] at h; exact of_decide_eq_true h
    omega
  | M :: ms, [], skip, cnt, h, e, h1, h2 => by
    have hc : cnt = 0 := by unfold sameAt at h; rw [nbeq] at h; exact of_decide_eq_true h
    omega
  | M :: ms, U :: us, skip, cnt, h, e, h1, h2 => by
    unfold sameAt at h
    rw [nbeq] at h
    by_cases c : skip = 0
    · subst c
      rw [decide_eq_true rfl, cond_true, nbeq] at h
      have hc : cnt ≠ 0 := by omega
      rw [decide_eq_false hc, cond_false, Bool.and_eq_true] at h
      obtain ⟨g1, g2⟩ := h
      cases e with
      | zero =>
        split at g1
        · rename_i v hv
          exact ⟨M, U, v, rfl, rfl, hv, g1⟩
        · cases g1
      | succ e =>
        obtain ⟨M', U', v, q1, q2, q3⟩ := sameAt_spec ms us 0 (cnt - 1) g2 e (by omega) (by omega)
        exact ⟨M', U', v, by simpa using q1, by simpa using q2, q3⟩
    · rw [decide_eq_false c, cond_false] at h
      obtain ⟨e', rfl⟩ : ∃ e', e = e' + 1 := ⟨e - 1, by omega⟩
      obtain ⟨M', U', v, q1, q2, q3⟩ := sameAt_spec ms us (skip - 1) cnt h e' (by omega) (by omega)
      exact ⟨M', U', v, by simpa using q1, by simpa using q2, q3⟩
theorem drawCheck_spec {E : Env} {n0 : Nat} {d : DrawSt} {am : List Nat} : ∀ (os : List Oper) (mks : List Nat) (rs : List Rec) (i : Nat), drawCheck E n0 d am os mks rs i = true → ∀ (j : Nat) (o : Oper) (mk : Nat) (r : Rec), os[j]? = some o → mks[j]? = some mk → rs[j]? = some r → r.k = .pure → r.w = true → quietOp o.op = false →
    loOf mk d.recs 0 = hiOf (i + j) d.recs am ∨ (loOf mk d.recs 0 ≤ hiOf (i + j) d.recs am ∧ sameAt E n0 d.recs mk o r d.ms d.us (loOf mk d.recs 0) (hiOf (i + j) d.recs am + 1 - loOf mk d.recs 0) = true)
  | [], mks, rs, i, h, j, o, mk, r, ho, hm, hr, hk, hw, hq => by simp at ho
  | _ :: _, [], rs, i, h, j, o, mk, r, ho, hm, hr, hk, hw, hq => by simp at hm
  | _ :: _, _ :: _, [], i, h, j, o, mk, r, ho, hm, hr, hk, hw, hq => by simp at hr
  | o' :: os, m' :: mks, r' :: rs, i, h, j, o, mk, r, ho, hm, hr, hk, hw, hq => by
    unfold drawCheck at h
    rw [Bool.and_eq_true] at h
    cases j with
    | zero =>
      simp at ho hm hr
      subst ho hm hr
      have h1 := h.1
      rw [hk, hw, hq] at h1
      simp only [decide_true, Bool.and_self, Bool.not_false, cond_true, Bool.or_eq_true, Bool.and_eq_true, nbeq, nble, decide_eq_true_eq] at h1
      exact h1
    | succ j =>
      have := drawCheck_spec os mks rs (i + 1) h.2 j o mk r (by simpa using ho) (by simpa using hm) (by simpa using hr) hk hw hq
      rw [show i + (j + 1) = i + 1 + j from by omega]
      exact this
end Go.Proofs.YtejebgdikoehmaaGreatDoor
/- The symbolic executor: values that are told alike; heaps with floating blocks. -/
namespace Go.Proofs.YtejebgdikoehmaaGreatDoor
open Go Go.RowKit
set_option linter.unusedVariables false
set_option linter.unusedSimpArgs false
theorem arr_empty {α : Type} {a : Array α} (h : a.toList.isEmpty = true) : a = #[] := by
  have := List.isEmpty_iff.1 h
  exact Array.toList_inj.1 (by simpa using this)
theorem veq1_eq {a b : Value} (h : veq1 a b = true) : a = b := by
  unfold veq1 at h
  split at h
  · simpa using h
  · simp only [Bool.and_eq_true, decide_eq_true_eq] at h; rw [h.1, h.2]
  · rename_i x y
    have : x.data.toList = y.data.toList := by simpa using h
    have := Array.toList_inj.1 this
    cases x; cases y; simp_all
  · simp only [decide_eq_true_eq] at h; rw [h]
  · simp only [Bool.and_eq_true, decide_eq_true_eq, nbeq] at h; obtain ⟨⟨h1, h2⟩, h3⟩ := h; rw [h1, h2, h3]
  · simp only [decide_eq_true_eq] at h; rw [h]
  · rfl
  · rfl
  · rename_i f x y g z u
    simp only [Bool.and_eq_true, nbeq, decide_eq_true_eq] at h
    obtain ⟨⟨⟨⟨h1, h2⟩, h3⟩, h4⟩, h5⟩ := h
    rw [h1, arr_empty h2, arr_empty h3, arr_empty h4, arr_empty h5]
  · simp only [Bool.and_eq_true] at h
    rw [arr_empty h.1, arr_empty h.2]
  · cases h
theorem veqs_eq : ∀ {a b : List Value}, veqs a b = true → a = b
  | [], [], h => rfl
  | x :: r, y :: s, h => by
    unfold veqs at h
    rw [Bool.and_eq_true] at h
    rw [veq1_eq h.1, veqs_eq h.2]
  | [], _ :: _, h => by unfold veqs at h; cases h
  | _ :: _, [], h => by unfold veqs at h; cases h
theorem veq2_eq {a b : Value} (h : veq2 a b = true) : a = b := by
  unfold veq2 at h
  split at h
  · rw [Array.toList_inj.1 (veqs_eq h)]
  · simp only [Bool.and_eq_true, nbeq, decide_eq_true_eq] at h
    rw [h.1, veq1_eq h.2]
  · exact veq1_eq h
theorem veqs2_eq : ∀ {a b : List Value}, veqs2 a b = true → a = b
  | [], [], h => rfl
  | x :: r, y :: s, h => by
    unfold veqs2 at h
    rw [Bool.and_eq_true] at h
    rw [veq2_eq h.1, veqs2_eq h.2]
  | [], _ :: _, h => by unfold veqs2 at h; cases h
  | _ :: _, [], h => by unfold veqs2 at h; cases h
theorem veq_eq {a b : Value} (h : veq a b = true) : a = b := by
  unfold veq at h
  split at h
  · rw [Array.toList_inj.1 (veqs2_eq h)]
  · exact veq2_eq h
/-- A part of what floats. -/
theorem mg_sub {n0 B mk U : Nat} {recs : List Rec} {H : Tr SObj} (hb : n0 + recs.length ≤ 1000000) (hm : ∀ k, Nat.testBit mk k = true → Nat.testBit B k = true) (hn : ∀ j, j < recs.length → Nat.testBit U j = false → H.get (n0 + j) = none) (m : Nat) (o : SObj)
    (h : (merge n0 mk U recs 0 H).get m = some o) : (merge n0 B U recs 0 H).get m = some o := by
  rw [merge_get n0 _ U recs 0 H m (by omega)] at h ⊢
  by_cases c : n0 + 0 ≤ m
  · rw [if_pos c] at h ⊢
    cases hf : flo mk U recs 0 (m - n0) with
    | some ob =>
      rw [hf] at h
      have hB : flo B U recs 0 (m - n0) = some ob := by
        unfold flo at hf ⊢
        split at hf
        · rename_i q
          rw [if_pos ⟨hm _ q.1, q.2⟩]; exact hf
        · cases hf
      rw [hB]; exact h
    | none =>
      rw [hf] at h
      cases hB : flo B U recs 0 (m - n0) with
      | none => exact h
      | some ob =>
        exfalso
        unfold flo at hB
        split at hB
        · rename_i q
          have hj : m - n0 < recs.length := by
            cases e : recs[m - n0 - 0]? with
            | none => rw [e] at hB; cases hB
            | some r => have := (List.getElem?_eq_some_iff.1 e).1; omega
          have := hn (m - n0) hj q.2
          rw [show n0 + (m - n0) = m from by omega] at this
          simp only at h
          rw [this] at h; cases h
        · cases hB
  · rw [if_neg c] at h ⊢; exact h
theorem mg_congr {n0 B B' U U' : Nat} {recs : List Rec} {H : Tr SObj} (hb : n0 + recs.length ≤ 1000000) (hf : ∀ j, flo B U recs 0 j = flo B' U' recs 0 j) (m : Nat) : (merge n0 B U recs 0 H).get m = (merge n0 B' U' recs 0 H).get m := by
  rw [merge_get n0 _ U recs 0 H m (by omega), merge_get n0 _ U' recs 0 H m (by omega), hf]
theorem testBit_ins (B i j : Nat) : Nat.testBit (B ||| 2 ^ i) j = (Nat.testBit B j || decide (i = j)) := by
  rw [Nat.testBit_or, Nat.testBit_two_pow]
end Go.Proofs.YtejebgdikoehmaaGreatDoor
/- The symbolic executor: the invariant of a region whose order is drawn. -/
namespace Go.Proofs.YtejebgdikoehmaaGreatDoor
open Go Go.RowKit
set_option linter.unusedVariables false
set_option linter.unusedSimpArgs false
/-- What a region's text must be. -/
structure Plan (E : Env) (ops : List Oper) (n : Nat) : Prop where
  back : Back ops
  dist : Dist ops
  dst : ∀ o ∈ ops, dstOk n o = true
  looks : ∀ (i : Nat) (o : Oper) (mk t : Nat), ops[i]? = some o → (masks ops [])[i]? = some mk → t ∈ tmpsOf ops o → ∀ (j : Nat) (o' : Oper), ops[j]? = some o' → o'.dst = some t → Nat.testBit mk j = true ∨ (i < j ∧ ∀ mk', (masks ops [])[j]? = some mk' → Nat.testBit mk' i = true)
  effs : ∀ (i j : Nat) (o o' : Oper) (mk : Nat), j < i → ops[i]? = some o → ops[j]? = some o' → kindO E o = .eff → kindO E o' = .eff → (masks ops [])[i]? = some mk → Nat.testBit mk j = true
structure Inv (D : List Deferred) (ops : List Oper) (n0 n : Nat) (d : DrawSt) (T0 : Sts) (σ0 : Rn) (S0 : St) (w0 : World) (B : Nat) (σ : Rn) (w : World) (a : Act) : Prop where
  lt : ∀ j, Nat.testBit B j = true → j < ops.length
  closed : ∀ (j mk : Nat), (masks ops [])[j]? = some mk → Nat.testBit B j = true → ∀ k, Nat.testBit mk k = true → Nat.testBit B k = true
  at_ : ∃ M U, d.ms[cntP (Nat.testBit B) d.recs 0]? = some M ∧ d.us[cntP (Nat.testBit B) d.recs 0]? = some U ∧ (∀ j, Nat.testBit U j = true → Nat.testBit B j = true) ∧
    (∀ j, j < ops.length → Nat.testBit U j = false → M.h.get (n0 + j) = none) ∧ n0 + ops.length ≤ M.n ∧ Post σ0 S0 w0 σ ⟨merge n0 B U d.recs 0 M.h, M.n⟩ w
  free : ∀ j, j < ops.length → (Nat.testBit B j = false ∨ (d.recs[j]?).bind (·.ob) = none) → σ (n0 + j) = none
  old : ∀ t v, (∀ (i : Nat) (o : Oper), Nat.testBit B i = true → ops[i]? = some o → o.dst ≠ some t) → T0.get t = some v → ∃ v', a.tmps[t]? = some v' ∧ VR σ v v'
  new : ∀ (t i : Nat) (o : Oper) (r : Rec), Nat.testBit B i = true → ops[i]? = some o → o.dst = some t → d.recs[i]? = some r → ∃ v', a.tmps[t]? = some v' ∧ VR σ r.v v'
  size : a.tmps.size = n
  small : n ≤ 1000000
  nod : a.defers = D
section
variable {D : List Deferred} {E : Env} {ops : List Oper} {n0 n : Nat} {d : DrawSt} {T0 : Sts} {σ0 σ : Rn} {S0 : St} {w0 w : World} {B : Nat} {a : Act}
/-- A slot that an operation looks at. -/
theorem Inv.slot (h : Inv D ops n0 n d T0 σ0 S0 w0 B σ w a) (hp : Plan E ops n) (hl : d.recs.length = ops.length) {i mk : Nat} {o : Oper} {T : Sts} (ho : ops[i]? = some o) (hm : (masks ops [])[i]? = some mk) (hB : ∀ k, Nat.testBit mk k = true → Nat.testBit B k = true) (hi : Nat.testBit B i = false)
    (hT : SlR T0 ops d.recs i T) {t : Nat} (ht : t ∈ tmpsOf ops o) {u : Value} (hu : T.get t = some u) : ∃ u', a.tmps[t]? = some u' ∧ VR σ u u' := by
  by_cases c : ∃ (j : Nat) (o' : Oper), j < i ∧ ops[j]? = some o' ∧ o'.dst = some t
  · obtain ⟨j, o', h1, h2, h3⟩ := c
    have hj : j < d.recs.length := by rw [hl]; exact (List.getElem?_eq_some_iff.1 h2).1
    have hr := List.getElem?_eq_getElem hj
    have := hT.new t j o' _ h1 h2 h3 hr
    rw [hu] at this
    cases this
    rcases hp.looks i o mk t ho hm ht j o' h2 h3 with q | ⟨q, _⟩
    · exact h.new t j o' _ (hB j q) h2 h3 hr
    · omega
  · rw [hT.old t (fun j o' h1 h2 h3 => c ⟨j, o', h1, h2, h3⟩)] at hu
    refine h.old t u (fun j o' h1 h2 h3 => ?_) hu
    rcases hp.looks i o mk t ho hm ht j o' h2 h3 with hb | ⟨_, q⟩
    · exact c ⟨j, o', mask_lt hp.back i j mk o ho hm hb, h2, h3⟩
    · have hjl := (List.getElem?_eq_some_iff.1 h2).1
      have hmj := List.getElem?_eq_getElem (show j < (masks ops []).length by rw [masks_length]; simpa using hjl)
      rw [h.closed j _ hmj h1 i (q _ hmj)] at hi
      cases hi
theorem Inv.aro (h : Inv D ops n0 n d T0 σ0 S0 w0 B σ w a) (hp : Plan E ops n) (hl : d.recs.length = ops.length) {i mk : Nat} {o : Oper} {T : Sts} (ho : ops[i]? = some o) (hm : (masks ops [])[i]? = some mk) (hB : ∀ k, Nat.testBit mk k = true → Nat.testBit B k = true) (hi : Nat.testBit B i = false)
    (hT : SlR T0 ops d.recs i T) : ARo σ T a.eval o := by
  intro x hx u hu
  cases x with
  | tmp t =>
    have ht : t ∈ tmpsOf ops o := by
      unfold tmpsOf
      refine List.mem_append_left _ (List.mem_filterMap.2 ⟨.tmp t, hx, rfl⟩)
    obtain ⟨u', h1, h2⟩ := h.slot hp hl ho hm hB hi hT ht hu
    have : a.eval (.tmp t) = u' := by simp [Act.eval, Array.getD_eq_getD_getElem?, h1]
    rw [this]; exact h2
  | const c =>
    simp only [evalO] at hu
    cases hq : plain c with
    | false => rw [hq] at hu; cases hu
    | true => rw [hq] at hu; cases hu; exact VR.of_plain hq
  | global g => simp only [evalO] at hu; cases hu
  | func f =>
    simp only [evalO] at hu
    cases hu
    exact VR.func f (x := []) (x' := []) (y := []) (y' := []) .nil .nil
theorem Inv.wanted (h : Inv D ops n0 n d T0 σ0 S0 w0 B σ w a) (hp : Plan E ops n) (hl : d.recs.length = ops.length) {i mk : Nat} {o : Oper} {T : Sts} (ho : ops[i]? = some o) (hm : (masks ops [])[i]? = some mk) (hB : ∀ k, Nat.testBit mk k = true → Nat.testBit B k = true) (hi : Nat.testBit B i = false)
    (hT : SlR T0 ops d.recs i T) {opsA : Array Oper} (hA : opsA.toList = ops) {b : Bool} (hw : wantedS ops T o = some b) : Region.wanted o (yielded opsA a.tmps) = b := by
  unfold wantedS at hw
  unfold Region.wanted
  cases hg : o.guard with
  | none => rw [hg] at hw; cases hw; rfl
  | some q =>
    obtain ⟨j, want⟩ := q
    rw [hg] at hw
    simp only at hw ⊢
    unfold yielded
    rw [← hA, Array.getElem?_toList] at hw
    cases hd : (opsA[j]?).bind (·.dst) with
    | none => rw [hd] at hw; cases hw
    | some t =>
      rw [hd] at hw
      simp only [Option.bind_some] at hw ⊢
      have ht : t ∈ tmpsOf ops o := by
        unfold tmpsOf
        refine List.mem_append_right _ ?_
        rw [hg]
        simp only
        rw [← hA, Array.getElem?_toList, hd]
        simp
      cases hu : T.get t with
      | none => rw [hu] at hw; cases hw
      | some u =>
        rw [hu] at hw
        obtain ⟨u', h1, h2⟩ := h.slot hp hl ho hm hB hi hT ht hu
        rw [h1]
        cases u with
        | bool b' =>
          cases h2
          simp only at hw ⊢
          cases hw
          rfl
        | tuple l =>
          cases hw
          obtain ⟨cs', rfl, _⟩ := h2.tuple'
          rfl
        | _ => cases hw
end
end Go.Proofs.YtejebgdikoehmaaGreatDoor
/- The symbolic executor: steps of a region whose order is drawn. -/
namespace Go.Proofs.YtejebgdikoehmaaGreatDoor
open Go Go.RowKit
set_option linter.unusedVariables false
set_option linter.unusedSimpArgs false
theorem put_ne {a : Act} {dst : Option Tmp} {v : Value} {t : Nat} (h : dst ≠ some t) : (a.put dst v).tmps[t]? = a.tmps[t]? := by
  unfold Act.put
  cases dst with
  | none => rfl
  | some d => exact Array.getElem?_setIfInBounds_ne (fun e => h (by rw [e]))
theorem put_self {a : Act} {v : Value} {t : Nat} (h : t < a.tmps.size) : (a.put (some t) v).tmps[t]? = some v := by
  unfold Act.put
  simp [h]
section
variable {D : List Deferred} {E : Env} {ops : List Oper} {n0 n : Nat} {d : DrawSt} {T0 : Sts} {σ0 σ σ' : Rn} {S0 : St} {w0 w w' : World} {B : Nat} {a : Act} {i mk : Nat} {o : Oper} {r : Rec} {v' : Value}
theorem bit_ins {j : Nat} : Nat.testBit (B ||| 2 ^ i) j = true ↔ Nat.testBit B j = true ∨ j = i := by
  rw [testBit_ins, Bool.or_eq_true, decide_eq_true_eq]
  exact ⟨fun h => h.imp_right Eq.symm, fun h => h.imp_right Eq.symm⟩
theorem bit_ins_f {j : Nat} : Nat.testBit (B ||| 2 ^ i) j = false ↔ Nat.testBit B j = false ∧ j ≠ i := by
  rw [testBit_ins, Bool.or_eq_false_iff, decide_eq_false_iff_not]
  exact ⟨fun h => ⟨h.1, fun q => h.2 q.symm⟩, fun h => ⟨h.1, fun q => h.2 q.symm⟩⟩
theorem Inv.next (h : Inv D ops n0 n d T0 σ0 S0 w0 B σ w a) (hp : Plan E ops n) (ho : ops[i]? = some o) (hr : d.recs[i]? = some r) (hm : (masks ops [])[i]? = some mk) (hB : ∀ k, Nat.testBit mk k = true → Nat.testBit B k = true) (hle : Le σ σ') (hv : VR σ' r.v v')
    (hat : ∃ M U, d.ms[cntP (Nat.testBit (B ||| 2 ^ i)) d.recs 0]? = some M ∧ d.us[cntP (Nat.testBit (B ||| 2 ^ i)) d.recs 0]? = some U ∧ (∀ j, Nat.testBit U j = true → Nat.testBit (B ||| 2 ^ i) j = true) ∧
      (∀ j, j < ops.length → Nat.testBit U j = false → M.h.get (n0 + j) = none) ∧ n0 + ops.length ≤ M.n ∧ Post σ0 S0 w0 σ' ⟨merge n0 (B ||| 2 ^ i) U d.recs 0 M.h, M.n⟩ w')
    (hfree : ∀ j, j < ops.length → (Nat.testBit (B ||| 2 ^ i) j = false ∨ (d.recs[j]?).bind (·.ob) = none) → σ' (n0 + j) = none) : Inv D ops n0 n d T0 σ0 S0 w0 (B ||| 2 ^ i) σ' w' (a.put o.dst v') := by
  have hsz := h.size
  refine ⟨fun j hj => ?_, fun j mk' hm' hj k hk => ?_, hat, hfree, fun t v ht hv0 => ?_, fun t j o' r' hj ho' hd hr' => ?_, ?_, h.small, ?_⟩
  · rcases bit_ins.1 hj with q | q
    · exact h.lt j q
    · rw [q]; exact (List.getElem?_eq_some_iff.1 ho).1
  · rcases bit_ins.1 hj with q | q
    · exact bit_ins.2 (Or.inl (h.closed j mk' hm' q k hk))
    · subst q
      rw [hm] at hm'; cases hm'
      exact bit_ins.2 (Or.inl (hB k hk))
  · have hne : o.dst ≠ some t := ht i o (bit_ins.2 (Or.inr rfl)) ho
    obtain ⟨u, h1, h2⟩ := h.old t v (fun j o' q1 q2 => ht j o' (bit_ins.2 (Or.inl q1)) q2) hv0
    exact ⟨u, (put_ne hne).trans h1, h2.mono hle⟩
  · by_cases e : j = i
    · subst e
      rw [ho] at ho'; cases ho'
      rw [hr] at hr'; cases hr'
      have hdo := hp.dst o (List.mem_of_getElem? ho)
      unfold dstOk at hdo
      rw [hd] at hdo ⊢
      simp only [nblt, decide_eq_true_eq] at hdo
      exact ⟨v', put_self (by omega), hv⟩
    · have hB' : Nat.testBit B j = true := (bit_ins.1 hj).resolve_right e
      obtain ⟨u, h1, h2⟩ := h.new t j o' r' hB' ho' hd hr'
      have hne : o.dst ≠ some t := fun q => e (hp.dist j i o' o t ho' ho hd q)
      exact ⟨u, (put_ne hne).trans h1, h2.mono hle⟩
  · unfold Act.put
    cases o.dst with
    | none => exact hsz
    | some d => simpa using hsz
  · unfold Act.put
    cases o.dst <;> exact h.nod
theorem cnt_same (hr : d.recs[i]? = some r) (hk : r.k ≠ .eff) : cntP (Nat.testBit (B ||| 2 ^ i)) d.recs 0 = cntP (Nat.testBit B) d.recs 0 := by
  refine cntP_congr d.recs 0 fun j r' hj he => ?_
  rw [Nat.zero_add, testBit_ins]
  have : i ≠ j := fun q => by subst q; rw [hr] at hj; cases hj; exact hk he
  simp [this]
/-- Nothing laid, nothing turned. -/
theorem Inv.quiet (h : Inv D ops n0 n d T0 σ0 S0 w0 B σ w a) (hp : Plan E ops n) (hl : d.recs.length = ops.length) (hn : n0 + ops.length ≤ 1000000) (ho : ops[i]? = some o) (hr : d.recs[i]? = some r) (hm : (masks ops [])[i]? = some mk) (hB : ∀ k, Nat.testBit mk k = true → Nat.testBit B k = true) (hi : Nat.testBit B i = false) (hv : VR σ r.v v')
    (hk : r.k ≠ .eff) (hob : r.ob = none) : Inv D ops n0 n d T0 σ0 S0 w0 (B ||| 2 ^ i) σ w (a.put o.dst v') := by
  obtain ⟨M, U, h1, h2, h3, h4, h5, h6⟩ := h.at_
  refine h.next hp ho hr hm hB (Le.refl _) hv ⟨M, U, by rw [cnt_same hr hk]; exact h1, by rw [cnt_same hr hk]; exact h2, fun j hj => bit_ins.2 (Or.inl (h3 j hj)), h4, h5, ?_⟩ (fun j hj hf => h.free j hj (hf.imp_left fun hf => (bit_ins_f.1 hf).1))
  refine Post.heapEq (S' := ⟨merge n0 B U d.recs 0 M.h, M.n⟩) h6 fun m ob hg => ?_
  rw [mg_congr (B' := B) (U' := U) (by rw [hl]; exact hn) ?_ m] at hg
  · exact hg
  · intro j
    unfold flo
    by_cases e : j = i
    · subst e
      rw [Nat.sub_zero, hr]
      simp [hob]
    · have : Nat.testBit (B ||| 2 ^ i) j = Nat.testBit B j := by rw [testBit_ins]; simp [Ne.symm e]
      rw [this]
/-- A block is laid that floats. -/
theorem Inv.laid (h : Inv D ops n0 n d T0 σ0 S0 w0 B σ w a) (hp : Plan E ops n) (hl : d.recs.length = ops.length) (hn : n0 + ops.length ≤ 1000000) (hS : S0.n ≤ n0) (ho : ops[i]? = some o) (hr : d.recs[i]? = some r) (hm : (masks ops [])[i]? = some mk) (hB : ∀ k, Nat.testBit mk k = true → Nat.testBit B k = true) (hi : Nat.testBit B i = false)
    (hk : r.k ≠ .eff) {f : Nat → Value} {ob : SObj} (hob : r.ob = some ob) (hrv : r.v = f (n0 + i)) (hL : Laid E σ w f ob v' w') : ∃ σ', Inv D ops n0 n d T0 σ0 S0 w0 (B ||| 2 ^ i) σ' w' (a.put o.dst v') := by
  obtain ⟨M, U, h1, h2, h3, h4, h5, h6⟩ := h.at_
  have hil : i < ops.length := (List.getElem?_eq_some_iff.1 ho).1
  have hUi : Nat.testBit U i = false := by
    cases q : Nat.testBit U i with
    | false => rfl
    | true => rw [h3 i q] at hi; cases hi
  obtain ⟨σ', g1, g2, g3, g4⟩ := Post.float (S1 := ⟨merge n0 B U d.recs 0 M.h, M.n⟩) h6 (i := n0 + i) (by omega) (show n0 + i < M.n by omega) (h.free i hil (Or.inl hi)) hL (K := merge n0 (B ||| 2 ^ i) U d.recs 0 M.h) (fun m q hg => by
    rw [merge_get n0 _ U d.recs 0 M.h m (by omega)] at hg
    by_cases e : m = n0 + i
    · left
      refine ⟨e, ?_⟩
      subst e
      rw [if_pos (by omega)] at hg
      have : flo (B ||| 2 ^ i) U d.recs 0 (n0 + i - n0) = some ob := by
        unfold flo
        rw [show n0 + i - n0 = i from by omega, if_pos ⟨bit_ins.2 (Or.inr rfl), hUi⟩, Nat.sub_zero, hr]
        exact hob
      rw [this] at hg
      cases hg; rfl
    · right
      refine ⟨e, ?_⟩
      change (merge n0 B U d.recs 0 M.h).get m = some q
      rw [merge_get n0 _ U d.recs 0 M.h m (by omega)]
      by_cases c : n0 + 0 ≤ m
      · rw [if_pos c] at hg ⊢
        have : flo (B ||| 2 ^ i) U d.recs 0 (m - n0) = flo B U d.recs 0 (m - n0) := by
          unfold flo
          have : Nat.testBit (B ||| 2 ^ i) (m - n0) = Nat.testBit B (m - n0) := by rw [testBit_ins]; simp; intro q; omega
          rw [this]
        rw [← this]; exact hg
      · rw [if_neg c] at hg ⊢; exact hg)
  refine ⟨σ', h.next hp ho hr hm hB g3 (by rw [hrv]; exact g2) ⟨M, U, by rw [cnt_same hr hk]; exact h1, by rw [cnt_same hr hk]; exact h2, fun j hj => bit_ins.2 (Or.inl (h3 j hj)), h4, h5, g1⟩ (fun j hj hf => ?_)⟩
  have hne : j ≠ i := by
    rintro rfl
    rcases hf with q | q
    · exact (bit_ins_f.1 q).2 rfl
    · rw [hr] at q; simp [hob] at q
  rw [g4 (n0 + j) (by omega)]
  exact h.free j hj (hf.imp_left fun hf => (bit_ins_f.1 hf).1)
end
end Go.Proofs.YtejebgdikoehmaaGreatDoor
/- The symbolic executor: reads and effects in a region whose order is drawn. -/
namespace Go.Proofs.YtejebgdikoehmaaGreatDoor
open Go Go.RowKit
set_option linter.unusedVariables false
set_option linter.unusedSimpArgs false
section
variable {D : List Deferred} {E : Env} {callF : CallF} {ops : List Oper} {n0 n : Nat} {d : DrawSt} {T0 : Sts} {σ0 σ σ' : Rn} {S0 : St} {w0 w w' : World} {B : Nat} {a : Act} {i mk : Nat} {o : Oper} {r : Rec} {v' : Value}
/-- What reads no heap tells the same of any. -/
theorem quiet_same {T : Sts} {S S' : St} (h : quietOp o.op = true) : sPure E T S o = sPure E T S' o := by
  obtain ⟨dst, op, ty, pos, after, guard⟩ := o
  cases op with
  | binOp b t x y u => cases b <;> first | rfl | cases h
  | makeFunc f a b => cases f <;> rfl
  | _ => first | rfl | cases h
/-- A floating read, wherever it stands. -/
theorem Inv.read (h : Inv D ops n0 n d T0 σ0 S0 w0 B σ w a) (hp : Plan E ops n) (hl : d.recs.length = ops.length) (hc : drawCheck E n0 d (masks ops []) ops (masks ops []) d.recs 0 = true) (ho : ops[i]? = some o) (hm : (masks ops [])[i]? = some mk) (hB : ∀ k, Nat.testBit mk k = true → Nat.testBit B k = true) (hi : Nat.testBit B i = false)
    {M0 : St} {U0 : Nat} (hf : FactJ E callF ops n0 d i o mk r M0 U0) (hk : r.k = .pure) (hw : r.w = true) :
    ∃ M U, d.ms[cntP (Nat.testBit B) d.recs 0]? = some M ∧ d.us[cntP (Nat.testBit B) d.recs 0]? = some U ∧ sPure E r.T ⟨merge n0 mk U d.recs 0 M.h, M.n⟩ o = some r.v := by
  cases hq : quietOp o.op with
  | true =>
    obtain ⟨M, U, q1, q2, _⟩ := h.at_
    refine ⟨M, U, q1, q2, ?_⟩
    have := (hf.pure hk).2
    rw [hw, cond_true] at this
    rw [← this]
    exact quiet_same hq
  | false =>
  have hMl : (masks ops []).length = ops.length := by rw [masks_length]; simp
  have hlo : cntP (Nat.testBit mk) d.recs 0 ≤ cntP (Nat.testBit B) d.recs 0 := cntP_mono _ _ fun j r' _ _ q => hB _ q
  have hMj : ∀ j r', d.recs[j]? = some r' → ∃ mk', (masks ops [])[j]? = some mk' ∧ (masks ops []).getD j 0 = mk' := by
    intro j r' hj
    have : j < (masks ops []).length := by rw [hMl, ← hl]; exact (List.getElem?_eq_some_iff.1 hj).1
    exact ⟨_, List.getElem?_eq_getElem this, by rw [List.getD_eq_getElem?_getD, List.getElem?_eq_getElem this]; rfl⟩
  have hhi : cntP (Nat.testBit B) d.recs 0 ≤ cntP (fun j => !(Nat.testBit ((masks ops []).getD j 0) i)) d.recs 0 := by
    refine cntP_mono _ _ fun j r' hj _ q => ?_
    rw [Nat.zero_add] at q ⊢
    obtain ⟨mk', g1, g2⟩ := hMj j r' hj
    rw [g2]
    cases e : Nat.testBit mk' i with
    | false => rfl
    | true => rw [h.closed j mk' g1 q i e] at hi; cases hi
  have hlo2 : cntP (Nat.testBit mk) d.recs 0 ≤ cntE (d.recs.take i) := by
    have := cntP_lt d.recs 0 i
    rw [Nat.sub_zero] at this
    rw [← this]
    exact cntP_mono _ _ fun j r' hj _ q => decide_eq_true (mask_lt hp.back i _ mk o ho hm q)
  have hhi2 : cntE (d.recs.take i) ≤ cntP (fun j => !(Nat.testBit ((masks ops []).getD j 0) i)) d.recs 0 := by
    have := cntP_lt d.recs 0 i
    rw [Nat.sub_zero] at this
    rw [← this]
    refine cntP_mono _ _ fun j r' hj _ q => ?_
    rw [Nat.zero_add] at q ⊢
    have q := of_decide_eq_true q
    obtain ⟨mk', g1, g2⟩ := hMj j r' hj
    rw [g2]
    cases e : Nat.testBit mk' i with
    | false => rfl
    | true =>
      have hjl : j < ops.length := by rw [← hl]; exact (List.getElem?_eq_some_iff.1 hj).1
      have := mask_lt hp.back j i mk' _ (List.getElem?_eq_getElem hjl) g1 e
      omega
  have hspec := drawCheck_spec ops (masks ops []) d.recs 0 hc i o mk r ho hm hf.r_ hk hw hq
  rw [loOf_eq, Nat.zero_add, hiOf_eq i (masks ops []) d.recs (masks ops []) 0 (by simp) (by rw [hMl, hl])] at hspec
  rcases hspec with q | ⟨q1, q2⟩
  · have hce : cntP (Nat.testBit B) d.recs 0 = cntE (d.recs.take i) := by omega
    rw [hce]
    refine ⟨M0, U0, hf.m, hf.u, ?_⟩
    have := (hf.pure hk).2
    rw [hw, cond_true] at this
    exact this
  · obtain ⟨M, U, v, g1, g2, g3, g4⟩ := sameAt_spec d.ms d.us _ _ q2 (cntP (Nat.testBit B) d.recs 0) hlo (by omega)
    exact ⟨M, U, g1, g2, by rw [g3, veq_eq g4]⟩
/-- An effect has its place among the effects. -/
theorem Inv.place (h : Inv D ops n0 n d T0 σ0 S0 w0 B σ w a) (hp : Plan E ops n) (hl : d.recs.length = ops.length) (hF : ∀ (j : Nat) (o : Oper) (r : Rec), ops[j]? = some o → d.recs[j]? = some r → r.k = kindO E o) (ho : ops[i]? = some o) (hm : (masks ops [])[i]? = some mk) (hB : ∀ k, Nat.testBit mk k = true → Nat.testBit B k = true) (hi : Nat.testBit B i = false)
    (hk : kindO E o = .eff) : cntP (Nat.testBit B) d.recs 0 = cntE (d.recs.take i) := by
  have := cntP_lt d.recs 0 i
  rw [Nat.sub_zero] at this
  rw [← this]
  refine cntP_congr _ _ fun j r' hj he => ?_
  rw [Nat.zero_add]
  have hjl : j < ops.length := by rw [← hl]; exact (List.getElem?_eq_some_iff.1 hj).1
  have hoj := List.getElem?_eq_getElem hjl
  have hkj := hF j _ r' hoj hj
  rw [he] at hkj
  have hMl : (masks ops []).length = ops.length := by rw [masks_length]; simp
  rcases Nat.lt_trichotomy j i with q | q | q
  · rw [decide_eq_true q]
    exact hB j (hp.effs i j o _ mk q ho hoj hk hkj.symm hm)
  · subst q; rw [hi]; simp
  · rw [decide_eq_false (by omega)]
    cases e : Nat.testBit B j with
    | false => rfl
    | true =>
      have hmj := List.getElem?_eq_getElem (show j < (masks ops []).length by omega)
      have := h.closed j _ hmj e i (hp.effs j i _ o _ q hoj ho hkj.symm hk hmj)
      rw [hi] at this; cases this
end
end Go.Proofs.YtejebgdikoehmaaGreatDoor
/- The symbolic executor: effects in a region whose order is drawn. -/
namespace Go.Proofs.YtejebgdikoehmaaGreatDoor
open Go Go.RowKit
set_option linter.unusedVariables false
set_option linter.unusedSimpArgs false
section
variable {D : List Deferred} {E : Env} {callF : CallF} {ops : List Oper} {n0 n : Nat} {d : DrawSt} {T0 : Sts} {σ0 σ σ' : Rn} {S0 : St} {w0 w w' : World} {B : Nat} {a : Act} {i mk : Nat} {o : Oper} {r : Rec} {v' : Value}
/-- Behind an effect. -/
theorem Inv.effect (h : Inv D ops n0 n d T0 σ0 S0 w0 B σ w a) (hp : Plan E ops n) (hl : d.recs.length = ops.length) (hn : n0 + ops.length ≤ 1000000) (ho : ops[i]? = some o) (hm : (masks ops [])[i]? = some mk) (hB : ∀ k, Nat.testBit mk k = true → Nat.testBit B k = true) (hi : Nat.testBit B i = false)
    (hr : d.recs[i]? = some r) (hk : r.k = .eff) (hob : r.ob = none) {M M' : St} {U : Nat} (hM : d.ms[cntP (Nat.testBit B) d.recs 0]? = some M) (hU : d.us[cntP (Nat.testBit B) d.recs 0]? = some U) (hM' : d.ms[cntP (Nat.testBit B) d.recs 0 + 1]? = some M') (hU' : d.us[cntP (Nat.testBit B) d.recs 0 + 1]? = some (U ||| mk))
    (hv : VR σ' r.v v') (hP : Post σ ⟨merge n0 mk U d.recs 0 M.h, M.n⟩ w σ' M' w') : Inv D ops n0 n d T0 σ0 S0 w0 (B ||| 2 ^ i) σ' w' (a.put o.dst v') := by
  obtain ⟨M1, U1, h1, h2, h3, h4, h5, h6⟩ := h.at_
  rw [hM] at h1; cases h1
  rw [hU] at h2; cases h2
  have hcnt : cntP (Nat.testBit (B ||| 2 ^ i)) d.recs 0 = cntP (Nat.testBit B) d.recs 0 + 1 := by
    refine cntP_one d.recs 0 r hr hk (by rw [Nat.zero_add]; exact hi) (by rw [Nat.zero_add]; exact bit_ins.2 (Or.inr rfl)) fun j hj => ?_
    rw [Nat.zero_add, testBit_ins]
    simp [Ne.symm hj]
  have hH1 : ∀ m q, (merge n0 mk U d.recs 0 M.h).get m = some q → (merge n0 B U d.recs 0 M.h).get m = some q := mg_sub (by omega) hB (fun j hj hu => h4 j (by omega) hu)
  have hor : ∀ j, Nat.testBit (U ||| mk) j = false → Nat.testBit U j = false ∧ Nat.testBit mk j = false := by
    intro j hj
    rw [Nat.testBit_or] at hj
    simpa using hj
  -- what floats beside stays unnamed
  have hnofl : ∀ j, j < ops.length → Nat.testBit (U ||| mk) j = false → M'.h.get (n0 + j) = none := by
    intro j hj hu
    obtain ⟨u1, u2⟩ := hor j hu
    cases hg : M'.h.get (n0 + j) with
    | none => rfl
    | some q =>
      exfalso
      obtain ⟨b, q', g1, g2, g3⟩ := hP.wr.obj _ _ hg
      have hσ : σ (n0 + j) = some b := (hP.new _ _ g1).resolve_right (by
        show ¬ M.n ≤ n0 + j
        omega)
      cases hb : (Nat.testBit B j) with
      | false => rw [h.free j hj (Or.inl hb)] at hσ; cases hσ
      | true =>
        cases ho' : (d.recs[j]?).bind (·.ob) with
        | none => rw [h.free j hj (Or.inr ho')] at hσ; cases hσ
        | some ob =>
          have hfl : (merge n0 B U d.recs 0 M.h).get (n0 + j) = some ob := by
            rw [merge_get n0 _ U d.recs 0 M.h _ (by omega), if_pos (by omega)]
            have : flo B U d.recs 0 (n0 + j - n0) = some ob := by
              unfold flo
              rw [show n0 + j - n0 = j from by omega, if_pos ⟨hb, u1⟩, Nat.sub_zero]; exact ho'
            rw [this]
          have hfl1 : (merge n0 mk U d.recs 0 M.h).get (n0 + j) = none := by
            rw [merge_get n0 _ U d.recs 0 M.h _ (by omega), if_pos (by omega)]
            have : flo mk U d.recs 0 (n0 + j - n0) = none := by
              unfold flo
              rw [show n0 + j - n0 = j from by omega, if_neg (by rw [u2]; simp)]
            rw [this]
            exact h4 j hj u1
          rcases hP.own b ⟨n0 + j, q, hg, g1⟩ with ⟨k, ok, p1, p2⟩ | p
          · have := h6.wr.inj k (n0 + j) b ok ob (hH1 k ok p1) hfl p2 hσ
            subst this
            change (merge n0 mk U d.recs 0 M.h).get (n0 + j) = some ok at p1
            rw [hfl1] at p1; cases p1
          · have := h6.wr.bnd _ _ hσ; omega
  have hfr := frame_rule (K := merge n0 (B ||| 2 ^ i) (U ||| mk) d.recs 0 M'.h) h6.wr hP hH1 (fun m q hg => by
    rw [merge_get n0 _ _ d.recs 0 M'.h m (by omega)] at hg
    by_cases c : n0 + 0 ≤ m
    · rw [if_pos c] at hg
      cases hf : flo (B ||| 2 ^ i) (U ||| mk) d.recs 0 (m - n0) with
      | none => rw [hf] at hg; exact Or.inl hg
      | some ob =>
        rw [hf] at hg
        cases hg
        right
        unfold flo at hf
        split at hf
        · rename_i hq
          obtain ⟨q1, q2⟩ := hq
          obtain ⟨u1, u2⟩ := hor _ q2
          rw [Nat.sub_zero] at hf
          have hji : m - n0 ≠ i := by
            intro e
            rw [e, hr] at hf
            simp [hob] at hf
          have hbj : Nat.testBit B (m - n0) = true := (bit_ins.1 q1).resolve_right hji
          have hjl : m - n0 < ops.length := h.lt _ hbj
          constructor
          · rw [merge_get n0 _ U d.recs 0 M.h _ (by omega), if_pos c]
            have : flo B U d.recs 0 (m - n0) = some q := by
              unfold flo
              rw [if_pos ⟨hbj, u1⟩, Nat.sub_zero]; exact hf
            rw [this]
          · rw [merge_get n0 _ U d.recs 0 M.h _ (by omega), if_pos c]
            have : flo mk U d.recs 0 (m - n0) = none := by
              unfold flo
              rw [if_neg (by rw [u2]; simp)]
            rw [this]
            have := h4 _ hjl u1
            rw [show n0 + (m - n0) = m from by omega] at this
            exact this
        · cases hf
    · rw [if_neg c] at hg
      exact Or.inl hg)
  refine h.next hp ho hr hm hB hP.le hv ⟨M', U ||| mk, by rw [hcnt]; exact hM', by rw [hcnt]; exact hU', fun j hj => ?_, hnofl, Nat.le_trans h5 hP.cnt, h6.trans hfr⟩ (fun j hj hf => ?_)
  · rw [Nat.testBit_or, Bool.or_eq_true] at hj
    exact bit_ins.2 (Or.inl (hj.elim (h3 j) (hB j)))
  · have hf' := h.free j hj (hf.imp_left fun hf => (bit_ins_f.1 hf).1)
    cases e : σ' (n0 + j) with
    | none => rfl
    | some b =>
      rcases hP.new _ _ e with q | q
      · rw [hf'] at q; cases q
      · change M.n ≤ n0 + j at q; omega
end
end Go.Proofs.YtejebgdikoehmaaGreatDoor
/- The symbolic executor: a region whose order is drawn. -/
namespace Go.Proofs.YtejebgdikoehmaaGreatDoor
open Go Go.RowKit
set_option linter.unusedVariables false
set_option linter.unusedSimpArgs false
def unl (B : Nat) : Nat → Nat
  | 0 => 0
  | m + 1 => (if Nat.testBit B m = true then 0 else 1) + unl B m
theorem unl_le {B B' : Nat} (h : ∀ j, Nat.testBit B j = true → Nat.testBit B' j = true) : ∀ m, unl B' m ≤ unl B m
  | 0 => Nat.le_refl _
  | m + 1 => by
    have := unl_le h m
    unfold unl
    by_cases c : Nat.testBit B m = true
    · rw [if_pos c, if_pos (h m c)]; omega
    · rw [if_neg c]; split <;> omega
theorem unl_lt {B B' i : Nat} (h : ∀ j, Nat.testBit B j = true → Nat.testBit B' j = true) (h1 : Nat.testBit B i = false) (h2 : Nat.testBit B' i = true) : ∀ m, i < m → unl B' m < unl B m
  | 0, hi => by omega
  | m + 1, hi => by
    unfold unl
    by_cases e : i = m
    · subst e
      rw [if_pos h2, if_neg (by rw [h1]; simp)]
      have := unl_le h i
      omega
    · have := unl_lt h h1 h2 m (by omega)
      by_cases c : Nat.testBit B m = true
      · rw [if_pos c, if_pos (h m c)]; omega
      · rw [if_neg c]; split <;> omega
theorem unl_zero {B : Nat} : ∀ m, unl B m = 0 → ∀ j, j < m → Nat.testBit B j = true
  | 0, _, j, hj => by omega
  | m + 1, h, j, hj => by
    unfold unl at h
    by_cases c : Nat.testBit B m = true
    · by_cases e : j = m
      · rw [e]; exact c
      · exact unl_zero m (by omega) j (by omega)
    · rw [if_neg c] at h; omega
section
variable {D : List Deferred} {E : Env} {callF : CallF} {opsA : Array Oper} {n0 n : Nat} {d : DrawSt} {T0 : Sts} {σ0 : Rn} {S0 : St} {w0 : World} {Q : Exit → Act → World → Prop}
/-- One operation that is ready. -/
theorem Inv.step (hT : TOk E) (hC : CallOk E.P callF) (hp : Plan E opsA.toList n) (hl : d.recs.length = opsA.toList.length) (hn : n0 + opsA.toList.length ≤ 1000000) (hS : S0.n ≤ n0)
    (hfact : ∀ (j : Nat) (o : Oper) (mk : Nat), opsA.toList[j]? = some o → (masks opsA.toList [])[j]? = some mk → ∃ r M U, FactJ E callF opsA.toList n0 d j o mk r M U ∧ SlR T0 opsA.toList d.recs j r.T)
    (hc : drawCheck E n0 d (masks opsA.toList []) opsA.toList (masks opsA.toList []) d.recs 0 = true) {B : Nat} {σ : Rn} {w : World} {a : Act} (h : Inv D opsA.toList n0 n d T0 σ0 S0 w0 B σ w a) {i mk : Nat} {o : Oper} (ho : opsA.toList[i]? = some o) (hm : (masks opsA.toList [])[i]? = some mk)
    (hB : ∀ k, Nat.testBit mk k = true → Nat.testBit B k = true) (hi : Nat.testBit B i = false) {K : Act → World → Prop} (hK : ∀ σ' w' a', Inv D opsA.toList n0 n d T0 σ0 S0 w0 (B ||| 2 ^ i) σ' w' a' → K a' w') : wpOp E.P opsA Q i K a w := by
  obtain ⟨r, M0, U0, hf, hsl⟩ := hfact i o mk ho hm
  have hr := hf.r_
  have hF : ∀ (j : Nat) (o : Oper) (r : Rec), opsA.toList[j]? = some o → d.recs[j]? = some r → r.k = kindO E o := by
    intro j o' r' ho' hr'
    have hj : j < (masks opsA.toList []).length := by rw [masks_length]; simpa using (List.getElem?_eq_some_iff.1 ho').1
    obtain ⟨r2, _, _, g, _⟩ := hfact j o' _ ho' (List.getElem?_eq_getElem hj)
    rw [g.r_] at hr'; cases hr'; exact g.k
  have hun : VR σ undefV undef := VR.tuple (x := []) (x' := []) .nil
  have hsub : ∀ {M : St} {U : Nat}, d.ms[cntP (Nat.testBit B) d.recs 0]? = some M → d.us[cntP (Nat.testBit B) d.recs 0]? = some U → WR σ ⟨merge n0 mk U d.recs 0 M.h, M.n⟩ w := by
    intro M U g1 g2
    obtain ⟨M1, U1, h1, h2, h3, h4, h5, h6⟩ := h.at_
    rw [g1] at h1; cases h1
    rw [g2] at h2; cases h2
    exact h6.wr.sub (mg_sub (by omega) hB (fun j hj hu => h4 j (by omega) hu))
  unfold wpOp
  rw [← Array.getElem?_toList, ho]
  simp only
  rw [h.wanted hp hl ho hm hB hi hsl rfl hf.w]
  cases hk : r.k with
  | pure =>
    obtain ⟨hob, hv⟩ := hf.pure hk
    cases hw : r.w with
    | false =>
      rw [hw, cond_false] at hv
      simp only [Bool.false_eq_true, if_false]
      exact hK σ w _ (h.quiet hp hl hn ho hr hm hB hi ((Option.some.inj hv : undefV = r.v) ▸ hun) (by rw [hk]; simp) hob)
    | true =>
      simp only [if_true]
      obtain ⟨M, U, g1, g2, g3⟩ := h.read hp hl hc ho hm hB hi hf hk hw
      obtain ⟨v', q1, q2⟩ := pure_sound hT (hsub g1 g2) (h.aro hp hl ho hm hB hi hsl) g3
      refine Or.inl (UponR.upon (R := fun v w'' => VR σ r.v v ∧ w'' = w) ?_ fun v w'' hvw => ?_)
      · rw [q1]; exact ⟨q2, rfl⟩
      · obtain ⟨q3, rfl⟩ := hvw
        exact hK σ w'' _ (h.quiet hp hl hn ho hr hm hB hi q3 (by rw [hk]; simp) hob)
  | alloc =>
    rcases hf.alloc hk with ⟨hw, f, ob, q1, q2, q3⟩ | ⟨hw, q1, q2⟩
    · rw [hw]
      simp only [if_true]
      obtain ⟨v', w', g1, g2⟩ := alloc_sound (σ := σ) (w := w) hT (h.aro hp hl ho hm hB hi hsl) q1
      obtain ⟨σ', g3⟩ := h.laid hp hl hn hS ho hr hm hB hi (by rw [hk]; simp) q3 q2 g2
      refine Or.inl (UponR.upon (R := fun v w'' => v = v' ∧ w'' = w') ?_ fun v w'' hvw => ?_)
      · rw [g1]; exact ⟨rfl, rfl⟩
      · obtain ⟨rfl, rfl⟩ := hvw
        exact hK σ' _ _ g3
    · rw [hw]
      simp only [Bool.false_eq_true, if_false]
      exact hK σ w _ (h.quiet hp hl hn ho hr hm hB hi (by rw [q1]; exact hun) (by rw [hk]; simp) q2)
  | eff =>
    obtain ⟨hob, M', g1, g2, g3⟩ := hf.eff hk
    have hpl := h.place hp hl hF ho hm hB hi (by rw [← hf.k]; exact hk)
    rw [← hpl] at g1 g2
    have hM := hf.m
    have hU := hf.u
    rw [← hpl] at hM hU
    cases hw : r.w with
    | false =>
      rw [hw, cond_false] at g3
      simp only [Bool.false_eq_true, if_false]
      have e := (Prod.mk.inj (Option.some.inj g3)).1
      have e2 := (Prod.mk.inj (Option.some.inj g3)).2
      subst e2
      exact hK σ w _ (h.effect hp hl hn ho hm hB hi hr hk hob hM hU g1 g2 (by rw [← e]; exact hun) (Post.refl (hsub hM hU)))
    | true =>
      rw [hw, cond_true] at g3
      simp only [if_true]
      refine Or.inl ((eff_sound hT hC (hsub hM hU) (h.aro hp hl ho hm hB hi hsl) g3).upon fun v' w' hvw => ?_)
      obtain ⟨σ', q1, q2⟩ := hvw
      exact hK σ' w' _ (h.effect hp hl hn ho hm hB hi hr hk hob hM hU g1 g2 q1 q2)
end
end Go.Proofs.YtejebgdikoehmaaGreatDoor
/- The symbolic executor: a region whose order is drawn, whole. -/
namespace Go.Proofs.YtejebgdikoehmaaGreatDoor
open Go Go.RowKit
set_option linter.unusedVariables false
set_option linter.unusedSimpArgs false
section
variable {D : List Deferred} {E : Env} {callF : CallF} {opsA : Array Oper} {n0 n : Nat} {d : DrawSt} {T0 : Sts} {σ0 : Rn} {S0 : St} {w0 : World} {Q : Exit → Act → World → Prop}
theorem ready_iff {L : Array Bool} {i : Nat} : i ∈ Region.ready .any opsA L ↔ ∃ o, opsA[i]? = some o ∧ L.getD i true = false ∧ ∀ e ∈ o.after.toList, Region.binds .any e = true → L.getD e.on false = true := by
  unfold Region.ready
  rw [List.mem_filter, List.mem_range]
  constructor
  · rintro ⟨h1, h2⟩
    rw [Bool.and_eq_true] at h2
    obtain ⟨h2, h3⟩ := h2
    rw [Array.getElem?_eq_getElem h1] at h3 ⊢
    refine ⟨_, rfl, by simpa using h2, fun e he hb => ?_⟩
    simp only [Option.map_some, Option.getD_some, Array.all_eq_true_iff_forall_mem] at h3
    have := h3 e (by simpa using he)
    rw [hb] at this
    simpa using this
  · rintro ⟨o, h1, h2, h3⟩
    have hlt : i < opsA.size := (Array.getElem?_eq_some_iff.1 h1).1
    refine ⟨hlt, ?_⟩
    rw [Bool.and_eq_true]
    refine ⟨by rw [h2]; rfl, ?_⟩
    rw [h1]
    simp only [Option.map_some, Option.getD_some, Array.all_eq_true_iff_forall_mem]
    intro e he
    cases hb : Region.binds .any e with
    | false => rfl
    | true => simpa using h3 e (by simpa using he) hb
theorem draw_any (hT : TOk E) (hC : CallOk E.P callF) (hp : Plan E opsA.toList n) (hl : d.recs.length = opsA.toList.length) (hn : n0 + opsA.toList.length ≤ 1000000) (hS : S0.n ≤ n0)
    (hfact : ∀ (j : Nat) (o : Oper) (mk : Nat), opsA.toList[j]? = some o → (masks opsA.toList [])[j]? = some mk → ∃ r M U, FactJ E callF opsA.toList n0 d j o mk r M U ∧ SlR T0 opsA.toList d.recs j r.T)
    (hc : drawCheck E n0 d (masks opsA.toList []) opsA.toList (masks opsA.toList []) d.recs 0 = true)
    (hQ : ∀ σ w a B, (∀ j, j < opsA.size → Nat.testBit B j = true) → Inv D opsA.toList n0 n d T0 σ0 S0 w0 B σ w a → Q .normal a w) : ∀ (fuel : Nat) (L : Array Bool) (B : Nat) (σ : Rn) (w : World) (a : Act), L.size = opsA.size → (∀ j, j < opsA.size → L[j]? = some (Nat.testBit B j)) → unl B opsA.size ≤ fuel →
      Inv D opsA.toList n0 n d T0 σ0 S0 w0 B σ w a → wpAny E.P .any opsA Q fuel L a w := by
  intro fuel
  have getD : ∀ (L : Array Bool) (B : Nat), (∀ j, j < opsA.size → L[j]? = some (Nat.testBit B j)) → ∀ j b, j < opsA.size → L.getD j b = Nat.testBit B j := by
    intro L B hL j b hj
    rw [Array.getD_eq_getD_getElem?, hL j hj]; rfl
  have full : ∀ (L : Array Bool) (B : Nat), (∀ j, j < opsA.size → L[j]? = some (Nat.testBit B j)) → Region.ready .any opsA L = [] → ∀ j, j < opsA.size → Nat.testBit B j = true := by
    intro L B hL he j
    induction j using Nat.strongRecOn with
    | _ j ih =>
      intro hj
      cases hb : Nat.testBit B j with
      | true => rfl
      | false =>
        exfalso
        have : j ∈ Region.ready .any opsA L := ready_iff.2 ⟨opsA[j], Array.getElem?_eq_getElem hj, by rw [getD L B hL j true hj]; exact hb, fun e he2 hbd => by
          have hlt := hp.back j opsA[j] (by rw [Array.getElem?_toList]; exact Array.getElem?_eq_getElem hj) e he2 hbd
          rw [getD L B hL e.on false (by omega)]
          exact ih e.on hlt (by omega)⟩
        rw [he] at this
        cases this
  induction fuel with
  | zero =>
    intro L B σ w a hLs hL hf h
    have hz := unl_zero opsA.size (Nat.le_zero.1 hf)
    refine ⟨?_, hQ σ w a B hz h⟩
    apply List.eq_nil_iff_forall_not_mem.2
    intro i hi
    obtain ⟨o, h1, h2, _⟩ := ready_iff.1 hi
    have hlt : i < opsA.size := (Array.getElem?_eq_some_iff.1 h1).1
    rw [getD L B hL i true hlt, hz i hlt] at h2
    cases h2
  | succ fuel ih =>
    intro L B σ w a hLs hL hf h
    refine ⟨fun he => hQ σ w a B (full L B hL he) h, fun i hi => ?_⟩
    obtain ⟨o, h1, h2, h3⟩ := ready_iff.1 hi
    have hlt : i < opsA.size := (Array.getElem?_eq_some_iff.1 h1).1
    rw [getD L B hL i true hlt] at h2
    have ho : opsA.toList[i]? = some o := by rw [Array.getElem?_toList]; exact h1
    have hml : (masks opsA.toList []).length = opsA.size := by rw [masks_length]; simp
    have hm := List.getElem?_eq_getElem (show i < (masks opsA.toList []).length by omega)
    have hB : ∀ k, Nat.testBit (masks opsA.toList [])[i] k = true → Nat.testBit B k = true := by
      intro k hk
      obtain ⟨e, g1, g2, g3⟩ := mask_bit ho hm hk
      have hlt' := hp.back i o ho e g1 g2
      have hon := h3 e g1 g2
      rw [getD L B hL e.on false (by omega)] at hon
      rcases g3 with rfl | ⟨m, p1, p2⟩
      · exact hon
      · exact h.closed e.on m p1 hon k p2
    refine h.step hT hC hp hl hn hS hfact hc ho hm hB h2 fun σ' w' a' h' => ih _ (B ||| 2 ^ i) σ' w' a' (by simpa using hLs) (fun j hj => ?_) ?_ h'
    · rw [Array.getElem?_setIfInBounds]
      by_cases e : i = j
      · subst e
        rw [if_pos rfl, if_pos (by omega)]
        rw [show Nat.testBit (B ||| 2 ^ i) i = true from bit_ins.2 (Or.inr rfl)]
      · rw [if_neg e, hL j hj, testBit_ins]
        simp [e]
    · have := unl_lt (B := B) (B' := B ||| 2 ^ i) (i := i) (fun j hj => bit_ins.2 (Or.inl hj)) h2 (bit_ins.2 (Or.inr rfl)) opsA.size hlt
      omega
end
end Go.Proofs.YtejebgdikoehmaaGreatDoor
/- The symbolic executor: a region whose order is drawn is told right. -/
namespace Go.Proofs.YtejebgdikoehmaaGreatDoor
open Go Go.RowKit
set_option linter.unusedVariables false
set_option linter.unusedSimpArgs false
section
variable {D : List Deferred} {E : Env} {callF : CallF} {opsA : Array Oper} {n : Nat} {T T' : Sts} {σ : Rn} {S S' : St} {w : World} {a : Act} {Q : Exit → Act → World → Prop}
theorem sDraw_any (hT : TOk E) (hC : CallOk E.P callF) (hmix : E.P.follows .mixedOrders = true) (hp : Plan E opsA.toList n) (hw : WR σ S w) (hA : AR D σ n T a) (h : sDraw E callF opsA.toList T S = some (T', S')) (hq : ∀ a' w', Goes D σ S w n T' S' a' w' → Q .normal a' w') : wpAny E.P .any opsA Q opsA.size (Array.replicate opsA.size false) a { w with drawn := w.drawn + 1 } := by
  unfold sDraw at h
  cases hb : Nat.blt (S.n + opsA.toList.length) 1000000 with
  | false => rw [hb] at h; cases h
  | true =>
    rw [hb, cond_true] at h
    rw [nblt] at hb
    have hb := of_decide_eq_true hb
    split at h
    · cases h
    · rename_i d hrun
      cases hc : drawCheck E S.n d (masks opsA.toList []) opsA.toList (masks opsA.toList []) d.recs 0 with
      | false => rw [hc] at h; cases h
      | true =>
        rw [hc, cond_true] at h
        split at h
        · rename_i Ml Ul hMl hUl
          cases h
          obtain ⟨g1, g2, g3, g4, g5⟩ := drawRun_fact (T0 := T) hp.dist hp.back hp.dst hA.small opsA.toList (masks opsA.toList []) _ d hrun (by simp) (by simp) (by simp) ⟨by simp [cntE], by simp [cntE]⟩ (fun recs _ => ⟨fun t _ => rfl, fun t i o r hi => by simp at hi⟩)
          have hm0 : d.ms[0]? = some ⟨S.h, S.n + opsA.toList.length⟩ := get_ext g1.ms rfl
          have hu0 : d.us[0]? = some 0 := get_ext g1.us rfl
          have hnone : ∀ j, S.n ≤ j → S.h.get j = none ∧ σ j = none := by
            intro j hj
            have h2 : σ j = none := by
              cases e : σ j with
              | none => rfl
              | some b => have := hw.dom j b e; omega
            refine ⟨?_, h2⟩
            cases e : S.h.get j with
            | none => rfl
            | some o => obtain ⟨b, _, q, _⟩ := hw.obj j o e; rw [h2] at q; cases q
          have hw1 : WR σ S { w with drawn := w.drawn + 1 } := hw.heap rfl
          have hcz : cntP (Nat.testBit 0) d.recs 0 = 0 := by
            refine Eq.trans (cntP_congr (q := fun j => decide (j < 0)) _ _ fun j r _ _ => by simp) ?_
            rw [cntP_lt]
            simp [cntE]
          refine draw_any (D := D) (n0 := S.n) (T0 := T) (σ0 := σ) (S0 := S) (w0 := { w with drawn := w.drawn + 1 }) (d := d) hT hC hp g3 (by omega) (Nat.le_refl _) (fun j o mk ho hm => g5 j o mk (Nat.zero_le _) ho hm) hc ?_ opsA.size _ 0 σ _ a (by simp) (fun j hj => by simp [hj]) ?_ ?_
          · intro σ' w' a' B hall hI
            obtain ⟨M, U, q1, q2, q3, q4, q5, q6⟩ := hI.at_
            have hcf : cntP (Nat.testBit B) d.recs 0 = cntE d.recs := by
              have := cntP_lt d.recs 0 d.recs.length
              rw [Nat.sub_zero, List.take_length] at this
              rw [← this]
              refine cntP_congr _ _ fun j r hj _ => ?_
              have hjl := (List.getElem?_eq_some_iff.1 hj).1
              rw [Nat.zero_add, decide_eq_true hjl]
              exact hall j (by rw [g3] at hjl; simpa using hjl)
            rw [hcf] at q1 q2
            rw [last_at g2.ms hMl] at q1; cases q1
            rw [last_at g2.us hUl] at q2; cases q2
            refine hq a' w' ⟨σ', (Post.drew hw (w' := { w with drawn := w.drawn + 1 }) rfl rfl rfl rfl).trans (Post.heapEq (S' := ⟨merge S.n B Ul d.recs 0 Ml.h, Ml.n⟩) q6 fun m ob hg => ?_), ?_⟩
            · rw [mg_congr (B' := B) (U' := Ul) (by rw [g3]; omega) ?_ m] at hg
              · exact hg
              · intro j
                unfold flo
                by_cases hj : j < opsA.size
                · rw [hall j hj]
                  have : Nat.testBit (2 ^ opsA.toList.length - 1) j = true := by
                    rw [Nat.testBit_two_pow_sub_one]; simpa using hj
                  rw [this]
                · have : d.recs[j - 0]? = none := List.getElem?_eq_none (by rw [g3]; simp; omega)
                  rw [this]
                  simp
            · refine ⟨fun t v hv => ?_, hI.size, hI.small, hI.nod⟩
              by_cases c : ∃ (i : Nat) (o : Oper), i < opsA.toList.length ∧ opsA.toList[i]? = some o ∧ o.dst = some t
              · obtain ⟨i, o, c1, c2, c3⟩ := c
                have hr := List.getElem?_eq_getElem (show i < d.recs.length by omega)
                rw [g4.new t i o _ c1 c2 c3 hr] at hv
                cases hv
                exact hI.new t i o _ (hall i (by simpa using c1)) c2 c3 hr
              · rw [g4.old t (fun i o c1 c2 c3 => c ⟨i, o, c1, c2, c3⟩)] at hv
                exact hI.old t v (fun i o _ c2 c3 => c ⟨i, o, (List.getElem?_eq_some_iff.1 c2).1, c2, c3⟩) hv
          · have : ∀ m, unl 0 m ≤ m := by
              intro m
              induction m with
              | zero => exact Nat.le_refl _
              | succ m ih => unfold unl; split <;> omega
            exact this _
          · refine ⟨fun j hj => by simp at hj, fun j mk _ hj => by simp at hj, ⟨⟨S.h, S.n + opsA.toList.length⟩, 0, by rw [hcz]; exact hm0, by rw [hcz]; exact hu0, fun j hj => by simp at hj, fun j _ _ => (hnone _ (by omega)).1, Nat.le_refl _, ?_⟩, fun j hj _ => (hnone _ (by omega)).2, fun t v _ hv => hA.get t v hv, fun t i o r hi => by simp at hi, hA.size, hA.small, hA.nod⟩
            have hbig : Post σ S { w with drawn := w.drawn + 1 } σ ⟨S.h, S.n + opsA.toList.length⟩ { w with drawn := w.drawn + 1 } :=
              ⟨Le.refl _, ⟨Nat.le_of_lt hb, fun i b q => Nat.lt_of_lt_of_le (hw1.dom i b q) (Nat.le_add_right _ _), hw1.bnd, hw1.obj, hw1.inj⟩, Fr.refl _ _, Nat.le_add_right _ _, fun b q => Or.inl q, fun i b q => Or.inl q⟩
            refine Post.heapEq (S' := ⟨S.h, S.n + opsA.toList.length⟩) hbig fun m ob hg => ?_
            change (merge S.n 0 0 d.recs 0 S.h).get m = some ob at hg
            rw [merge_get S.n 0 0 d.recs 0 S.h m (by omega)] at hg
            have : flo 0 0 d.recs 0 (m - S.n) = none := by unfold flo; simp
            rw [this] at hg
            split at hg <;> exact hg
        · cases h
theorem sDraw_sound (hT : TOk E) (hC : CallOk E.P callF) (hmix : E.P.follows .mixedOrders = true) (hp : Plan E opsA.toList n) (hw : WR σ S w) (hA : AR D σ n T a) (h : sDraw E callF opsA.toList T S = some (T', S')) (hq : ∀ a' w', Goes D σ S w n T' S' a' w' → Q .normal a' w') (id : Nat) : (Code.region id opsA true).wp E.P Q a w :=
  wp_region_any hmix (sDraw_any hT hC hmix hp hw hA h hq)
end
end Go.Proofs.YtejebgdikoehmaaGreatDoor
/- The symbolic executor: what a function's text must be, as a check. -/
namespace Go.Proofs.YtejebgdikoehmaaGreatDoor
open Go Go.RowKit
set_option linter.unusedVariables false
set_option linter.unusedSimpArgs false
def backOk : List Oper → Nat → Bool
  | [], _ => true
  | o :: r, i => o.after.toList.all (fun e => !(Region.binds .any e) || Nat.blt e.on i) && backOk r (i + 1)
theorem backOk_spec : ∀ {ops : List Oper} {i : Nat}, backOk ops i = true → ∀ (j : Nat) (o : Oper), ops[j]? = some o → ∀ e ∈ o.after.toList, Region.binds .any e = true → e.on < i + j
  | [], i, h, j, o, ho => by simp at ho
  | q :: r, i, h, j, o, ho => by
    unfold backOk at h
    rw [Bool.and_eq_true] at h
    intro e he hb
    cases j with
    | zero =>
      simp at ho
      subst ho
      have := List.all_eq_true.1 h.1 e he
      rw [hb] at this
      simp only [Bool.not_true, Bool.false_or, nblt, decide_eq_true_eq] at this
      omega
    | succ j =>
      have := backOk_spec h.2 j o (by simpa using ho) e he hb
      omega
/-- What is asked of a pair. -/
def pairOk (E : Env) (ts : List Tmp) (o : Oper) (mk i : Nat) (o' : Oper) (mk' j : Nat) : Bool :=
  (match o'.dst with
   | some t => (!(ts.contains t) || Nat.testBit mk j || (Nat.blt i j && Nat.testBit mk' i)) && (!(decide (o.dst = some t)) || Nat.beq i j)
   | none => true) &&
  (!(Nat.blt j i) || !(decide (kindO E o = .eff)) || !(decide (kindO E o' = .eff)) || Nat.testBit mk j)
def rowOk (E : Env) (ts : List Tmp) (o : Oper) (mk i : Nat) : List Oper → List Nat → Nat → Bool
  | [], _, _ => true
  | o' :: r, mk' :: ms, j => pairOk E ts o mk i o' mk' j && rowOk E ts o mk i r ms (j + 1)
  | _ :: _, [], _ => false
def planGo (E : Env) (ops : List Oper) (am : List Nat) (n : Nat) : List Oper → List Nat → Nat → Bool
  | [], _, _ => true
  | o :: r, mk :: ms, i => dstOk n o && rowOk E (tmpsOf ops o) o mk i ops am 0 && planGo E ops am n r ms (i + 1)
  | _ :: _, [], _ => false
def planOk (E : Env) (n : Nat) (ops : List Oper) : Bool := backOk ops 0 && planGo E ops (masks ops []) n ops (masks ops []) 0
theorem rowOk_spec {E : Env} {ts : List Tmp} {o : Oper} {mk i : Nat} : ∀ {l : List Oper} {ms : List Nat} {k : Nat}, rowOk E ts o mk i l ms k = true → ∀ (j : Nat) (o' : Oper) (mk' : Nat), l[j]? = some o' → ms[j]? = some mk' → pairOk E ts o mk i o' mk' (k + j) = true
  | [], ms, k, h, j, o', mk', ho, hm => by simp at ho
  | q :: r, [], k, h, j, o', mk', ho, hm => by simp at hm
  | q :: r, m :: ms, k, h, j, o', mk', ho, hm => by
    unfold rowOk at h
    rw [Bool.and_eq_true] at h
    cases j with
    | zero => simp at ho hm; subst ho hm; exact h.1
    | succ j =>
      have := rowOk_spec h.2 j o' mk' (by simpa using ho) (by simpa using hm)
      rw [show k + (j + 1) = k + 1 + j from by omega]; exact this
theorem planGo_spec {E : Env} {ops : List Oper} {am : List Nat} {n : Nat} : ∀ {l : List Oper} {ms : List Nat} {k : Nat}, planGo E ops am n l ms k = true → ∀ (j : Nat) (o : Oper) (mk : Nat), l[j]? = some o → ms[j]? = some mk → dstOk n o = true ∧ rowOk E (tmpsOf ops o) o mk (k + j) ops am 0 = true
  | [], ms, k, h, j, o, mk, ho, hm => by simp at ho
  | q :: r, [], k, h, j, o, mk, ho, hm => by simp at hm
  | q :: r, m :: ms, k, h, j, o, mk, ho, hm => by
    unfold planGo at h
    rw [Bool.and_eq_true, Bool.and_eq_true] at h
    cases j with
    | zero => simp at ho hm; subst ho hm; exact h.1
    | succ j =>
      have := planGo_spec h.2 j o mk (by simpa using ho) (by simpa using hm)
      rw [show k + (j + 1) = k + 1 + j from by omega]; exact this
theorem plan_of {E : Env} {n : Nat} {ops : List Oper} (h : planOk E n ops = true) : Plan E ops n := by
  unfold planOk at h
  rw [Bool.and_eq_true] at h
  obtain ⟨h1, h2⟩ := h
  have hml : (masks ops []).length = ops.length := by rw [masks_length]; simp
  have hmk : ∀ (i : Nat) (o : Oper), ops[i]? = some o → ∃ mk, (masks ops [])[i]? = some mk := fun i o ho =>
    ⟨_, List.getElem?_eq_getElem (show i < (masks ops []).length by rw [hml]; exact (List.getElem?_eq_some_iff.1 ho).1)⟩
  have hpair : ∀ (i : Nat) (o : Oper) (mk : Nat), ops[i]? = some o → (masks ops [])[i]? = some mk → ∀ (j : Nat) (o' : Oper) (mk' : Nat), ops[j]? = some o' → (masks ops [])[j]? = some mk' → pairOk E (tmpsOf ops o) o mk i o' mk' j = true := by
    intro i o mk ho hm j o' mk' ho' hm'
    have := rowOk_spec (planGo_spec h2 i o mk ho hm).2 j o' mk' ho' hm'
    rw [Nat.zero_add, Nat.zero_add] at this
    exact this
  refine ⟨fun i o ho e he hb => by have := backOk_spec h1 i o ho e he hb; omega, ?_, ?_, ?_, ?_⟩
  · intro i j o o' t ho ho' hd hd'
    obtain ⟨mk, hm⟩ := hmk i o ho
    obtain ⟨mk', hm'⟩ := hmk j o' ho'
    have := hpair i o mk ho hm j o' mk' ho' hm'
    unfold pairOk at this
    rw [hd'] at this
    simp only [hd, decide_true, Bool.not_true, Bool.false_or, Bool.and_eq_true, nbeq, decide_eq_true_eq] at this
    exact this.1.2
  · intro o ho
    obtain ⟨i, hi⟩ := List.mem_iff_getElem?.1 ho
    obtain ⟨mk, hm⟩ := hmk i o hi
    exact (planGo_spec h2 i o mk hi hm).1
  · intro i o mk t ho hm ht j o' ho' hd
    obtain ⟨mk', hm'⟩ := hmk j o' ho'
    have := hpair i o mk ho hm j o' mk' ho' hm'
    unfold pairOk at this
    rw [hd] at this
    simp only [Bool.and_eq_true, Bool.or_eq_true, Bool.not_eq_true'] at this
    rcases this.1.1 with (q | q) | q
    · have hc : (tmpsOf ops o).contains t = true := by simpa using ht
      rw [hc] at q; cases q
    · exact Or.inl q
    · refine Or.inr ⟨by have := q.1; rw [nblt, decide_eq_true_eq] at this; exact this, fun mk2 h2' => ?_⟩
      rw [hm'] at h2'
      cases h2'
      exact q.2
  · intro i j o o' mk hji ho ho' hk hk' hm
    obtain ⟨mk', hm'⟩ := hmk j o' ho'
    have := hpair i o mk ho hm j o' mk' ho' hm'
    unfold pairOk at this
    rw [Bool.and_eq_true] at this
    have := this.2
    rw [nblt, decide_eq_true hji, decide_eq_true hk, decide_eq_true hk'] at this
    simpa using this
/-- A function's text, once. -/
def codeOk (E : Env) (n : Nat) : Code → Bool
  | .region _ ops draw => bif draw then planOk E n ops.toList else ops.toList.all (dstOk n)
  | .seq a b | .cond _ a b => codeOk E n a && codeOk E n b
  | .block _ b | .loop b | .scope b => codeOk E n b
  | _ => true
end Go.Proofs.YtejebgdikoehmaaGreatDoor
/- The symbolic executor: code. -/
namespace Go.Proofs.YtejebgdikoehmaaGreatDoor
open Go Go.RowKit
set_option linter.unusedVariables false
set_option linter.unusedSimpArgs false
def exOf : SExit → Exit
  | .normal => .normal
  | .ret => .ret
  | .exit i => .exit i
theorem least {p : Nat → Prop} : ∀ k, p k → ∃ m, p m ∧ ∀ j, p j → m ≤ j := by
  intro k
  induction k using Nat.strongRecOn with
  | _ k ih =>
    intro hk
    by_cases c : ∃ j, j < k ∧ p j
    · obtain ⟨j, h1, h2⟩ := c
      exact ih j h1 h2
    · exact ⟨k, hk, fun j hj => Nat.le_of_not_lt fun q => c ⟨j, q, hj⟩⟩
section
variable {D : List Deferred} {E : Env} {callF : CallF} {n : Nat} {T T' : Sts} {σ : Rn} {S S' : St} {w w0 : World} {a : Act} {Q : Exit → Act → World → Prop}
theorem Goes.trans {σ0 : Rn} {S0 : St} {S1 : St} {a2 : Act} {w1 w2 : World} {σ1 : Rn} (h : Post σ0 S0 w0 σ1 S1 w1) (k : Goes D σ1 S1 w1 n T' S' a2 w2) : Goes D σ0 S0 w0 n T' S' a2 w2 := by
  obtain ⟨σ2, g1, g2⟩ := k
  exact ⟨σ2, h.trans g1, g2⟩
theorem sLoop_sound {c : Code} {e : SExit} (ih : ∀ {S : St} {σ : Rn} {w : World} {T : Sts} {a : Act} {e : SExit} {T' : Sts} {S' : St} {Q : Exit → Act → World → Prop}, WR σ S w → AR D σ n T a → sCode E callF c T S = some (e, T', S') → (∀ a' w', Goes D σ S w n T' S' a' w' → Q (exOf e) a' w') → c.wp E.P Q a w)
    (hw : WR σ S w) (hA : AR D σ n T a) {fuel : Nat} (h : sLoop (sCode E callF c) fuel T S = some (e, T', S')) (hq : ∀ a' w', Goes D σ S w n T' S' a' w' → Q (exOf e) a' w') : (Code.loop c).wp E.P Q a w := by
  classical
  let I : Nat → Act → World → Prop := fun k a1 w1 => ∃ T1 S1 σ1, Post σ S w σ1 S1 w1 ∧ AR D σ1 n T1 a1 ∧ sLoop (sCode E callF c) k T1 S1 = some (e, T', S')
  have hleast : ∀ a1 w1, (∃ k, I k a1 w1) → ∃ m, I m a1 w1 ∧ ∀ j, I j a1 w1 → m ≤ j := fun a1 w1 ⟨k, hk⟩ => least k hk
  let μ : Act → World → Nat := fun a1 w1 => if hx : ∃ k, I k a1 w1 then Classical.choose (hleast a1 w1 hx) else 0
  have hμs : ∀ a1 w1, (∃ k, I k a1 w1) → I (μ a1 w1) a1 w1 ∧ ∀ j, I j a1 w1 → μ a1 w1 ≤ j := by
    intro a1 w1 hx
    have : μ a1 w1 = Classical.choose (hleast a1 w1 hx) := by show (if hx : _ then _ else _) = _; rw [dif_pos hx]
    rw [this]
    exact Classical.choose_spec (hleast a1 w1 hx)
  refine wp_loop (fun a1 w1 => ∃ k, I k a1 w1) μ ⟨fuel, T, S, σ, Post.refl hw, hA, h⟩ fun a1 w1 hI => ?_
  have hmin := (hμs a1 w1 hI).1
  cases hk : μ a1 w1 with
  | zero =>
    rw [hk] at hmin
    obtain ⟨T1, S1, σ1, _, _, g⟩ := hmin
    cases g
  | succ k =>
    rw [hk] at hmin
    obtain ⟨T1, S1, σ1, p1, p2, g⟩ := hmin
    unfold sLoop at g
    split at g
    · rename_i T2 S2 hb
      refine ih p1.wr p2 hb fun a2 w2 hg => ?_
      obtain ⟨σ2, q1, q2⟩ := hg
      have hI2 : ∃ k, I k a2 w2 := ⟨k, T2, S2, σ2, p1.trans q1, q2, g⟩
      refine ⟨hI2, ?_⟩
      exact Nat.lt_succ_of_le ((hμs a2 w2 hI2).2 k ⟨T2, S2, σ2, p1.trans q1, q2, g⟩)
    · rename_i hne
      refine ih p1.wr p2 g fun a2 w2 hg => ?_
      have hgo := hq a2 w2 (Goes.trans p1 hg)
      cases e with
      | normal => exact (hne _ _ g).elim
      | ret => exact hgo
      | exit i => exact hgo
theorem sCode_sound (hT : TOk E) (hC : CallOk E.P callF) (hmix : E.P.follows .mixedOrders = true) : ∀ (c : Code) {S : St} {σ : Rn} {w : World} {T : Sts} {a : Act} {e : SExit} {T' : Sts} {S' : St} {Q : Exit → Act → World → Prop}, codeOk E n c = true → WR σ S w → AR D σ n T a → sCode E callF c T S = some (e, T', S') →
    (∀ a' w', Goes D σ S w n T' S' a' w' → Q (exOf e) a' w') → c.wp E.P Q a w := by
  intro c
  induction c with
  | skip => intro S σ w T a e T' S' Q hk hw hA h hq; simp only [sCode] at h; cases h; exact wp_skip (hq _ _ ⟨σ, Post.refl hw, hA⟩)
  | label l => intro S σ w T a e T' S' Q hk hw hA h hq; simp only [sCode] at h; cases h; exact wp_label (hq _ _ ⟨σ, Post.refl hw, hA⟩)
  | exit id => intro S σ w T a e T' S' Q hk hw hA h hq; simp only [sCode] at h; cases h; exact wp_exit (hq _ _ ⟨σ, Post.refl hw, hA⟩)
  | ret => intro S σ w T a e T' S' Q hk hw hA h hq; simp only [sCode] at h; cases h; exact wp_ret (hq _ _ ⟨σ, Post.refl hw, hA⟩)
  | region id ops draw =>
    intro S σ w T a e T' S' Q hk hw hA h hq
    simp only [sCode] at h
    split at h
    · rename_i T1 S1 hr
      cases h
      cases draw with
      | true =>
        simp only [codeOk, cond_true] at hk hr
        exact sDraw_sound hT hC hmix (plan_of hk) hw hA hr hq id
      | false =>
        simp only [codeOk, cond_false] at hk hr
        exact wp_region (by have := sOps_sound (Q := Q) hT hC hk 0 hw hA (by simpa using hr) hq; simpa using this)
    · cases h
  | seq x y ihx ihy =>
    intro S σ w T a e T' S' Q hk hw hA h hq
    simp only [codeOk, Bool.and_eq_true] at hk
    simp only [sCode] at h
    refine wp_seq ?_
    split at h
    · rename_i T1 S1 h1
      refine ihx hk.1 hw hA h1 fun a1 w1 hg => ?_
      obtain ⟨σ1, q1, q2⟩ := hg
      exact ihy hk.2 q1.wr q2 h fun a2 w2 hg => hq a2 w2 (Goes.trans q1 hg)
    · rename_i hne
      refine ihx hk.1 hw hA h fun a1 w1 hg => ?_
      have hgo := hq a1 w1 hg
      cases e with
      | normal => exact (hne _ _ h).elim
      | ret => exact hgo
      | exit i => exact hgo
  | cond c x y ihx ihy =>
    intro S σ w T a e T' S' Q hk hw hA h hq
    simp only [codeOk, Bool.and_eq_true] at hk
    simp only [sCode] at h
    split at h
    · rename_i hc; exact wp_cond_true (hA.eval hc).bool' (ihx hk.1 hw hA h hq)
    · rename_i hc; exact wp_cond_false (hA.eval hc).bool' (ihy hk.2 hw hA h hq)
    · cases h
  | block id b ih =>
    intro S σ w T a e T' S' Q hk hw hA h hq
    simp only [codeOk] at hk
    simp only [sCode] at h
    refine wp_block ?_
    split at h
    · rename_i i T1 S1 h1
      refine ih hk hw hA h1 fun a1 w1 hg => ?_
      show (if i = id then Q .normal a1 w1 else Q (.exit i) a1 w1)
      rw [nbeq] at h
      by_cases c : i = id
      · rw [decide_eq_true c, cond_true] at h; cases h; rw [if_pos c]; exact hq a1 w1 hg
      · rw [decide_eq_false c, cond_false] at h; cases h; rw [if_neg c]; exact hq a1 w1 hg
    · rename_i hne
      refine ih hk hw hA h fun a1 w1 hg => ?_
      have hgo := hq a1 w1 hg
      cases e with
      | normal => exact hgo
      | ret => exact hgo
      | exit i => exact (hne _ _ _ h).elim
  | loop b ih =>
    intro S σ w T a e T' S' Q hk hw hA h hq
    simp only [codeOk] at hk
    simp only [sCode] at h
    exact sLoop_sound (fun hw hA h hq => ih hk hw hA h hq) hw hA h hq
  | _ => intro S σ w T a e T' S' Q hk hw hA h hq; simp only [sCode] at h; cases h
end
end Go.Proofs.YtejebgdikoehmaaGreatDoor
/- The symbolic executor: calls. -/
namespace Go.Proofs.YtejebgdikoehmaaGreatDoor
open Go Go.RowKit
set_option linter.unusedVariables false
set_option linter.unusedSimpArgs false
section
variable {D : List Deferred} {E : Env} {callF : CallF} {n : Nat} {T T' : Sts} {σ : Rn} {S S' : St} {w w0 : World} {a : Act}
theorem res_sound (hT : TOk E) (hw : WR σ S w) (hA : AR D σ n T a) : ∀ {rs : List ResultVar} {vs : List Value}, resVals E T S rs = some vs → ∃ vs', VRs σ vs vs' ∧
    (rs.mapM fun r => (match r with | .tmp t => pure (a.tmps.getD t undef) | .cell c t => do loadVar t (← asAddr (a.tmps.getD c undef)) : Sem Value)).run E.P w = .ok vs' w
  | [], vs, h => by
    unfold resVals at h
    cases h
    exact ⟨[], .nil, by simp⟩
  | .tmp t :: rs, vs, h => by
    unfold resVals at h
    split at h
    · rename_i v l hv hl
      cases h
      obtain ⟨vs', h1, h2⟩ := res_sound hT hw hA hl
      obtain ⟨v', g1, g2⟩ := hA.get t v hv
      have e : a.tmps.getD t undef = v' := by simp [Array.getD_eq_getD_getElem?, g1]
      refine ⟨v' :: vs', .cons g2 h1, ?_⟩
      simp only [List.mapM_cons, Sem.run_bind, e]
      rw [show (pure v' : Sem Value).run E.P w = .ok v' w from rfl]
      simp only [Result.andThen]
      rw [h2]
      rfl
    · cases h
  | .cell c t :: rs, vs, h => by
    unfold resVals at h
    split at h
    · rename_i ad l hv hl
      split at h
      · rename_i v hld
        cases h
        obtain ⟨vs', h1, h2⟩ := res_sound hT hw hA hl
        obtain ⟨p', g1, g2⟩ := hA.get c _ hv
        obtain ⟨b, v', q1, q2, q3, q4⟩ := run_loadV hT hw hld
        obtain ⟨b', hb', ep⟩ := g2.ptr'
        rw [q1] at hb'; cases hb'
        have e : a.tmps.getD c undef = p' := by simp [Array.getD_eq_getD_getElem?, g1]
        refine ⟨v' :: vs', .cons q3 h1, ?_⟩
        have hL : (asAddr (.pointer (some ⟨b, ad.off, ad.spot⟩))).run E.P w = .ok ⟨b, ad.off, ad.spot⟩ w := rfl
        simp only [List.mapM_cons, Sem.run_bind, e, ep, hL, Result.andThen, q4]
        rw [h2]
        rfl
      · cases h
    · cases h
theorem tupOf_rel : ∀ {vs vs' : List Value}, VRs σ vs vs' → VR σ (tupOf vs) (if h : vs'.toArray.size = 1 then vs'.toArray[0] else .tuple vs'.toArray)
  | [], _, h => by cases h; exact VR.tuple (x := []) (x' := []) .nil
  | [v], _, h => by cases h with | cons h k => cases k; exact h
  | v :: u :: r, _, h => by
    cases h with
    | cons h k => cases k with
      | cons h2 k2 =>
        rw [dif_neg (by simp)]
        exact VR.tuple (.cons h (.cons h2 k2))
theorem results_sound (hT : TOk E) (hw : WR σ S w) (hA : AR D σ n T a) {fn : Func} {vs : List Value} (h : resVals E T S fn.results.toList = some vs) : ∃ v', VR σ (tupOf vs) v' ∧ (results fn a.tmps).run E.P w = .ok v' w := by
  obtain ⟨vs', h1, h2⟩ := res_sound hT hw hA h
  refine ⟨_, tupOf_rel h1, ?_⟩
  have e : (fn.results.mapM fun r => (match r with | .tmp t => pure (a.tmps.getD t undef) | .cell c t => do loadVar t (← asAddr (a.tmps.getD c undef)) : Sem Value)).run E.P w = .ok vs'.toArray w := by
    rw [Array.mapM_eq_mapM_toList]
    exact run_map E.P List.toArray _ w w vs' h2
  have e' : results fn a.tmps = (fn.results.mapM fun r => (match r with | .tmp t => pure (a.tmps.getD t undef) | .cell c t => do loadVar t (← asAddr (a.tmps.getD c undef)) : Sem Value)) >>= fun vs => pure (if h : vs.size = 1 then vs[0] else .tuple vs) := rfl
  rw [e', Sem.run_bind, e]
  rfl
theorem initT_get : ∀ (l : List Value) (i : Nat) (T : Sts), i + l.length ≤ 1000000 → ∀ t, (initT l i T).get t = if i ≤ t ∧ t < i + l.length then l[t - i]? else T.get t
  | [], i, T, h, t => by simp [initT]; intro h1 h2; omega
  | v :: r, i, T, h, t => by
    simp only [List.length_cons] at h
    have hh : initT (v :: r) i T = initT r (i + 1) (.cons i v T) := rfl
    rw [hh, initT_get r (i + 1) _ (by omega) t, Sts.get_put T i t _]
    simp only [List.length_cons]
    by_cases c : i = t
    · subst c
      rw [if_neg (by omega), if_pos rfl, if_pos (by omega)]
      simp
    · by_cases c2 : i + 1 ≤ t ∧ t < i + 1 + r.length
      · rw [if_pos c2, if_pos (by omega)]
        have : t - i = t - (i + 1) + 1 := by omega
        rw [this]; rfl
      · rw [if_neg c2, if_neg (Ne.symm c), if_neg (by omega)]
theorem AR.init {args args' : List Value} {m : Nat} (h : VRs σ args args') (hl : args.length ≤ m) (hm : m ≤ 1000000) :
    AR [] σ m (initT args 0 .nil) { tmps := args'.toArray ++ Array.replicate (m - args'.toArray.size) undef, defers := [] } := by
  have hln := h.length
  refine ⟨fun t v hv => ?_, by simp; omega, hm, rfl⟩
  rw [initT_get _ _ _ (by omega)] at hv
  simp only
  by_cases c2 : 0 ≤ t ∧ t < 0 + args.length
  · rw [if_pos c2] at hv
    obtain ⟨v', g1, g2⟩ := h.get _ hv
    refine ⟨v', ?_, g2⟩
    rw [Array.getElem?_append_left (by simp; omega)]
    simpa using g1
  · rw [if_neg c2] at hv
    cases hv
/-- A function's text has been looked at. -/
def fnOk (E : Env) (fn : Func) : Bool := match fn.body with
  | none => false
  | some c => !(fn.name == "runtime.NumGoroutine") && Nat.ble fn.ntmps 1000000 && codeOk E fn.ntmps c
def OkF (E : Env) (okF : Tr Unit) : Prop := ∀ f u, okF.get f = some u → ∀ fn, E.P.funcs[f]? = some fn → fnOk E fn = true
def SpOk (P : Program) (sp : SpecF) : Prop := ∀ f h, sp f = some h → ∀ args S v S' σ w args', h args S = some (v, S') → WR σ S w → VRs σ args args' → UponR P (Eff σ S w v S') ((callFunc f args'.toArray).run P w)
theorem enter_of {P : Program} {f : FuncId} {fn : Func} {c : Code} {args : Array Value} (hf : P.funcs[f]? = some fn) (hb : fn.body = some c) (hn : (fn.name == "runtime.NumGoroutine") = false) : (callFunc f args).run P w = .ok (.enter f args) w := by
  unfold callFunc
  simp only [Sem.run_bind]
  rw [show (program : Sem Program).run P w = .ok P w from rfl]
  simp only [Result.andThen, hf, hn, hb, Option.isNone]
  rfl
/-- CALLS. -/
theorem sCall_sound (hT : TOk E) (hmix : E.P.follows .mixedOrders = true) {sp : SpecF} {okF : Tr Unit} (hS : SpOk E.P sp) (hO : OkF E okF) : ∀ k, CallOk E.P (sCall E sp okF k)
  | 0 => fun f args S v S' σ w args' h => by simp only [sCall] at h; cases h
  | k + 1 => fun f args S v S' σ w args' h hw hv => by
    have ih := sCall_sound hT hmix hS hO k
    unfold sCall at h
    split at h
    · rename_i g hg
      exact hS f g hg args S v S' σ w args' h hw hv
    · split at h
      · rename_i u fn hok hf
        have hfn := hO f u hok fn hf
        unfold fnOk at hfn
        split at h
        · cases h
        · rename_i c hb
          rw [hb] at hfn
          simp only [Bool.and_eq_true, Bool.not_eq_true', nble, decide_eq_true_eq] at hfn
          obtain ⟨⟨hnm, hnt⟩, hc⟩ := hfn
          cases hle : Nat.ble args.length fn.ntmps with
          | false => rw [hle] at h; cases h
          | true =>
            rw [hle, cond_true] at h
            have hle' := Nat.le_of_ble_eq_true hle
            split at h
            · rename_i e T1 S1 hcode
              rw [enter_of hf hb hnm]
              refine calls_of_wp hf hb ?_
              refine sCode_sound hT ih hmix c hc hw (AR.init hv hle' hnt) hcode fun a' w' hg => ?_
              obtain ⟨σ', q1, q2⟩ := hg
              split at h
              · cases h
              · rename_i hne
                split at h
                · rename_i vs hr
                  cases h
                  obtain ⟨v', p1, p2⟩ := results_sound hT q1.wr q2 hr
                  have fin : a'.defers = [] ∧ ∃ v, (results fn a'.tmps).run E.P w' = .ok v w' ∧ ∃ v_1, Ending.returned v = Ending.returned v_1 ∧ Eff σ S w (tupOf vs) S' v_1 w' := ⟨q2.nod, v', p2, v', rfl, σ', p1, q1⟩
                  cases e with
                  | normal => exact fin
                  | ret => exact fin
                  | exit i => exact (hne i rfl).elim
                · cases h
            · cases h
      · cases h
/-- A call from outside. -/
theorem sCall_calls (hT : TOk E) (hmix : E.P.follows .mixedOrders = true) {sp : SpecF} {okF : Tr Unit} (hS : SpOk E.P sp) (hO : OkF E okF) {k : Nat} {f : FuncId} {fn : Func} {c : Code} {args args' : List Value} {v : Value} (hf : E.P.funcs[f]? = some fn) (hb : fn.body = some c) (hn : (fn.name == "runtime.NumGoroutine") = false)
    (h : sCall E sp okF k f args S = some (v, S')) (hw : WR σ S w) (hv : VRs σ args args') : Calls E.P f args'.toArray w fun e w' => ∃ v', e = .returned v' ∧ Eff σ S w v S' v' w' := by
  have := sCall_sound hT hmix hS hO k f args S v S' σ w args' h hw hv
  rw [enter_of hf hb hn] at this
  exact this
end
end Go.Proofs.YtejebgdikoehmaaGreatDoor
